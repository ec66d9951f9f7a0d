/- Part ZO: the readers of a code. -/
import Derived.Test.YtahfdkdneojkmaaDoorVc6
section
namespace Go.Proofs.YtahfdkdneojkmaaDoor.Vc
open Go.Proofs
set_option maxRecDepth 10000
set_option maxHeartbeats 4000000
/-- A reader of a code. -/
structure Rd where
  b : List Int
  p : Int
def Rd.okn (r : Rd) (n : Int) : Prop := r.b.length ≤ 2000 ∧ (∀ n ∈ r.b, u8r n) ∧ 0 ≤ r.p ∧ r.p ≤ n
abbrev rdO (b : List Int) (p : Int) : Obj := .box [slB b, .int .i64 p]
def Rd.ok (r : Rd) : Prop := r.b.length ≤ 2000 ∧ (∀ n ∈ r.b, u8r n) ∧ 0 ≤ r.p ∧ r.p ≤ 1000000000
theorem u8_getD {b : List Int} (h : ∀ n ∈ b, u8r n) (i : Nat) : 0 ≤ b.getD i 0 ∧ b.getD i 0 < 256 := by
  rw [List.getD_eq_getElem?_getD]
  rcases Nat.lt_or_ge i b.length with hi | hi
  · rw [List.getElem?_eq_getElem hi]; exact h _ (List.getElem_mem hi)
  · rw [List.getElem?_eq_none hi]; exact ⟨by decide, by decide⟩
theorem tmod_in {a n : Int} (h1 : 0 ≤ a) (h2 : 1 ≤ n) : 0 ≤ a.tmod n ∧ a.tmod n < n := by
  rw [Int.tmod_eq_emod_of_nonneg h1]
  exact ⟨Int.emod_nonneg _ (by omega), Int.emod_lt_of_pos _ (by omega)⟩
theorem tdiv_in {a n : Int} (h1 : 0 ≤ a) (h2 : 1 ≤ n) : 0 ≤ a.tdiv n ∧ a.tdiv n ≤ a := by
  rw [Int.tdiv_eq_ediv_of_nonneg h1]
  exact ⟨Int.ediv_nonneg h1 (by omega), Int.ediv_le_self _ h1⟩
theorem xor_in {a b : Int} (h1 : 0 ≤ a) (h2 : a < 4611686018427387904) (h3 : 0 ≤ b) (h4 : b < 4611686018427387904) : 0 ≤ bitop .i64 .xor a b := by
  have e : ∀ n : Int, 0 ≤ n → n < 4611686018427387904 → (BitVec.ofInt 64 n).toNat = n.toNat := fun n g1 g2 => by
    rw [BitVec.toNat_ofInt]
    omega
  have hx : (BitVec.ofInt 64 a ^^^ BitVec.ofInt 64 b).toNat < 2 ^ 62 := by
    rw [BitVec.toNat_xor, e a h1 h2, e b h3 h4]
    exact Nat.xor_lt_two_pow (by omega) (by omega)
  show 0 ≤ IntKind.i64.wrap (((BitVec.ofInt 64 a ^^^ BitVec.ofInt 64 b).toNat : Nat) : Int)
  rw [wi64 (by omega) (by omega)]
  omega
def C52 : GC := conG (X := Rd × Int) (fun x => [.ptr 0 0, .int .i64 x.2]) (fun x => [.box [slB x.1.b, .int .i64 x.1.p]]) (fun x => x.1.ok ∧ i64r x.2) fun x K => ∀ k p' : Int, (x.2 < 1 → k = 0) → (1 ≤ x.2 → 0 ≤ k ∧ k < x.2) → p' = x.1.p + 1 → K (.int .i64 k) [.box [slB x.1.b, .int .i64 p']]
theorem F52 : GG 69 C52 := by
  refine fitG [] (by simp) [] (by simp) Tryd.f69 ⟨rfl, by decide +kernel, by decide +kernel⟩ (by intro x K K2 hk h; (try dsimp only at h ⊢); intros; apply hk; first | exact h | (apply h <;> assumption)) ?_
  rintro ⟨⟨b, p⟩, n⟩ K ⟨⟨h1, h2, h3, h4⟩, h5⟩ h
  refine ⟨Nat.le_of_ble_eq_true rfl, ?_⟩
  dsimp only at h h1 h2 h3 h4 h5 ⊢
  have hb := u8_getD h2
  repeat' ((conv => whnf); first | refine vA ?_ | with_reducible first | refine v8 ?_ | refine Sp.mk ?_ ?_ | refine vS ?_ | refine vR ?_ | refine vB ?_ | refine br_nt ?_ | refine br_tt ?_ | refine br_ff ?_ | refine vP ?_ | refine vQ ?_ | refine vT ?_ | refine vF ?_ | refine br_and ?_ | refine br_or ?_ | refine br_d (fun _ => ?_) fun _ => ?_ | refine vM (fun _ => ?_) fun _ => ?_)
  · refine ⟨_, _, [some 0], [], rfl, rfl, ?_, ?_, h 0 _ (fun _ => rfl) (fun _ => by omega) rfl⟩
    · repeat' ((conv => whnf); first | with_reducible exact True.intro | exact vW | with_reducible refine And.intro ?_ ?_)
    · repeat' ((conv => whnf); first | with_reducible exact True.intro | exact vW | with_reducible refine And.intro ?_ ?_)
  · refine ⟨_, _, [some 0], [], rfl, rfl, ?_, ?_, h 0 _ (fun _ => rfl) (fun _ => by omega) rfl⟩
    · repeat' ((conv => whnf); first | with_reducible exact True.intro | exact vW | with_reducible refine And.intro ?_ ?_)
    · repeat' ((conv => whnf); first | with_reducible exact True.intro | exact vW | with_reducible refine And.intro ?_ ?_)
  · have hx := hb (p + 1 - 1).toNat
    have hm := tmod_in hx.1 (show 1 ≤ n by omega)
    repeat' ((conv => whnf); first | refine vA ?_ | with_reducible first | refine v8 ?_ | refine Sp.mk ?_ ?_ | refine vS ?_ | refine vR ?_ | refine vB ?_ | refine br_nt ?_ | refine br_tt ?_ | refine br_ff ?_ | refine vP ?_ | refine vQ ?_ | refine vT ?_ | refine vF ?_ | refine br_and ?_ | refine br_or ?_ | refine br_d (fun _ => ?_) fun _ => ?_ | refine vM (fun _ => ?_) fun _ => ?_)
    refine ⟨_, _, [some 0], [], rfl, rfl, ?_, ?_, h _ _ (fun _ => by omega) (fun _ => hm) rfl⟩
    · repeat' ((conv => whnf); first | with_reducible exact True.intro | exact vW | with_reducible refine And.intro ?_ ?_)
    · repeat' ((conv => whnf); first | with_reducible exact True.intro | exact vW | with_reducible refine And.intro ?_ ?_)
  · rename_i hn hl hk
    have hl0 : (1 : Int) ≤ b.length := by omega
    have m1 := tmod_in (a := p + 1 - 1) (by omega) hl0
    have m2 := tmod_in (a := (p + 1 - 1) * 7 + 3) (by omega) hl0
    have d1 := tdiv_in (a := p + 1 - 1) (by omega) hl0
    have x1 := hb ((p + 1 - 1).tmod b.length).toNat
    have x2 := hb (((p + 1 - 1) * 7 + 3).tmod b.length).toNat
    refine Dr.mk ⟨(.rd 0 (.rd 1 (.rd 2 (.rd 3 (.rd 4 (.rd 5 (.rd 6 (.rd 7 (.rd 8 (.rd 9 (.rd 10 (.rd 11 (.rd 12 (.rd 13 (.rd 14 (.rd 15 (.rd 16 (.rd 17 (.rd 18 (.rd 19 (.rd 20 (.rd 21 (.rd 22 (.rd 23 (.rd 24 (.rd 25 (.rd 26 (.rd 27 (.rd 28 (.rd 29 (.rd 30 (.rd 31 (.rd 32 (.rd 33 (.rd 34 (.rd 35 (.rd 36 (.rd 37 (.rd 38 (.rd 39 (.rd 40 (.rd 41 (.rd 42 (.rd 43 (.rd 44 (.rd 45 .dn)))))))))))))))))))))))))))))))))))))))))))))), by decide +kernel, ?_⟩
    repeat' ((conv => whnf); first | refine vA ?_ | with_reducible first | refine v8 ?_ | refine Sp.mk ?_ ?_ | refine vS ?_ | refine vR ?_ | refine vB ?_ | refine br_nt ?_ | refine br_tt ?_ | refine br_ff ?_ | refine vP ?_ | refine vQ ?_ | refine vT ?_ | refine vF ?_ | refine br_and ?_ | refine br_or ?_ | refine br_d (fun _ => ?_) fun _ => ?_ | refine vM (fun _ => ?_) fun _ => ?_)
    obtain ⟨S, hS⟩ : ∃ S, b.getD ((p + 1 - 1).tmod b.length).toNat 0 * 131 + b.getD (((p + 1 - 1) * 7 + 3).tmod b.length).toNat 0 * 1117 + (p + 1 - 1) * 29 + (p + 1 - 1).tdiv b.length * 53 = S := ⟨_, rfl⟩
    have hS2 : 0 ≤ S ∧ S ≤ 200000000000 := by omega
    have d2 := tdiv_in (a := S) (n := 64) hS2.1 (by decide)
    have hx := xor_in (a := S) (b := S.tdiv 64) hS2.1 (by omega) d2.1 (by omega)
    have hm := tmod_in hx (show 1 ≤ n by omega)
    rw [hS]
    repeat' ((conv => whnf); first | refine vA ?_ | with_reducible first | refine v8 ?_ | refine Sp.mk ?_ ?_ | refine vS ?_ | refine vR ?_ | refine vB ?_ | refine br_nt ?_ | refine br_tt ?_ | refine br_ff ?_ | refine vP ?_ | refine vQ ?_ | refine vT ?_ | refine vF ?_ | refine br_and ?_ | refine br_or ?_ | refine br_d (fun _ => ?_) fun _ => ?_ | refine vM (fun _ => ?_) fun _ => ?_)
    refine ⟨_, _, [some 0], [], rfl, rfl, ?_, ?_, h _ _ (fun _ => by omega) (fun _ => hm) rfl⟩
    · repeat' ((conv => whnf); first | with_reducible exact True.intro | exact vW | with_reducible refine And.intro ?_ ?_)
    · repeat' ((conv => whnf); first | with_reducible exact True.intro | exact vW | with_reducible refine And.intro ?_ ?_)
def C53 : GC := conG (X := Rd × Int) (fun x => [.ptr 0 0, .int .i64 x.2]) (fun x => [.box [slB x.1.b, .int .i64 x.1.p]]) (fun x => x.1.ok ∧ i64r x.2) fun x K => ∀ (v : Bool) (p' : Int), x.1.p ≤ p' → p' ≤ x.1.p + 1 → K (.bool v) [.box [slB x.1.b, .int .i64 p']]
theorem F53 : GG 72 C53 := by
  refine fitG [] (by simp) [(69, C52)] (by simp only [List.mem_cons, List.not_mem_nil, or_false]; rintro _ rfl <;> first | exact F52) Tryd.f72 ⟨rfl, by decide +kernel, by decide +kernel⟩ (by intro x K K2 hk h; (try dsimp only at h ⊢); intros; apply hk; first | exact h | (apply h <;> assumption)) ?_
  rintro ⟨⟨b, p⟩, n⟩ K ⟨h1, h5⟩ h
  refine ⟨Nat.le_of_ble_eq_true rfl, ?_⟩
  dsimp only at h h1 h5 ⊢
  repeat' ((conv => whnf); first | refine vA ?_ | with_reducible first | refine v8 ?_ | refine Sp.mk ?_ ?_ | refine vS ?_ | refine vR ?_ | refine vB ?_ | refine br_nt ?_ | refine br_tt ?_ | refine br_ff ?_ | refine vP ?_ | refine vQ ?_ | refine vT ?_ | refine vF ?_ | refine br_and ?_ | refine br_or ?_ | refine br_d (fun _ => ?_) fun _ => ?_ | refine vM (fun _ => ?_) fun _ => ?_)
  · refine ⟨_, _, [0], [], rfl, ?_, ?_, (⟨b, p⟩, n), rfl, rfl, ⟨h1, h5⟩, ?_⟩
    · repeat' ((conv => whnf); first | with_reducible exact True.intro | exact vW | with_reducible refine And.intro ?_ ?_)
    · repeat' ((conv => whnf); first | with_reducible exact True.intro | exact vW | with_reducible refine And.intro ?_ ?_)
    intro k p' k1 k2 k3
    dsimp only at k1 k2 k3
    have h6 := h5.1
    have h7 := h5.2
    repeat' ((conv => whnf); first | refine vA ?_ | with_reducible first | refine v8 ?_ | refine Sp.mk ?_ ?_ | refine vS ?_ | refine vR ?_ | refine vB ?_ | refine br_nt ?_ | refine br_tt ?_ | refine br_ff ?_ | refine vP ?_ | refine vQ ?_ | refine vT ?_ | refine vF ?_ | refine br_and ?_ | refine br_or ?_ | refine br_d (fun _ => ?_) fun _ => ?_ | refine vM (fun _ => ?_) fun _ => ?_)
    refine ⟨_, _, [some 0], [], rfl, rfl, ?_, ?_, h (decide (k = n - 1)) p' (by omega) (by omega)⟩
    · repeat' ((conv => whnf); first | with_reducible exact True.intro | exact vW | with_reducible refine And.intro ?_ ?_)
    · repeat' ((conv => whnf); first | with_reducible exact True.intro | exact vW | with_reducible refine And.intro ?_ ?_)
  · refine ⟨_, _, [some 0], [], rfl, rfl, ?_, ?_, h false p (by omega) (by omega)⟩
    · repeat' ((conv => whnf); first | with_reducible exact True.intro | exact vW | with_reducible refine And.intro ?_ ?_)
    · repeat' ((conv => whnf); first | with_reducible exact True.intro | exact vW | with_reducible refine And.intro ?_ ?_)
theorem tk_ext {l : List Int} {n : Nat} (h : n ≤ l.length) : (l.take n).length = n - 0 ∧ ∀ i, i < (l.take n).length → [AV.int .u8 ((l.take n).getD i 0)] = [AV.int .u8 (l.getD (0 + i) 0)] := by
  have e : (l.take n).length = n := by rw [List.length_take]; omega
  refine ⟨by rw [e]; rfl, fun i hi => ?_⟩
  rw [Nat.zero_add, List.getD_eq_getElem?_getD, List.getD_eq_getElem?_getD, List.getElem?_take_of_lt (by omega)]
def C42 : GC := conG (X := List Int) (fun l => [slB l]) (fun _ => []) (fun l => (∀ n ∈ l, u8r n) ∧ l.length < 9223372036854775808) fun _ K => ∀ b, Rd.ok ⟨b, 0⟩ → K (.ptr 0 0) [.box [slB b, .int .i64 0]]
theorem F42 : GG 39 C42 := by
  refine fitG [] (by simp) [] (by simp) Tryd.f39 ⟨rfl, by decide +kernel, by decide +kernel⟩ (by intro x K K2 hk h; (try dsimp only at h ⊢); intros; apply hk; first | exact h | (apply h <;> assumption)) ?_
  rintro l K ⟨h1, h5⟩ h
  refine ⟨Nat.le_of_ble_eq_true rfl, ?_⟩
  repeat' ((conv => whnf); first | refine vA ?_ | with_reducible first | refine v8 ?_ | refine Sp.mk ?_ ?_ | refine vS ?_ | refine vB ?_ | refine br_nt ?_ | refine br_tt ?_ | refine br_ff ?_ | refine vP ?_ | refine vQ ?_ | refine vT ?_ | refine vF ?_ | refine br_and ?_ | refine br_or ?_ | refine br_d (fun _ => ?_) fun _ => ?_ | refine vM (fun _ => ?_) fun _ => ?_)
  refine Wk.rf ?_
  repeat' ((conv => whnf); first | refine vA ?_ | with_reducible first | refine v8 ?_ | refine Sp.mk ?_ ?_ | refine vS ?_ | refine vB ?_ | refine br_nt ?_ | refine br_tt ?_ | refine br_ff ?_ | refine vP ?_ | refine vQ ?_ | refine vT ?_ | refine vF ?_ | refine br_and ?_ | refine br_or ?_ | refine br_d (fun _ => ?_) fun _ => ?_ | refine vM (fun _ => ?_) fun _ => ?_)
  refine Wk.rf ?_
  repeat' ((conv => whnf); first | refine vA ?_ | with_reducible first | refine v8 ?_ | refine Sp.mk ?_ ?_ | refine vS ?_ | refine vB ?_ | refine br_nt ?_ | refine br_tt ?_ | refine br_ff ?_ | refine vP ?_ | refine vQ ?_ | refine vT ?_ | refine vF ?_ | refine br_and ?_ | refine br_or ?_ | refine br_d (fun _ => ?_) fun _ => ?_ | refine vM (fun _ => ?_) fun _ => ?_)
  · refine Wk.go [(0, slB (l.take 2000))] [] ⟨⟨[], [], rfl, rfl, ?_, ?_⟩⟩ ?_
    · repeat' ((conv => whnf); first | with_reducible exact True.intro | exact vW | with_reducible refine And.intro ?_ ?_)
      exact Chk.mk (tk_ext (l := l) (n := 2000) (by omega))
    · repeat' ((conv => whnf); first | with_reducible exact True.intro | exact vW | with_reducible refine And.intro ?_ ?_)
    repeat' ((conv => whnf); first | refine vA ?_ | with_reducible first | refine v8 ?_ | refine Sp.mk ?_ ?_ | refine vS ?_ | refine vR ?_ | refine vB ?_ | refine br_nt ?_ | refine br_tt ?_ | refine br_ff ?_ | refine vP ?_ | refine vQ ?_ | refine vT ?_ | refine vF ?_ | refine br_and ?_ | refine br_or ?_ | refine br_d (fun _ => ?_) fun _ => ?_ | refine vM (fun _ => ?_) fun _ => ?_)
    refine ⟨_, _, [some 0], [], rfl, rfl, ?_, ?_, h (l.take 2000) ⟨?_, fun n hn => h1 n (List.mem_of_mem_take hn), (by decide : (0 : Int) ≤ 0), (by decide : (0 : Int) ≤ 1000000000)⟩⟩
    · repeat' ((conv => whnf); first | with_reducible exact True.intro | exact vW | with_reducible refine And.intro ?_ ?_)
    · repeat' ((conv => whnf); first | with_reducible exact True.intro | exact vW | with_reducible refine And.intro ?_ ?_)
    show (l.take 2000).length ≤ 2000
    rw [List.length_take]; omega
  · repeat' ((conv => whnf); first | refine vA ?_ | with_reducible first | refine v8 ?_ | refine Sp.mk ?_ ?_ | refine vS ?_ | refine vR ?_ | refine vB ?_ | refine br_nt ?_ | refine br_tt ?_ | refine br_ff ?_ | refine vP ?_ | refine vQ ?_ | refine vT ?_ | refine vF ?_ | refine br_and ?_ | refine br_or ?_ | refine br_d (fun _ => ?_) fun _ => ?_ | refine vM (fun _ => ?_) fun _ => ?_)
    refine ⟨_, _, [some 0], [], rfl, rfl, ?_, ?_, h l ⟨by show l.length ≤ 2000; omega, h1, (by decide : (0 : Int) ≤ 0), (by decide : (0 : Int) ≤ 1000000000)⟩⟩
    · repeat' ((conv => whnf); first | with_reducible exact True.intro | exact vW | with_reducible refine And.intro ?_ ?_)
    · repeat' ((conv => whnf); first | with_reducible exact True.intro | exact vW | with_reducible refine And.intro ?_ ?_)
end Go.Proofs.YtahfdkdneojkmaaDoor.Vc
end
section
/- Part ZP: houses and terms that are drawn. -/
namespace Go.Proofs.YtahfdkdneojkmaaDoor.Vc
open Go.Proofs
set_option maxRecDepth 10000
set_option maxHeartbeats 4000000
theorem td8 {a : Int} (h : 0 ≤ a) : a.tdiv 8 = a / 8 := Int.tdiv_eq_ediv_of_nonneg h
def C59 : GC := conG (X := Rd × Int) (fun x => [.ptr 0 0, .int .i64 x.2]) (fun x => [.box [slB x.1.b, .int .i64 x.1.p]]) (fun x => x.1.okn 500000000 ∧ i64r x.2) fun x K => ∀ (h : House) (p' : Int), x.1.p ≤ p' → p' ≤ x.1.p + 20 → 0 ≤ h.p ∧ h.p ≤ 7 → h.bs.length ≤ 4 → (∀ b ∈ h.bs, 0 ≤ b ∧ b ≤ 64) → K (enH h) [.box [slB x.1.b, .int .i64 p']]
theorem F59 : GG 68 C59 := by
  refine fitG [] (by simp) [(69, C52), (72, C53)] (by simp only [List.mem_cons, List.not_mem_nil, or_false]; rintro _ (rfl | rfl) <;> first | exact F52 | exact F53) Tryd.f68 ⟨rfl, by decide +kernel, by decide +kernel⟩ (by intro x K K2 hk h; (try dsimp only at h ⊢); intros; apply hk; first | exact h | (apply h <;> assumption)) ?_
  rintro ⟨⟨b, p⟩, n⟩ K ⟨⟨h1, h2, h3, h4⟩, h5⟩ h
  refine ⟨Nat.le_of_ble_eq_true rfl, ?_⟩
  dsimp only at h h1 h2 h3 h4 h5 ⊢
  repeat' ((conv => whnf); first | refine vA ?_ | with_reducible first | refine v8 ?_ | refine Sp.mk ?_ ?_ | refine vS ?_ | refine vR ?_ | refine vB ?_ | refine br_nt ?_ | refine br_tt ?_ | refine br_ff ?_ | refine vP ?_ | refine vQ ?_ | refine vT ?_ | refine vF ?_ | refine br_and ?_ | refine br_or ?_ | refine br_d (fun _ => ?_) fun _ => ?_ | refine vM (fun _ => ?_) fun _ => ?_)
  refine ⟨_, _, [0], [], rfl, ?_, ?_, (⟨b, p⟩, 5), rfl, rfl, ⟨⟨h1, h2, ?_, ?_⟩, ?_⟩, ?_⟩
  · repeat' ((conv => whnf); first | with_reducible exact True.intro | exact vW | with_reducible refine And.intro ?_ ?_)
    try exact Chk.mk (by rw [pw_sh (by assumption)])
  · repeat' ((conv => whnf); first | with_reducible exact True.intro | exact vW | with_reducible refine And.intro ?_ ?_)
  · dsimp only; omega
  · dsimp only; omega
  · unfold i64r; dsimp only; omega
  intro k1 p1 a0 a1 a2
  dsimp only at a0 a1 a2
  repeat' ((conv => whnf); first | refine vA ?_ | with_reducible first | refine v8 ?_ | refine Sp.mk ?_ ?_ | refine vS ?_ | refine vR ?_ | refine vB ?_ | refine br_nt ?_ | refine br_tt ?_ | refine br_ff ?_ | refine vP ?_ | refine vQ ?_ | refine vT ?_ | refine vF ?_ | refine br_and ?_ | refine br_or ?_ | refine br_d (fun _ => ?_) fun _ => ?_ | refine vM (fun _ => ?_) fun _ => ?_)
  refine ⟨_, _, [0], [], rfl, ?_, ?_, (⟨b, p1⟩, 9), rfl, rfl, ⟨⟨h1, h2, ?_, ?_⟩, ?_⟩, ?_⟩
  · repeat' ((conv => whnf); first | with_reducible exact True.intro | exact vW | with_reducible refine And.intro ?_ ?_)
    try exact Chk.mk (by rw [pw_sh (by assumption)])
  · repeat' ((conv => whnf); first | with_reducible exact True.intro | exact vW | with_reducible refine And.intro ?_ ?_)
  · dsimp only; omega
  · dsimp only; omega
  · unfold i64r; dsimp only; omega
  intro k2 p2 b0 b1 b2
  dsimp only at b0 b1 b2
  have e8 := td8 (a := k2) (by omega)
  obtain ⟨P, hP⟩ : ∃ P, 1 + k1 + k2.tdiv 8 = P := ⟨_, rfl⟩
  have pp : people P := by unfold people; omega
  have pw2 := pw_le pp
  repeat' ((conv => whnf); first | refine vA ?_ | with_reducible first | refine v8 ?_ | refine Sp.mk ?_ ?_ | refine vS ?_ | refine vR ?_ | refine vB ?_ | refine br_nt ?_ | refine br_tt ?_ | refine br_ff ?_ | refine vP ?_ | refine vQ ?_ | refine vT ?_ | refine vF ?_ | refine br_and ?_ | refine br_or ?_ | refine br_d (fun _ => ?_) fun _ => ?_ | refine vM (fun _ => ?_) fun _ => ?_)
  rw [hP]
  repeat' ((conv => whnf); first | refine vA ?_ | with_reducible first | refine v8 ?_ | refine Sp.mk ?_ ?_ | refine vS ?_ | refine vR ?_ | refine vB ?_ | refine br_nt ?_ | refine br_tt ?_ | refine br_ff ?_ | refine vP ?_ | refine vQ ?_ | refine vT ?_ | refine vF ?_ | refine br_and ?_ | refine br_or ?_ | refine br_d (fun _ => ?_) fun _ => ?_ | refine vM (fun _ => ?_) fun _ => ?_)
  refine ⟨_, _, [0], [], rfl, ?_, ?_, (⟨b, p2⟩, 3), rfl, rfl, ⟨⟨h1, h2, ?_, ?_⟩, ?_⟩, ?_⟩
  · repeat' ((conv => whnf); first | with_reducible exact True.intro | exact vW | with_reducible refine And.intro ?_ ?_)
    try exact Chk.mk (by rw [pw_sh (by assumption)])
  · repeat' ((conv => whnf); first | with_reducible exact True.intro | exact vW | with_reducible refine And.intro ?_ ?_)
  · dsimp only; omega
  · dsimp only; omega
  · unfold i64r; dsimp only; omega
  intro k3 p3 c0 c1 c2
  dsimp only at c0 c1 c2
  repeat' ((conv => whnf); first | refine vA ?_ | with_reducible first | refine v8 ?_ | refine Sp.mk ?_ ?_ | refine vS ?_ | refine vR ?_ | refine vB ?_ | refine br_nt ?_ | refine br_tt ?_ | refine br_ff ?_ | refine vP ?_ | refine vQ ?_ | refine vT ?_ | refine vF ?_ | refine br_and ?_ | refine br_or ?_ | refine br_d (fun _ => ?_) fun _ => ?_ | refine vM (fun _ => ?_) fun _ => ?_)
  refine Lp.mk ⟨List Int × Int × Int, fun x => [(0, .ptr 0 0), (1, .int .i64 n), (4, .ptr 1 0), (5, .ptr 2 0), (6, .int .i64 x.2.1)],
    fun x => [rdO b x.2.2, .box [.int .i64 0, .nils], .box [.int .i64 P, .row 3 1 0 x.1.length], .row 1 x.1.length fun j => encI (x.1.getD j 0)],
    fun x => 0 ≤ x.2.1 ∧ x.2.1 + x.1.length = 1 + k3 ∧ x.2.2 = p3 + x.1.length ∧ ∀ b ∈ x.1, 0 ≤ b ∧ b ≤ 64, fun x => x.2.1.toNat, ⟨([], 1 + k3, p3), ⟨by show 0 ≤ 1 + k3; omega, by simp, by simp, by simp⟩, ⟨⟨[some 0, some 1, some 2, none], [], rfl, rfl, ?_, ?_⟩⟩⟩, ?_⟩
  · repeat' ((conv => whnf); first | with_reducible exact True.intro | exact vW | with_reducible refine And.intro ?_ ?_)
  · repeat' ((conv => whnf); first | with_reducible exact True.intro | exact vW | with_reducible refine And.intro ?_ ?_)
  rintro ⟨l, j, q⟩ ⟨i1, i2, i3, i4⟩
  dsimp only at i1 i2 i3 i4 ⊢
  repeat' ((conv => whnf); first | refine vA ?_ | with_reducible first | refine v8 ?_ | refine Sp.mk ?_ ?_ | refine vS ?_ | refine vR ?_ | refine vB ?_ | refine br_nt ?_ | refine br_tt ?_ | refine br_ff ?_ | refine vP ?_ | refine vQ ?_ | refine vT ?_ | refine vF ?_ | refine br_and ?_ | refine br_or ?_ | refine br_d (fun _ => ?_) fun _ => ?_ | refine vM (fun _ => ?_) fun _ => ?_)
  · refine Dr.mk ⟨(.rd 0 (.rd 1 (.rd 2 (.rd 3 (.rd 4 (.rd 5 (.rd 6 (.ef 7 (.rd 8 (.ef 9 (.ef 10 (.rd 11 (.ef 12 .dn .no)) .no) .no)) .no)))))))), by decide +kernel, ?_⟩
    repeat' ((conv => whnf); first | with_reducible refine Wr.ex (wsh pp) ?_ | with_reducible refine Wr.ex (wi64 (by rw [pw_sh pp]; omega) (by rw [pw_sh pp]; omega)) ?_ | refine vA ?_ | with_reducible first | refine v8 ?_ | refine Sp.mk ?_ ?_ | refine vS ?_ | refine vR ?_ | refine vB ?_ | refine br_nt ?_ | refine br_tt ?_ | refine br_ff ?_ | refine vP ?_ | refine vQ ?_ | refine vT ?_ | refine vF ?_ | refine br_and ?_ | refine br_or ?_ | refine br_d (fun _ => ?_) fun _ => ?_ | refine vM (fun _ => ?_) fun _ => ?_)
    refine ⟨_, _, [0], [], rfl, ?_, ?_, (⟨b, q⟩, (pw P - 1)), rfl, rfl, ⟨⟨h1, h2, ?_, ?_⟩, ?_⟩, ?_⟩
    · repeat' ((conv => whnf); first | with_reducible exact True.intro | exact vW | with_reducible refine And.intro ?_ ?_)
      try exact Chk.mk (by rw [pw_sh (by assumption)])
    · repeat' ((conv => whnf); first | with_reducible exact True.intro | exact vW | with_reducible refine And.intro ?_ ?_)
    · dsimp only; omega
    · dsimp only; omega
    · unfold i64r; dsimp only; omega
    intro k4 p4 d0 d1 d2
    dsimp only at d0 d1 d2
    repeat' ((conv => whnf); first | refine vA ?_ | with_reducible first | refine v8 ?_ | refine Sp.mk ?_ ?_ | refine vS ?_ | refine vR ?_ | refine vB ?_ | refine br_nt ?_ | refine br_tt ?_ | refine br_ff ?_ | refine vP ?_ | refine vQ ?_ | refine vT ?_ | refine vF ?_ | refine br_and ?_ | refine br_or ?_ | refine br_d (fun _ => ?_) fun _ => ?_ | refine vM (fun _ => ?_) fun _ => ?_)
    refine ⟨(l ++ [1 + k4], j - 1, p4), ⟨by show 0 ≤ j - 1; omega, by simp; omega, by simp; omega, ?_⟩, by show (j - 1).toNat < j.toNat; omega, ⟨⟨[some 0, some 1, some 2, some 5], [], rfl, rfl, ?_, ?_⟩⟩⟩
    · intro v hv
      rcases List.mem_append.1 hv with hv | hv
      · exact i4 v hv
      · simp at hv; omega
    · repeat' ((conv => whnf); first | with_reducible exact True.intro | exact vW | with_reducible refine And.intro ?_ ?_)
    · repeat' ((conv => whnf); first | with_reducible exact True.intro | exact vW | with_reducible refine And.intro ?_ ?_)
      all_goals exact Chk.mk (ext_push rfl)
  · refine ⟨_, _, [0], [], rfl, ?_, ?_, (⟨b, q⟩, n), rfl, rfl, ⟨⟨h1, h2, ?_, ?_⟩, h5⟩, ?_⟩
    · repeat' ((conv => whnf); first | with_reducible exact True.intro | exact vW | with_reducible refine And.intro ?_ ?_)
    · repeat' ((conv => whnf); first | with_reducible exact True.intro | exact vW | with_reducible refine And.intro ?_ ?_)
    · dsimp only; omega
    · dsimp only; omega
    intro v p5 g1 g2
    dsimp only at g1 g2
    repeat' ((conv => whnf); first | refine vA ?_ | with_reducible first | refine v8 ?_ | refine Sp.mk ?_ ?_ | refine vS ?_ | refine vR ?_ | refine vB ?_ | refine br_nt ?_ | refine br_tt ?_ | refine br_ff ?_ | refine vP ?_ | refine vQ ?_ | refine vT ?_ | refine vF ?_ | refine br_and ?_ | refine br_or ?_ | refine br_d (fun _ => ?_) fun _ => ?_ | refine vM (fun _ => ?_) fun _ => ?_)
    · refine ⟨_, _, [0], [], rfl, ?_, ?_, (⟨b, p5⟩, 3), rfl, rfl, ⟨⟨h1, h2, ?_, ?_⟩, ?_⟩, ?_⟩
      · repeat' ((conv => whnf); first | with_reducible exact True.intro | exact vW | with_reducible refine And.intro ?_ ?_)
        try exact Chk.mk (by rw [pw_sh (by assumption)])
      · repeat' ((conv => whnf); first | with_reducible exact True.intro | exact vW | with_reducible refine And.intro ?_ ?_)
      · dsimp only; omega
      · dsimp only; omega
      · unfold i64r; dsimp only; omega
      intro k6 p6 e0 e1 e2
      dsimp only at e0 e1 e2
      repeat' ((conv => whnf); first | refine vA ?_ | with_reducible first | refine v8 ?_ | refine Sp.mk ?_ ?_ | refine vS ?_ | refine vR ?_ | refine vB ?_ | refine br_nt ?_ | refine br_tt ?_ | refine br_ff ?_ | refine vP ?_ | refine vQ ?_ | refine vT ?_ | refine vF ?_ | refine br_and ?_ | refine br_or ?_ | refine br_d (fun _ => ?_) fun _ => ?_ | refine vM (fun _ => ?_) fun _ => ?_)
      · refine ⟨_, _, [0], [], rfl, ?_, ?_, (⟨b, p6⟩, 2), rfl, rfl, ⟨⟨h1, h2, ?_, ?_⟩, ?_⟩, ?_⟩
        · repeat' ((conv => whnf); first | with_reducible exact True.intro | exact vW | with_reducible refine And.intro ?_ ?_)
          try exact Chk.mk (by rw [pw_sh (by assumption)])
        · repeat' ((conv => whnf); first | with_reducible exact True.intro | exact vW | with_reducible refine And.intro ?_ ?_)
        · dsimp only; omega
        · dsimp only; omega
        · unfold i64r; dsimp only; omega
        intro k7 p7 f0 f1 f2
        dsimp only at f0 f1 f2
        rcases (show k7 = 0 ∨ k7 = 1 by omega) with rfl | rfl
        · repeat' ((conv => whnf); first | refine vA ?_ | with_reducible first | refine v8 ?_ | refine Sp.mk ?_ ?_ | refine vS ?_ | refine vR ?_ | refine vB ?_ | refine br_nt ?_ | refine br_tt ?_ | refine br_ff ?_ | refine vP ?_ | refine vQ ?_ | refine vT ?_ | refine vF ?_ | refine br_and ?_ | refine br_or ?_ | refine br_d (fun _ => ?_) fun _ => ?_ | refine vM (fun _ => ?_) fun _ => ?_)
          refine ⟨_, _, [some 0], [3], rfl, rfl, ?_, ?_, h ⟨0, l⟩ p7 (by omega) (by omega) (by show (0:Int) ≤ 0 ∧ (0:Int) ≤ 7; decide) (by show l.length ≤ 4; omega) i4⟩
          · repeat' ((conv => whnf); first | with_reducible exact True.intro | exact vW | with_reducible refine And.intro ?_ ?_)
          · repeat' ((conv => whnf); first | with_reducible exact True.intro | exact vW | with_reducible refine And.intro ?_ ?_)
        · repeat' ((conv => whnf); first | refine vA ?_ | with_reducible first | refine v8 ?_ | refine Sp.mk ?_ ?_ | refine vS ?_ | refine vR ?_ | refine vB ?_ | refine br_nt ?_ | refine br_tt ?_ | refine br_ff ?_ | refine vP ?_ | refine vQ ?_ | refine vT ?_ | refine vF ?_ | refine br_and ?_ | refine br_or ?_ | refine br_d (fun _ => ?_) fun _ => ?_ | refine vM (fun _ => ?_) fun _ => ?_)
          refine ⟨_, _, [some 0], [3], rfl, rfl, ?_, ?_, h ⟨7, l⟩ p7 (by omega) (by omega) (by show (0:Int) ≤ 7 ∧ (7:Int) ≤ 7; decide) (by show l.length ≤ 4; omega) i4⟩
          · repeat' ((conv => whnf); first | with_reducible exact True.intro | exact vW | with_reducible refine And.intro ?_ ?_)
          · repeat' ((conv => whnf); first | with_reducible exact True.intro | exact vW | with_reducible refine And.intro ?_ ?_)
      · refine ⟨_, _, [some 0], [5], rfl, rfl, ?_, ?_, h ⟨P, l ++ [0]⟩ p6 (by omega) (by omega) ?_ ?_ ?_⟩
        · repeat' ((conv => whnf); first | with_reducible exact True.intro | exact vW | with_reducible refine And.intro ?_ ?_)
          all_goals exact Chk.mk ⟨by simp, by simp, fun i hi => by rw [Nat.zero_add]; exact (ext_push (l := l) (x := (0 : Int)) (enc := encI) (d := 0) rfl).2 i hi⟩
        · repeat' ((conv => whnf); first | with_reducible exact True.intro | exact vW | with_reducible refine And.intro ?_ ?_)
        · show 0 ≤ P ∧ P ≤ 7
          unfold people at pp; omega
        · show (l ++ [0]).length ≤ 4
          simp; omega
        · intro v hv
          rcases List.mem_append.1 hv with hv | hv
          · exact i4 v hv
          · simp at hv; omega
      · refine ⟨_, _, [some 0], [], rfl, rfl, ?_, ?_, h ⟨P, []⟩ p6 (by omega) (by omega) ⟨by show 0 ≤ P; unfold people at pp; omega, by show P ≤ 7; unfold people at pp; omega⟩ (by show 0 ≤ 4; omega) (fun _ hb => by cases hb)⟩
        · repeat' ((conv => whnf); first | with_reducible exact True.intro | exact vW | with_reducible refine And.intro ?_ ?_)
        · repeat' ((conv => whnf); first | with_reducible exact True.intro | exact vW | with_reducible refine And.intro ?_ ?_)
    · refine ⟨_, _, [some 0], [3], rfl, rfl, ?_, ?_, h ⟨P, l⟩ p5 (by omega) (by omega) (by show 0 ≤ P ∧ P ≤ 7; unfold people at pp; omega) (by show l.length ≤ 4; omega) i4⟩
      · repeat' ((conv => whnf); first | with_reducible exact True.intro | exact vW | with_reducible refine And.intro ?_ ?_)
      · repeat' ((conv => whnf); first | with_reducible exact True.intro | exact vW | with_reducible refine And.intro ?_ ?_)
end Go.Proofs.YtahfdkdneojkmaaDoor.Vc
end
section
/- Part ZQ: terms that are drawn. -/
namespace Go.Proofs.YtahfdkdneojkmaaDoor.Vc
open Go.Proofs
set_option maxRecDepth 10000
set_option maxHeartbeats 4000000
def encP (l : List Mark) : List AV := [slM l]
def sumL : List (List Mark) → Nat
  | [] => 0
  | l :: r => l.length + sumL r
theorem sumL_app : ∀ a b : List (List Mark), sumL (a ++ b) = sumL a + sumL b
  | [], b => by simp [sumL]
  | x :: a, b => by simp only [List.cons_append, sumL, sumL_app a b]; omega
theorem sumL_mem {l : List Mark} : ∀ {P : List (List Mark)}, l ∈ P → l.length ≤ sumL P
  | x :: P, h => by
    rcases List.mem_cons.1 h with rfl | h
    · simp only [sumL]; omega
    · have := sumL_mem h; simp only [sumL]; omega
structure Tx where
  r : Rd
  h : House
  n : Int
theorem app_extG {α : Type} (enc : α → List AV) (d : α) {l : List α} {c : α} {g : Nat → List AV} (hg : g 0 = enc c) : (l ++ [c]).length = l.length + 1 ∧ ∀ j, j < (l ++ [c]).length → enc ((l ++ [c]).getD j d) = appF l.length (fun j => enc (l.getD j d)) g j := by
  refine ⟨by simp, fun j hj => ?_⟩
  simp only [List.length_append, List.length_cons, List.length_nil] at hj
  unfold appF
  rw [List.getD_eq_getElem?_getD, List.getElem?_append]
  cases hb : Nat.blt j l.length with
  | true =>
    have h1 : j < l.length := Nat.le_of_ble_eq_true hb
    rw [if_pos h1, ← List.getD_eq_getElem?_getD]
    rfl
  | false =>
    have : ¬ j < l.length := fun h => by
      have : Nat.blt j l.length = true := Nat.ble_eq_true_of_le h
      rw [this] at hb; cases hb
    have : j = l.length := by omega
    subst this
    rw [if_neg (by omega)]
    simp [hg]
theorem one_ext {l : List (List Mark)} {x y z : Int} : (l ++ [[(⟨x, y, z⟩ : Mark)]]).length = l.length + 1 ∧ ∀ j, j < (l ++ [[(⟨x, y, z⟩ : Mark)]]).length → encP ((l ++ [[(⟨x, y, z⟩ : Mark)]]).getD j []) = appF l.length (fun j => encP (l.getD j []))
    (fun i => (fun i => [[AV.sl 3 1 fun i => (fun i => [[AV.int .i64 x, AV.int .i64 y, AV.int .i64 z]].getD i [AV.int .i64 0, AV.int .i64 0, AV.int .i64 0]) (0 + i)]].getD i [AV.nils]) (0 + i)) j := by
  refine app_extG encP [] ?_
  have e : (fun i => (fun i => [[AV.int .i64 x, AV.int .i64 y, AV.int .i64 z]].getD i [AV.int .i64 0, AV.int .i64 0, AV.int .i64 0]) (0 + i)) = fun i => encM (([⟨x, y, z⟩] : List Mark).getD i default) := by
    funext i
    simp only [Nat.zero_add]
    match i with
    | 0 => rfl
    | i + 1 => rfl
  rw [e]
  rfl
theorem appF_enc {α : Type} (enc : α → List AV) (d : α) (l r : List α) : appF l.length (fun i => enc (l.getD i d)) (fun i => enc (r.getD i d)) = fun i => enc ((l ++ r).getD i d) := by
  funext i
  unfold appF
  rw [List.getD_eq_getElem?_getD (l := l ++ r), List.getElem?_append]
  cases hb : Nat.blt i l.length with
  | true =>
    have h1 : i < l.length := Nat.le_of_ble_eq_true hb
    rw [if_pos h1, ← List.getD_eq_getElem?_getD]
    rfl
  | false =>
    have : ¬ i < l.length := fun h => by
      have : Nat.blt i l.length = true := Nat.ble_eq_true_of_le h
      rw [this] at hb; cases hb
    rw [if_neg this, ← List.getD_eq_getElem?_getD]
    rfl
theorem lit1 {x y z : Int} : (fun i => (fun i => [[AV.int .i64 x, AV.int .i64 y, AV.int .i64 z]].getD i [AV.int .i64 0, AV.int .i64 0, AV.int .i64 0]) (0 + i)) = fun i => encM (([⟨x, y, z⟩] : List Mark).getD i default) := by
  funext i
  simp only [Nat.zero_add]
  match i with
  | 0 => rfl
  | i + 1 => rfl
theorem three_ext {A B : List Mark} {x y z : Int} : (A ++ B ++ [(⟨x, y, z⟩ : Mark)]).length = A.length + B.length + 1 ∧ ∀ j, j < (A ++ B ++ [(⟨x, y, z⟩ : Mark)]).length → encM ((A ++ B ++ [(⟨x, y, z⟩ : Mark)]).getD j default) =
    appF (A.length + B.length) (appF A.length (fun i => encM (A.getD i default)) fun i => encM (B.getD i default)) (fun i => (fun i => [[AV.int .i64 x, AV.int .i64 y, AV.int .i64 z]].getD i [AV.int .i64 0, AV.int .i64 0, AV.int .i64 0]) (0 + i)) j := by
  refine ⟨by simp; omega, fun j _ => ?_⟩
  rw [lit1, appF_enc, show A.length + B.length = (A ++ B).length by simp, appF_enc]
theorem getD_take_app {α : Type} {l r : List α} {n i : Nat} {d : α} (hn : n ≤ l.length) (hi : i < n) : (l.take n ++ r).getD i d = l.getD i d := by
  rw [List.getD_eq_getElem?_getD, List.getElem?_append_left (by rw [List.length_take]; omega), List.getElem?_take_of_lt hi, ← List.getD_eq_getElem?_getD]
theorem merge_ext {P : List (List Mark)} {a c : Nat} {T : List Mark} (h : c ≤ P.length) (ha : a ≤ P.length) : (P.take a ++ [T] ++ P.drop c).length = a + 1 + (P.length - c) ∧ ∀ j, j < (P.take a ++ [T] ++ P.drop c).length → encP ((P.take a ++ [T] ++ P.drop c).getD j []) =
    appF (a + 1) (appF a (fun i => (fun j => encP (P.getD j [])) (0 + 0 + i)) fun i => (fun i => [[AV.sl 3 T.length fun i => (fun j => encM (T.getD j default)) (0 + i)]].getD i [AV.nils]) (0 + i)) (fun i => (fun j => encP (P.getD j [])) (0 + c + i)) j := by
  have hl : (P.take a).length = a := by rw [List.length_take]; omega
  refine ⟨by simp; omega, fun j hj => ?_⟩
  have e1 : (fun i => (fun j => encM (T.getD j default)) (0 + i)) = fun j => encM (T.getD j default) := by funext i; rw [Nat.zero_add]
  rw [e1]
  unfold appF
  cases hb : Nat.blt j (a + 1) with
  | true =>
    have h1 : j < a + 1 := Nat.le_of_ble_eq_true hb
    cases hb2 : Nat.blt j a with
    | true =>
      have h2 : j < a := Nat.le_of_ble_eq_true hb2
      rw [List.append_assoc, getD_take_app ha h2]
      show _ = encP (P.getD (0 + 0 + j) [])
      rw [show 0 + 0 + j = j by omega]
    | false =>
      have h2 : j = a := by
        rcases Nat.lt_or_ge j a with h | h
        · have : Nat.blt j a = true := Nat.ble_eq_true_of_le h
          rw [this] at hb2; cases hb2
        · omega
      subst h2
      rw [List.append_assoc, List.getD_eq_getElem?_getD, List.getElem?_append_right (by omega), hl]
      simp [encP]
  | false =>
    have h1 : a + 1 ≤ j := by
      rcases Nat.lt_or_ge j (a + 1) with h | h
      · have : Nat.blt j (a + 1) = true := Nat.ble_eq_true_of_le h
        rw [this] at hb; cases hb
      · exact h
    show _ = encP (P.getD (0 + c + (j - (a + 1))) [])
    rw [List.getD_eq_getElem?_getD, List.getElem?_append_right (by simp [hl]; omega), List.getElem?_drop, ← List.getD_eq_getElem?_getD]
    congr 2
    simp [hl]
theorem sumL_take_drop : ∀ (P : List (List Mark)) (a : Nat), a + 1 < P.length → sumL (P.take a) + sumL (P.drop (a + 2)) + (P.getD a []).length + (P.getD (a + 1) []).length = sumL P
  | [], a, h => by simp at h
  | [_], a, h => by simp at h
  | x :: y :: P, 0, _ => by simp [sumL]; omega
  | x :: P, a + 1, h => by
    have := sumL_take_drop P a (by simpa using h)
    simp only [List.take_succ_cons, List.drop_succ_cons, sumL, List.getD_cons_succ]
    omega
def C60 : GC := conG (X := Tx) (fun x => [.ptr 0 0, enH x.h, .int .i64 x.n]) (fun x => [.box [slB x.r.b, .int .i64 x.r.p]]) (fun x => x.r.okn 600000000 ∧ x.h.i64 ∧ x.h.bs.length ≤ 8 ∧ i64r x.n) fun x K => ∀ (t : List Mark) (p' : Int), x.r.p ≤ p' → p' ≤ x.r.p + 40 → t.length ≤ 9 → (∀ m ∈ t, m.i64) → K (slM t) [.box [slB x.r.b, .int .i64 p']]
theorem F60 : GG 71 C60 := by
  refine fitG [(97, C48)] (by simp only [List.mem_cons, List.not_mem_nil, or_false]; rintro _ rfl <;> first | exact F48) [(69, C52), (72, C53)] (by simp only [List.mem_cons, List.not_mem_nil, or_false]; rintro _ (rfl | rfl) <;> first | exact F52 | exact F53) Tryd.f71 ⟨rfl, by decide +kernel, by decide +kernel⟩ (by intro x K K2 hk h; (try dsimp only at h ⊢); intros; apply hk; first | exact h | (apply h <;> assumption)) ?_
  rintro ⟨⟨b, p⟩, ⟨hp, bs⟩, n⟩ K ⟨⟨h1, h2, h3, h4⟩, h5, h6, h7⟩ h
  refine ⟨Nat.le_of_ble_eq_true rfl, ?_⟩
  dsimp only [enH] at h h1 h2 h3 h4 h5 h6 h7 ⊢
  repeat' ((conv => whnf); first | refine vA ?_ | with_reducible first | refine v8 ?_ | refine Sp.mk ?_ ?_ | refine vS ?_ | refine vR ?_ | refine vB ?_ | refine br_nt ?_ | refine br_tt ?_ | refine br_ff ?_ | refine vP ?_ | refine vQ ?_ | refine vT ?_ | refine vF ?_ | refine br_and ?_ | refine br_or ?_ | refine br_d (fun _ => ?_) fun _ => ?_ | refine vM (fun _ => ?_) fun _ => ?_)
  · refine ⟨_, _, [0], [], rfl, ?_, ?_, (⟨b, p⟩, 4), rfl, rfl, ⟨⟨h1, h2, ?_, ?_⟩, ?_⟩, ?_⟩
    · repeat' ((conv => whnf); first | with_reducible exact True.intro | exact vW | with_reducible refine And.intro ?_ ?_)
      try exact Chk.mk (by rw [pw_sh (by assumption)])
    · repeat' ((conv => whnf); first | with_reducible exact True.intro | exact vW | with_reducible refine And.intro ?_ ?_)
    · dsimp only; omega
    · dsimp only; omega
    · unfold i64r; dsimp only; omega
    intro k9 p9 z0 z1 z2
    dsimp only at z0 z1 z2
    rcases (show k9 = 0 ∨ k9 = 1 ∨ k9 = 2 ∨ k9 = 3 by omega) with rfl | rfl | rfl | rfl
    · repeat' ((conv => whnf); first | refine vA ?_ | with_reducible first | refine v8 ?_ | refine Sp.mk ?_ ?_ | refine vS ?_ | refine vR ?_ | refine vB ?_ | refine br_nt ?_ | refine br_tt ?_ | refine br_ff ?_ | refine vP ?_ | refine vQ ?_ | refine vT ?_ | refine vF ?_ | refine br_and ?_ | refine br_or ?_ | refine br_d (fun _ => ?_) fun _ => ?_ | refine vM (fun _ => ?_) fun _ => ?_)
      refine ⟨_, _, [some 0], [], rfl, rfl, ?_, ?_, h [] p9 (by omega) (by omega) (by decide) (by simp)⟩
      · repeat' ((conv => whnf); first | with_reducible exact True.intro | exact vW | with_reducible refine And.intro ?_ ?_)
      · repeat' ((conv => whnf); first | with_reducible exact True.intro | exact vW | with_reducible refine And.intro ?_ ?_)
    · repeat' ((conv => whnf); first | refine vA ?_ | with_reducible first | refine v8 ?_ | refine Sp.mk ?_ ?_ | refine vS ?_ | refine vR ?_ | refine vB ?_ | refine br_nt ?_ | refine br_tt ?_ | refine br_ff ?_ | refine vP ?_ | refine vQ ?_ | refine vT ?_ | refine vF ?_ | refine br_and ?_ | refine br_or ?_ | refine br_d (fun _ => ?_) fun _ => ?_ | refine vM (fun _ => ?_) fun _ => ?_)
      refine ⟨_, _, [some 0], [], rfl, rfl, ?_, ?_, h [⟨1, 0, 0⟩] p9 (by omega) (by omega) (by decide) (by simp [Mark.i64, i64r])⟩
      · repeat' ((conv => whnf); first | with_reducible exact True.intro | exact vW | with_reducible refine And.intro ?_ ?_)
        all_goals exact Chk.mk ⟨rfl, fun i hi => by match i, hi with | 0, _ => rfl⟩
      · repeat' ((conv => whnf); first | with_reducible exact True.intro | exact vW | with_reducible refine And.intro ?_ ?_)
    · repeat' ((conv => whnf); first | refine vA ?_ | with_reducible first | refine v8 ?_ | refine Sp.mk ?_ ?_ | refine vS ?_ | refine vR ?_ | refine vB ?_ | refine br_nt ?_ | refine br_tt ?_ | refine br_ff ?_ | refine vP ?_ | refine vQ ?_ | refine vT ?_ | refine vF ?_ | refine br_and ?_ | refine br_or ?_ | refine br_d (fun _ => ?_) fun _ => ?_ | refine vM (fun _ => ?_) fun _ => ?_)
      refine ⟨_, _, [some 0], [], rfl, rfl, ?_, ?_, h [⟨0, 3, 7⟩] p9 (by omega) (by omega) (by decide) (by simp [Mark.i64, i64r])⟩
      · repeat' ((conv => whnf); first | with_reducible exact True.intro | exact vW | with_reducible refine And.intro ?_ ?_)
        all_goals exact Chk.mk ⟨rfl, fun i hi => by match i, hi with | 0, _ => rfl⟩
      · repeat' ((conv => whnf); first | with_reducible exact True.intro | exact vW | with_reducible refine And.intro ?_ ?_)
    · repeat' ((conv => whnf); first | refine vA ?_ | with_reducible first | refine v8 ?_ | refine Sp.mk ?_ ?_ | refine vS ?_ | refine vR ?_ | refine vB ?_ | refine br_nt ?_ | refine br_tt ?_ | refine br_ff ?_ | refine vP ?_ | refine vQ ?_ | refine vT ?_ | refine vF ?_ | refine br_and ?_ | refine br_or ?_ | refine br_d (fun _ => ?_) fun _ => ?_ | refine vM (fun _ => ?_) fun _ => ?_)
      refine ⟨_, _, [some 0], [], rfl, rfl, ?_, ?_, h [⟨0, 0, 1⟩, ⟨0, 0, 1⟩] p9 (by omega) (by omega) (by decide) (by simp [Mark.i64, i64r])⟩
      · repeat' ((conv => whnf); first | with_reducible exact True.intro | exact vW | with_reducible refine And.intro ?_ ?_)
        all_goals exact Chk.mk ⟨rfl, fun i hi => by match i, hi with | 0, _ => rfl | 1, _ => rfl⟩
      · repeat' ((conv => whnf); first | with_reducible exact True.intro | exact vW | with_reducible refine And.intro ?_ ?_)
  refine ⟨_, _, [0], [], rfl, ?_, ?_, (⟨b, p⟩, n), rfl, rfl, ⟨⟨h1, h2, ?_, ?_⟩, h7⟩, ?_⟩
  · repeat' ((conv => whnf); first | with_reducible exact True.intro | exact vW | with_reducible refine And.intro ?_ ?_)
  · repeat' ((conv => whnf); first | with_reducible exact True.intro | exact vW | with_reducible refine And.intro ?_ ?_)
  · dsimp only; omega
  · dsimp only; omega
  intro v p1 g1 g2
  dsimp only at g1 g2
  repeat' ((conv => whnf); first | refine vA ?_ | with_reducible first | refine v8 ?_ | refine Sp.mk ?_ ?_ | refine vS ?_ | refine vR ?_ | refine vB ?_ | refine br_nt ?_ | refine br_tt ?_ | refine br_ff ?_ | refine vP ?_ | refine vQ ?_ | refine vT ?_ | refine vF ?_ | refine br_and ?_ | refine br_or ?_ | refine br_d (fun _ => ?_) fun _ => ?_ | refine vM (fun _ => ?_) fun _ => ?_)
  · refine ⟨_, _, [0], [], rfl, ?_, ?_, (⟨b, p1⟩, 4), rfl, rfl, ⟨⟨h1, h2, ?_, ?_⟩, ?_⟩, ?_⟩
    · repeat' ((conv => whnf); first | with_reducible exact True.intro | exact vW | with_reducible refine And.intro ?_ ?_)
      try exact Chk.mk (by rw [pw_sh (by assumption)])
    · repeat' ((conv => whnf); first | with_reducible exact True.intro | exact vW | with_reducible refine And.intro ?_ ?_)
    · dsimp only; omega
    · dsimp only; omega
    · unfold i64r; dsimp only; omega
    intro k9 p9 z0 z1 z2
    dsimp only at z0 z1 z2
    rcases (show k9 = 0 ∨ k9 = 1 ∨ k9 = 2 ∨ k9 = 3 by omega) with rfl | rfl | rfl | rfl
    · repeat' ((conv => whnf); first | refine vA ?_ | with_reducible first | refine v8 ?_ | refine Sp.mk ?_ ?_ | refine vS ?_ | refine vR ?_ | refine vB ?_ | refine br_nt ?_ | refine br_tt ?_ | refine br_ff ?_ | refine vP ?_ | refine vQ ?_ | refine vT ?_ | refine vF ?_ | refine br_and ?_ | refine br_or ?_ | refine br_d (fun _ => ?_) fun _ => ?_ | refine vM (fun _ => ?_) fun _ => ?_)
      refine ⟨_, _, [some 0], [], rfl, rfl, ?_, ?_, h [] p9 (by omega) (by omega) (by decide) (by simp)⟩
      · repeat' ((conv => whnf); first | with_reducible exact True.intro | exact vW | with_reducible refine And.intro ?_ ?_)
      · repeat' ((conv => whnf); first | with_reducible exact True.intro | exact vW | with_reducible refine And.intro ?_ ?_)
    · repeat' ((conv => whnf); first | refine vA ?_ | with_reducible first | refine v8 ?_ | refine Sp.mk ?_ ?_ | refine vS ?_ | refine vR ?_ | refine vB ?_ | refine br_nt ?_ | refine br_tt ?_ | refine br_ff ?_ | refine vP ?_ | refine vQ ?_ | refine vT ?_ | refine vF ?_ | refine br_and ?_ | refine br_or ?_ | refine br_d (fun _ => ?_) fun _ => ?_ | refine vM (fun _ => ?_) fun _ => ?_)
      refine ⟨_, _, [some 0], [], rfl, rfl, ?_, ?_, h [⟨1, 0, 0⟩] p9 (by omega) (by omega) (by decide) (by simp [Mark.i64, i64r])⟩
      · repeat' ((conv => whnf); first | with_reducible exact True.intro | exact vW | with_reducible refine And.intro ?_ ?_)
        all_goals exact Chk.mk ⟨rfl, fun i hi => by match i, hi with | 0, _ => rfl⟩
      · repeat' ((conv => whnf); first | with_reducible exact True.intro | exact vW | with_reducible refine And.intro ?_ ?_)
    · repeat' ((conv => whnf); first | refine vA ?_ | with_reducible first | refine v8 ?_ | refine Sp.mk ?_ ?_ | refine vS ?_ | refine vR ?_ | refine vB ?_ | refine br_nt ?_ | refine br_tt ?_ | refine br_ff ?_ | refine vP ?_ | refine vQ ?_ | refine vT ?_ | refine vF ?_ | refine br_and ?_ | refine br_or ?_ | refine br_d (fun _ => ?_) fun _ => ?_ | refine vM (fun _ => ?_) fun _ => ?_)
      refine ⟨_, _, [some 0], [], rfl, rfl, ?_, ?_, h [⟨0, 3, 7⟩] p9 (by omega) (by omega) (by decide) (by simp [Mark.i64, i64r])⟩
      · repeat' ((conv => whnf); first | with_reducible exact True.intro | exact vW | with_reducible refine And.intro ?_ ?_)
        all_goals exact Chk.mk ⟨rfl, fun i hi => by match i, hi with | 0, _ => rfl⟩
      · repeat' ((conv => whnf); first | with_reducible exact True.intro | exact vW | with_reducible refine And.intro ?_ ?_)
    · repeat' ((conv => whnf); first | refine vA ?_ | with_reducible first | refine v8 ?_ | refine Sp.mk ?_ ?_ | refine vS ?_ | refine vR ?_ | refine vB ?_ | refine br_nt ?_ | refine br_tt ?_ | refine br_ff ?_ | refine vP ?_ | refine vQ ?_ | refine vT ?_ | refine vF ?_ | refine br_and ?_ | refine br_or ?_ | refine br_d (fun _ => ?_) fun _ => ?_ | refine vM (fun _ => ?_) fun _ => ?_)
      refine ⟨_, _, [some 0], [], rfl, rfl, ?_, ?_, h [⟨0, 0, 1⟩, ⟨0, 0, 1⟩] p9 (by omega) (by omega) (by decide) (by simp [Mark.i64, i64r])⟩
      · repeat' ((conv => whnf); first | with_reducible exact True.intro | exact vW | with_reducible refine And.intro ?_ ?_)
        all_goals exact Chk.mk ⟨rfl, fun i hi => by match i, hi with | 0, _ => rfl | 1, _ => rfl⟩
      · repeat' ((conv => whnf); first | with_reducible exact True.intro | exact vW | with_reducible refine And.intro ?_ ?_)
  refine ⟨_, _, [0], [], rfl, ?_, ?_, (⟨b, p1⟩, 4), rfl, rfl, ⟨⟨h1, h2, ?_, ?_⟩, ?_⟩, ?_⟩
  · repeat' ((conv => whnf); first | with_reducible exact True.intro | exact vW | with_reducible refine And.intro ?_ ?_)
    try exact Chk.mk (by rw [pw_sh (by assumption)])
  · repeat' ((conv => whnf); first | with_reducible exact True.intro | exact vW | with_reducible refine And.intro ?_ ?_)
  · dsimp only; omega
  · dsimp only; omega
  · unfold i64r; dsimp only; omega
  intro k1 p2 a0 a1 a2
  dsimp only at a0 a1 a2
  repeat' ((conv => whnf); first | refine vA ?_ | with_reducible first | refine v8 ?_ | refine Sp.mk ?_ ?_ | refine vS ?_ | refine vR ?_ | refine vB ?_ | refine br_nt ?_ | refine br_tt ?_ | refine br_ff ?_ | refine vP ?_ | refine vQ ?_ | refine vT ?_ | refine vF ?_ | refine br_and ?_ | refine br_or ?_ | refine br_d (fun _ => ?_) fun _ => ?_ | refine vM (fun _ => ?_) fun _ => ?_)
  refine Lp.mk ⟨List (List Mark) × Int × Int, fun x => [(0, .ptr 0 0), (4, .ptr 1 0), (7, .row 2 1 0 x.1.length), (8, .int .i64 x.2.1)],
    fun x => [rdO b x.2.2, .box [.int .i64 hp, slI bs], .row 1 x.1.length fun j => encP (x.1.getD j [])],
    fun x => 0 ≤ x.2.1 ∧ x.2.1 + x.1.length = 1 + k1 ∧ x.2.2 = p2 + 2 * x.1.length ∧ sumL x.1 = x.1.length ∧ ∀ l ∈ x.1, ∀ m ∈ l, m.i64, fun x => x.2.1.toNat, ⟨([], 1 + k1, p2), ⟨by show 0 ≤ 1 + k1; omega, by simp, by simp, rfl, by simp⟩, ⟨⟨[some 0, some 1, none], [], rfl, rfl, ?_, ?_⟩⟩⟩, ?_⟩
  · repeat' ((conv => whnf); first | with_reducible exact True.intro | exact vW | with_reducible refine And.intro ?_ ?_)
  · repeat' ((conv => whnf); first | with_reducible exact True.intro | exact vW | with_reducible refine And.intro ?_ ?_)
  rintro ⟨P, j, q⟩ ⟨i1, i2, i3, i4, i5⟩
  dsimp only at i1 i2 i3 i4 i5 ⊢
  repeat' ((conv => whnf); first | refine vA ?_ | with_reducible first | refine v8 ?_ | refine Sp.mk ?_ ?_ | refine vS ?_ | refine vR ?_ | refine vB ?_ | refine br_nt ?_ | refine br_tt ?_ | refine br_ff ?_ | refine vP ?_ | refine vQ ?_ | refine vT ?_ | refine vF ?_ | refine br_and ?_ | refine br_or ?_ | refine br_d (fun _ => ?_) fun _ => ?_ | refine vM (fun _ => ?_) fun _ => ?_)
  · refine ⟨_, _, [0], [], rfl, ?_, ?_, (⟨b, q⟩, bs.length), rfl, rfl, ⟨⟨h1, h2, ?_, ?_⟩, ?_⟩, ?_⟩
    · repeat' ((conv => whnf); first | with_reducible exact True.intro | exact vW | with_reducible refine And.intro ?_ ?_)
      try exact Chk.mk (by rw [pw_sh (by assumption)])
    · repeat' ((conv => whnf); first | with_reducible exact True.intro | exact vW | with_reducible refine And.intro ?_ ?_)
    · dsimp only; omega
    · dsimp only; omega
    · unfold i64r; dsimp only; omega
    intro k2 p3 c0 c1 c2
    dsimp only at c0 c1 c2
    repeat' ((conv => whnf); first | refine vA ?_ | with_reducible first | refine v8 ?_ | refine Sp.mk ?_ ?_ | refine vS ?_ | refine vR ?_ | refine vB ?_ | refine br_nt ?_ | refine br_tt ?_ | refine br_ff ?_ | refine vP ?_ | refine vQ ?_ | refine vT ?_ | refine vF ?_ | refine br_and ?_ | refine br_or ?_ | refine br_d (fun _ => ?_) fun _ => ?_ | refine vM (fun _ => ?_) fun _ => ?_)
    have hbs := h5.2 _ (getD_mem' (l := bs) (i := k2.toNat) (d := 0) (by omega))
    refine ⟨(if 0 > bs.getD k2.toNat 0 then 0 else bs.getD k2.toNat 0), ?_, ⟨by split <;> (first | exact hbs | exact ⟨by decide, by decide⟩)⟩, ?_⟩
    · repeat' ((conv => whnf); first | with_reducible exact True.intro | exact vW | with_reducible refine And.intro ?_ ?_)
    obtain ⟨H, hH⟩ : ∃ H : Nat, heads ((if 0 > bs.getD k2.toNat 0 then 0 else bs.getD k2.toNat 0) : Int).toNat = H := ⟨_, rfl⟩
    have hH2 : H ≤ 64 := by rw [← hH]; exact heads_le _
    rw [hH]
    obtain ⟨M, hM⟩ : ∃ M : Int, M = if (1 : Int) > (H : Int) then (1 : Int) else (H : Int) := ⟨_, rfl⟩
    have hM2 : 1 ≤ M ∧ M ≤ 64 := by rw [hM]; split <;> omega
    repeat' ((conv => whnf); first | refine vA ?_ | with_reducible first | refine v8 ?_ | refine Sp.mk ?_ ?_ | refine vS ?_ | refine vR ?_ | refine vB ?_ | refine br_nt ?_ | refine br_tt ?_ | refine br_ff ?_ | refine vP ?_ | refine vQ ?_ | refine vT ?_ | refine vF ?_ | refine br_and ?_ | refine br_or ?_ | refine br_d (fun _ => ?_) fun _ => ?_ | refine vM (fun _ => ?_) fun _ => ?_)
    refine ⟨_, _, [0], [], rfl, ?_, ?_, (⟨b, p3⟩, if (1 : Int) > (H : Int) then (1 : Int) else (H : Int)), rfl, rfl, ⟨⟨h1, h2, ?_, ?_⟩, ?_⟩, ?_⟩
    · repeat' ((conv => whnf); first | with_reducible exact True.intro | exact vW | with_reducible refine And.intro ?_ ?_)
      try exact Chk.mk (by rw [pw_sh (by assumption)])
    · repeat' ((conv => whnf); first | with_reducible exact True.intro | exact vW | with_reducible refine And.intro ?_ ?_)
    · dsimp only; omega
    · dsimp only; omega
    · unfold i64r; dsimp only; omega
    intro k3 p4 d0 d1 d2
    dsimp only at d0 d1 d2
    rw [← hM] at d0 d1
    repeat' ((conv => whnf); first | refine vA ?_ | with_reducible first | refine v8 ?_ | refine Sp.mk ?_ ?_ | refine vS ?_ | refine vR ?_ | refine vB ?_ | refine br_nt ?_ | refine br_tt ?_ | refine br_ff ?_ | refine vP ?_ | refine vQ ?_ | refine vT ?_ | refine vF ?_ | refine br_and ?_ | refine br_or ?_ | refine br_d (fun _ => ?_) fun _ => ?_ | refine vM (fun _ => ?_) fun _ => ?_)
    refine ⟨(P ++ [[⟨0, k2, 1 + k3⟩]], j - 1, p4), ⟨by show 0 ≤ j - 1; omega, by simp; omega, by simp; omega, ?_, ?_⟩, by show (j - 1).toNat < j.toNat; omega, ⟨⟨[some 0, some 1, some 5], [], rfl, rfl, ?_, ?_⟩⟩⟩
    · dsimp only
      rw [sumL_app, i4]
      simp [sumL]
    · intro l hl m hm
      rcases List.mem_append.1 hl with hl | hl
      · exact i5 l hl m hm
      · simp at hl
        subst hl
        simp at hm
        subst hm
        unfold Mark.i64 i64r
        dsimp only
        omega
    · repeat' ((conv => whnf); first | with_reducible exact True.intro | exact vW | with_reducible refine And.intro ?_ ?_)
    · repeat' ((conv => whnf); first | with_reducible exact True.intro | exact vW | with_reducible refine And.intro ?_ ?_)
      all_goals exact Chk.mk one_ext
  · have hP : 1 ≤ P.length := by omega
    have hP2 : sumL P + P.length ≤ 8 := by omega
    have hq : q + 2 * P.length ≤ p2 + 16 := by omega
    have hq2 : p2 ≤ q := by omega
    refine Lp.mk ⟨List (List Mark) × Int, fun x => [(0, .ptr 0 0), (7, .row 1 1 0 x.1.length)],
      fun x => [rdO b x.2, .row 1 x.1.length fun j => encP (x.1.getD j [])],
      fun x => 1 ≤ x.1.length ∧ sumL x.1 + x.1.length ≤ 8 ∧ x.2 + 2 * x.1.length ≤ p2 + 16 ∧ p2 ≤ x.2 ∧ ∀ l ∈ x.1, ∀ m ∈ l, m.i64, fun x => x.1.length, ⟨(P, q), ⟨hP, hP2, hq, hq2, i5⟩, ⟨⟨[some 0, some 2], [], rfl, rfl, ?_, ?_⟩⟩⟩, ?_⟩
    · repeat' ((conv => whnf); first | with_reducible exact True.intro | exact vW | with_reducible refine And.intro ?_ ?_)
    · repeat' ((conv => whnf); first | with_reducible exact True.intro | exact vW | with_reducible refine And.intro ?_ ?_)
    clear i1 i2 i3 i4 i5 hP hP2 hq hq2
    rintro ⟨P, q⟩ ⟨i1, i2, i3, i4, i5⟩
    dsimp only at i1 i2 i3 i4 i5 ⊢
    repeat' ((conv => whnf); first | refine vA ?_ | with_reducible first | refine v8 ?_ | refine Sp.mk ?_ ?_ | refine vS ?_ | refine vR ?_ | refine vB ?_ | refine br_nt ?_ | refine br_tt ?_ | refine br_ff ?_ | refine vP ?_ | refine vQ ?_ | refine vT ?_ | refine vF ?_ | refine br_and ?_ | refine br_or ?_ | refine br_d (fun _ => ?_) fun _ => ?_ | refine vM (fun _ => ?_) fun _ => ?_)
    · refine ⟨_, _, [0], [], rfl, ?_, ?_, (⟨b, q⟩, P.length - 1), rfl, rfl, ⟨⟨h1, h2, ?_, ?_⟩, ?_⟩, ?_⟩
      · repeat' ((conv => whnf); first | with_reducible exact True.intro | exact vW | with_reducible refine And.intro ?_ ?_)
        try exact Chk.mk (by rw [pw_sh (by assumption)])
      · repeat' ((conv => whnf); first | with_reducible exact True.intro | exact vW | with_reducible refine And.intro ?_ ?_)
      · dsimp only; omega
      · dsimp only; omega
      · unfold i64r; dsimp only; omega
      intro a p3 c0 c1 c2
      dsimp only at c0 c1 c2
      obtain ⟨A, hA⟩ : ∃ A, P.getD (0 + a.toNat) [] = A := ⟨_, rfl⟩
      obtain ⟨B, hB⟩ : ∃ B, P.getD (0 + (a + 1).toNat) [] = B := ⟨_, rfl⟩
      have mA : A ∈ P := by rw [← hA]; exact getD_mem' (by omega)
      have mB : B ∈ P := by rw [← hB]; exact getD_mem' (by omega)
      have lA : (P.getD (0 + a.toNat) []).length ≤ 8 := by rw [hA]; have := sumL_mem mA; omega
      have lB : (P.getD (0 + (a + 1).toNat) []).length ≤ 8 := by rw [hB]; have := sumL_mem mB; omega
      repeat' ((conv => whnf); first | refine vA ?_ | with_reducible first | refine v8 ?_ | refine Sp.mk ?_ ?_ | refine vS ?_ | refine vR ?_ | refine vB ?_ | refine br_nt ?_ | refine br_tt ?_ | refine br_ff ?_ | refine vP ?_ | refine vQ ?_ | refine vT ?_ | refine vF ?_ | refine br_and ?_ | refine br_or ?_ | refine br_d (fun _ => ?_) fun _ => ?_ | refine vM (fun _ => ?_) fun _ => ?_)
      refine Dr.mk ⟨(.rd 1 (.rd 2 (.rd 3 (.rd 4 (.rd 6 (.rd 7 (.rd 8 (.rd 9 (.rd 10 (.rd 12 (.ef 0 (.ef 5 (.ef 11 (.ef 13 (.rd 14 (.rd 15 (.ef 16 (.ef 17 (.rd 18 .dn) .no) .no))) .no) .no) .no) .no))))))))))), by decide +kernel, ?_⟩
      repeat' ((conv => whnf); first | refine vA ?_ | with_reducible first | refine v8 ?_ | refine Sp.mk ?_ ?_ | refine vS ?_ | refine vR ?_ | refine vB ?_ | refine br_nt ?_ | refine br_tt ?_ | refine br_ff ?_ | refine vP ?_ | refine vQ ?_ | refine vT ?_ | refine vF ?_ | refine br_and ?_ | refine br_or ?_ | refine br_d (fun _ => ?_) fun _ => ?_ | refine vM (fun _ => ?_) fun _ => ?_)
      refine ⟨_, _, [0], [], rfl, ?_, ?_, (⟨b, p3⟩, 2), rfl, rfl, ⟨⟨h1, h2, ?_, ?_⟩, ?_⟩, ?_⟩
      · repeat' ((conv => whnf); first | with_reducible exact True.intro | exact vW | with_reducible refine And.intro ?_ ?_)
        try exact Chk.mk (by rw [pw_sh (by assumption)])
      · repeat' ((conv => whnf); first | with_reducible exact True.intro | exact vW | with_reducible refine And.intro ?_ ?_)
      · dsimp only; omega
      · dsimp only; omega
      · unfold i64r; dsimp only; omega
      intro k p4 d0 d1 d2
      dsimp only at d0 d1 d2
      repeat' ((conv => whnf); first | with_reducible refine wk_at 12 ?_ | with_reducible refine wk_at1 12 ?_ | with_reducible refine wk_at2 12 ?_ | refine vA ?_ | with_reducible first | refine v8 ?_ | refine Sp.mk ?_ ?_ | refine vS ?_ | refine vR ?_ | refine vB ?_ | refine br_nt ?_ | refine br_tt ?_ | refine br_ff ?_ | refine vP ?_ | refine vQ ?_ | refine vT ?_ | refine vF ?_ | refine br_and ?_ | refine br_or ?_ | refine br_d (fun _ => ?_) fun _ => ?_ | refine vM (fun _ => ?_) fun _ => ?_)
      refine ⟨Wk.go [(0, .ptr 0 0), (7, .row 1 1 0 P.length), (10, .int .i64 a), (11, .row 2 3 0 (P.getD (0 + a.toNat) [] ++ P.getD (0 + (a + 1).toNat) [] ++ [(⟨1 + k, 0, 0⟩ : Mark)]).length)]
        [rdO b p4, .row 1 P.length fun j => encP (P.getD j []), .row 3 (P.getD (0 + a.toNat) [] ++ P.getD (0 + (a + 1).toNat) [] ++ [(⟨1 + k, 0, 0⟩ : Mark)]).length fun j => encM ((P.getD (0 + a.toNat) [] ++ P.getD (0 + (a + 1).toNat) [] ++ [(⟨1 + k, 0, 0⟩ : Mark)]).getD j default)] ⟨⟨[some 0, some 1, some 5], [], rfl, rfl, ?_, ?_⟩⟩ ?_⟩
      · repeat' ((conv => whnf); first | with_reducible exact True.intro | exact vW | with_reducible refine And.intro ?_ ?_)
        all_goals exact Chk.mk ⟨rfl, three_ext.1⟩
      · repeat' ((conv => whnf); first | with_reducible exact True.intro | exact vW | with_reducible refine And.intro ?_ ?_)
        all_goals exact Chk.mk three_ext
      rw [hA] at lA
      rw [hB] at lB
      rw [hA, hB]
      obtain ⟨T, hT⟩ : ∃ T, A ++ B ++ [(⟨1 + k, 0, 0⟩ : Mark)] = T := ⟨_, rfl⟩
      have lT : T.length = A.length + B.length + 1 := by rw [← hT]; simp; omega
      rw [hT]
      repeat' ((conv => whnf); first | refine vA ?_ | with_reducible first | refine v8 ?_ | refine Sp.mk ?_ ?_ | refine vS ?_ | refine vR ?_ | refine vB ?_ | refine br_nt ?_ | refine br_tt ?_ | refine br_ff ?_ | refine vP ?_ | refine vQ ?_ | refine vT ?_ | refine vF ?_ | refine br_and ?_ | refine br_or ?_ | refine br_d (fun _ => ?_) fun _ => ?_ | refine vM (fun _ => ?_) fun _ => ?_)
      have hm := sumL_take_drop P a.toNat (by omega)
      have hA' : P.getD a.toNat [] = A := by rw [← hA, Nat.zero_add]
      have hB' : P.getD (a.toNat + 1) [] = B := by rw [← hB, Nat.zero_add, show (a + 1).toNat = a.toNat + 1 by omega]
      rw [hA', hB', show a.toNat + 2 = (a + 2).toNat by omega] at hm
      refine ⟨(P.take a.toNat ++ [T] ++ P.drop (a + 2).toNat, p4), ⟨?_, ?_, ?_, by show p2 ≤ p4; omega, ?_⟩, ?_, ⟨⟨[some 0, some 6], [], rfl, rfl, ?_, ?_⟩⟩⟩
      · simp; omega
      · dsimp only
        rw [sumL_app, sumL_app]
        simp [sumL]
        omega
      · simp; omega
      · intro l hl m hm
        simp only [List.mem_append, List.mem_singleton] at hl
        rcases hl with (hl | rfl) | hl
        · exact i5 l (List.mem_of_mem_take hl) m hm
        · rw [← hT] at hm
          simp only [List.mem_append, List.mem_singleton] at hm
          rcases hm with (hm | hm) | rfl
          · exact i5 A mA m hm
          · exact i5 B mB m hm
          · unfold Mark.i64 i64r; dsimp only; omega
        · exact i5 l (List.mem_of_mem_drop hl) m hm
      · simp; omega
      · repeat' ((conv => whnf); first | with_reducible exact True.intro | exact vW | with_reducible refine And.intro ?_ ?_)
        all_goals exact Chk.mk ⟨rfl, (merge_ext (by omega) (by omega)).1⟩
      · repeat' ((conv => whnf); first | with_reducible exact True.intro | exact vW | with_reducible refine And.intro ?_ ?_)
        all_goals exact Chk.mk (merge_ext (by omega) (by omega))
    · have hl := sumL_mem (getD_mem' (l := P) (i := 0) (d := []) (by omega))
      repeat' ((conv => whnf); first | refine vA ?_ | with_reducible first | refine v8 ?_ | refine Sp.mk ?_ ?_ | refine vS ?_ | refine vR ?_ | refine vB ?_ | refine br_nt ?_ | refine br_tt ?_ | refine br_ff ?_ | refine vP ?_ | refine vQ ?_ | refine vT ?_ | refine vF ?_ | refine br_and ?_ | refine br_or ?_ | refine br_d (fun _ => ?_) fun _ => ?_ | refine vM (fun _ => ?_) fun _ => ?_)
      refine ⟨_, _, [some 0], [], rfl, rfl, ?_, ?_, h (P.getD 0 []) q (by omega) (by omega) (by omega) (i5 _ (getD_mem' (by omega)))⟩
      · repeat' ((conv => whnf); first | with_reducible exact True.intro | exact vW | with_reducible refine And.intro ?_ ?_)
      · repeat' ((conv => whnf); first | with_reducible exact True.intro | exact vW | with_reducible refine And.intro ?_ ?_)
end Go.Proofs.YtahfdkdneojkmaaDoor.Vc
end
section
/- Part TK: places that are drawn. -/
namespace Go.Proofs.YtahfdkdneojkmaaDoor.Vc
open Go.Proofs
set_option maxRecDepth 10000
set_option maxHeartbeats 4000000
structure drawnP (x : Place) : Prop where
  p0 : 0 ≤ x.p
  p1 : x.p ≤ 7
  bl : x.bs.length ≤ 4
  bb : ∀ b ∈ x.bs, 0 ≤ b ∧ b ≤ 64
  rl : x.rules.length ≤ 4
  rr : ∀ r ∈ x.rules, r.size ≤ 10000
theorem drawnP.I {x : Place} (h : drawnP x) : placeI x := ⟨⟨⟨⟨by have := h.p0; show -9223372036854775808 ≤ x.p; omega, by have := h.p1; show x.p ≤ 9223372036854775807; omega⟩, fun b hb => by have := h.bb b hb; exact ⟨by omega, by omega⟩⟩, by have := h.bl; show x.bs.length < _; omega⟩, by have := h.rl; omega, fun r hr => by have := h.rr r hr; omega⟩
theorem drawnP.len {x : Place} (h : drawnP x) : lenI x := ⟨by have := h.bl; omega, by have := h.rl; omega⟩
theorem ttext_size (h : House) (t : List Mark) : (ttext (h, t)).size ≤ 10000 := by
  unfold ttext
  split
  · rename_i g
    exact text_size (bodies_of g.1) g.2.2 g.2.1
  · exact Nat.zero_le _
theorem set0_ext {l : List ByteArray} {x : ByteArray} {i : Nat} (h : 0 < l.length) : encS ((l.set 0 x).getD i ⟨#[]⟩) = setF (fun j => encS (l.getD j ⟨#[]⟩)) 0 (encS x) (0 + i) := by
  rw [Nat.zero_add]
  unfold setF
  cases i with
  | zero => cases l <;> first | rfl | (simp at h)
  | succ i => cases l <;> first | rfl | simp
def C151 : GC := conG (X := Rd × Int) (fun x => [.ptr 0 0, .int .i64 x.2]) (fun x => [rdO x.1.b x.1.p]) (fun x => x.1.okn 400000000 ∧ i64r x.2) fun x K => ∀ (y : Place) (p' : Int), x.1.p ≤ p' → p' ≤ x.1.p + 250 → drawnP y → K (enPl y) [rdO x.1.b p']
theorem F151 : GG 38 C151 := by
  refine fitG [(70, C173)] (by simp only [List.mem_cons, List.not_mem_nil, or_false]; rintro _ rfl <;> first | exact F173) [(69, C52), (72, C53), (68, C59), (71, C60)] (by simp only [List.mem_cons, List.not_mem_nil, or_false]; rintro _ (rfl | rfl | rfl | rfl) <;> first | exact F52 | exact F53 | exact F59 | exact F60) Tryd.f38 ⟨rfl, by decide +kernel, by decide +kernel⟩ (by intro x K K2 hk h; (try dsimp only at h ⊢); intros; apply hk; first | exact h | (apply h <;> assumption)) ?_
  rintro ⟨⟨b, p⟩, n⟩ K ⟨⟨h1, h2, h3, h4⟩, h5⟩ h
  refine ⟨Nat.le_of_ble_eq_true rfl, ?_⟩
  dsimp only at h h1 h2 h3 h4 h5 ⊢
  repeat' ((conv => whnf); first | refine vA ?_ | with_reducible first | refine v8 ?_ | refine Sp.mk ?_ ?_ | refine vS ?_ | refine vR ?_ | refine vB ?_ | refine br_nt ?_ | refine br_tt ?_ | refine br_ff ?_ | refine vP ?_ | refine vQ ?_ | refine vT ?_ | refine vF ?_ | refine br_and ?_ | refine br_or ?_ | refine br_d (fun _ => ?_) fun _ => ?_ | refine vM (fun _ => ?_) fun _ => ?_)
  refine ⟨_, _, [0], [], rfl, ?_, ?_, (⟨b, p⟩, 0), rfl, rfl, ⟨⟨h1, h2, h3, by dsimp only; omega⟩, by unfold i64r; dsimp only; omega⟩, ?_⟩
  · repeat' ((conv => whnf); first | with_reducible exact True.intro | exact vW | with_reducible refine And.intro ?_ ?_)
  · repeat' ((conv => whnf); first | with_reducible exact True.intro | exact vW | with_reducible refine And.intro ?_ ?_)
  rintro ⟨P, bs⟩ p1 g1 g2 g3 g4 g5
  dsimp only [enH] at g1 g2 g3 g4 g5 ⊢
  repeat' ((conv => whnf); first | refine vA ?_ | with_reducible first | refine v8 ?_ | refine Sp.mk ?_ ?_ | refine vS ?_ | refine vR ?_ | refine vB ?_ | refine br_nt ?_ | refine br_tt ?_ | refine br_ff ?_ | refine vP ?_ | refine vQ ?_ | refine vT ?_ | refine vF ?_ | refine br_and ?_ | refine br_or ?_ | refine br_d (fun _ => ?_) fun _ => ?_ | refine vM (fun _ => ?_) fun _ => ?_)
  refine ⟨_, _, [0], [], rfl, ?_, ?_, (⟨b, p1⟩, 3), rfl, rfl, ⟨⟨h1, h2, ?_, ?_⟩, ?_⟩, ?_⟩
  · repeat' ((conv => whnf); first | with_reducible exact True.intro | exact vW | with_reducible refine And.intro ?_ ?_)
    try exact Chk.mk (by rw [pw_sh (by assumption)])
  · repeat' ((conv => whnf); first | with_reducible exact True.intro | exact vW | with_reducible refine And.intro ?_ ?_)
  · dsimp only; omega
  · dsimp only; omega
  · unfold i64r; dsimp only; omega
  intro k2 p2 a0 a1 a2
  dsimp only at a0 a1 a2
  repeat' ((conv => whnf); first | refine vA ?_ | with_reducible first | refine v8 ?_ | refine Sp.mk ?_ ?_ | refine vS ?_ | refine vR ?_ | refine vB ?_ | refine br_nt ?_ | refine br_tt ?_ | refine br_ff ?_ | refine vP ?_ | refine vQ ?_ | refine vT ?_ | refine vF ?_ | refine br_and ?_ | refine br_or ?_ | refine br_d (fun _ => ?_) fun _ => ?_ | refine vM (fun _ => ?_) fun _ => ?_)
  refine Lp.mk ⟨List ByteArray × Int × Int, fun x => [(0, .ptr 0 0), (1, .int .i64 n), (4, .ptr 1 0), (5, .ptr 2 0), (6, .int .i64 x.2.1)],
    fun x => [rdO b x.2.2, .box [.int .i64 0, .nils, .nils], .box [.int .i64 P, slI bs, .row 3 1 0 x.1.length], .row 1 x.1.length fun j => encS (x.1.getD j ⟨#[]⟩)],
    fun x => 0 ≤ x.2.1 ∧ x.2.1 + x.1.length = 1 + k2 ∧ p2 ≤ x.2.2 ∧ x.2.2 ≤ p2 + 40 * x.1.length ∧ ∀ r ∈ x.1, r.size ≤ 10000, fun x => x.2.1.toNat, ⟨([], 1 + k2, p2), ⟨by show 0 ≤ 1 + k2; omega, by simp, by dsimp only; omega, by simp, by simp⟩, ⟨⟨[some 0, some 1, some 2, none], [], rfl, rfl, ?_, ?_⟩⟩⟩, ?_⟩
  · repeat' ((conv => whnf); first | with_reducible exact True.intro | exact vW | with_reducible refine And.intro ?_ ?_)
  · repeat' ((conv => whnf); first | with_reducible exact True.intro | exact vW | with_reducible refine And.intro ?_ ?_)
  rintro ⟨l, j, q⟩ ⟨i1, i2, i3, i4, i5⟩
  dsimp only at i1 i2 i3 i4 i5 ⊢
  have hI : House.i64 ⟨P, bs⟩ := ⟨⟨by dsimp only; omega, by dsimp only; omega⟩, fun b hb => by have := g5 b hb; exact ⟨by omega, by omega⟩⟩
  repeat' ((conv => whnf); first | refine vA ?_ | with_reducible first | refine v8 ?_ | refine Sp.mk ?_ ?_ | refine vS ?_ | refine vR ?_ | refine vB ?_ | refine br_nt ?_ | refine br_tt ?_ | refine br_ff ?_ | refine vP ?_ | refine vQ ?_ | refine vT ?_ | refine vF ?_ | refine br_and ?_ | refine br_or ?_ | refine br_d (fun _ => ?_) fun _ => ?_ | refine vM (fun _ => ?_) fun _ => ?_)
  · rename_i hj
    refine Dr.mk ⟨(.rd 0 (.rd 1 (.rd 2 (.rd 3 (.rd 4 (.rd 5 (.rd 6 (.ef 7 (.ef 8 (.ef 9 (.ef 10 (.rd 11 (.ef 12 .dn .no)) .no) .no) .no) .no)))))))), by decide +kernel, ?_⟩
    repeat' ((conv => whnf); first | refine vA ?_ | with_reducible first | refine v8 ?_ | refine Sp.mk ?_ ?_ | refine vS ?_ | refine vR ?_ | refine vB ?_ | refine br_nt ?_ | refine br_tt ?_ | refine br_ff ?_ | refine vP ?_ | refine vQ ?_ | refine vT ?_ | refine vF ?_ | refine br_and ?_ | refine br_or ?_ | refine br_d (fun _ => ?_) fun _ => ?_ | refine vM (fun _ => ?_) fun _ => ?_)
    refine ⟨_, _, [0], [], rfl, ?_, ?_, ⟨⟨b, q⟩, ⟨P, bs⟩, 0⟩, rfl, rfl, ⟨⟨h1, h2, by dsimp only; omega, by dsimp only; omega⟩, hI, by dsimp only; omega, by unfold i64r; dsimp only; omega⟩, ?_⟩
    · repeat' ((conv => whnf); first | with_reducible exact True.intro | exact vW | with_reducible refine And.intro ?_ ?_)
    · repeat' ((conv => whnf); first | with_reducible exact True.intro | exact vW | with_reducible refine And.intro ?_ ?_)
    intro t p' t1 t2 t3 t4
    dsimp only at t1 t2 t3 t4 ⊢
    repeat' ((conv => whnf); first | refine vA ?_ | with_reducible first | refine v8 ?_ | refine Sp.mk ?_ ?_ | refine vS ?_ | refine vR ?_ | refine vB ?_ | refine br_nt ?_ | refine br_tt ?_ | refine br_ff ?_ | refine vP ?_ | refine vQ ?_ | refine vT ?_ | refine vF ?_ | refine br_and ?_ | refine br_or ?_ | refine br_d (fun _ => ?_) fun _ => ?_ | refine vM (fun _ => ?_) fun _ => ?_)
    refine ⟨(⟨P, bs⟩, t), ?_, ⟨hI, by dsimp only; omega, t4, by dsimp only; omega⟩, ?_⟩
    · repeat' ((conv => whnf); first | with_reducible exact True.intro | exact vW | with_reducible refine And.intro ?_ ?_)
    have hts := ttext_size ⟨P, bs⟩ t
    repeat' ((conv => whnf); first | refine vA ?_ | with_reducible first | refine v8 ?_ | refine Sp.mk ?_ ?_ | refine vS ?_ | refine vR ?_ | refine vB ?_ | refine br_nt ?_ | refine br_tt ?_ | refine br_ff ?_ | refine vP ?_ | refine vQ ?_ | refine vT ?_ | refine vF ?_ | refine br_and ?_ | refine br_or ?_ | refine br_d (fun _ => ?_) fun _ => ?_ | refine vM (fun _ => ?_) fun _ => ?_)
    refine ⟨(l ++ [ttext (⟨P, bs⟩, t)], j - 1, p'), ⟨by dsimp only; omega, by simp only [List.length_append, List.length_cons, List.length_nil]; omega, by dsimp only; omega, by simp only [List.length_append, List.length_cons, List.length_nil]; omega, fun r hr => ?_⟩, by dsimp only; omega, ⟨⟨[some 0, some 1, some 2, some 5], [], rfl, rfl, ?_, ?_⟩⟩⟩
    · rcases List.mem_append.1 hr with hr | hr
      · exact i5 r hr
      · rw [List.mem_singleton.1 hr]; exact hts
    · repeat' ((conv => whnf); first | with_reducible exact True.intro | exact vW | with_reducible refine And.intro ?_ ?_)
    · repeat' ((conv => whnf); first | with_reducible exact True.intro | exact vW | with_reducible refine And.intro ?_ ?_)
      all_goals first | exact Chk.mk (ext_push rfl) | exact Chk.mk ⟨rfl, by simp⟩
  · have hl : l.length ≤ 3 := by omega
    have hD : ∀ (P' : Int) (l' : List ByteArray), 0 ≤ P' → P' ≤ 7 → l'.length ≤ 4 → (∀ r ∈ l', r.size ≤ 10000) → drawnP ⟨P', bs, l'⟩ := fun P' l' q0 q1 q2 q3 => ⟨q0, q1, g4, g5, q2, q3⟩
    repeat' ((conv => whnf); first | refine vA ?_ | with_reducible first | refine v8 ?_ | refine Sp.mk ?_ ?_ | refine vS ?_ | refine vR ?_ | refine vB ?_ | refine br_nt ?_ | refine br_tt ?_ | refine br_ff ?_ | refine vP ?_ | refine vQ ?_ | refine vT ?_ | refine vF ?_ | refine br_and ?_ | refine br_or ?_ | refine br_d (fun _ => ?_) fun _ => ?_ | refine vM (fun _ => ?_) fun _ => ?_)
    refine ⟨_, _, [0], [], rfl, ?_, ?_, (⟨b, q⟩, n), rfl, rfl, ⟨⟨h1, h2, by dsimp only; omega, by dsimp only; omega⟩, h5⟩, ?_⟩
    · repeat' ((conv => whnf); first | with_reducible exact True.intro | exact vW | with_reducible refine And.intro ?_ ?_)
    · repeat' ((conv => whnf); first | with_reducible exact True.intro | exact vW | with_reducible refine And.intro ?_ ?_)
    intro v p' v1 v2
    dsimp only at v1 v2 ⊢
    repeat' ((conv => whnf); first | refine vA ?_ | with_reducible first | refine v8 ?_ | refine Sp.mk ?_ ?_ | refine vS ?_ | refine vR ?_ | refine vB ?_ | refine br_nt ?_ | refine br_tt ?_ | refine br_ff ?_ | refine vP ?_ | refine vQ ?_ | refine vT ?_ | refine vF ?_ | refine br_and ?_ | refine br_or ?_ | refine br_d (fun _ => ?_) fun _ => ?_ | refine vM (fun _ => ?_) fun _ => ?_)
    · refine ⟨_, _, [0], [], rfl, ?_, ?_, (⟨b, p'⟩, 3), rfl, rfl, ⟨⟨h1, h2, ?_, ?_⟩, ?_⟩, ?_⟩
      · repeat' ((conv => whnf); first | with_reducible exact True.intro | exact vW | with_reducible refine And.intro ?_ ?_)
        try exact Chk.mk (by rw [pw_sh (by assumption)])
      · repeat' ((conv => whnf); first | with_reducible exact True.intro | exact vW | with_reducible refine And.intro ?_ ?_)
      · dsimp only; omega
      · dsimp only; omega
      · unfold i64r; dsimp only; omega
      intro k5 p5 e0 e1 e2
      dsimp only at e0 e1 e2
      repeat' ((conv => whnf); first | refine vA ?_ | with_reducible first | refine v8 ?_ | refine Sp.mk ?_ ?_ | refine vS ?_ | refine vR ?_ | refine vB ?_ | refine br_nt ?_ | refine br_tt ?_ | refine br_ff ?_ | refine vP ?_ | refine vQ ?_ | refine vT ?_ | refine vF ?_ | refine br_and ?_ | refine br_or ?_ | refine br_d (fun _ => ?_) fun _ => ?_ | refine vM (fun _ => ?_) fun _ => ?_)
      · refine ⟨_, _, [some 0], [3], rfl, rfl, ?_, ?_, h ⟨P, bs, l.set 0 ⟨#[40, 65, 49, 41]⟩⟩ p5 (by omega) (by omega) (hD P _ (by omega) (by omega) (by rw [List.length_set]; omega) (fun r hr => (List.mem_or_eq_of_mem_set hr).elim (fun hr => i5 r hr) (fun e => by rw [e]; exact (by decide : (4 : Nat) ≤ 10000))))⟩
        · repeat' ((conv => whnf); first | with_reducible exact True.intro | exact vW | with_reducible refine And.intro ?_ ?_)
          all_goals exact Chk.mk ⟨by rw [List.length_set], by omega, fun i _ => set0_ext (by omega)⟩
        · repeat' ((conv => whnf); first | with_reducible exact True.intro | exact vW | with_reducible refine And.intro ?_ ?_)
      · refine ⟨_, _, [some 0], [3], rfl, rfl, ?_, ?_, h ⟨7, bs, l⟩ p5 (by omega) (by omega) (hD 7 l (by omega) (by omega) (by omega) i5)⟩
        · repeat' ((conv => whnf); first | with_reducible exact True.intro | exact vW | with_reducible refine And.intro ?_ ?_)
          all_goals exact Chk.mk ⟨rfl, by omega, fun i _ => by rw [Nat.zero_add]⟩
        · repeat' ((conv => whnf); first | with_reducible exact True.intro | exact vW | with_reducible refine And.intro ?_ ?_)
      · refine ⟨_, _, [some 0], [], rfl, rfl, ?_, ?_, h default p5 (by omega) (by omega) ⟨by decide, by decide, by decide, (fun _ hb => by cases hb), by decide, (fun _ hb => by cases hb)⟩⟩
        · repeat' ((conv => whnf); first | with_reducible exact True.intro | exact vW | with_reducible refine And.intro ?_ ?_)
        · repeat' ((conv => whnf); first | with_reducible exact True.intro | exact vW | with_reducible refine And.intro ?_ ?_)
    · refine ⟨_, _, [some 0], [3], rfl, rfl, ?_, ?_, h ⟨P, bs, l⟩ p' (by omega) (by omega) (hD P l (by omega) (by omega) (by omega) i5)⟩
      · repeat' ((conv => whnf); first | with_reducible exact True.intro | exact vW | with_reducible refine And.intro ?_ ?_)
        all_goals exact Chk.mk ⟨rfl, by omega, fun i _ => by rw [Nat.zero_add]⟩
      · repeat' ((conv => whnf); first | with_reducible exact True.intro | exact vW | with_reducible refine And.intro ?_ ?_)
def bytesI (l : List Int) : Prop := (∀ n ∈ l, u8r n) ∧ l.length < 9223372036854775808
def dpost (K : AV → Prop) : Prop := ∀ y : Place, drawnP y → K (enPl y)
def C125 : List AV → (AV → Prop) → Prop := con (X := List Int) (fun l => [slB l]) bytesI fun _ K => dpost K
theorem F125 : FF 11 C125 := by
  refine fitX [] (by simp) [(39, C42), (38, C151)] (by simp only [List.mem_cons, List.not_mem_nil, or_false]; rintro _ (rfl | rfl) <;> first | exact F42 | exact F151) Tryd.f11 ⟨rfl, by decide +kernel, by decide +kernel⟩ (fun _ _ _ hk h y hy => hk _ (h y hy)) ?_
  rintro l K hl h
  refine ⟨Nat.le_of_ble_eq_true rfl, ?_⟩
  repeat' ((conv => whnf); first | refine vA ?_ | with_reducible first | refine v8 ?_ | refine Sp.mk ?_ ?_ | refine vS ?_ | refine vR ?_ | refine vB ?_ | refine br_nt ?_ | refine br_tt ?_ | refine br_ff ?_ | refine vP ?_ | refine vQ ?_ | refine vT ?_ | refine vF ?_ | refine br_and ?_ | refine br_or ?_ | refine br_d (fun _ => ?_) fun _ => ?_ | refine vM (fun _ => ?_) fun _ => ?_)
  refine ⟨_, _, [], [], rfl, ?_, ?_, l, rfl, rfl, ⟨hl⟩, ?_⟩
  · repeat' ((conv => whnf); first | with_reducible exact True.intro | exact vW | with_reducible refine And.intro ?_ ?_)
  · repeat' ((conv => whnf); first | with_reducible exact True.intro | exact vW | with_reducible refine And.intro ?_ ?_)
  intro b hb
  dsimp only
  repeat' ((conv => whnf); first | refine vA ?_ | with_reducible first | refine v8 ?_ | refine Sp.mk ?_ ?_ | refine vS ?_ | refine vR ?_ | refine vB ?_ | refine br_nt ?_ | refine br_tt ?_ | refine br_ff ?_ | refine vP ?_ | refine vQ ?_ | refine vT ?_ | refine vF ?_ | refine br_and ?_ | refine br_or ?_ | refine br_d (fun _ => ?_) fun _ => ?_ | refine vM (fun _ => ?_) fun _ => ?_)
  refine ⟨_, _, [1], [], rfl, ?_, ?_, (⟨b, 0⟩, 2), rfl, rfl, ⟨⟨hb.1, hb.2.1, by dsimp only; omega, by dsimp only; omega⟩, by unfold i64r; dsimp only; omega⟩, ?_⟩
  · repeat' ((conv => whnf); first | with_reducible exact True.intro | exact vW | with_reducible refine And.intro ?_ ?_)
  · repeat' ((conv => whnf); first | with_reducible exact True.intro | exact vW | with_reducible refine And.intro ?_ ?_)
  intro y p' _ _ hy
  repeat' ((conv => whnf); first | refine vA ?_ | with_reducible first | refine v8 ?_ | refine Sp.mk ?_ ?_ | refine vS ?_ | refine vR ?_ | refine vB ?_ | refine br_nt ?_ | refine br_tt ?_ | refine br_ff ?_ | refine vP ?_ | refine vQ ?_ | refine vT ?_ | refine vF ?_ | refine br_and ?_ | refine br_or ?_ | refine br_d (fun _ => ?_) fun _ => ?_ | refine vM (fun _ => ?_) fun _ => ?_)
  exact h y hy
def C131 := C125
theorem F131 : FF 18 C131 := by
  refine fitX [] (by simp) [(39, C42), (38, C151)] (by simp only [List.mem_cons, List.not_mem_nil, or_false]; rintro _ (rfl | rfl) <;> first | exact F42 | exact F151) Tryd.f18 ⟨rfl, by decide +kernel, by decide +kernel⟩ (fun _ _ _ hk h y hy => hk _ (h y hy)) ?_
  rintro l K hl h
  refine ⟨Nat.le_of_ble_eq_true rfl, ?_⟩
  repeat' ((conv => whnf); first | refine vA ?_ | with_reducible first | refine v8 ?_ | refine Sp.mk ?_ ?_ | refine vS ?_ | refine vR ?_ | refine vB ?_ | refine br_nt ?_ | refine br_tt ?_ | refine br_ff ?_ | refine vP ?_ | refine vQ ?_ | refine vT ?_ | refine vF ?_ | refine br_and ?_ | refine br_or ?_ | refine br_d (fun _ => ?_) fun _ => ?_ | refine vM (fun _ => ?_) fun _ => ?_)
  refine ⟨_, _, [], [], rfl, ?_, ?_, l, rfl, rfl, ⟨hl⟩, ?_⟩
  · repeat' ((conv => whnf); first | with_reducible exact True.intro | exact vW | with_reducible refine And.intro ?_ ?_)
  · repeat' ((conv => whnf); first | with_reducible exact True.intro | exact vW | with_reducible refine And.intro ?_ ?_)
  intro b hb
  dsimp only
  repeat' ((conv => whnf); first | refine vA ?_ | with_reducible first | refine v8 ?_ | refine Sp.mk ?_ ?_ | refine vS ?_ | refine vR ?_ | refine vB ?_ | refine br_nt ?_ | refine br_tt ?_ | refine br_ff ?_ | refine vP ?_ | refine vQ ?_ | refine vT ?_ | refine vF ?_ | refine br_and ?_ | refine br_or ?_ | refine br_d (fun _ => ?_) fun _ => ?_ | refine vM (fun _ => ?_) fun _ => ?_)
  refine ⟨_, _, [1], [], rfl, ?_, ?_, (⟨b, 0⟩, 3), rfl, rfl, ⟨⟨hb.1, hb.2.1, by dsimp only; omega, by dsimp only; omega⟩, by unfold i64r; dsimp only; omega⟩, ?_⟩
  · repeat' ((conv => whnf); first | with_reducible exact True.intro | exact vW | with_reducible refine And.intro ?_ ?_)
  · repeat' ((conv => whnf); first | with_reducible exact True.intro | exact vW | with_reducible refine And.intro ?_ ?_)
  intro y p' _ _ hy
  repeat' ((conv => whnf); first | refine vA ?_ | with_reducible first | refine v8 ?_ | refine Sp.mk ?_ ?_ | refine vS ?_ | refine vR ?_ | refine vB ?_ | refine br_nt ?_ | refine br_tt ?_ | refine br_ff ?_ | refine vP ?_ | refine vQ ?_ | refine vT ?_ | refine vF ?_ | refine br_and ?_ | refine br_or ?_ | refine br_d (fun _ => ?_) fun _ => ?_ | refine vM (fun _ => ?_) fun _ => ?_)
  exact h y hy
/-! ### A further body leaves terms what they are -/
theorem stepP_more' {bs cs : List Int} {m : Mark} {k j : Nat} (h : stepP bs m k = some j) : stepP (bs ++ cs) m k = some j := by
  unfold stepP at h ⊢
  split at h
  · rename_i g
    obtain ⟨g0, g1, g2, g3, g4⟩ := g
    have e : (bs ++ cs).getD m.at_.toNat 0 = bs.getD m.at_.toNat 0 := by
      rw [List.getD_eq_getElem?_getD, List.getElem?_append_left (by omega), ← List.getD_eq_getElem?_getD]
    rw [if_pos ⟨g0, g1, by rw [List.length_append]; omega, g3, by rw [e]; exact g4⟩]
    exact h
  · rename_i g
    split at h
    · rename_i g2
      rw [if_neg (by omega), if_pos g2]
      exact h
    · cases h
theorem walkP_more {bs cs : List Int} : ∀ {t : List Mark} {k j : Nat}, walkP bs t k = some j → walkP (bs ++ cs) t k = some j
  | [], _, _, h => h
  | m :: t, k, j, h => by
    simp only [walkP] at h ⊢
    cases e : stepP bs m k with
    | none => rw [e] at h; cases h
    | some i =>
      rw [e] at h
      rw [stepP_more' e]
      exact walkP_more (t := t) h
theorem house_more {p : Int} {bs : List Int} {c : Int} (h : houseOk ⟨p, bs⟩) (hl : bs.length < 4) (hc : crowd p c) (h0 : c ≠ 0) : houseOk ⟨p, bs ++ [c]⟩ :=
  ⟨h.1, by show (bs ++ [c]).length ≤ 4; simp only [List.length_append, List.length_cons, List.length_nil]; omega, fun b hb => (List.mem_append.1 hb).elim (fun hb => h.2.2 b hb) fun hb => by rw [List.mem_singleton.1 hb]; exact ⟨hc, h0⟩⟩
theorem bad_more {p : Int} {bs : List Int} {c : Int} {r : ByteArray} (hh : houseOk ⟨p, bs ++ [c]⟩) (h : bad ⟨p, bs⟩ r = false) : bad ⟨p, bs ++ [c]⟩ r = false := by
  obtain ⟨t, ht⟩ := bad_term h
  obtain ⟨g1, g2, g3⟩ := (rdT_iff (by decide)).1 ht
  have : rdT 49 ⟨p, bs ++ [c]⟩ r = some t := (rdT_iff (by decide)).2 ⟨g1, ⟨hh, g2.2.1, walkP_more g2.2.2⟩, g3⟩
  unfold bad
  rw [this]
  rfl
theorem place_more {p : Int} {bs : List Int} {rs : List ByteArray} {c : Int} (h : placeOk ⟨p, bs, rs⟩) (hl : bs.length < 4) (hc : crowd p c) (h0 : c ≠ 0) : placeOk ⟨p, bs ++ [c], rs⟩ := by
  have hh := house_more (c := c) h.1 hl hc h0
  exact ⟨hh, h.2.1, fun r hr => bad_more hh (h.2.2 r hr)⟩
theorem place_first {p : Int} {bs : List Int} {rs : List ByteArray} (h : placeOk ⟨p, bs, rs⟩) : placeOk ⟨p, bs, rs.take 1⟩ := by
  have := h.2.1
  dsimp only at this
  refine ⟨h.1, ?_, fun r hr => h.2.2 r (List.mem_of_mem_take hr)⟩
  dsimp only
  rw [List.length_take]
  omega
theorem crowd_one {p : Int} (h : people p) : crowd p 1 := ⟨h, by decide, by have := pw_le h; omega⟩
theorem no_place : ¬ placeOk default := fun h => by
  have := h.1.1.1
  exact absurd this (by decide)
theorem take1_ext {l : List ByteArray} {i : Nat} (h : i < 1) : encS (l.getD (0 + i) ⟨#[]⟩) = encS ((l.take 1).getD i ⟨#[]⟩) := by
  rw [Nat.zero_add, List.getD_eq_getElem?_getD, List.getD_eq_getElem?_getD, List.getElem?_take_of_lt h]
def C117 : List AV → (AV → Prop) → Prop := con (X := List Int) (fun l => [slB l]) bytesI fun _ K => K (.bool true)
theorem F117 : FF 3 C117 := by
  refine fitE [(11, C125), (12, C126), (13, C127), (14, C22)] (by simp only [List.mem_cons, List.not_mem_nil, or_false]; rintro _ (rfl | rfl | rfl | rfl) <;> first | exact F125 | exact F126 | exact F127 | exact F22) Tryd.f3 ⟨rfl, by decide +kernel, by decide +kernel⟩ (fun _ _ _ hk h => hk _ h) ?_
  rintro l K hl h
  refine ⟨Nat.le_of_ble_eq_true rfl, ?_⟩
  have hll := hl.2
  repeat' ((conv => whnf); first | refine vA ?_ | with_reducible first | refine v8 ?_ | refine Sp.mk ?_ ?_ | refine vS ?_ | refine vR ?_ | refine vB ?_ | refine br_nt ?_ | refine br_tt ?_ | refine br_ff ?_ | refine vP ?_ | refine vQ ?_ | refine vT ?_ | refine vF ?_ | refine br_and ?_ | refine br_or ?_ | refine br_d (fun _ => ?_) fun _ => ?_ | refine vM (fun _ => ?_) fun _ => ?_)
  · exact h
  refine ⟨l, ?_, ⟨hl⟩, ?_⟩
  · repeat' ((conv => whnf); first | with_reducible exact True.intro | exact vW | with_reducible refine And.intro ?_ ?_)
  rintro ⟨p, bs, rs⟩ hy
  have hI := hy.I
  dsimp only [enPl, plC]
  have hbb : (decide (placeOk ⟨p, bs, rs⟩) == decide (placeOk ⟨p, bs, rs⟩)) = true := beq_self_eq_true _
  repeat' ((conv => whnf); first | refine vA ?_ | with_reducible first | refine v8 ?_ | refine Sp.mk ?_ ?_ | refine vS ?_ | refine vR ?_ | refine vB ?_ | refine br_nt ?_ | refine br_tt ?_ | refine br_ff ?_ | refine vP ?_ | refine vQ ?_ | refine vT ?_ | refine vF ?_ | refine br_and ?_ | refine br_or ?_ | refine br_d (fun _ => ?_) fun _ => ?_ | refine vM (fun _ => ?_) fun _ => ?_)
  refine ⟨⟨p, bs, rs⟩, ?_, ⟨hI⟩, ?_⟩
  · repeat' ((conv => whnf); first | with_reducible exact True.intro | exact vW | with_reducible refine And.intro ?_ ?_)
  repeat' ((conv => whnf); first | refine vA ?_ | with_reducible first | refine v8 ?_ | refine Sp.mk ?_ ?_ | refine vS ?_ | refine vR ?_ | refine vB ?_ | refine br_nt ?_ | refine br_tt ?_ | refine br_ff ?_ | refine vP ?_ | refine vQ ?_ | refine vT ?_ | refine vF ?_ | refine br_and ?_ | refine br_or ?_ | refine br_d (fun _ => ?_) fun _ => ?_ | refine vM (fun _ => ?_) fun _ => ?_)
  refine ⟨⟨p, bs, rs⟩, ?_, ⟨hI⟩, ?_⟩
  · repeat' ((conv => whnf); first | with_reducible exact True.intro | exact vW | with_reducible refine And.intro ?_ ?_)
  repeat' ((conv => whnf); first | refine vA ?_ | with_reducible first | refine v8 ?_ | refine Sp.mk ?_ ?_ | refine vS ?_ | refine vR ?_ | refine vB ?_ | refine br_nt ?_ | refine br_tt ?_ | refine br_ff ?_ | refine vP ?_ | refine vQ ?_ | refine vT ?_ | refine vF ?_ | refine br_and ?_ | refine br_or ?_ | refine br_d (fun _ => ?_) fun _ => ?_ | refine vM (fun _ => ?_) fun _ => ?_)
  · rename_i hO
    replace hO : placeOk ⟨p, bs, rs⟩ := hO
    have b1 := hy.bl
    have b2 := hy.rl
    have b3 := hO.2.1.1
    dsimp only at b1 b2 b3
    have hx := ext_push (enc := encI) (d := 0) (l := bs) (x := (1 : Int)) (g := fun i => [[AV.int .i64 1]].getD (0 + i) [.int .i64 0]) rfl
    have hx' : (bs ++ [(1 : Int)]).length = bs.length + 1 ∧ 0 + (bs.length + 1) ≤ bs.length + 1 ∧ ∀ i, i < (bs ++ [(1 : Int)]).length → encI ((bs ++ [(1 : Int)]).getD i 0) = appF bs.length (fun i => encI (bs.getD i 0)) (fun i => [[AV.int .i64 1]].getD (0 + i) [.int .i64 0]) (0 + i) := ⟨hx.1, by omega, fun i hi => by rw [Nat.zero_add]; exact hx.2 i hi⟩
    refine Dr.mk ⟨(.rd 0 (.rd 1 (.rd 2 (.rd 4 (.rd 5 (.rd 6 (.rd 11 (.rd 12 (.ef 3 (.ef 7 (.ef 8 (.ef 9 (.rd 10 (.rd 13 (.ef 14 (.ef 15 .dn .no) .no))) (.ef 14 (.ef 9 (.rd 10 (.rd 13 (.ef 15 .dn .no))) .no) .no)) (.ef 14 (.ef 8 (.ef 9 (.rd 10 (.rd 13 (.ef 15 .dn .no))) .no) .no) .no)) (.ef 8 (.ef 7 (.ef 9 (.rd 10 (.rd 13 (.ef 14 (.ef 15 .dn .no) .no))) (.ef 14 (.ef 9 (.rd 10 (.rd 13 (.ef 15 .dn .no))) .no) .no)) (.ef 14 (.ef 7 (.ef 9 (.rd 10 (.rd 13 (.ef 15 .dn .no))) .no) .no) .no)) (.ef 14 (.ef 7 (.ef 8 (.ef 9 (.rd 10 (.rd 13 (.ef 15 .dn .no))) .no) .no) (.ef 8 (.ef 7 (.ef 9 (.rd 10 (.rd 13 (.ef 15 .dn .no))) .no) .no) .no)) .no))) (.ef 8 (.ef 3 (.ef 7 (.ef 9 (.rd 10 (.rd 13 (.ef 14 (.ef 15 .dn .no) .no))) (.ef 14 (.ef 9 (.rd 10 (.rd 13 (.ef 15 .dn .no))) .no) .no)) (.ef 14 (.ef 7 (.ef 9 (.rd 10 (.rd 13 (.ef 15 .dn .no))) .no) .no) .no)) (.ef 14 (.ef 3 (.ef 7 (.ef 9 (.rd 10 (.rd 13 (.ef 15 .dn .no))) .no) .no) .no) .no)) (.ef 14 (.ef 3 (.ef 7 (.ef 8 (.ef 9 (.rd 10 (.rd 13 (.ef 15 .dn .no))) .no) .no) (.ef 8 (.ef 7 (.ef 9 (.rd 10 (.rd 13 (.ef 15 .dn .no))) .no) .no) .no)) (.ef 8 (.ef 3 (.ef 7 (.ef 9 (.rd 10 (.rd 13 (.ef 15 .dn .no))) .no) .no) .no) .no)) .no))))))))))), by decide +kernel, ?_⟩
    repeat' ((conv => whnf); first | with_reducible refine wk_at 10 ?_ | with_reducible refine wk_at1 10 ?_ | with_reducible refine wk_at2 10 ?_ | refine vA ?_ | with_reducible first | refine v8 ?_ | refine Sp.mk ?_ ?_ | refine vS ?_ | refine vR ?_ | refine vB ?_ | refine br_nt ?_ | refine br_tt ?_ | refine br_ff ?_ | refine vP ?_ | refine vQ ?_ | refine vT ?_ | refine vF ?_ | refine br_and ?_ | refine br_or ?_ | refine br_d (fun _ => ?_) fun _ => ?_ | refine vM (fun _ => ?_) fun _ => ?_)
    all_goals
      refine ⟨Wk.go [(3, .ptr 0 0), (5, .ptr 1 0)] [.box (plC ⟨p, bs, rs⟩), .box (plC ⟨p, bs ++ [1], rs⟩)] ?_ ?_⟩
      · first | (refine ⟨⟨[some 0, some 3], [4], rfl, rfl, ?_, ?_⟩⟩ <;> (repeat' ((conv => whnf); first | with_reducible exact True.intro | exact vW | with_reducible refine And.intro ?_ ?_)) <;> fail) | (refine ⟨⟨[some 0, some 2], [4], rfl, rfl, ?_, ?_⟩⟩ <;> (repeat' ((conv => whnf); first | with_reducible exact True.intro | exact vW | with_reducible refine And.intro ?_ ?_)) <;> fail) | (refine ⟨⟨[some 0, some 4], [3], rfl, rfl, ?_, ?_⟩⟩ <;> (repeat' ((conv => whnf); first | with_reducible exact True.intro | exact vW | with_reducible refine And.intro ?_ ?_)) <;> fail) | (refine ⟨⟨[some 0, some 2], [3], rfl, rfl, ?_, ?_⟩⟩ <;> (repeat' ((conv => whnf); first | with_reducible exact True.intro | exact vW | with_reducible refine And.intro ?_ ?_)) <;> fail) | (refine ⟨⟨[some 0, some 1], [4], rfl, rfl, ?_, ?_⟩⟩ <;> (repeat' ((conv => whnf); first | with_reducible exact True.intro | exact vW | with_reducible refine And.intro ?_ ?_)) <;> fail) | (refine ⟨⟨[some 0, some 1], [3], rfl, rfl, ?_, ?_⟩⟩ <;> (repeat' ((conv => whnf); first | with_reducible exact True.intro | exact vW | with_reducible refine And.intro ?_ ?_)) <;> fail)
    all_goals
      have hf := place_first hO
      dsimp only [plC]
      repeat' ((conv => whnf); first | refine vA ?_ | with_reducible first | refine v8 ?_ | refine Sp.mk ?_ ?_ | refine vS ?_ | refine vR ?_ | refine vB ?_ | refine br_nt ?_ | refine br_tt ?_ | refine br_ff ?_ | refine vP ?_ | refine vQ ?_ | refine vT ?_ | refine vF ?_ | refine br_and ?_ | refine br_or ?_ | refine br_d (fun _ => ?_) fun _ => ?_ | refine vM (fun _ => ?_) fun _ => ?_)
      refine Dr.mk ⟨(.rd 0 (.rd 1 (.rd 2 (.rd 3 (.rd 4 (.rd 5 (.ef 6 (.rd 7 (.rd 8 (.rd 9 (.rd 10 (.rd 11 (.rd 12 (.rd 13 (.rd 14 (.ef 15 (.rd 16 (.rd 17 (.rd 18 (.ef 19 (.rd 20 (.rd 21 .dn)) .no)))) .no))))))))) .no))))))), by decide +kernel, ?_⟩
      repeat' ((conv => whnf); first | refine vA ?_ | with_reducible first | refine v8 ?_ | refine Sp.mk ?_ ?_ | refine vS ?_ | refine vR ?_ | refine vB ?_ | refine br_nt ?_ | refine br_tt ?_ | refine br_ff ?_ | refine vP ?_ | refine vQ ?_ | refine vT ?_ | refine vF ?_ | refine br_and ?_ | refine br_or ?_ | refine br_d (fun _ => ?_) fun _ => ?_ | refine vM (fun _ => ?_) fun _ => ?_)
      refine ⟨⟨p, bs, rs.take 1⟩, ?_, ⟨hI.1, by dsimp only; rw [List.length_take]; omega, fun r hr => hI.2.2 r (List.mem_of_mem_take hr)⟩, ?_⟩
      · repeat' ((conv => whnf); first | with_reducible exact True.intro | exact vW | with_reducible refine And.intro ?_ ?_)
        all_goals exact Chk.mk ⟨by rw [List.length_take]; show 1 - 0 = _; omega, fun i hi => take1_ext hi⟩
      by_cases h4 : (bs.length : Int) ≥ 4
      · repeat' ((conv => whnf); first | refine vA ?_ | with_reducible first | refine v8 ?_ | refine Sp.mk ?_ ?_ | refine vS ?_ | refine vR ?_ | refine vB ?_ | refine br_nt ?_ | refine br_tt ?_ | refine br_ff ?_ | refine vP ?_ | refine vQ ?_ | refine vT ?_ | refine vF ?_ | refine br_and ?_ | refine br_or ?_ | refine br_d (fun _ => ?_) fun _ => ?_ | refine vM (fun _ => ?_) fun _ => ?_)
        refine ⟨(), ?_, ⟨trivial⟩, ?_⟩
        · repeat' ((conv => whnf); first | with_reducible exact True.intro | exact vW | with_reducible refine And.intro ?_ ?_)
        repeat' ((conv => whnf); first | refine vA ?_ | with_reducible first | refine v8 ?_ | refine Sp.mk ?_ ?_ | refine vS ?_ | refine vR ?_ | refine vB ?_ | refine br_nt ?_ | refine br_tt ?_ | refine br_ff ?_ | refine vP ?_ | refine vQ ?_ | refine vT ?_ | refine vF ?_ | refine br_and ?_ | refine br_or ?_ | refine br_d (fun _ => ?_) fun _ => ?_ | refine vM (fun _ => ?_) fun _ => ?_)
        exact h
      · have hm := place_more hO (by omega) (crowd_one hO.1.1) (by decide)
        repeat' ((conv => whnf); first | refine vA ?_ | with_reducible first | refine v8 ?_ | refine Sp.mk ?_ ?_ | refine vS ?_ | refine vR ?_ | refine vB ?_ | refine br_nt ?_ | refine br_tt ?_ | refine br_ff ?_ | refine vP ?_ | refine vQ ?_ | refine vT ?_ | refine vF ?_ | refine br_and ?_ | refine br_or ?_ | refine br_d (fun _ => ?_) fun _ => ?_ | refine vM (fun _ => ?_) fun _ => ?_)
        refine ⟨⟨p, bs ++ [1], rs⟩, ?_, ⟨⟨⟨hI.1.1.1, fun b hb => (List.mem_append.1 hb).elim (fun hb => hI.1.1.2 b hb) fun hb => by rw [List.mem_singleton.1 hb]; exact ⟨by decide, by decide⟩⟩, by show (bs ++ [1]).length < _; rw [hx.1]; omega⟩, hI.2⟩, ?_⟩
        · repeat' ((conv => whnf); first | with_reducible exact True.intro | exact vW | with_reducible refine And.intro ?_ ?_)
        repeat' ((conv => whnf); first | refine vA ?_ | with_reducible first | refine v8 ?_ | refine Sp.mk ?_ ?_ | refine vS ?_ | refine vR ?_ | refine vB ?_ | refine br_nt ?_ | refine br_tt ?_ | refine br_ff ?_ | refine vP ?_ | refine vQ ?_ | refine vT ?_ | refine vF ?_ | refine br_and ?_ | refine br_or ?_ | refine br_d (fun _ => ?_) fun _ => ?_ | refine vM (fun _ => ?_) fun _ => ?_)
        refine ⟨(), ?_, ⟨trivial⟩, ?_⟩
        · repeat' ((conv => whnf); first | with_reducible exact True.intro | exact vW | with_reducible refine And.intro ?_ ?_)
        repeat' ((conv => whnf); first | refine vA ?_ | with_reducible first | refine v8 ?_ | refine Sp.mk ?_ ?_ | refine vS ?_ | refine vR ?_ | refine vB ?_ | refine br_nt ?_ | refine br_tt ?_ | refine br_ff ?_ | refine vP ?_ | refine vQ ?_ | refine vT ?_ | refine vF ?_ | refine br_and ?_ | refine br_or ?_ | refine br_d (fun _ => ?_) fun _ => ?_ | refine vM (fun _ => ?_) fun _ => ?_)
        exact h
  · rename_i hO
    refine ⟨default, ?_, ⟨⟨⟨⟨by decide, by decide⟩, fun _ hb => by cases hb⟩, by decide⟩, by decide, fun _ hb => by cases hb⟩, ?_⟩
    · repeat' ((conv => whnf); first | with_reducible exact True.intro | exact vW | with_reducible refine And.intro ?_ ?_)
    have hno := no_place
    repeat' ((conv => whnf); first | refine vA ?_ | with_reducible first | refine v8 ?_ | refine Sp.mk ?_ ?_ | refine vS ?_ | refine vR ?_ | refine vB ?_ | refine br_nt ?_ | refine br_tt ?_ | refine br_ff ?_ | refine vP ?_ | refine vQ ?_ | refine vT ?_ | refine vF ?_ | refine br_and ?_ | refine br_or ?_ | refine br_d (fun _ => ?_) fun _ => ?_ | refine vM (fun _ => ?_) fun _ => ?_)
    refine ⟨(), ?_, ⟨trivial⟩, ?_⟩
    · repeat' ((conv => whnf); first | with_reducible exact True.intro | exact vW | with_reducible refine And.intro ?_ ?_)
    repeat' ((conv => whnf); first | refine vA ?_ | with_reducible first | refine v8 ?_ | refine Sp.mk ?_ ?_ | refine vS ?_ | refine vR ?_ | refine vB ?_ | refine br_nt ?_ | refine br_tt ?_ | refine br_ff ?_ | refine vP ?_ | refine vQ ?_ | refine vT ?_ | refine vF ?_ | refine br_and ?_ | refine br_or ?_ | refine br_d (fun _ => ?_) fun _ => ?_ | refine vM (fun _ => ?_) fun _ => ?_)
    exact h
end Go.Proofs.YtahfdkdneojkmaaDoor.Vc
end
section
/- Part TV: the law that new desks share no memory. -/
namespace Go.Proofs.YtahfdkdneojkmaaDoor.Vc
open Go.Proofs
set_option maxRecDepth 10000
set_option maxHeartbeats 4000000
def C124 : List AV → (AV → Prop) → Prop := con (X := Place) (fun x => [enPl x]) placeI fun _ K => K (.bool true)
theorem F124 : FF 10 C124 := by
  refine fitX [(15, C128), (17, C130), (28, C141), (37, C150), (66, C171)] (by simp only [List.mem_cons, List.not_mem_nil, or_false]; rintro _ (rfl | rfl | rfl | rfl | rfl) <;> first | exact F128 | exact F130 | exact F141 | exact F150 | exact F171) [(16, C129g), (19, C132r), (20, C133r), (35, C148), (36, C149)] (by simp only [List.mem_cons, List.not_mem_nil, or_false]; rintro _ (rfl | rfl | rfl | rfl | rfl) <;> first | exact F129g | exact F132r | exact F133r | exact F148 | exact F149) Tryd.f10 ⟨rfl, by decide +kernel, by decide +kernel⟩ (fun _ _ _ hk h => hk _ h) ?_
  rintro ⟨p, bs, rs⟩ K hI h
  refine ⟨Nat.le_of_ble_eq_true rfl, ?_⟩
  dsimp only [enPl, plC]
  repeat' ((conv => whnf); first | refine vA ?_ | with_reducible first | refine v8 ?_ | refine Sp.mk ?_ ?_ | refine vS ?_ | refine vR ?_ | refine vB ?_ | refine br_nt ?_ | refine br_tt ?_ | refine br_ff ?_ | refine vP ?_ | refine vQ ?_ | refine vT ?_ | refine vF ?_ | refine br_and ?_ | refine br_or ?_ | refine br_d (fun _ => ?_) fun _ => ?_ | refine vM (fun _ => ?_) fun _ => ?_)
  refine ⟨(⟨p, bs, rs⟩, 1048576), ?_, ⟨hI, by dsimp only; omega, by dsimp only; omega⟩, ?_⟩
  · repeat' ((conv => whnf); first | with_reducible exact True.intro | exact vW | with_reducible refine And.intro ?_ ?_)
  intro v v1 v2 v3
  dsimp only at v2 v3
  repeat' ((conv => whnf); first | refine vA ?_ | with_reducible first | refine v8 ?_ | refine Sp.mk ?_ ?_ | refine vS ?_ | refine vR ?_ | refine vB ?_ | refine br_nt ?_ | refine br_tt ?_ | refine br_ff ?_ | refine vP ?_ | refine vQ ?_ | refine vT ?_ | refine vF ?_ | refine br_and ?_ | refine br_or ?_ | refine br_d (fun _ => ?_) fun _ => ?_ | refine vM (fun _ => ?_) fun _ => ?_)
  · exact h
  rename_i hv
  have hf := v3 (by omega)
  have hok : okPl ⟨p, bs, rs⟩ := ⟨by have := hf.1; dsimp only at this ⊢; omega, by have := hf.2.1; dsimp only at this ⊢; omega⟩
  apply later
  · intro key
    repeat' ((conv => whnf); first | refine vA ?_ | with_reducible first | refine v8 ?_ | refine Sp.mk ?_ ?_ | refine vS ?_ | refine vR ?_ | refine vB ?_ | refine br_nt ?_ | refine br_tt ?_ | refine br_ff ?_ | refine vP ?_ | refine vQ ?_ | refine vT ?_ | refine vF ?_ | refine br_and ?_ | refine br_or ?_ | refine br_d (fun _ => ?_) fun _ => ?_ | refine vM (fun _ => ?_) fun _ => ?_)
    refine ⟨_, _, [], [], rfl, ?_, ?_, ⟨p, bs, rs⟩, rfl, rfl, ⟨hok⟩, ?_⟩
    · repeat' ((conv => whnf); first | with_reducible exact True.intro | exact vW | with_reducible refine And.intro ?_ ?_)
    · repeat' ((conv => whnf); first | with_reducible exact True.intro | exact vW | with_reducible refine And.intro ?_ ?_)
    dsimp only [plG, plO]
    repeat' ((conv => whnf); first | refine vA ?_ | with_reducible first | refine v8 ?_ | refine Sp.mk ?_ ?_ | refine vS ?_ | refine vR ?_ | refine vB ?_ | refine br_nt ?_ | refine br_tt ?_ | refine br_ff ?_ | refine vP ?_ | refine vQ ?_ | refine vT ?_ | refine vF ?_ | refine br_and ?_ | refine br_or ?_ | refine br_d (fun _ => ?_) fun _ => ?_ | refine vM (fun _ => ?_) fun _ => ?_)
    refine ⟨_, _, [1, 2], [], rfl, ?_, ?_, ⟨p, bs, rs⟩, rfl, rfl, ⟨hI⟩, ?_⟩
    · repeat' ((conv => whnf); first | with_reducible exact True.intro | exact vW | with_reducible refine And.intro ?_ ?_)
    · repeat' ((conv => whnf); first | with_reducible exact True.intro | exact vW | with_reducible refine And.intro ?_ ?_)
    refine ⟨fun hO => ?_, fun hO => ?_⟩
    · dsimp only [newG, plO, List.cons_append, List.nil_append]
      repeat' ((conv => whnf); first | with_reducible refine wk_at 6 ?_ | with_reducible refine wk_at1 6 ?_ | with_reducible refine wk_at2 6 ?_ | refine vA ?_ | with_reducible first | refine v8 ?_ | refine Sp.mk ?_ ?_ | refine vS ?_ | refine vR ?_ | refine vB ?_ | refine br_nt ?_ | refine br_tt ?_ | refine br_ff ?_ | refine vP ?_ | refine vQ ?_ | refine vT ?_ | refine vF ?_ | refine br_and ?_ | refine br_or ?_ | refine br_d (fun _ => ?_) fun _ => ?_ | refine vM (fun _ => ?_) fun _ => ?_)
      obtain ⟨y, hy⟩ : ∃ y : Place, (⟨p, bs, rs⟩ : Place) = y := ⟨_, rfl⟩
      obtain ⟨o, ho⟩ : ∃ o : Bool, true = o := ⟨_, rfl⟩
      have hyp : (placeOk ⟨p, bs, rs⟩ ∧ y = ⟨p, bs, rs⟩ ∧ o = true) ∨ (¬ placeOk ⟨p, bs, rs⟩ ∧ y = default ∧ o = false) := .inl ⟨hO, hy.symm, ho.symm⟩
      refine ⟨Wk.go [(1, .ptr 0 0), (4, .ptr 1 0), (5, .bool o)] [.box [.int .i64 p, slI bs, slS rs], .box [.int .i64 y.p, slI y.bs, slS y.rules, .nils]] ⟨⟨[some 0, some 5], [3, 4], rfl, rfl, ?_, ?_⟩⟩ ?_⟩
      · subst ho
        repeat' ((conv => whnf); first | with_reducible exact True.intro | exact vW | with_reducible refine And.intro ?_ ?_)
      · subst hy
        repeat' ((conv => whnf); first | with_reducible exact True.intro | exact vW | with_reducible refine And.intro ?_ ?_)
        all_goals exact Chk.mk ⟨rfl, by omega, fun i _ => by dsimp only; rw [Nat.zero_add]⟩
      clear hy ho
      revert y o
      exact key.t
    · dsimp only [noG, plO]
      repeat' ((conv => whnf); first | with_reducible refine wk_at 6 ?_ | with_reducible refine wk_at1 6 ?_ | with_reducible refine wk_at2 6 ?_ | refine vA ?_ | with_reducible first | refine v8 ?_ | refine Sp.mk ?_ ?_ | refine vS ?_ | refine vR ?_ | refine vB ?_ | refine br_nt ?_ | refine br_tt ?_ | refine br_ff ?_ | refine vP ?_ | refine vQ ?_ | refine vT ?_ | refine vF ?_ | refine br_and ?_ | refine br_or ?_ | refine br_d (fun _ => ?_) fun _ => ?_ | refine vM (fun _ => ?_) fun _ => ?_)
      obtain ⟨y, hy⟩ : ∃ y : Place, (default : Place) = y := ⟨_, rfl⟩
      obtain ⟨o, ho⟩ : ∃ o : Bool, false = o := ⟨_, rfl⟩
      have hyp : (placeOk ⟨p, bs, rs⟩ ∧ y = ⟨p, bs, rs⟩ ∧ o = true) ∨ (¬ placeOk ⟨p, bs, rs⟩ ∧ y = default ∧ o = false) := .inr ⟨hO, hy.symm, ho.symm⟩
      refine ⟨Wk.go [(1, .ptr 0 0), (4, .ptr 1 0), (5, .bool o)] [.box [.int .i64 p, slI bs, slS rs], .box [.int .i64 y.p, slI y.bs, slS y.rules, .nils]] ⟨⟨[some 0, some 3], [], rfl, rfl, ?_, ?_⟩⟩ ?_⟩
      · subst ho
        repeat' ((conv => whnf); first | with_reducible exact True.intro | exact vW | with_reducible refine And.intro ?_ ?_)
      · subst hy
        repeat' ((conv => whnf); first | with_reducible exact True.intro | exact vW | with_reducible refine And.intro ?_ ?_)
      clear hy ho
      revert y o
      exact key.t
  rintro ⟨yp, yb, yr⟩ o hyp
  dsimp only
  repeat' ((conv => whnf); first | refine vA ?_ | with_reducible first | refine v8 ?_ | refine Sp.mk ?_ ?_ | refine vS ?_ | refine vR ?_ | refine vB ?_ | refine br_nt ?_ | refine br_tt ?_ | refine br_ff ?_ | refine vP ?_ | refine vQ ?_ | refine vT ?_ | refine vF ?_ | refine br_and ?_ | refine br_or ?_ | refine br_d (fun _ => ?_) fun _ => ?_ | refine vM (fun _ => ?_) fun _ => ?_)
  refine ⟨_, _, [], [], rfl, ?_, ?_, ⟨p, bs, rs⟩, rfl, rfl, ⟨hok⟩, ?_⟩
  · repeat' ((conv => whnf); first | with_reducible exact True.intro | exact vW | with_reducible refine And.intro ?_ ?_)
  · repeat' ((conv => whnf); first | with_reducible exact True.intro | exact vW | with_reducible refine And.intro ?_ ?_)
  dsimp only [plG, plO]
  repeat' ((conv => whnf); first | refine vA ?_ | with_reducible first | refine v8 ?_ | refine Sp.mk ?_ ?_ | refine vS ?_ | refine vR ?_ | refine vB ?_ | refine br_nt ?_ | refine br_tt ?_ | refine br_ff ?_ | refine vP ?_ | refine vQ ?_ | refine vT ?_ | refine vF ?_ | refine br_and ?_ | refine br_or ?_ | refine br_d (fun _ => ?_) fun _ => ?_ | refine vM (fun _ => ?_) fun _ => ?_)
  apply later
  · intro key
    refine ⟨_, _, [2, 3], [], rfl, ?_, ?_, ⟨p, bs, rs⟩, rfl, rfl, ⟨hI⟩, ?_⟩
    · repeat' ((conv => whnf); first | with_reducible exact True.intro | exact vW | with_reducible refine And.intro ?_ ?_)
    · repeat' ((conv => whnf); first | with_reducible exact True.intro | exact vW | with_reducible refine And.intro ?_ ?_)
    refine ⟨fun hO => ?_, fun hO => ?_⟩
    · obtain ⟨e, e2⟩ : (⟨yp, yb, yr⟩ : Place) = ⟨p, bs, rs⟩ ∧ o = true := by
        rcases hyp with ⟨_, e, e2⟩ | ⟨q, _, _⟩
        · exact ⟨e, e2⟩
        · exact absurd hO q
      dsimp only [newG, plO, List.cons_append, List.nil_append]
      repeat' ((conv => whnf); first | with_reducible refine wk_at 8 ?_ | with_reducible refine wk_at1 8 ?_ | with_reducible refine wk_at2 8 ?_ | refine vA ?_ | with_reducible first | refine v8 ?_ | refine Sp.mk ?_ ?_ | refine vS ?_ | refine vR ?_ | refine vB ?_ | refine br_nt ?_ | refine br_tt ?_ | refine br_ff ?_ | refine vP ?_ | refine vQ ?_ | refine vT ?_ | refine vF ?_ | refine br_and ?_ | refine br_or ?_ | refine br_d (fun _ => ?_) fun _ => ?_ | refine vM (fun _ => ?_) fun _ => ?_)
      refine ⟨Wk.go [(1, .ptr 0 0), (4, .ptr 1 0), (5, .bool o), (6, .ptr 2 0), (7, .ptr 3 0), (8, .bool o)] [.box [.int .i64 p, slI bs, slS rs], .box [.int .i64 yp, slI yb, slS yr, .nils], .box [.int .i64 p, .row 4 1 0 bs.length, .row 5 1 0 rs.length], .box [.int .i64 yp, .row 6 1 0 yb.length, .row 7 1 0 yr.length, .nils], .row 1 bs.length fun i => encI (bs.getD i 0), .row 1 rs.length fun i => encS (rs.getD i ⟨#[]⟩), .row 1 yb.length fun i => encI (yb.getD i 0), .row 1 yr.length fun i => encS (yr.getD i ⟨#[]⟩)] ⟨⟨[some 0, some 1, some 4, some 7, some 2, some 3, some 5, some 6], [], rfl, rfl, ?_, ?_⟩⟩ ?_⟩
      · cases e
        subst e2
        repeat' ((conv => whnf); first | with_reducible exact True.intro | exact vW | with_reducible refine And.intro ?_ ?_)
      · cases e
        repeat' ((conv => whnf); first | with_reducible exact True.intro | exact vW | with_reducible refine And.intro ?_ ?_)
      exact key.t
    · obtain ⟨e, e2⟩ : (⟨yp, yb, yr⟩ : Place) = default ∧ o = false := by
        rcases hyp with ⟨q, _, _⟩ | ⟨_, e, e2⟩
        · exact absurd q hO
        · exact ⟨e, e2⟩
      dsimp only [noG, plO]
      repeat' ((conv => whnf); first | with_reducible refine wk_at 8 ?_ | with_reducible refine wk_at1 8 ?_ | with_reducible refine wk_at2 8 ?_ | refine vA ?_ | with_reducible first | refine v8 ?_ | refine Sp.mk ?_ ?_ | refine vS ?_ | refine vR ?_ | refine vB ?_ | refine br_nt ?_ | refine br_tt ?_ | refine br_ff ?_ | refine vP ?_ | refine vQ ?_ | refine vT ?_ | refine vF ?_ | refine br_and ?_ | refine br_or ?_ | refine br_d (fun _ => ?_) fun _ => ?_ | refine vM (fun _ => ?_) fun _ => ?_)
      refine ⟨Wk.go [(1, .ptr 0 0), (4, .ptr 1 0), (5, .bool o), (6, .ptr 2 0), (7, .ptr 3 0), (8, .bool o)] [.box [.int .i64 p, slI bs, slS rs], .box [.int .i64 yp, slI yb, slS yr, .nils], .box [.int .i64 p, .row 4 1 0 bs.length, .row 5 1 0 rs.length], .box [.int .i64 yp, .row 6 1 0 yb.length, .row 7 1 0 yr.length, .nils], .row 1 bs.length fun i => encI (bs.getD i 0), .row 1 rs.length fun i => encS (rs.getD i ⟨#[]⟩), .row 1 yb.length fun i => encI (yb.getD i 0), .row 1 yr.length fun i => encS (yr.getD i ⟨#[]⟩)] ⟨⟨[some 0, some 1, some 4, some 5, some 2, some 3, none, none], [], rfl, rfl, ?_, ?_⟩⟩ ?_⟩
      · cases e
        subst e2
        repeat' ((conv => whnf); first | with_reducible exact True.intro | exact vW | with_reducible refine And.intro ?_ ?_)
      · cases e
        repeat' ((conv => whnf); first | with_reducible exact True.intro | exact vW | with_reducible refine And.intro ?_ ?_)
      exact key.t
  have hyl : yb.length ≤ 1048576 ∧ yr.length ≤ 1048576 := by
    rcases hyp with ⟨_, e, _⟩ | ⟨_, e, _⟩
    · cases e; exact hok
    · cases e; exact ⟨by decide, by decide⟩
  have hlx : lenI ⟨p, bs, rs⟩ := ⟨by have := hok.1; dsimp only at this ⊢; omega, by have := hok.2; dsimp only at this ⊢; omega⟩
  have hly : lenD ⟨⟨yp, yb, yr⟩, []⟩ := ⟨⟨by dsimp only; omega, by dsimp only; omega⟩, (by decide : 0 < 9223372036854775808), fun _ hb => by cases hb⟩
  have hbb : (o == o) = true := beq_self_eq_true _
  repeat' ((conv => whnf); first | refine vA ?_ | with_reducible first | refine v8 ?_ | refine Sp.mk ?_ ?_ | refine vS ?_ | refine vR ?_ | refine vB ?_ | refine br_nt ?_ | refine br_tt ?_ | refine br_ff ?_ | refine vP ?_ | refine vQ ?_ | refine vT ?_ | refine vF ?_ | refine br_and ?_ | refine br_or ?_ | refine br_d (fun _ => ?_) fun _ => ?_ | refine vM (fun _ => ?_) fun _ => ?_)
  refine ⟨⟨⟨yp, yb, yr⟩, []⟩, ?_, ⟨hly⟩, ?_⟩
  · repeat' ((conv => whnf); first | with_reducible exact True.intro | exact vW | with_reducible refine And.intro ?_ ?_)
    all_goals exact Chk.mk ⟨rfl, fun i _ => by dsimp only; rw [Nat.zero_add]⟩
  repeat' ((conv => whnf); first | refine vA ?_ | with_reducible first | refine v8 ?_ | refine Sp.mk ?_ ?_ | refine vS ?_ | refine vR ?_ | refine vB ?_ | refine br_nt ?_ | refine br_tt ?_ | refine br_ff ?_ | refine vP ?_ | refine vQ ?_ | refine vT ?_ | refine vF ?_ | refine br_and ?_ | refine br_or ?_ | refine br_d (fun _ => ?_) fun _ => ?_ | refine vM (fun _ => ?_) fun _ => ?_)
  refine Dr.mk ⟨(.rd 0 (.rd 1 (.ef 2 (.ef 3 (.rd 4 .dn) .no) .no))), by decide +kernel, ?_⟩
  repeat' ((conv => whnf); first | refine vA ?_ | with_reducible first | refine v8 ?_ | refine Sp.mk ?_ ?_ | refine vS ?_ | refine vR ?_ | refine vB ?_ | refine br_nt ?_ | refine br_tt ?_ | refine br_ff ?_ | refine vP ?_ | refine vQ ?_ | refine vT ?_ | refine vF ?_ | refine br_and ?_ | refine br_or ?_ | refine br_d (fun _ => ?_) fun _ => ?_ | refine vM (fun _ => ?_) fun _ => ?_)
  refine ⟨_, _, [], [], rfl, ?_, ?_, ⟨p, bs, rs⟩, rfl, rfl, ⟨hok⟩, ?_⟩
  · repeat' ((conv => whnf); first | with_reducible exact True.intro | exact vW | with_reducible refine And.intro ?_ ?_)
  · repeat' ((conv => whnf); first | with_reducible exact True.intro | exact vW | with_reducible refine And.intro ?_ ?_)
  dsimp only [plG, plO]
  repeat' ((conv => whnf); first | refine vA ?_ | with_reducible first | refine v8 ?_ | refine Sp.mk ?_ ?_ | refine vS ?_ | refine vR ?_ | refine vB ?_ | refine br_nt ?_ | refine br_tt ?_ | refine br_ff ?_ | refine vP ?_ | refine vQ ?_ | refine vT ?_ | refine vF ?_ | refine br_and ?_ | refine br_or ?_ | refine br_d (fun _ => ?_) fun _ => ?_ | refine vM (fun _ => ?_) fun _ => ?_)
  refine ⟨⟨p, bs, rs⟩, ?_, ⟨hlx⟩, ?_⟩
  · repeat' ((conv => whnf); first | with_reducible exact True.intro | exact vW | with_reducible refine And.intro ?_ ?_)
    all_goals exact Chk.mk ⟨rfl, fun i _ => by dsimp only; rw [Nat.zero_add]⟩
  repeat' ((conv => whnf); first | refine vA ?_ | with_reducible first | refine v8 ?_ | refine Sp.mk ?_ ?_ | refine vS ?_ | refine vR ?_ | refine vB ?_ | refine br_nt ?_ | refine br_tt ?_ | refine br_ff ?_ | refine vP ?_ | refine vQ ?_ | refine vT ?_ | refine vF ?_ | refine br_and ?_ | refine br_or ?_ | refine br_d (fun _ => ?_) fun _ => ?_ | refine vM (fun _ => ?_) fun _ => ?_)
  refine ⟨_, _, [4, 5], [], rfl, ?_, ?_, ⟨⟨p, bs, rs⟩, 1⟩, rfl, rfl, ⟨by dsimp only; omega, by dsimp only; omega, by have := hok.1; dsimp only at this ⊢; omega, by have := hok.2; dsimp only at this ⊢; omega⟩, ?_⟩
  · repeat' ((conv => whnf); first | with_reducible exact True.intro | exact vW | with_reducible refine And.intro ?_ ?_)
  · repeat' ((conv => whnf); first | with_reducible exact True.intro | exact vW | with_reducible refine And.intro ?_ ?_)
  have o1 : bs.length ≤ 1048576 := hok.1
  have o2 : rs.length ≤ 1048576 := hok.2
  dsimp only [plR, mkPl]
  repeat' ((conv => whnf); first | refine vA ?_ | with_reducible first | refine v8 ?_ | refine Sp.mk ?_ ?_ | refine vS ?_ | refine vR ?_ | refine vB ?_ | refine br_nt ?_ | refine br_tt ?_ | refine br_ff ?_ | refine vP ?_ | refine vQ ?_ | refine vT ?_ | refine vF ?_ | refine br_and ?_ | refine br_or ?_ | refine br_d (fun _ => ?_) fun _ => ?_ | refine vM (fun _ => ?_) fun _ => ?_)
  refine ⟨⟨⟨yp, yb, yr⟩, []⟩, ?_, ⟨hly⟩, ?_⟩
  · repeat' ((conv => whnf); first | with_reducible exact True.intro | exact vW | with_reducible refine And.intro ?_ ?_)
    all_goals exact Chk.mk ⟨rfl, fun i _ => by dsimp only; rw [Nat.zero_add]⟩
  repeat' ((conv => whnf); first | refine vA ?_ | with_reducible first | refine v8 ?_ | refine Sp.mk ?_ ?_ | refine vS ?_ | refine vR ?_ | refine vB ?_ | refine br_nt ?_ | refine br_tt ?_ | refine br_ff ?_ | refine vP ?_ | refine vQ ?_ | refine vT ?_ | refine vF ?_ | refine br_and ?_ | refine br_or ?_ | refine br_d (fun _ => ?_) fun _ => ?_ | refine vM (fun _ => ?_) fun _ => ?_)
  refine ⟨_, _, [6, 7], [], rfl, ?_, ?_, ⟨⟨yp, yb, yr⟩, 1⟩, rfl, rfl, ⟨by dsimp only; omega, by dsimp only; omega, by dsimp only; omega, by dsimp only; omega⟩, ?_⟩
  · repeat' ((conv => whnf); first | with_reducible exact True.intro | exact vW | with_reducible refine And.intro ?_ ?_)
  · repeat' ((conv => whnf); first | with_reducible exact True.intro | exact vW | with_reducible refine And.intro ?_ ?_)
  dsimp only [plR, mkPl]
  rw [mksI_len 1 yb.length, mksS_len (1 + (yb.length : Int)) yr.length]
  have hm1 : yb.length = (mksI 1 yb.length).length ∧ ∀ i, i < yb.length → encI ((mksI 1 yb.length).getD (0 + i) 0) = encI ((mksI 1 yb.length).getD i 0) := ⟨(mksI_len _ _).symm, fun i _ => by rw [Nat.zero_add]⟩
  have hm2 : yr.length = (mksS (1 + (yb.length : Int)) yr.length).length ∧ ∀ i, i < yr.length → encS ((mksS (1 + (yb.length : Int)) yr.length).getD (0 + i) ⟨#[]⟩) = encS ((mksS (1 + (yb.length : Int)) yr.length).getD i ⟨#[]⟩) := ⟨(mksS_len _ _).symm, fun i _ => by rw [Nat.zero_add]⟩
  have hpre : mkPre ⟨⟨yp, yb, yr⟩, 1⟩ := ⟨by dsimp only; omega, by dsimp only; omega, by dsimp only; omega, by dsimp only; omega⟩
  repeat' ((conv => whnf); first | refine vA ?_ | with_reducible first | refine v8 ?_ | refine Sp.mk ?_ ?_ | refine vS ?_ | refine vR ?_ | refine vB ?_ | refine br_nt ?_ | refine br_tt ?_ | refine br_ff ?_ | refine vP ?_ | refine vQ ?_ | refine vT ?_ | refine vF ?_ | refine br_and ?_ | refine br_or ?_ | refine br_d (fun _ => ?_) fun _ => ?_ | refine vM (fun _ => ?_) fun _ => ?_)
  refine ⟨⟨⟨yp, yb, yr⟩, 1⟩, ?_, ⟨hpre⟩, ?_⟩
  · repeat' ((conv => whnf); first | with_reducible exact True.intro | exact vW | with_reducible refine And.intro ?_ ?_)
    all_goals first | exact Chk.mk hm1 | exact Chk.mk hm2
  dsimp only
  repeat' ((conv => whnf); first | refine vA ?_ | with_reducible first | refine v8 ?_ | refine Sp.mk ?_ ?_ | refine vS ?_ | refine vR ?_ | refine vB ?_ | refine br_nt ?_ | refine br_tt ?_ | refine br_ff ?_ | refine vP ?_ | refine vQ ?_ | refine vT ?_ | refine vF ?_ | refine br_and ?_ | refine br_or ?_ | refine br_d (fun _ => ?_) fun _ => ?_ | refine vM (fun _ => ?_) fun _ => ?_)
  refine ⟨_, _, [], [], rfl, ?_, ?_, ⟨p, bs, rs⟩, rfl, rfl, ⟨hok⟩, ?_⟩
  · repeat' ((conv => whnf); first | with_reducible exact True.intro | exact vW | with_reducible refine And.intro ?_ ?_)
  · repeat' ((conv => whnf); first | with_reducible exact True.intro | exact vW | with_reducible refine And.intro ?_ ?_)
  dsimp only [plG, plO]
  repeat' ((conv => whnf); first | refine vA ?_ | with_reducible first | refine v8 ?_ | refine Sp.mk ?_ ?_ | refine vS ?_ | refine vR ?_ | refine vB ?_ | refine br_nt ?_ | refine br_tt ?_ | refine br_ff ?_ | refine vP ?_ | refine vQ ?_ | refine vT ?_ | refine vF ?_ | refine br_and ?_ | refine br_or ?_ | refine br_d (fun _ => ?_) fun _ => ?_ | refine vM (fun _ => ?_) fun _ => ?_)
  refine ⟨_, _, [10, 11], [], rfl, ?_, ?_, ⟨p, bs, rs⟩, rfl, rfl, ⟨hI⟩, ?_⟩
  · repeat' ((conv => whnf); first | with_reducible exact True.intro | exact vW | with_reducible refine And.intro ?_ ?_)
  · repeat' ((conv => whnf); first | with_reducible exact True.intro | exact vW | with_reducible refine And.intro ?_ ?_)
  refine ⟨fun hO => ?_, fun hO => ?_⟩
  · obtain ⟨e, e2⟩ : (⟨yp, yb, yr⟩ : Place) = ⟨p, bs, rs⟩ ∧ o = true := by
      rcases hyp with ⟨_, e, e2⟩ | ⟨q, _, _⟩
      · exact ⟨e, e2⟩
      · exact absurd hO q
    clear hyp
    cases e
    subst e2
    dsimp only [newG, plO, List.cons_append, List.nil_append]
    repeat' ((conv => whnf); first | refine vA ?_ | with_reducible first | refine v8 ?_ | refine Sp.mk ?_ ?_ | refine vS ?_ | refine vR ?_ | refine vB ?_ | refine br_nt ?_ | refine br_tt ?_ | refine br_ff ?_ | refine vP ?_ | refine vQ ?_ | refine vT ?_ | refine vF ?_ | refine br_and ?_ | refine br_or ?_ | refine br_d (fun _ => ?_) fun _ => ?_ | refine vM (fun _ => ?_) fun _ => ?_)
    refine ⟨⟨⟨p, bs, rs⟩, []⟩, ?_, ⟨hly⟩, ?_⟩
    · repeat' ((conv => whnf); first | with_reducible exact True.intro | exact vW | with_reducible refine And.intro ?_ ?_)
      all_goals exact Chk.mk ⟨rfl, fun i _ => by dsimp only; rw [Nat.zero_add]⟩
    repeat' ((conv => whnf); first | refine vA ?_ | with_reducible first | refine v8 ?_ | refine Sp.mk ?_ ?_ | refine vS ?_ | refine vR ?_ | refine vB ?_ | refine br_nt ?_ | refine br_tt ?_ | refine br_ff ?_ | refine vP ?_ | refine vQ ?_ | refine vT ?_ | refine vF ?_ | refine br_and ?_ | refine br_or ?_ | refine br_d (fun _ => ?_) fun _ => ?_ | refine vM (fun _ => ?_) fun _ => ?_)
    refine ⟨⟨⟨p, bs, rs⟩, 1⟩, ?_, ⟨hpre⟩, ?_⟩
    · repeat' ((conv => whnf); first | with_reducible exact True.intro | exact vW | with_reducible refine And.intro ?_ ?_)
      all_goals first | exact Chk.mk hm1 | exact Chk.mk hm2
    dsimp only
    repeat' ((conv => whnf); first | refine vA ?_ | with_reducible first | refine v8 ?_ | refine Sp.mk ?_ ?_ | refine vS ?_ | refine vR ?_ | refine vB ?_ | refine br_nt ?_ | refine br_tt ?_ | refine br_ff ?_ | refine vP ?_ | refine vQ ?_ | refine vT ?_ | refine vF ?_ | refine br_and ?_ | refine br_or ?_ | refine br_d (fun _ => ?_) fun _ => ?_ | refine vM (fun _ => ?_) fun _ => ?_)
    exact h
  · obtain ⟨e, e2⟩ : (⟨yp, yb, yr⟩ : Place) = default ∧ o = false := by
      rcases hyp with ⟨q, _, _⟩ | ⟨_, e, e2⟩
      · exact absurd q hO
      · exact ⟨e, e2⟩
    clear hyp
    cases e
    subst e2
    dsimp only [noG, plO]
    repeat' ((conv => whnf); first | refine vA ?_ | with_reducible first | refine v8 ?_ | refine Sp.mk ?_ ?_ | refine vS ?_ | refine vR ?_ | refine vB ?_ | refine br_nt ?_ | refine br_tt ?_ | refine br_ff ?_ | refine vP ?_ | refine vQ ?_ | refine vT ?_ | refine vF ?_ | refine br_and ?_ | refine br_or ?_ | refine br_d (fun _ => ?_) fun _ => ?_ | refine vM (fun _ => ?_) fun _ => ?_)
    refine ⟨⟨⟨default, default, default⟩, []⟩, ?_, ⟨hly⟩, ?_⟩
    · repeat' ((conv => whnf); first | with_reducible exact True.intro | exact vW | with_reducible refine And.intro ?_ ?_)
    repeat' ((conv => whnf); first | refine vA ?_ | with_reducible first | refine v8 ?_ | refine Sp.mk ?_ ?_ | refine vS ?_ | refine vR ?_ | refine vB ?_ | refine br_nt ?_ | refine br_tt ?_ | refine br_ff ?_ | refine vP ?_ | refine vQ ?_ | refine vT ?_ | refine vF ?_ | refine br_and ?_ | refine br_or ?_ | refine br_d (fun _ => ?_) fun _ => ?_ | refine vM (fun _ => ?_) fun _ => ?_)
    refine ⟨⟨⟨default, default, default⟩, 1⟩, ?_, ⟨hpre⟩, ?_⟩
    · repeat' ((conv => whnf); first | with_reducible exact True.intro | exact vW | with_reducible refine And.intro ?_ ?_)
      all_goals first | exact Chk.mk hm1 | exact Chk.mk hm2
    dsimp only
    repeat' ((conv => whnf); first | refine vA ?_ | with_reducible first | refine v8 ?_ | refine Sp.mk ?_ ?_ | refine vS ?_ | refine vR ?_ | refine vB ?_ | refine br_nt ?_ | refine br_tt ?_ | refine br_ff ?_ | refine vP ?_ | refine vQ ?_ | refine vT ?_ | refine vF ?_ | refine br_and ?_ | refine br_or ?_ | refine br_d (fun _ => ?_) fun _ => ?_ | refine vM (fun _ => ?_) fun _ => ?_)
    exact h
end Go.Proofs.YtahfdkdneojkmaaDoor.Vc
end
section
/- The row of FnExactDeskNew: for every input it returns true. -/
namespace Go.Proofs.YtahfdkdneojkmaaDoor.Vc
open Go.Proofs Go.ChangeShapes Go.WideShapes Go.ChangeAt Go.RowKit
open Go.Proofs.YtahfdkdneojkmaaDoor
set_option maxRecDepth 100000
theorem metFnExactDeskNew (os : Os) (args : Array Value) : laidMet Tryd.prog Rows.fnExactDeskNewRow.laid ((World.laidAll Tryd.prog os Rows.fnExactDeskNewRow.laid).forCall (fun _ _ => 0) ⟨#[], args, []⟩).memory :=
  laidMet_laidAll args (by kernel_rfl) (by kernel_rfl)
theorem goodFnExactDeskNew {W : World} (h : laidMet Tryd.prog Rows.fnExactDeskNewRow.laid W) : Good W :=
  Lib.tabIs_of_head (rest := []) rfl rfl rfl rfl (by kernel_rfl) (by kernel_rfl) (h.filter fun x => x.1 == "internal/strconv.uint64pow10")
theorem liftedFnExactDeskNew (os : Os) (started : os.Started) (H : Type) (enc : TypeId × Value → H) :
    ReturnsInHanded {} Tryd.checked os 10 .any (fun w args => (Rows.fnExactDeskNewSpec.pre enc Tryd.prog Tryd.f10 [] false w args ∧ laidMet Tryd.prog Rows.fnExactDeskNewRow.laid w) ∧ sizedMet enc Tryd.prog Tryd.f10 (OpenSpec.ofChange Rows.fnExactDeskNewSpec) false w args)
      (Rows.fnExactDeskNewSpec.post enc Tryd.prog Tryd.f10 false true false false) := by
  refine returnsInHanded_of_change_and (C := Tryd.checked) (X := fun w _ => laidMet Tryd.prog Rows.fnExactDeskNewRow.laid w) (fun _ _ _ hh h => h.of_heap hh) own started (by kernel_rfl) Tryd.func10
    (ChangeSpec.witness_at (enc := enc) (C := Tryd.checked) (os := os) (X := fun w _ => laidMet Tryd.prog Rows.fnExactDeskNewRow.laid w) false (World.laidAll Tryd.prog os Rows.fnExactDeskNewRow.laid) #[.agg #[.int .i64 0, .slice none 0 0, .slice none 0 0]] 8 (World.laidAll_os _ _ _) (by kernel_rfl) (by kernel_rfl) (by kernel_rfl) (by kernel_rfl) (by kernel_rfl) (metFnExactDeskNew os _)) ?_
  intro W base args ds gs before hval0 hW _ _ hL _
  have hval : ∀ (j : Nat) t v, Tryd.f10.params[j]? = some t → args[j]? = some v → Value.okWide Tryd.prog W .any base t v := hval0
  have hW' := hW
  obtain ⟨p, q, hA0, hV, rfl, hfz, hnd⟩ := hW
  have hA : DataW.TrodAll enc Tryd.prog W 0 (fun _ => true) true Tryd.f10.params.toList args.toList ds p := hA0
  rw [Tryd.params10] at hA hval
  obtain ⟨v0, vs0, d0, ds0, p0, q0, hargs, rfl, rfl, h0, r0⟩ := trodAll_cons hA
  obtain ⟨rfl, rfl, rfl⟩ := trodAll_nil r0
  obtain rfl : args = #[v0] := by cases args; simp_all
  obtain ⟨rfl, rfl⟩ := trodVars_none hV
  have lt0 : ∀ x ∈ p0, x.block < W.heap.size := by obtain ⟨m, hm⟩ := h0; exact DataW.trod_lt m _ _ _ hm
  obtain ⟨x0, a0, b0⟩ := op_place (⟨by kernel_rfl, _, _, Tryd.underlying35, rfl, rfl, ⟨by kernel_rfl, _, _, Tryd.underlying33, rfl, rfl, Tryd.underlying3, by kernel_rfl, ⟨by kernel_rfl, _, Tryd.underlying23, Tryd.underlying3, by kernel_rfl⟩⟩, ⟨by kernel_rfl, _, Tryd.underlying26, Tryd.underlying9, by kernel_rfl⟩⟩) (hval 0 35 v0 rfl rfl) h0
  refine (FF.below F124 (us := [enPl x0]) (b := true) ⟨x0, ?_, ⟨b0⟩, rfl⟩ (goodFnExactDeskNew hL) ⟨rfl, fun j hj => ?_⟩).mono fun e W' ⟨he, bel⟩ => ?_
  · repeat' ((conv => whnf); first | with_reducible exact True.intro | exact vW | with_reducible refine And.intro ?_ ?_)
  · match j, hj with
    | 0, _ => exact a0
  subst he
  exact ⟨_, rfl, _, _, _, [], _, [], hW', trodAll_mk1 (shut_bool Tryd.underlying4 _), (trodAll_cons_mk (Below.trod laidOut (by kernel_rfl) (of_decide_eq_true (by kernel_rfl)) h0 bel lt0) trodAll_mk0), rfl, bel.frame _, fun h => by cases h⟩
theorem FnExactDeskNew_holds : Rows.FnExactDeskNewSaid :=
  OpenClaim.holds_of_wide 10 Tryd.f10 rfl rfl rfl rfl rfl rfl rfl ⟨rfl, rfl, rfl, rfl, rfl⟩ rfl rfl rfl rfl rfl (by kernel_rfl) Tryd.func10 (by kernel_rfl)
    (of_decide_eq_true (by kernel_rfl)) (by unfold Func.isWrapper; first | (rw [if_pos (by decide +kernel)]; kernel_rfl) | (rw [if_neg (by decide +kernel)]; exact ⟨rfl, rfl⟩))
    (fun os started H enc _ => liftedFnExactDeskNew os started H enc)
end Go.Proofs.YtahfdkdneojkmaaDoor.Vc
end
