/- Part ZO: the readers of a code. -/
import Derived.Test.YtbbgojaloebknaaVcVA
import Derived.Test.YtbbgojaloebknaaVcZK
namespace Go.Proofs.Ytbbgojaloebknaa.Vc
open Go.Proofs
set_option maxRecDepth 10000
set_option maxHeartbeats 4000000
abbrev GG (f : FuncId) (C : GC) : Prop := FitsG Try.prog [] f C
theorem fitX (E : Env) (hE : ∀ p, p ∈ E → FF p.1 p.2) (G : EnvG) (hG : ∀ p, p ∈ G → GG p.1 p.2) {X : Type} {args : X → List AV} {pre : X → Prop} {post : X → (AV → Prop) → Prop} {f : FuncId} (fn : Func) (hf : FnOk Try.prog f fn) (hM : ∀ x (K K' : AV → Prop), (∀ r, K r → K' r) → post x K → post x K')
    (hb : ∀ x (K : AV → Prop), pre x → post x K → (args x).length ≤ fn.ntmps ∧ bodyP (lookT TT) (callX E G) (Dr (lookT TT) (callX E G)) 0 fn (args x) [] (out K)) : FF f (con args pre post) := fits tOk (callX_ok hE hG) mixed hf hM hb
theorem fitG (E : Env) (hE : ∀ p, p ∈ E → FF p.1 p.2) (G : EnvG) (hG : ∀ p, p ∈ G → GG p.1 p.2) {X : Type} {args : X → List AV} {objs : X → List Obj} {pre : X → Prop} {post : X → (AV → List Obj → Prop) → Prop} {f : FuncId} (fn : Func) (hf : FnOk Try.prog f fn)
    (hM : ∀ x (K K' : AV → List Obj → Prop), (∀ r o', K r o' → K' r o') → post x K → post x K')
    (hb : ∀ x (K : AV → List Obj → Prop), pre x → post x K → (args x).length ≤ fn.ntmps ∧ bodyP (lookT TT) (callX E G) (Dr (lookT TT) (callX E G)) (objs x).length fn (args x) (objs x) (outG (objs x).length K)) : GG f (conG args objs pre post) := fitsG tOk (callX_ok hE hG) mixed hf hM hb
abbrev slB (l : List Int) : AV := .sl 1 l.length fun i => [.int .u8 (l.getD i 0)]
def u8r (n : Int) : Prop := 0 ≤ n ∧ n < 256
/-- A reader of a code. -/
structure Rd where
  b : List Int
  p : Int
def Rd.okn (r : Rd) (n : Int) : Prop := r.b.length ≤ 2000 ∧ (∀ n ∈ r.b, u8r n) ∧ 0 ≤ r.p ∧ r.p ≤ n
abbrev rdO (b : List Int) (p : Int) : Obj := .box [slB b, .int .i64 p]
def Rd.ok (r : Rd) : Prop := r.b.length ≤ 2000 ∧ (∀ n ∈ r.b, u8r n) ∧ 0 ≤ r.p ∧ r.p ≤ 1000000000
theorem u8_getD {b : List Int} (h : ∀ n ∈ b, u8r n) (i : Nat) : 0 ≤ b.getD i 0 ∧ b.getD i 0 < 256 := by
  rw [List.getD_eq_getElem?_getD]
  rcases Nat.lt_or_ge i b.length with hi | hi
  · rw [List.getElem?_eq_getElem hi]; exact h _ (List.getElem_mem hi)
  · rw [List.getElem?_eq_none hi]; exact ⟨by decide, by decide⟩
theorem tmod_in {a n : Int} (h1 : 0 ≤ a) (h2 : 1 ≤ n) : 0 ≤ a.tmod n ∧ a.tmod n < n := by
  rw [Int.tmod_eq_emod_of_nonneg h1]
  exact ⟨Int.emod_nonneg _ (by omega), Int.emod_lt_of_pos _ (by omega)⟩
theorem tdiv_in {a n : Int} (h1 : 0 ≤ a) (h2 : 1 ≤ n) : 0 ≤ a.tdiv n ∧ a.tdiv n ≤ a := by
  rw [Int.tdiv_eq_ediv_of_nonneg h1]
  exact ⟨Int.ediv_nonneg h1 (by omega), Int.ediv_le_self _ h1⟩
theorem xor_in {a b : Int} (h1 : 0 ≤ a) (h2 : a < 4611686018427387904) (h3 : 0 ≤ b) (h4 : b < 4611686018427387904) : 0 ≤ bitop .i64 .xor a b := by
  have e : ∀ n : Int, 0 ≤ n → n < 4611686018427387904 → (BitVec.ofInt 64 n).toNat = n.toNat := fun n g1 g2 => by
    rw [BitVec.toNat_ofInt]
    omega
  have hx : (BitVec.ofInt 64 a ^^^ BitVec.ofInt 64 b).toNat < 2 ^ 62 := by
    rw [BitVec.toNat_xor, e a h1 h2, e b h3 h4]
    exact Nat.xor_lt_two_pow (by omega) (by omega)
  show 0 ≤ IntKind.i64.wrap (((BitVec.ofInt 64 a ^^^ BitVec.ofInt 64 b).toNat : Nat) : Int)
  rw [wi64 (by omega) (by omega)]
  omega
def C52 : GC := conG (X := Rd × Int) (fun x => [.ptr 0 0, .int .i64 x.2]) (fun x => [.box [slB x.1.b, .int .i64 x.1.p]]) (fun x => x.1.ok ∧ i64r x.2) fun x K => ∀ k p' : Int, (x.2 < 1 → k = 0) → (1 ≤ x.2 → 0 ≤ k ∧ k < x.2) → p' = x.1.p + 1 → K (.int .i64 k) [.box [slB x.1.b, .int .i64 p']]
theorem F52 : GG 52 C52 := by
  refine fitG [] (by simp) [] (by simp) Try.f52 ⟨rfl, by decide +kernel, by decide +kernel⟩ (by intro x K K2 hk h; (try dsimp only at h ⊢); intros; apply hk; first | exact h | (apply h <;> assumption)) ?_
  rintro ⟨⟨b, p⟩, n⟩ K ⟨⟨h1, h2, h3, h4⟩, h5⟩ h
  refine ⟨Nat.le_of_ble_eq_true rfl, ?_⟩
  dsimp only at h h1 h2 h3 h4 h5 ⊢
  have hb := u8_getD h2
  repeat' ((conv => whnf); first | refine vA ?_ | with_reducible first | refine vS ?_ | refine vR ?_ | refine vB ?_ | refine br_nt ?_ | refine br_tt ?_ | refine br_ff ?_ | refine vP ?_ | refine vQ ?_ | refine vT ?_ | refine vF ?_ | refine br_and ?_ | refine br_or ?_ | refine br_d (fun _ => ?_) fun _ => ?_ | refine vM (fun _ => ?_) fun _ => ?_)
  · refine ⟨_, _, [some 0], [], rfl, rfl, ?_, ?_, h 0 _ (fun _ => rfl) (fun _ => by omega) rfl⟩
    · repeat' ((conv => whnf); first | with_reducible exact True.intro | exact vW | with_reducible refine And.intro ?_ ?_)
    · repeat' ((conv => whnf); first | with_reducible exact True.intro | exact vW | with_reducible refine And.intro ?_ ?_)
  · refine ⟨_, _, [some 0], [], rfl, rfl, ?_, ?_, h 0 _ (fun _ => rfl) (fun _ => by omega) rfl⟩
    · repeat' ((conv => whnf); first | with_reducible exact True.intro | exact vW | with_reducible refine And.intro ?_ ?_)
    · repeat' ((conv => whnf); first | with_reducible exact True.intro | exact vW | with_reducible refine And.intro ?_ ?_)
  · have hx := hb (p + 1 - 1).toNat
    have hm := tmod_in hx.1 (show 1 ≤ n by omega)
    repeat' ((conv => whnf); first | refine vA ?_ | with_reducible first | refine vS ?_ | refine vR ?_ | refine vB ?_ | refine br_nt ?_ | refine br_tt ?_ | refine br_ff ?_ | refine vP ?_ | refine vQ ?_ | refine vT ?_ | refine vF ?_ | refine br_and ?_ | refine br_or ?_ | refine br_d (fun _ => ?_) fun _ => ?_ | refine vM (fun _ => ?_) fun _ => ?_)
    refine ⟨_, _, [some 0], [], rfl, rfl, ?_, ?_, h _ _ (fun _ => by omega) (fun _ => hm) rfl⟩
    · repeat' ((conv => whnf); first | with_reducible exact True.intro | exact vW | with_reducible refine And.intro ?_ ?_)
    · repeat' ((conv => whnf); first | with_reducible exact True.intro | exact vW | with_reducible refine And.intro ?_ ?_)
  · rename_i hn hl hk
    have hl0 : (1 : Int) ≤ b.length := by omega
    have m1 := tmod_in (a := p + 1 - 1) (by omega) hl0
    have m2 := tmod_in (a := (p + 1 - 1) * 7 + 3) (by omega) hl0
    have d1 := tdiv_in (a := p + 1 - 1) (by omega) hl0
    have x1 := hb ((p + 1 - 1).tmod b.length).toNat
    have x2 := hb (((p + 1 - 1) * 7 + 3).tmod b.length).toNat
    refine Dr.mk ⟨[0, 1, 2, 3, 4, 5, 6, 7, 8, 9, 10, 11, 12, 13, 14, 15, 16, 17, 18, 19, 20, 21, 22, 23, 24, 25, 26, 27, 28, 29, 30, 31, 32, 33, 34, 35, 36, 37, 38, 39, 40, 41, 42, 43, 44, 45], by decide +kernel, ?_⟩
    repeat' ((conv => whnf); first | refine vA ?_ | with_reducible first | refine vS ?_ | refine vR ?_ | refine vB ?_ | refine br_nt ?_ | refine br_tt ?_ | refine br_ff ?_ | refine vP ?_ | refine vQ ?_ | refine vT ?_ | refine vF ?_ | refine br_and ?_ | refine br_or ?_ | refine br_d (fun _ => ?_) fun _ => ?_ | refine vM (fun _ => ?_) fun _ => ?_)
    obtain ⟨S, hS⟩ : ∃ S, b.getD ((p + 1 - 1).tmod b.length).toNat 0 * 131 + b.getD (((p + 1 - 1) * 7 + 3).tmod b.length).toNat 0 * 1117 + (p + 1 - 1) * 29 + (p + 1 - 1).tdiv b.length * 53 = S := ⟨_, rfl⟩
    have hS2 : 0 ≤ S ∧ S ≤ 200000000000 := by omega
    have d2 := tdiv_in (a := S) (n := 64) hS2.1 (by decide)
    have hx := xor_in (a := S) (b := S.tdiv 64) hS2.1 (by omega) d2.1 (by omega)
    have hm := tmod_in hx (show 1 ≤ n by omega)
    rw [hS]
    repeat' ((conv => whnf); first | refine vA ?_ | with_reducible first | refine vS ?_ | refine vR ?_ | refine vB ?_ | refine br_nt ?_ | refine br_tt ?_ | refine br_ff ?_ | refine vP ?_ | refine vQ ?_ | refine vT ?_ | refine vF ?_ | refine br_and ?_ | refine br_or ?_ | refine br_d (fun _ => ?_) fun _ => ?_ | refine vM (fun _ => ?_) fun _ => ?_)
    refine ⟨_, _, [some 0], [], rfl, rfl, ?_, ?_, h _ _ (fun _ => by omega) (fun _ => hm) rfl⟩
    · repeat' ((conv => whnf); first | with_reducible exact True.intro | exact vW | with_reducible refine And.intro ?_ ?_)
    · repeat' ((conv => whnf); first | with_reducible exact True.intro | exact vW | with_reducible refine And.intro ?_ ?_)
def C53 : GC := conG (X := Rd × Int) (fun x => [.ptr 0 0, .int .i64 x.2]) (fun x => [.box [slB x.1.b, .int .i64 x.1.p]]) (fun x => x.1.ok ∧ i64r x.2) fun x K => ∀ (v : Bool) (p' : Int), x.1.p ≤ p' → p' ≤ x.1.p + 1 → K (.bool v) [.box [slB x.1.b, .int .i64 p']]
theorem F53 : GG 53 C53 := by
  refine fitG [] (by simp) [(52, C52)] (by simp only [List.mem_cons, List.not_mem_nil, or_false]; rintro _ rfl <;> first | exact F52) Try.f53 ⟨rfl, by decide +kernel, by decide +kernel⟩ (by intro x K K2 hk h; (try dsimp only at h ⊢); intros; apply hk; first | exact h | (apply h <;> assumption)) ?_
  rintro ⟨⟨b, p⟩, n⟩ K ⟨h1, h5⟩ h
  refine ⟨Nat.le_of_ble_eq_true rfl, ?_⟩
  dsimp only at h h1 h5 ⊢
  repeat' ((conv => whnf); first | refine vA ?_ | with_reducible first | refine vS ?_ | refine vR ?_ | refine vB ?_ | refine br_nt ?_ | refine br_tt ?_ | refine br_ff ?_ | refine vP ?_ | refine vQ ?_ | refine vT ?_ | refine vF ?_ | refine br_and ?_ | refine br_or ?_ | refine br_d (fun _ => ?_) fun _ => ?_ | refine vM (fun _ => ?_) fun _ => ?_)
  · refine ⟨_, _, [0], [], rfl, ?_, ?_, (⟨b, p⟩, n), rfl, rfl, ⟨h1, h5⟩, ?_⟩
    · repeat' ((conv => whnf); first | with_reducible exact True.intro | exact vW | with_reducible refine And.intro ?_ ?_)
    · repeat' ((conv => whnf); first | with_reducible exact True.intro | exact vW | with_reducible refine And.intro ?_ ?_)
    intro k p' k1 k2 k3
    dsimp only at k1 k2 k3
    have h6 := h5.1
    have h7 := h5.2
    repeat' ((conv => whnf); first | refine vA ?_ | with_reducible first | refine vS ?_ | refine vR ?_ | refine vB ?_ | refine br_nt ?_ | refine br_tt ?_ | refine br_ff ?_ | refine vP ?_ | refine vQ ?_ | refine vT ?_ | refine vF ?_ | refine br_and ?_ | refine br_or ?_ | refine br_d (fun _ => ?_) fun _ => ?_ | refine vM (fun _ => ?_) fun _ => ?_)
    refine ⟨_, _, [some 0], [], rfl, rfl, ?_, ?_, h (decide (k = n - 1)) p' (by omega) (by omega)⟩
    · repeat' ((conv => whnf); first | with_reducible exact True.intro | exact vW | with_reducible refine And.intro ?_ ?_)
    · repeat' ((conv => whnf); first | with_reducible exact True.intro | exact vW | with_reducible refine And.intro ?_ ?_)
  · refine ⟨_, _, [some 0], [], rfl, rfl, ?_, ?_, h false p (by omega) (by omega)⟩
    · repeat' ((conv => whnf); first | with_reducible exact True.intro | exact vW | with_reducible refine And.intro ?_ ?_)
    · repeat' ((conv => whnf); first | with_reducible exact True.intro | exact vW | with_reducible refine And.intro ?_ ?_)
theorem tk_ext {l : List Int} {n : Nat} (h : n ≤ l.length) : (l.take n).length = n - 0 ∧ ∀ i, i < (l.take n).length → [AV.int .u8 ((l.take n).getD i 0)] = [AV.int .u8 (l.getD (0 + i) 0)] := by
  have e : (l.take n).length = n := by rw [List.length_take]; omega
  refine ⟨by rw [e]; rfl, fun i hi => ?_⟩
  rw [Nat.zero_add, List.getD_eq_getElem?_getD, List.getD_eq_getElem?_getD, List.getElem?_take_of_lt (by omega)]
def C42 : GC := conG (X := List Int) (fun l => [slB l]) (fun _ => []) (fun l => (∀ n ∈ l, u8r n) ∧ l.length < 9223372036854775808) fun _ K => ∀ b, Rd.ok ⟨b, 0⟩ → K (.ptr 0 0) [.box [slB b, .int .i64 0]]
theorem F42 : GG 42 C42 := by
  refine fitG [] (by simp) [] (by simp) Try.f42 ⟨rfl, by decide +kernel, by decide +kernel⟩ (by intro x K K2 hk h; (try dsimp only at h ⊢); intros; apply hk; first | exact h | (apply h <;> assumption)) ?_
  rintro l K ⟨h1, h5⟩ h
  refine ⟨Nat.le_of_ble_eq_true rfl, ?_⟩
  repeat' ((conv => whnf); first | refine vA ?_ | with_reducible first | refine vS ?_ | refine vB ?_ | refine br_nt ?_ | refine br_tt ?_ | refine br_ff ?_ | refine vP ?_ | refine vQ ?_ | refine vT ?_ | refine vF ?_ | refine br_and ?_ | refine br_or ?_ | refine br_d (fun _ => ?_) fun _ => ?_ | refine vM (fun _ => ?_) fun _ => ?_)
  refine Wk.rf ?_
  repeat' ((conv => whnf); first | refine vA ?_ | with_reducible first | refine vS ?_ | refine vB ?_ | refine br_nt ?_ | refine br_tt ?_ | refine br_ff ?_ | refine vP ?_ | refine vQ ?_ | refine vT ?_ | refine vF ?_ | refine br_and ?_ | refine br_or ?_ | refine br_d (fun _ => ?_) fun _ => ?_ | refine vM (fun _ => ?_) fun _ => ?_)
  refine Wk.rf ?_
  repeat' ((conv => whnf); first | refine vA ?_ | with_reducible first | refine vS ?_ | refine vB ?_ | refine br_nt ?_ | refine br_tt ?_ | refine br_ff ?_ | refine vP ?_ | refine vQ ?_ | refine vT ?_ | refine vF ?_ | refine br_and ?_ | refine br_or ?_ | refine br_d (fun _ => ?_) fun _ => ?_ | refine vM (fun _ => ?_) fun _ => ?_)
  · refine Wk.go [(0, slB (l.take 2000))] [] ⟨⟨[], [], rfl, rfl, ?_, ?_⟩⟩ ?_
    · repeat' ((conv => whnf); first | with_reducible exact True.intro | exact vW | with_reducible refine And.intro ?_ ?_)
      exact Chk.mk (tk_ext (l := l) (n := 2000) (by omega))
    · repeat' ((conv => whnf); first | with_reducible exact True.intro | exact vW | with_reducible refine And.intro ?_ ?_)
    repeat' ((conv => whnf); first | refine vA ?_ | with_reducible first | refine vS ?_ | refine vR ?_ | refine vB ?_ | refine br_nt ?_ | refine br_tt ?_ | refine br_ff ?_ | refine vP ?_ | refine vQ ?_ | refine vT ?_ | refine vF ?_ | refine br_and ?_ | refine br_or ?_ | refine br_d (fun _ => ?_) fun _ => ?_ | refine vM (fun _ => ?_) fun _ => ?_)
    refine ⟨_, _, [some 0], [], rfl, rfl, ?_, ?_, h (l.take 2000) ⟨?_, fun n hn => h1 n (List.mem_of_mem_take hn), (by decide : (0 : Int) ≤ 0), (by decide : (0 : Int) ≤ 1000000000)⟩⟩
    · repeat' ((conv => whnf); first | with_reducible exact True.intro | exact vW | with_reducible refine And.intro ?_ ?_)
    · repeat' ((conv => whnf); first | with_reducible exact True.intro | exact vW | with_reducible refine And.intro ?_ ?_)
    show (l.take 2000).length ≤ 2000
    rw [List.length_take]; omega
  · repeat' ((conv => whnf); first | refine vA ?_ | with_reducible first | refine vS ?_ | refine vR ?_ | refine vB ?_ | refine br_nt ?_ | refine br_tt ?_ | refine br_ff ?_ | refine vP ?_ | refine vQ ?_ | refine vT ?_ | refine vF ?_ | refine br_and ?_ | refine br_or ?_ | refine br_d (fun _ => ?_) fun _ => ?_ | refine vM (fun _ => ?_) fun _ => ?_)
    refine ⟨_, _, [some 0], [], rfl, rfl, ?_, ?_, h l ⟨by show l.length ≤ 2000; omega, h1, (by decide : (0 : Int) ≤ 0), (by decide : (0 : Int) ≤ 1000000000)⟩⟩
    · repeat' ((conv => whnf); first | with_reducible exact True.intro | exact vW | with_reducible refine And.intro ?_ ?_)
    · repeat' ((conv => whnf); first | with_reducible exact True.intro | exact vW | with_reducible refine And.intro ?_ ?_)
end Go.Proofs.Ytbbgojaloebknaa.Vc
