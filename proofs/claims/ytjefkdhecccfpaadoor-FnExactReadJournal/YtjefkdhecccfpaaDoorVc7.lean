/- Part XG: journals, by the reference; marks of deeds. -/
import Derived.Test.YtjefkdhecccfpaaDoorVc6
section
namespace Go.Proofs.YtjefkdhecccfpaaDoor.Vc
open Go.Proofs
set_option maxRecDepth 10000
set_option maxHeartbeats 4000000
def C247g := C259g
theorem F247g : GG 28 C247g := by
  refine fitG [] (by simp) [(62, C259g)] (by simp only [List.mem_cons, List.not_mem_nil, or_false]; rintro _ rfl <;> first | exact F259g) Tryd.f28 ⟨rfl, by decide +kernel, by decide +kernel⟩ (by intro x K K2 hk h; (try dsimp only at h ⊢); intros; apply hk; first | exact h | (apply h <;> assumption)) ?_
  rintro s K hs h
  refine ⟨Nat.le_of_ble_eq_true rfl, ?_⟩
  repeat' ((conv => whnf); first | refine vA ?_ | with_reducible first | refine v8 ?_ | refine Sp.mk ?_ ?_ | refine vS ?_ | refine vR ?_ | refine vB ?_ | refine br_nt ?_ | refine br_tt ?_ | refine br_ff ?_ | refine vP ?_ | refine vQ ?_ | refine vT ?_ | refine vF ?_ | refine br_and ?_ | refine br_or ?_ | refine br_d (fun _ => ?_) fun _ => ?_ | refine vM (fun _ => ?_) fun _ => ?_)
  refine ⟨_, _, [], [], rfl, ?_, ?_, s, rfl, rfl, ⟨hs⟩, ?_⟩
  · repeat' ((conv => whnf); first | with_reducible exact True.intro | exact vW | with_reducible refine And.intro ?_ ?_)
  · repeat' ((conv => whnf); first | with_reducible exact True.intro | exact vW | with_reducible refine And.intro ?_ ?_)
  dsimp only
  repeat' ((conv => whnf); first | refine vA ?_ | with_reducible first | refine v8 ?_ | refine Sp.mk ?_ ?_ | refine vS ?_ | refine vR ?_ | refine vB ?_ | refine br_nt ?_ | refine br_tt ?_ | refine br_ff ?_ | refine vP ?_ | refine vQ ?_ | refine vT ?_ | refine vF ?_ | refine br_and ?_ | refine br_or ?_ | refine br_d (fun _ => ?_) fun _ => ?_ | refine vM (fun _ => ?_) fun _ => ?_)
  refine ⟨_, _, [some 0], [], rfl, rfl, ?_, ?_, h⟩
  · repeat' ((conv => whnf); first | with_reducible exact True.intro | exact vW | with_reducible refine And.intro ?_ ?_)
  · repeat' ((conv => whnf); first | with_reducible exact True.intro | exact vW | with_reducible refine And.intro ?_ ?_)
def C246 : List AV → (AV → Prop) → Prop := con (X := ByteArray) (fun s => [.str s]) (fun s => s.size ≤ 1048576) fun s K => K (.tup [slD (jr s), .int .i64 (jn s : Nat)])
theorem ext_more {s : ByteArray} {n k : Nat} {b : UInt8} (hnk : n ≤ k) (h : s.data.toList.drop k = b :: s.data.toList.drop (k + 1)) : (s.extract n (k + 1)).data.toList = (s.extract n k).data.toList ++ [b] := ext_snocL hnk h
theorem drop_split {s : ByteArray} {n k : Nat} (h : n ≤ k) : s.data.toList.drop n = (s.extract n k).data.toList ++ s.data.toList.drop k := by
  rw [ext_list]
  conv => lhs; rw [← List.take_append_drop (k - n) (s.data.toList.drop n)]
  rw [List.drop_drop, show n + (k - n) = k by omega]
structure Jst where
  l : List Dd
  n : Nat
  k : Nat
theorem F246 : FF 27 C246 := by
  refine fitXE [(24, C244)] (by simp only [List.mem_cons, List.not_mem_nil, or_false]; rintro _ rfl <;> first | exact F244) [] (by simp) Tryd.f27 ⟨rfl, by decide +kernel, by decide +kernel⟩ (by intro x K K2 hk h; (try dsimp only at h ⊢); intros; apply hk; first | exact h | (apply h <;> assumption)) ?_
  rintro s K hs h
  refine ⟨Nat.le_of_ble_eq_true rfl, ?_⟩
  repeat' ((conv => whnf); first | refine vA ?_ | with_reducible first | refine v8 ?_ | refine Sp.mk ?_ ?_ | refine vS ?_ | refine vR ?_ | refine vB ?_ | refine br_nt ?_ | refine br_tt ?_ | refine br_ff ?_ | refine vP ?_ | refine vQ ?_ | refine vT ?_ | refine vF ?_ | refine br_and ?_ | refine br_or ?_ | refine br_d (fun _ => ?_) fun _ => ?_ | refine vM (fun _ => ?_) fun _ => ?_)
  refine Lp.mk ⟨Jst, fun x => [(0, .str s), (4, .row 0 4 0 x.l.length), (5, .int .i64 x.n), (6, .int .i64 x.k)], fun x => [.row 4 x.l.length fun i => encD (x.l.getD i default)], fun x => jrI s x.l x.n ∧ x.n ≤ x.k ∧ x.k ≤ s.size ∧ (10 : UInt8) ∉ (s.extract x.n x.k).data.toList, fun x => s.size - x.k, ⟨⟨[], 0, 0⟩, ⟨jrI_0 s, Nat.le_refl _, Nat.zero_le _, by rw [ext_list]; exact fun q => by cases q⟩, ⟨⟨[none], [], rfl, rfl, ?_, ?_⟩⟩⟩, ?_⟩
  · repeat' ((conv => whnf); first | with_reducible exact True.intro | exact vW | with_reducible refine And.intro ?_ ?_)
  · repeat' ((conv => whnf); first | with_reducible exact True.intro | exact vW | with_reducible refine And.intro ?_ ?_)
  rintro ⟨l, n, k⟩ ⟨hI, i2, i3, i4⟩
  have i1 := hI.le
  dsimp only at i1 i2 i3 i4 hI ⊢
  have hll : l.length ≤ n := by rw [hI.nn]; exact jl_len l
  have hbye : (∀ x t, okDd x → s.data.toList.drop n ≠ lineL x ++ t) → jr s = l ∧ jn s = n := hI.end
  have hps : (s.extract n k).size ≤ s.size := by rw [ByteArray.size_extract]; omega
  by_cases hk : k < s.size
  · obtain ⟨b, e1, e2⟩ := drop_bt hk
    have e1' : bt s (k : Int).toNat = (b.toNat : Int) := e1
    by_cases hb : (b.toNat : Int) = 10
    · obtain rfl : b = 10 := UInt8.toNat_inj.1 (by show b.toNat = 10; omega)
      have q2 : s.data.toList.drop n = (s.extract n k).data.toList ++ 10 :: s.data.toList.drop (k + 1) := by rw [drop_split i2, e2]
      have hsz : n + ((s.extract n k).size + 1) = k + 1 := by
        rw [ByteArray.size_extract]
        omega
      repeat' ((conv => whnf); first | refine vA ?_ | with_reducible first | refine v8 ?_ | refine Sp.mk ?_ ?_ | refine vS ?_ | refine vR ?_ | refine vB ?_ | refine br_nt ?_ | refine br_tt ?_ | refine br_ff ?_ | refine vP ?_ | refine vQ ?_ | refine vT ?_ | refine vF ?_ | refine br_and ?_ | refine br_or ?_ | refine br_d (fun _ => ?_) fun _ => ?_ | refine vM (fun _ => ?_) fun _ => ?_)
      refine ⟨s.extract n k, ?_, ⟨by omega⟩, ?_⟩
      · repeat' ((conv => whnf); first | with_reducible exact True.intro | exact vW | with_reducible refine And.intro ?_ ?_)
      refine ⟨fun x hx => ?_, fun hx => ?_⟩
      · have hI2 := hI.step q2 hx
        rw [hsz] at hI2
        obtain ⟨k', a, b, w⟩ := x
        dsimp only [ded, encD]
        repeat' ((conv => whnf); first | refine vA ?_ | with_reducible first | refine v8 ?_ | refine Sp.mk ?_ ?_ | refine vS ?_ | refine vR ?_ | refine vB ?_ | refine br_nt ?_ | refine br_tt ?_ | refine br_ff ?_ | refine vP ?_ | refine vQ ?_ | refine vT ?_ | refine vF ?_ | refine br_and ?_ | refine br_or ?_ | refine br_d (fun _ => ?_) fun _ => ?_ | refine vM (fun _ => ?_) fun _ => ?_)
        refine ⟨⟨l ++ [⟨k', a, b, w⟩], k + 1, k + 1⟩, ⟨hI2, Nat.le_refl _, by dsimp only; omega, by rw [ext_list, Nat.sub_self]; exact fun q => by cases q⟩, by dsimp only; omega, ?_⟩
        first | (refine ⟨⟨[some 3], [], rfl, rfl, ?_, ?_⟩⟩ <;> (repeat' ((conv => whnf); first | with_reducible exact True.intro | exact vW | with_reducible refine And.intro ?_ ?_ | exact Chk.mk ⟨rfl, by rw [List.length_append]; rfl⟩ | exact Chk.mk (ext_push (enc := encD) (d := default) (l := l) (x := ⟨k', a, b, w⟩) rfl))) <;> fail) | (refine ⟨⟨[some 2], [], rfl, rfl, ?_, ?_⟩⟩ <;> (repeat' ((conv => whnf); first | with_reducible exact True.intro | exact vW | with_reducible refine And.intro ?_ ?_ | exact Chk.mk ⟨rfl, by rw [List.length_append]; rfl⟩ | exact Chk.mk (ext_push (enc := encD) (d := default) (l := l) (x := ⟨k', a, b, w⟩) rfl))) <;> fail)
      · obtain ⟨g1, g2⟩ := hbye (q2 ▸ stop_line i4 hx)
        rw [g1, g2] at h
        dsimp only [ded, encD]
        repeat' ((conv => whnf); first | refine vA ?_ | with_reducible first | refine v8 ?_ | refine Sp.mk ?_ ?_ | refine vS ?_ | refine vR ?_ | refine vB ?_ | refine br_nt ?_ | refine br_tt ?_ | refine br_ff ?_ | refine vP ?_ | refine vQ ?_ | refine vT ?_ | refine vF ?_ | refine br_and ?_ | refine br_or ?_ | refine br_d (fun _ => ?_) fun _ => ?_ | refine vM (fun _ => ?_) fun _ => ?_)
        refine ⟨_, ?_, h⟩
        repeat' ((conv => whnf); first | with_reducible exact True.intro | exact vW | with_reducible refine And.intro ?_ ?_)
        all_goals exact Chk.mk ⟨rfl, fun i _ => by dsimp only; (try rw [Nat.zero_add]); try rfl⟩
    · repeat' ((conv => whnf); first | refine vA ?_ | with_reducible first | refine v8 ?_ | refine Sp.mk ?_ ?_ | refine vS ?_ | refine vR ?_ | refine vB ?_ | refine br_nt ?_ | refine br_tt ?_ | refine br_ff ?_ | refine vP ?_ | refine vQ ?_ | refine vT ?_ | refine vF ?_ | refine br_and ?_ | refine br_or ?_ | refine br_d (fun _ => ?_) fun _ => ?_ | refine vM (fun _ => ?_) fun _ => ?_)
      refine ⟨⟨l, n, k + 1⟩, ⟨hI, by dsimp only; omega, by dsimp only; omega, ?_⟩, by dsimp only; omega, ?_⟩
      · dsimp only
        rw [ext_more i2 e2]
        intro q
        rcases List.mem_append.1 q with q | q
        · exact i4 q
        · have := List.mem_singleton.1 q
          subst this
          exact hb rfl
      · first | (refine ⟨⟨[some 0], [], rfl, rfl, ?_, ?_⟩⟩ <;> (repeat' ((conv => whnf); first | with_reducible exact True.intro | exact vW | with_reducible refine And.intro ?_ ?_)) <;> fail)
  · obtain rfl : k = s.size := by omega
    rw [ext_tail] at i4
    obtain ⟨g1, g2⟩ := hbye (stop_none i4)
    rw [g1, g2] at h
    repeat' ((conv => whnf); first | refine vA ?_ | with_reducible first | refine v8 ?_ | refine Sp.mk ?_ ?_ | refine vS ?_ | refine vR ?_ | refine vB ?_ | refine br_nt ?_ | refine br_tt ?_ | refine br_ff ?_ | refine vP ?_ | refine vQ ?_ | refine vT ?_ | refine vF ?_ | refine br_and ?_ | refine br_or ?_ | refine br_d (fun _ => ?_) fun _ => ?_ | refine vM (fun _ => ?_) fun _ => ?_)
    refine ⟨_, ?_, h⟩
    repeat' ((conv => whnf); first | with_reducible exact True.intro | exact vW | with_reducible refine And.intro ?_ ?_)
    all_goals exact Chk.mk ⟨rfl, fun i _ => by dsimp only; (try rw [Nat.zero_add]); try rfl⟩
def C253 : List AV → (AV → Prop) → Prop := con (X := List Dd) (fun l => [slD l, slD l]) (fun l => l.length ≤ 1048576) fun _ K => K (.bool true)
theorem F253 : FF 39 C253 := by
  refine fitE [] (by simp) Tryd.f39 ⟨rfl, by decide +kernel, by decide +kernel⟩ (fun _ _ _ hk h => hk _ h) ?_
  rintro l K h1 h
  refine ⟨Nat.le_of_ble_eq_true rfl, ?_⟩
  repeat' ((conv => whnf); first | refine vA ?_ | with_reducible first | refine v8 ?_ | refine Sp.mk ?_ ?_ | refine vS ?_ | refine vR ?_ | refine vB ?_ | refine br_nt ?_ | refine br_tt ?_ | refine br_ff ?_ | refine vP ?_ | refine vQ ?_ | refine vT ?_ | refine vF ?_ | refine br_and ?_ | refine br_or ?_ | refine br_d (fun _ => ?_) fun _ => ?_ | refine vM (fun _ => ?_) fun _ => ?_)
  refine Lp.mk ⟨Nat, fun i => [(0, slD l), (1, slD l), (5, .int .i64 i)], fun i => [], fun i => i ≤ l.length, fun i => l.length - i, ⟨0, Nat.zero_le _, ⟨⟨[], [], rfl, rfl, ?_, ?_⟩⟩⟩, ?_⟩
  · repeat' ((conv => whnf); first | with_reducible exact True.intro | exact vW | with_reducible refine And.intro ?_ ?_)
  · repeat' ((conv => whnf); first | with_reducible exact True.intro | exact vW | with_reducible refine And.intro ?_ ?_)
  intro i i1
  dsimp only
  have hw : (l.getD (i : Int).toNat default).words = (l.getD (i : Int).toNat default).words := rfl
  by_cases hi : i < l.length
  · repeat' ((conv => whnf); first | refine vA ?_ | with_reducible first | refine v8 ?_ | refine Sp.mk ?_ ?_ | refine vS ?_ | refine vR ?_ | refine vB ?_ | refine br_nt ?_ | refine br_tt ?_ | refine br_ff ?_ | refine vP ?_ | refine vQ ?_ | refine vT ?_ | refine vF ?_ | refine br_and ?_ | refine br_or ?_ | refine br_d (fun _ => ?_) fun _ => ?_ | refine vM (fun _ => ?_) fun _ => ?_)
    refine Dr.mk ⟨(.rd 0 (.rd 1 (.rd 2 (.rd 3 (.rd 4 (.rd 5 (.rd 6 (.rd 7 (.rd 8 .dn))))))))), by decide +kernel, ?_⟩
    repeat' ((conv => whnf); first | refine vA ?_ | with_reducible first | refine v8 ?_ | refine Sp.mk ?_ ?_ | refine vS ?_ | refine vR ?_ | refine vB ?_ | refine br_nt ?_ | refine br_tt ?_ | refine br_ff ?_ | refine vP ?_ | refine vQ ?_ | refine vT ?_ | refine vF ?_ | refine br_and ?_ | refine br_or ?_ | refine br_d (fun _ => ?_) fun _ => ?_ | refine vM (fun _ => ?_) fun _ => ?_)
    refine ⟨i + 1, by omega, by omega, ⟨⟨[], [], rfl, rfl, ?_, ?_⟩⟩⟩
    · repeat' ((conv => whnf); first | with_reducible exact True.intro | exact vW | with_reducible refine And.intro ?_ ?_)
    · repeat' ((conv => whnf); first | with_reducible exact True.intro | exact vW | with_reducible refine And.intro ?_ ?_)
  · repeat' ((conv => whnf); first | refine vA ?_ | with_reducible first | refine v8 ?_ | refine Sp.mk ?_ ?_ | refine vS ?_ | refine vR ?_ | refine vB ?_ | refine br_nt ?_ | refine br_tt ?_ | refine br_ff ?_ | refine vP ?_ | refine vQ ?_ | refine vT ?_ | refine vF ?_ | refine br_and ?_ | refine br_or ?_ | refine br_d (fun _ => ?_) fun _ => ?_ | refine vM (fun _ => ?_) fun _ => ?_)
    exact h
/-! ### Marks -/
def mkDd (n : Int) : Dd := ⟨n, n + 1, n + 1 + 1, mkT (n + 1 + 1 + 1)⟩
def mkDs (n : Int) (k : Nat) : List Dd := (List.range k).map fun (i : Nat) => mkDd (n + 4 * (i : Int))
theorem mkDs_len (n : Int) (k : Nat) : (mkDs n k).length = k := by simp [mkDs]
theorem mkDs_get {n : Int} {k i : Nat} (h : i < k) : (mkDs n k).getD i default = mkDd (n + 4 * (i : Int)) := by
  unfold mkDs
  rw [List.getD_eq_getElem?_getD, List.getElem?_map, List.getElem?_range h]
  rfl
theorem setF_self {X : Nat → List AV} {i : Nat} {v : List AV} : setF X i v i = v := by
  unfold setF
  rw [Nat.beq_refl]
  rfl
theorem setF_setF {X : Nat → List AV} {i : Nat} {u v : List AV} : setF (setF X i u) i v = setF X i v := by
  funext j
  unfold setF
  cases Nat.beq j i <;> rfl
theorem four_set {F G : Nat → List AV} {i N : Nat} {a b c d x y z u : AV} (hF : F i = [a, b, c, d]) (hG : G i = [x, y, z, u]) : N = N ∧ ∀ j, j < N → mixF (i + 1) F G j = setF (setF (setF (setF (mixF i F G) (0 + i) (setCells (mixF i F G (0 + i)) 0 [a])) (0 + i) (setCells (setF (mixF i F G) (0 + i) (setCells (mixF i F G (0 + i)) 0 [a]) (0 + i)) 1 [b])) (0 + i) (setCells (setF (setF (mixF i F G) (0 + i) (setCells (mixF i F G (0 + i)) 0 [a])) (0 + i) (setCells (setF (mixF i F G) (0 + i) (setCells (mixF i F G (0 + i)) 0 [a]) (0 + i)) 1 [b]) (0 + i)) 2 [c])) (0 + i) (setCells (setF (setF (setF (mixF i F G) (0 + i) (setCells (mixF i F G (0 + i)) 0 [a])) (0 + i) (setCells (setF (mixF i F G) (0 + i) (setCells (mixF i F G (0 + i)) 0 [a]) (0 + i)) 1 [b])) (0 + i) (setCells (setF (setF (mixF i F G) (0 + i) (setCells (mixF i F G (0 + i)) 0 [a])) (0 + i) (setCells (setF (mixF i F G) (0 + i) (setCells (mixF i F G (0 + i)) 0 [a]) (0 + i)) 1 [b]) (0 + i)) 2 [c]) (0 + i)) 3 [d]) j := by
  refine ⟨rfl, fun j _ => ?_⟩
  simp only [Nat.zero_add, setF_self, setF_setF, mix_at, hG]
  exact mix_set hF.symm j
structure Md where
  l : List Dd
  n : Int
def C248 : GC := conG (X := Md) (fun x => [.row 0 4 0 x.l.length, .int .i64 x.n]) (fun x => [.row 4 x.l.length fun i => encD (x.l.getD i default)]) (fun x => 0 ≤ x.n ∧ x.n ≤ 1000000000000 ∧ x.l.length ≤ 100000000000) fun x K => K (.int .i64 (x.n + 4 * x.l.length)) [.row 4 x.l.length fun i => encD ((mkDs x.n x.l.length).getD i default)]
theorem F248 : GG 30 C248 := by
  refine fitG [(63, C186)] (by simp only [List.mem_cons, List.not_mem_nil, or_false]; rintro _ rfl <;> first | exact F186) [] (by simp) Tryd.f30 ⟨rfl, by decide +kernel, by decide +kernel⟩ (by intro x K K2 hk h; (try dsimp only at h ⊢); intros; apply hk; first | exact h | (apply h <;> assumption)) ?_
  rintro ⟨l, n⟩ K ⟨h1, h2, h3⟩ h
  refine ⟨Nat.le_of_ble_eq_true rfl, ?_⟩
  dsimp only at h h1 h2 h3 ⊢
  repeat' ((conv => whnf); first | refine vA ?_ | with_reducible first | refine v8 ?_ | refine Sp.mk ?_ ?_ | refine vS ?_ | refine vR ?_ | refine vB ?_ | refine br_nt ?_ | refine br_tt ?_ | refine br_ff ?_ | refine vP ?_ | refine vQ ?_ | refine vT ?_ | refine vF ?_ | refine br_and ?_ | refine br_or ?_ | refine br_d (fun _ => ?_) fun _ => ?_ | refine vM (fun _ => ?_) fun _ => ?_)
  refine Lp.mk ⟨Nat, fun i => [(0, .row 0 4 0 l.length), (1, .int .i64 (n + 4 * i)), (5, .int .i64 i)], fun i => [.row 4 l.length (mixF i (fun j => encD (mkDd (n + 4 * (j : Int)))) fun j => encD (l.getD j default))], fun i => i ≤ l.length, fun i => l.length - i, ⟨0, Nat.zero_le _, ⟨⟨[some 0], [], rfl, rfl, ?_, ?_⟩⟩⟩, ?_⟩
  · repeat' ((conv => whnf); first | with_reducible exact True.intro | exact vW | with_reducible refine And.intro ?_ ?_)
  · repeat' ((conv => whnf); first | with_reducible exact True.intro | exact vW | with_reducible refine And.intro ?_ ?_)
  intro i i1
  dsimp only
  repeat' ((conv => whnf); first | refine vA ?_ | with_reducible first | refine v8 ?_ | refine Sp.mk ?_ ?_ | refine vS ?_ | refine vR ?_ | refine vB ?_ | refine br_nt ?_ | refine br_tt ?_ | refine br_ff ?_ | refine vP ?_ | refine vQ ?_ | refine vT ?_ | refine vF ?_ | refine br_and ?_ | refine br_or ?_ | refine br_d (fun _ => ?_) fun _ => ?_ | refine vM (fun _ => ?_) fun _ => ?_)
  · rename_i hi
    refine ⟨n + 4 * i + 1 + 1 + 1, ?_, ⟨by omega, by omega⟩, ?_⟩
    · repeat' ((conv => whnf); first | with_reducible exact True.intro | exact vW | with_reducible refine And.intro ?_ ?_)
    repeat' ((conv => whnf); first | refine vA ?_ | with_reducible first | refine v8 ?_ | refine Sp.mk ?_ ?_ | refine vS ?_ | refine vR ?_ | refine vB ?_ | refine br_nt ?_ | refine br_tt ?_ | refine br_ff ?_ | refine vP ?_ | refine vQ ?_ | refine vT ?_ | refine vF ?_ | refine br_and ?_ | refine br_or ?_ | refine br_d (fun _ => ?_) fun _ => ?_ | refine vM (fun _ => ?_) fun _ => ?_)
    refine ⟨i + 1, by omega, by omega, ⟨⟨[some 0], [], rfl, rfl, ?_, ?_⟩⟩⟩
    · repeat' ((conv => whnf); first | with_reducible exact True.intro | exact vW | with_reducible refine And.intro ?_ ?_)
    · repeat' ((conv => whnf); first | with_reducible exact True.intro | exact vW | with_reducible refine And.intro ?_ ?_)
      all_goals exact Chk.mk (four_set rfl rfl)
  · obtain rfl : i = l.length := by omega
    refine ⟨_, _, [some 0], [], rfl, rfl, ?_, ?_, h⟩
    · repeat' ((conv => whnf); first | with_reducible exact True.intro | exact vW | with_reducible refine And.intro ?_ ?_)
    · repeat' ((conv => whnf); first | with_reducible exact True.intro | exact vW | with_reducible refine And.intro ?_ ?_)
      all_goals exact Chk.mk ⟨rfl, fun j hj => by show encD _ = _; rw [mkDs_get hj, mix_lt hj]⟩
/-- Marks that are held. -/
def C249 : List AV → (AV → Prop) → Prop := con (X := Hd) (fun x => [slD (mkDs x.n x.k), .int .i64 x.n]) (fun x => 0 ≤ x.n ∧ x.n ≤ 1000000000000 ∧ x.k ≤ 100000000000) fun x K => K (.int .i64 (x.n + 4 * x.k))
theorem F249 : FF 31 C249 := by
  refine fitE [(63, C186)] (by simp only [List.mem_cons, List.not_mem_nil, or_false]; rintro _ rfl <;> first | exact F186) Tryd.f31 ⟨rfl, by decide +kernel, by decide +kernel⟩ (fun _ _ _ hk h => hk _ h) ?_
  rintro ⟨k, n⟩ K ⟨h1, h2, h3⟩ h
  refine ⟨Nat.le_of_ble_eq_true rfl, ?_⟩
  dsimp only at h h1 h2 h3 ⊢
  have hl := mkDs_len n k
  obtain ⟨l, hle⟩ : ∃ l, mkDs n k = l := ⟨_, rfl⟩
  rw [hle] at hl ⊢
  have hg : ∀ i : Nat, i < k → l.getD i default = mkDd (n + 4 * i) := fun i hi => by rw [← hle]; exact mkDs_get hi
  repeat' ((conv => whnf); first | refine vA ?_ | with_reducible first | refine v8 ?_ | refine Sp.mk ?_ ?_ | refine vS ?_ | refine vR ?_ | refine vB ?_ | refine br_nt ?_ | refine br_tt ?_ | refine br_ff ?_ | refine vP ?_ | refine vQ ?_ | refine vT ?_ | refine vF ?_ | refine br_and ?_ | refine br_or ?_ | refine br_d (fun _ => ?_) fun _ => ?_ | refine vM (fun _ => ?_) fun _ => ?_)
  refine Lp.mk ⟨Nat, fun i => [(0, slD l), (1, .int .i64 (n + 4 * i)), (5, .int .i64 i)], fun _ => [], fun i => i ≤ l.length, fun i => l.length - i, ⟨0, Nat.zero_le _, ⟨⟨[], [], rfl, rfl, ?_, ?_⟩⟩⟩, ?_⟩
  · repeat' ((conv => whnf); first | with_reducible exact True.intro | exact vW | with_reducible refine And.intro ?_ ?_)
  · repeat' ((conv => whnf); first | with_reducible exact True.intro | exact vW | with_reducible refine And.intro ?_ ?_)
  intro i i1
  dsimp only
  by_cases hi : i < l.length
  · have hgi := hg i (by omega)
    have g1 : (l.getD (i : Int).toNat default).kind = n + 4 * i := by rw [Int.toNat_natCast, hgi]; rfl
    have g2 : (l.getD (i : Int).toNat default).a = n + 4 * i + 1 := by rw [Int.toNat_natCast, hgi]; rfl
    have g3 : (l.getD (i : Int).toNat default).b = n + 4 * i + 1 + 1 := by rw [Int.toNat_natCast, hgi]; rfl
    have g4 : (l.getD (i : Int).toNat default).words = mkT (n + 4 * i + 1 + 1 + 1) := by rw [Int.toNat_natCast, hgi]; rfl
    repeat' ((conv => whnf); first | refine vA ?_ | with_reducible first | refine v8 ?_ | refine Sp.mk ?_ ?_ | refine vS ?_ | refine vR ?_ | refine vB ?_ | refine br_nt ?_ | refine br_tt ?_ | refine br_ff ?_ | refine vP ?_ | refine vQ ?_ | refine vT ?_ | refine vF ?_ | refine br_and ?_ | refine br_or ?_ | refine br_d (fun _ => ?_) fun _ => ?_ | refine vM (fun _ => ?_) fun _ => ?_)
    refine Dr.mk ⟨(.rd 0 (.rd 1 (.rd 2 (.rd 3 (.rd 4 (.rd 5 (.ef 6 (.rd 7 .dn) .no))))))), by decide +kernel, ?_⟩
    repeat' ((conv => whnf); first | refine vA ?_ | with_reducible first | refine v8 ?_ | refine Sp.mk ?_ ?_ | refine vS ?_ | refine vR ?_ | refine vB ?_ | refine br_nt ?_ | refine br_tt ?_ | refine br_ff ?_ | refine vP ?_ | refine vQ ?_ | refine vT ?_ | refine vF ?_ | refine br_and ?_ | refine br_or ?_ | refine br_d (fun _ => ?_) fun _ => ?_ | refine vM (fun _ => ?_) fun _ => ?_)
    refine ⟨n + 4 * i + 1 + 1 + 1, ?_, ⟨by omega, by omega⟩, ?_⟩
    · repeat' ((conv => whnf); first | with_reducible exact True.intro | exact vW | with_reducible refine And.intro ?_ ?_)
    repeat' ((conv => whnf); first | refine vA ?_ | with_reducible first | refine v8 ?_ | refine Sp.mk ?_ ?_ | refine vS ?_ | refine vR ?_ | refine vB ?_ | refine br_nt ?_ | refine br_tt ?_ | refine br_ff ?_ | refine vP ?_ | refine vQ ?_ | refine vT ?_ | refine vF ?_ | refine br_and ?_ | refine br_or ?_ | refine br_d (fun _ => ?_) fun _ => ?_ | refine vM (fun _ => ?_) fun _ => ?_)
    refine ⟨i + 1, by omega, by omega, ⟨⟨[], [], rfl, rfl, ?_, ?_⟩⟩⟩
    · repeat' ((conv => whnf); first | with_reducible exact True.intro | exact vW | with_reducible refine And.intro ?_ ?_)
    · repeat' ((conv => whnf); first | with_reducible exact True.intro | exact vW | with_reducible refine And.intro ?_ ?_)
  · obtain rfl : i = l.length := by omega
    rw [← hl] at h
    repeat' ((conv => whnf); first | refine vA ?_ | with_reducible first | refine v8 ?_ | refine Sp.mk ?_ ?_ | refine vS ?_ | refine vR ?_ | refine vB ?_ | refine br_nt ?_ | refine br_tt ?_ | refine br_ff ?_ | refine vP ?_ | refine vQ ?_ | refine vT ?_ | refine vF ?_ | refine br_and ?_ | refine br_or ?_ | refine br_d (fun _ => ?_) fun _ => ?_ | refine vM (fun _ => ?_) fun _ => ?_)
    exact h
end Go.Proofs.YtjefkdhecccfpaaDoor.Vc
end
section
/- Part UE: places that are read, by the reference. -/
namespace Go.Proofs.YtjefkdhecccfpaaDoor.Vc
open Go.Proofs
set_option maxRecDepth 10000
set_option maxHeartbeats 4000000
def isPt (s : ByteArray) (x : Place) : Prop := placeOk x ∧ plT x = s
def rpPost (s : ByteArray) (K : AV → Prop) : Prop := (∀ x, isPt s x → K (.tup [enPl x, .bool true])) ∧ ((¬ ∃ x, isPt s x) → K (.tup [enPl default, .bool false]))
theorem rpPost.mono {s : ByteArray} {K K2 : AV → Prop} (hk : ∀ r, K r → K2 r) (h : rpPost s K) : rpPost s K2 := ⟨fun x q => hk _ (h.1 x q), fun q => hk _ (h.2 q)⟩
theorem isPt_cut {s : ByteArray} {x : Place} (h : isPt s x) : cutB s 32 = num x.p :: listT x.bs :: x.rules := by rw [← h.2]; exact cut_plT h.1
theorem isPt_len {s : ByteArray} {x : Place} (h : isPt s x) : 3 ≤ (cutB s 32).length := by
  rw [isPt_cut h]
  have := h.1.2.1.1
  simp only [List.length_cons]
  omega
theorem isPt_p {s : ByteArray} {x : Place} (h : isPt s x) : ∃ n : Nat, n < 1000000 ∧ (cutB s 32).getD 0 ⟨#[]⟩ = num n ∧ x.p = n := by
  have := placeOk_small h.1
  rw [isPt_cut h]
  exact ⟨x.p.toNat, by omega, by show num x.p = _; congr 1; omega, by omega⟩
theorem isPt_bs {s : ByteArray} {x : Place} (h : isPt s x) : cutB ((cutB s 32).getD 1 ⟨#[]⟩) 44 = x.bs.map num := by
  rw [isPt_cut h]
  exact cut_listT (placeOk_small h.1).1 (placeOk_bs h.1)
theorem isPt_b {s : ByteArray} {x : Place} (h : isPt s x) {i : Nat} (hi : i < x.bs.length) : ∃ n : Nat, n < 1000000 ∧ (cutB ((cutB s 32).getD 1 ⟨#[]⟩) 44).getD i ⟨#[]⟩ = num n ∧ x.bs.getD i 0 = n := by
  have hs := (placeOk_small h.1).1.2 _ (getD_mem' (d := 0) hi)
  rw [isPt_bs h]
  refine ⟨(x.bs.getD i 0).toNat, by omega, ?_, by omega⟩
  rw [List.getD_eq_getElem?_getD, List.getElem?_map, List.getElem?_eq_getElem hi, List.getD_eq_getElem?_getD, List.getElem?_eq_getElem hi] at *
  show num _ = num _
  congr 1
  have : (x.bs[i]?.getD 0 : Int) = x.bs[i] := by rw [List.getElem?_eq_getElem hi]; rfl
  simp only [Option.getD_some] at hs ⊢
  omega
theorem isPt_rs {s : ByteArray} {x : Place} (h : isPt s x) : (cutB s 32).drop 2 = x.rules := by rw [isPt_cut h]; rfl
theorem isPt_one {s : ByteArray} {x y : Place} (h : isPt s x) (g : isPt s y) : x = y := plT_inj h.1 g.1 (h.2.trans g.2.symm)
theorem isPt_ne {s : ByteArray} {x : Place} (h : isPt s x) : s ≠ ⟨#[]⟩ := fun e => by
  have := isPt_len h
  rw [e] at this
  exact absurd this (by decide)
def C219 : List AV → (AV → Prop) → Prop := con (X := ByteArray) (fun s => [.str s]) (fun s => s.size < 4294967281) rpPost
end Go.Proofs.YtjefkdhecccfpaaDoor.Vc
end
section
/- Part UF: places that are read, by the implementation. -/
namespace Go.Proofs.YtjefkdhecccfpaaDoor.Vc
open Go.Proofs
set_option maxRecDepth 10000
set_option maxHeartbeats 4000000
def C214 : List AV → (AV → Prop) → Prop := con (X := ByteArray) (fun s => [.str s]) (fun s => s.size < 4294967281) rpPost
theorem placeOk_short' {x : Place} (h : placeOk x) : x.rules.length ≤ 100000000 ∧ x.bs.length ≤ 100000000 := ⟨Nat.le_trans h.2.1.2 (by omega), Nat.le_trans h.1.2.1 (by omega)⟩
theorem isPt_num {s : ByteArray} {x : Place} (h : isPt s x) : isNum ((cutB s 32).getD 0 ⟨#[]⟩) = true := by
  obtain ⟨n, n1, n2, _⟩ := isPt_p h
  rw [n2]
  exact isNum_num n1
end Go.Proofs.YtjefkdhecccfpaaDoor.Vc
end
section
/- Part ZO: the readers of a code. -/
namespace Go.Proofs.YtjefkdhecccfpaaDoor.Vc
open Go.Proofs
set_option maxRecDepth 10000
set_option maxHeartbeats 4000000
/-- A reader of a code. -/
structure Rd where
  b : List Int
  p : Int
def Rd.okn (r : Rd) (n : Int) : Prop := r.b.length ≤ 2000 ∧ (∀ n ∈ r.b, u8r n) ∧ 0 ≤ r.p ∧ r.p ≤ n
abbrev rdO (b : List Int) (p : Int) : Obj := .box [slB b, .int .i64 p]
def Rd.ok (r : Rd) : Prop := r.b.length ≤ 2000 ∧ (∀ n ∈ r.b, u8r n) ∧ 0 ≤ r.p ∧ r.p ≤ 1000000000
theorem u8_getD {b : List Int} (h : ∀ n ∈ b, u8r n) (i : Nat) : 0 ≤ b.getD i 0 ∧ b.getD i 0 < 256 := by
  rw [List.getD_eq_getElem?_getD]
  rcases Nat.lt_or_ge i b.length with hi | hi
  · rw [List.getElem?_eq_getElem hi]; exact h _ (List.getElem_mem hi)
  · rw [List.getElem?_eq_none hi]; exact ⟨by decide, by decide⟩
theorem tmod_in {a n : Int} (h1 : 0 ≤ a) (h2 : 1 ≤ n) : 0 ≤ a.tmod n ∧ a.tmod n < n := by
  rw [Int.tmod_eq_emod_of_nonneg h1]
  exact ⟨Int.emod_nonneg _ (by omega), Int.emod_lt_of_pos _ (by omega)⟩
theorem tdiv_in {a n : Int} (h1 : 0 ≤ a) (h2 : 1 ≤ n) : 0 ≤ a.tdiv n ∧ a.tdiv n ≤ a := by
  rw [Int.tdiv_eq_ediv_of_nonneg h1]
  exact ⟨Int.ediv_nonneg h1 (by omega), Int.ediv_le_self _ h1⟩
theorem xor_in {a b : Int} (h1 : 0 ≤ a) (h2 : a < 4611686018427387904) (h3 : 0 ≤ b) (h4 : b < 4611686018427387904) : 0 ≤ bitop .i64 .xor a b := by
  have e : ∀ n : Int, 0 ≤ n → n < 4611686018427387904 → (BitVec.ofInt 64 n).toNat = n.toNat := fun n g1 g2 => by
    rw [BitVec.toNat_ofInt]
    omega
  have hx : (BitVec.ofInt 64 a ^^^ BitVec.ofInt 64 b).toNat < 2 ^ 62 := by
    rw [BitVec.toNat_xor, e a h1 h2, e b h3 h4]
    exact Nat.xor_lt_two_pow (by omega) (by omega)
  show 0 ≤ IntKind.i64.wrap (((BitVec.ofInt 64 a ^^^ BitVec.ofInt 64 b).toNat : Nat) : Int)
  rw [wi64 (by omega) (by omega)]
  omega
def C52 : GC := conG (X := Rd × Int) (fun x => [.ptr 0 0, .int .i64 x.2]) (fun x => [.box [slB x.1.b, .int .i64 x.1.p]]) (fun x => x.1.ok ∧ i64r x.2) fun x K => ∀ k p' : Int, (x.2 < 1 → k = 0) → (1 ≤ x.2 → 0 ≤ k ∧ k < x.2) → p' = x.1.p + 1 → K (.int .i64 k) [.box [slB x.1.b, .int .i64 p']]
theorem F52 : GG 68 C52 := by
  refine fitG [] (by simp) [] (by simp) Tryd.f68 ⟨rfl, by decide +kernel, by decide +kernel⟩ (by intro x K K2 hk h; (try dsimp only at h ⊢); intros; apply hk; first | exact h | (apply h <;> assumption)) ?_
  rintro ⟨⟨b, p⟩, n⟩ K ⟨⟨h1, h2, h3, h4⟩, h5⟩ h
  refine ⟨Nat.le_of_ble_eq_true rfl, ?_⟩
  dsimp only at h h1 h2 h3 h4 h5 ⊢
  have hb := u8_getD h2
  repeat' ((conv => whnf); first | refine vA ?_ | with_reducible first | refine v8 ?_ | refine Sp.mk ?_ ?_ | refine vS ?_ | refine vR ?_ | refine vB ?_ | refine br_nt ?_ | refine br_tt ?_ | refine br_ff ?_ | refine vP ?_ | refine vQ ?_ | refine vT ?_ | refine vF ?_ | refine br_and ?_ | refine br_or ?_ | refine br_d (fun _ => ?_) fun _ => ?_ | refine vM (fun _ => ?_) fun _ => ?_)
  · refine ⟨_, _, [some 0], [], rfl, rfl, ?_, ?_, h 0 _ (fun _ => rfl) (fun _ => by omega) rfl⟩
    · repeat' ((conv => whnf); first | with_reducible exact True.intro | exact vW | with_reducible refine And.intro ?_ ?_)
    · repeat' ((conv => whnf); first | with_reducible exact True.intro | exact vW | with_reducible refine And.intro ?_ ?_)
  · refine ⟨_, _, [some 0], [], rfl, rfl, ?_, ?_, h 0 _ (fun _ => rfl) (fun _ => by omega) rfl⟩
    · repeat' ((conv => whnf); first | with_reducible exact True.intro | exact vW | with_reducible refine And.intro ?_ ?_)
    · repeat' ((conv => whnf); first | with_reducible exact True.intro | exact vW | with_reducible refine And.intro ?_ ?_)
  · have hx := hb (p + 1 - 1).toNat
    have hm := tmod_in hx.1 (show 1 ≤ n by omega)
    repeat' ((conv => whnf); first | refine vA ?_ | with_reducible first | refine v8 ?_ | refine Sp.mk ?_ ?_ | refine vS ?_ | refine vR ?_ | refine vB ?_ | refine br_nt ?_ | refine br_tt ?_ | refine br_ff ?_ | refine vP ?_ | refine vQ ?_ | refine vT ?_ | refine vF ?_ | refine br_and ?_ | refine br_or ?_ | refine br_d (fun _ => ?_) fun _ => ?_ | refine vM (fun _ => ?_) fun _ => ?_)
    refine ⟨_, _, [some 0], [], rfl, rfl, ?_, ?_, h _ _ (fun _ => by omega) (fun _ => hm) rfl⟩
    · repeat' ((conv => whnf); first | with_reducible exact True.intro | exact vW | with_reducible refine And.intro ?_ ?_)
    · repeat' ((conv => whnf); first | with_reducible exact True.intro | exact vW | with_reducible refine And.intro ?_ ?_)
  · rename_i hn hl hk
    have hl0 : (1 : Int) ≤ b.length := by omega
    have m1 := tmod_in (a := p + 1 - 1) (by omega) hl0
    have m2 := tmod_in (a := (p + 1 - 1) * 7 + 3) (by omega) hl0
    have d1 := tdiv_in (a := p + 1 - 1) (by omega) hl0
    have x1 := hb ((p + 1 - 1).tmod b.length).toNat
    have x2 := hb (((p + 1 - 1) * 7 + 3).tmod b.length).toNat
    refine Dr.mk ⟨(.rd 0 (.rd 1 (.rd 2 (.rd 3 (.rd 4 (.rd 5 (.rd 6 (.rd 7 (.rd 8 (.rd 9 (.rd 10 (.rd 11 (.rd 12 (.rd 13 (.rd 14 (.rd 15 (.rd 16 (.rd 17 (.rd 18 (.rd 19 (.rd 20 (.rd 21 (.rd 22 (.rd 23 (.rd 24 (.rd 25 (.rd 26 (.rd 27 (.rd 28 (.rd 29 (.rd 30 (.rd 31 (.rd 32 (.rd 33 (.rd 34 (.rd 35 (.rd 36 (.rd 37 (.rd 38 (.rd 39 (.rd 40 (.rd 41 (.rd 42 (.rd 43 (.rd 44 (.rd 45 .dn)))))))))))))))))))))))))))))))))))))))))))))), by decide +kernel, ?_⟩
    repeat' ((conv => whnf); first | refine vA ?_ | with_reducible first | refine v8 ?_ | refine Sp.mk ?_ ?_ | refine vS ?_ | refine vR ?_ | refine vB ?_ | refine br_nt ?_ | refine br_tt ?_ | refine br_ff ?_ | refine vP ?_ | refine vQ ?_ | refine vT ?_ | refine vF ?_ | refine br_and ?_ | refine br_or ?_ | refine br_d (fun _ => ?_) fun _ => ?_ | refine vM (fun _ => ?_) fun _ => ?_)
    obtain ⟨S, hS⟩ : ∃ S, b.getD ((p + 1 - 1).tmod b.length).toNat 0 * 131 + b.getD (((p + 1 - 1) * 7 + 3).tmod b.length).toNat 0 * 1117 + (p + 1 - 1) * 29 + (p + 1 - 1).tdiv b.length * 53 = S := ⟨_, rfl⟩
    have hS2 : 0 ≤ S ∧ S ≤ 200000000000 := by omega
    have d2 := tdiv_in (a := S) (n := 64) hS2.1 (by decide)
    have hx := xor_in (a := S) (b := S.tdiv 64) hS2.1 (by omega) d2.1 (by omega)
    have hm := tmod_in hx (show 1 ≤ n by omega)
    rw [hS]
    repeat' ((conv => whnf); first | refine vA ?_ | with_reducible first | refine v8 ?_ | refine Sp.mk ?_ ?_ | refine vS ?_ | refine vR ?_ | refine vB ?_ | refine br_nt ?_ | refine br_tt ?_ | refine br_ff ?_ | refine vP ?_ | refine vQ ?_ | refine vT ?_ | refine vF ?_ | refine br_and ?_ | refine br_or ?_ | refine br_d (fun _ => ?_) fun _ => ?_ | refine vM (fun _ => ?_) fun _ => ?_)
    refine ⟨_, _, [some 0], [], rfl, rfl, ?_, ?_, h _ _ (fun _ => by omega) (fun _ => hm) rfl⟩
    · repeat' ((conv => whnf); first | with_reducible exact True.intro | exact vW | with_reducible refine And.intro ?_ ?_)
    · repeat' ((conv => whnf); first | with_reducible exact True.intro | exact vW | with_reducible refine And.intro ?_ ?_)
def C53 : GC := conG (X := Rd × Int) (fun x => [.ptr 0 0, .int .i64 x.2]) (fun x => [.box [slB x.1.b, .int .i64 x.1.p]]) (fun x => x.1.ok ∧ i64r x.2) fun x K => ∀ (v : Bool) (p' : Int), x.1.p ≤ p' → p' ≤ x.1.p + 1 → K (.bool v) [.box [slB x.1.b, .int .i64 p']]
theorem F53 : GG 55 C53 := by
  refine fitG [] (by simp) [(68, C52)] (by simp only [List.mem_cons, List.not_mem_nil, or_false]; rintro _ rfl <;> first | exact F52) Tryd.f55 ⟨rfl, by decide +kernel, by decide +kernel⟩ (by intro x K K2 hk h; (try dsimp only at h ⊢); intros; apply hk; first | exact h | (apply h <;> assumption)) ?_
  rintro ⟨⟨b, p⟩, n⟩ K ⟨h1, h5⟩ h
  refine ⟨Nat.le_of_ble_eq_true rfl, ?_⟩
  dsimp only at h h1 h5 ⊢
  repeat' ((conv => whnf); first | refine vA ?_ | with_reducible first | refine v8 ?_ | refine Sp.mk ?_ ?_ | refine vS ?_ | refine vR ?_ | refine vB ?_ | refine br_nt ?_ | refine br_tt ?_ | refine br_ff ?_ | refine vP ?_ | refine vQ ?_ | refine vT ?_ | refine vF ?_ | refine br_and ?_ | refine br_or ?_ | refine br_d (fun _ => ?_) fun _ => ?_ | refine vM (fun _ => ?_) fun _ => ?_)
  · refine ⟨_, _, [0], [], rfl, ?_, ?_, (⟨b, p⟩, n), rfl, rfl, ⟨h1, h5⟩, ?_⟩
    · repeat' ((conv => whnf); first | with_reducible exact True.intro | exact vW | with_reducible refine And.intro ?_ ?_)
    · repeat' ((conv => whnf); first | with_reducible exact True.intro | exact vW | with_reducible refine And.intro ?_ ?_)
    intro k p' k1 k2 k3
    dsimp only at k1 k2 k3
    have h6 := h5.1
    have h7 := h5.2
    repeat' ((conv => whnf); first | refine vA ?_ | with_reducible first | refine v8 ?_ | refine Sp.mk ?_ ?_ | refine vS ?_ | refine vR ?_ | refine vB ?_ | refine br_nt ?_ | refine br_tt ?_ | refine br_ff ?_ | refine vP ?_ | refine vQ ?_ | refine vT ?_ | refine vF ?_ | refine br_and ?_ | refine br_or ?_ | refine br_d (fun _ => ?_) fun _ => ?_ | refine vM (fun _ => ?_) fun _ => ?_)
    refine ⟨_, _, [some 0], [], rfl, rfl, ?_, ?_, h (decide (k = n - 1)) p' (by omega) (by omega)⟩
    · repeat' ((conv => whnf); first | with_reducible exact True.intro | exact vW | with_reducible refine And.intro ?_ ?_)
    · repeat' ((conv => whnf); first | with_reducible exact True.intro | exact vW | with_reducible refine And.intro ?_ ?_)
  · refine ⟨_, _, [some 0], [], rfl, rfl, ?_, ?_, h false p (by omega) (by omega)⟩
    · repeat' ((conv => whnf); first | with_reducible exact True.intro | exact vW | with_reducible refine And.intro ?_ ?_)
    · repeat' ((conv => whnf); first | with_reducible exact True.intro | exact vW | with_reducible refine And.intro ?_ ?_)
theorem tk_ext {l : List Int} {n : Nat} (h : n ≤ l.length) : (l.take n).length = n - 0 ∧ ∀ i, i < (l.take n).length → [AV.int .u8 ((l.take n).getD i 0)] = [AV.int .u8 (l.getD (0 + i) 0)] := by
  have e : (l.take n).length = n := by rw [List.length_take]; omega
  refine ⟨by rw [e]; rfl, fun i hi => ?_⟩
  rw [Nat.zero_add, List.getD_eq_getElem?_getD, List.getD_eq_getElem?_getD, List.getElem?_take_of_lt (by omega)]
def C42 : GC := conG (X := List Int) (fun l => [slB l]) (fun _ => []) (fun l => (∀ n ∈ l, u8r n) ∧ l.length < 9223372036854775808) fun _ K => ∀ b, Rd.ok ⟨b, 0⟩ → K (.ptr 0 0) [.box [slB b, .int .i64 0]]
theorem F42 : GG 40 C42 := by
  refine fitG [] (by simp) [] (by simp) Tryd.f40 ⟨rfl, by decide +kernel, by decide +kernel⟩ (by intro x K K2 hk h; (try dsimp only at h ⊢); intros; apply hk; first | exact h | (apply h <;> assumption)) ?_
  rintro l K ⟨h1, h5⟩ h
  refine ⟨Nat.le_of_ble_eq_true rfl, ?_⟩
  repeat' ((conv => whnf); first | refine vA ?_ | with_reducible first | refine v8 ?_ | refine Sp.mk ?_ ?_ | refine vS ?_ | refine vB ?_ | refine br_nt ?_ | refine br_tt ?_ | refine br_ff ?_ | refine vP ?_ | refine vQ ?_ | refine vT ?_ | refine vF ?_ | refine br_and ?_ | refine br_or ?_ | refine br_d (fun _ => ?_) fun _ => ?_ | refine vM (fun _ => ?_) fun _ => ?_)
  refine Wk.rf ?_
  repeat' ((conv => whnf); first | refine vA ?_ | with_reducible first | refine v8 ?_ | refine Sp.mk ?_ ?_ | refine vS ?_ | refine vB ?_ | refine br_nt ?_ | refine br_tt ?_ | refine br_ff ?_ | refine vP ?_ | refine vQ ?_ | refine vT ?_ | refine vF ?_ | refine br_and ?_ | refine br_or ?_ | refine br_d (fun _ => ?_) fun _ => ?_ | refine vM (fun _ => ?_) fun _ => ?_)
  refine Wk.rf ?_
  repeat' ((conv => whnf); first | refine vA ?_ | with_reducible first | refine v8 ?_ | refine Sp.mk ?_ ?_ | refine vS ?_ | refine vB ?_ | refine br_nt ?_ | refine br_tt ?_ | refine br_ff ?_ | refine vP ?_ | refine vQ ?_ | refine vT ?_ | refine vF ?_ | refine br_and ?_ | refine br_or ?_ | refine br_d (fun _ => ?_) fun _ => ?_ | refine vM (fun _ => ?_) fun _ => ?_)
  · refine Wk.go [(0, slB (l.take 2000))] [] ⟨⟨[], [], rfl, rfl, ?_, ?_⟩⟩ ?_
    · repeat' ((conv => whnf); first | with_reducible exact True.intro | exact vW | with_reducible refine And.intro ?_ ?_)
      exact Chk.mk (tk_ext (l := l) (n := 2000) (by omega))
    · repeat' ((conv => whnf); first | with_reducible exact True.intro | exact vW | with_reducible refine And.intro ?_ ?_)
    repeat' ((conv => whnf); first | refine vA ?_ | with_reducible first | refine v8 ?_ | refine Sp.mk ?_ ?_ | refine vS ?_ | refine vR ?_ | refine vB ?_ | refine br_nt ?_ | refine br_tt ?_ | refine br_ff ?_ | refine vP ?_ | refine vQ ?_ | refine vT ?_ | refine vF ?_ | refine br_and ?_ | refine br_or ?_ | refine br_d (fun _ => ?_) fun _ => ?_ | refine vM (fun _ => ?_) fun _ => ?_)
    refine ⟨_, _, [some 0], [], rfl, rfl, ?_, ?_, h (l.take 2000) ⟨?_, fun n hn => h1 n (List.mem_of_mem_take hn), (by decide : (0 : Int) ≤ 0), (by decide : (0 : Int) ≤ 1000000000)⟩⟩
    · repeat' ((conv => whnf); first | with_reducible exact True.intro | exact vW | with_reducible refine And.intro ?_ ?_)
    · repeat' ((conv => whnf); first | with_reducible exact True.intro | exact vW | with_reducible refine And.intro ?_ ?_)
    show (l.take 2000).length ≤ 2000
    rw [List.length_take]; omega
  · repeat' ((conv => whnf); first | refine vA ?_ | with_reducible first | refine v8 ?_ | refine Sp.mk ?_ ?_ | refine vS ?_ | refine vR ?_ | refine vB ?_ | refine br_nt ?_ | refine br_tt ?_ | refine br_ff ?_ | refine vP ?_ | refine vQ ?_ | refine vT ?_ | refine vF ?_ | refine br_and ?_ | refine br_or ?_ | refine br_d (fun _ => ?_) fun _ => ?_ | refine vM (fun _ => ?_) fun _ => ?_)
    refine ⟨_, _, [some 0], [], rfl, rfl, ?_, ?_, h l ⟨by show l.length ≤ 2000; omega, h1, (by decide : (0 : Int) ≤ 0), (by decide : (0 : Int) ≤ 1000000000)⟩⟩
    · repeat' ((conv => whnf); first | with_reducible exact True.intro | exact vW | with_reducible refine And.intro ?_ ?_)
    · repeat' ((conv => whnf); first | with_reducible exact True.intro | exact vW | with_reducible refine And.intro ?_ ?_)
end Go.Proofs.YtjefkdhecccfpaaDoor.Vc
end
section
/- Part ZP: houses and terms that are drawn. -/
namespace Go.Proofs.YtjefkdhecccfpaaDoor.Vc
open Go.Proofs
set_option maxRecDepth 10000
set_option maxHeartbeats 4000000
theorem td8 {a : Int} (h : 0 ≤ a) : a.tdiv 8 = a / 8 := Int.tdiv_eq_ediv_of_nonneg h
def C59 : GC := conG (X := Rd × Int) (fun x => [.ptr 0 0, .int .i64 x.2]) (fun x => [.box [slB x.1.b, .int .i64 x.1.p]]) (fun x => x.1.okn 500000000 ∧ i64r x.2) fun x K => ∀ (h : House) (p' : Int), x.1.p ≤ p' → p' ≤ x.1.p + 20 → 0 ≤ h.p ∧ h.p ≤ 7 → h.bs.length ≤ 4 → (∀ b ∈ h.bs, 0 ≤ b ∧ b ≤ 64) → K (enH h) [.box [slB x.1.b, .int .i64 p']]
theorem F59 : GG 95 C59 := by
  refine fitG [] (by simp) [(68, C52), (55, C53)] (by simp only [List.mem_cons, List.not_mem_nil, or_false]; rintro _ (rfl | rfl) <;> first | exact F52 | exact F53) Tryd.f95 ⟨rfl, by decide +kernel, by decide +kernel⟩ (by intro x K K2 hk h; (try dsimp only at h ⊢); intros; apply hk; first | exact h | (apply h <;> assumption)) ?_
  rintro ⟨⟨b, p⟩, n⟩ K ⟨⟨h1, h2, h3, h4⟩, h5⟩ h
  refine ⟨Nat.le_of_ble_eq_true rfl, ?_⟩
  dsimp only at h h1 h2 h3 h4 h5 ⊢
  repeat' ((conv => whnf); first | refine vA ?_ | with_reducible first | refine v8 ?_ | refine Sp.mk ?_ ?_ | refine vS ?_ | refine vR ?_ | refine vB ?_ | refine br_nt ?_ | refine br_tt ?_ | refine br_ff ?_ | refine vP ?_ | refine vQ ?_ | refine vT ?_ | refine vF ?_ | refine br_and ?_ | refine br_or ?_ | refine br_d (fun _ => ?_) fun _ => ?_ | refine vM (fun _ => ?_) fun _ => ?_)
  refine ⟨_, _, [0], [], rfl, ?_, ?_, (⟨b, p⟩, 5), rfl, rfl, ⟨⟨h1, h2, ?_, ?_⟩, ?_⟩, ?_⟩
  · repeat' ((conv => whnf); first | with_reducible exact True.intro | exact vW | with_reducible refine And.intro ?_ ?_)
    try exact Chk.mk (by rw [pw_sh (by assumption)])
  · repeat' ((conv => whnf); first | with_reducible exact True.intro | exact vW | with_reducible refine And.intro ?_ ?_)
  · dsimp only; omega
  · dsimp only; omega
  · unfold i64r; dsimp only; omega
  intro k1 p1 a0 a1 a2
  dsimp only at a0 a1 a2
  repeat' ((conv => whnf); first | refine vA ?_ | with_reducible first | refine v8 ?_ | refine Sp.mk ?_ ?_ | refine vS ?_ | refine vR ?_ | refine vB ?_ | refine br_nt ?_ | refine br_tt ?_ | refine br_ff ?_ | refine vP ?_ | refine vQ ?_ | refine vT ?_ | refine vF ?_ | refine br_and ?_ | refine br_or ?_ | refine br_d (fun _ => ?_) fun _ => ?_ | refine vM (fun _ => ?_) fun _ => ?_)
  refine ⟨_, _, [0], [], rfl, ?_, ?_, (⟨b, p1⟩, 9), rfl, rfl, ⟨⟨h1, h2, ?_, ?_⟩, ?_⟩, ?_⟩
  · repeat' ((conv => whnf); first | with_reducible exact True.intro | exact vW | with_reducible refine And.intro ?_ ?_)
    try exact Chk.mk (by rw [pw_sh (by assumption)])
  · repeat' ((conv => whnf); first | with_reducible exact True.intro | exact vW | with_reducible refine And.intro ?_ ?_)
  · dsimp only; omega
  · dsimp only; omega
  · unfold i64r; dsimp only; omega
  intro k2 p2 b0 b1 b2
  dsimp only at b0 b1 b2
  have e8 := td8 (a := k2) (by omega)
  obtain ⟨P, hP⟩ : ∃ P, 1 + k1 + k2.tdiv 8 = P := ⟨_, rfl⟩
  have pp : people P := by unfold people; omega
  have pw2 := pw_le pp
  repeat' ((conv => whnf); first | refine vA ?_ | with_reducible first | refine v8 ?_ | refine Sp.mk ?_ ?_ | refine vS ?_ | refine vR ?_ | refine vB ?_ | refine br_nt ?_ | refine br_tt ?_ | refine br_ff ?_ | refine vP ?_ | refine vQ ?_ | refine vT ?_ | refine vF ?_ | refine br_and ?_ | refine br_or ?_ | refine br_d (fun _ => ?_) fun _ => ?_ | refine vM (fun _ => ?_) fun _ => ?_)
  rw [hP]
  repeat' ((conv => whnf); first | refine vA ?_ | with_reducible first | refine v8 ?_ | refine Sp.mk ?_ ?_ | refine vS ?_ | refine vR ?_ | refine vB ?_ | refine br_nt ?_ | refine br_tt ?_ | refine br_ff ?_ | refine vP ?_ | refine vQ ?_ | refine vT ?_ | refine vF ?_ | refine br_and ?_ | refine br_or ?_ | refine br_d (fun _ => ?_) fun _ => ?_ | refine vM (fun _ => ?_) fun _ => ?_)
  refine ⟨_, _, [0], [], rfl, ?_, ?_, (⟨b, p2⟩, 3), rfl, rfl, ⟨⟨h1, h2, ?_, ?_⟩, ?_⟩, ?_⟩
  · repeat' ((conv => whnf); first | with_reducible exact True.intro | exact vW | with_reducible refine And.intro ?_ ?_)
    try exact Chk.mk (by rw [pw_sh (by assumption)])
  · repeat' ((conv => whnf); first | with_reducible exact True.intro | exact vW | with_reducible refine And.intro ?_ ?_)
  · dsimp only; omega
  · dsimp only; omega
  · unfold i64r; dsimp only; omega
  intro k3 p3 c0 c1 c2
  dsimp only at c0 c1 c2
  repeat' ((conv => whnf); first | refine vA ?_ | with_reducible first | refine v8 ?_ | refine Sp.mk ?_ ?_ | refine vS ?_ | refine vR ?_ | refine vB ?_ | refine br_nt ?_ | refine br_tt ?_ | refine br_ff ?_ | refine vP ?_ | refine vQ ?_ | refine vT ?_ | refine vF ?_ | refine br_and ?_ | refine br_or ?_ | refine br_d (fun _ => ?_) fun _ => ?_ | refine vM (fun _ => ?_) fun _ => ?_)
  refine Lp.mk ⟨List Int × Int × Int, fun x => [(0, .ptr 0 0), (1, .int .i64 n), (4, .ptr 1 0), (5, .ptr 2 0), (6, .int .i64 x.2.1)],
    fun x => [rdO b x.2.2, .box [.int .i64 0, .nils], .box [.int .i64 P, .row 3 1 0 x.1.length], .row 1 x.1.length fun j => encI (x.1.getD j 0)],
    fun x => 0 ≤ x.2.1 ∧ x.2.1 + x.1.length = 1 + k3 ∧ x.2.2 = p3 + x.1.length ∧ ∀ b ∈ x.1, 0 ≤ b ∧ b ≤ 64, fun x => x.2.1.toNat, ⟨([], 1 + k3, p3), ⟨by show 0 ≤ 1 + k3; omega, by simp, by simp, by simp⟩, ⟨⟨[some 0, some 1, some 2, none], [], rfl, rfl, ?_, ?_⟩⟩⟩, ?_⟩
  · repeat' ((conv => whnf); first | with_reducible exact True.intro | exact vW | with_reducible refine And.intro ?_ ?_)
  · repeat' ((conv => whnf); first | with_reducible exact True.intro | exact vW | with_reducible refine And.intro ?_ ?_)
  rintro ⟨l, j, q⟩ ⟨i1, i2, i3, i4⟩
  dsimp only at i1 i2 i3 i4 ⊢
  repeat' ((conv => whnf); first | refine vA ?_ | with_reducible first | refine v8 ?_ | refine Sp.mk ?_ ?_ | refine vS ?_ | refine vR ?_ | refine vB ?_ | refine br_nt ?_ | refine br_tt ?_ | refine br_ff ?_ | refine vP ?_ | refine vQ ?_ | refine vT ?_ | refine vF ?_ | refine br_and ?_ | refine br_or ?_ | refine br_d (fun _ => ?_) fun _ => ?_ | refine vM (fun _ => ?_) fun _ => ?_)
  · refine Dr.mk ⟨(.rd 0 (.rd 1 (.rd 2 (.rd 3 (.rd 4 (.rd 5 (.rd 6 (.ef 7 (.rd 8 (.ef 9 (.ef 10 (.rd 11 (.ef 12 .dn .no)) .no) .no)) .no)))))))), by decide +kernel, ?_⟩
    repeat' ((conv => whnf); first | with_reducible refine Wr.ex (wsh pp) ?_ | with_reducible refine Wr.ex (wi64 (by rw [pw_sh pp]; omega) (by rw [pw_sh pp]; omega)) ?_ | refine vA ?_ | with_reducible first | refine v8 ?_ | refine Sp.mk ?_ ?_ | refine vS ?_ | refine vR ?_ | refine vB ?_ | refine br_nt ?_ | refine br_tt ?_ | refine br_ff ?_ | refine vP ?_ | refine vQ ?_ | refine vT ?_ | refine vF ?_ | refine br_and ?_ | refine br_or ?_ | refine br_d (fun _ => ?_) fun _ => ?_ | refine vM (fun _ => ?_) fun _ => ?_)
    refine ⟨_, _, [0], [], rfl, ?_, ?_, (⟨b, q⟩, (pw P - 1)), rfl, rfl, ⟨⟨h1, h2, ?_, ?_⟩, ?_⟩, ?_⟩
    · repeat' ((conv => whnf); first | with_reducible exact True.intro | exact vW | with_reducible refine And.intro ?_ ?_)
      try exact Chk.mk (by rw [pw_sh (by assumption)])
    · repeat' ((conv => whnf); first | with_reducible exact True.intro | exact vW | with_reducible refine And.intro ?_ ?_)
    · dsimp only; omega
    · dsimp only; omega
    · unfold i64r; dsimp only; omega
    intro k4 p4 d0 d1 d2
    dsimp only at d0 d1 d2
    repeat' ((conv => whnf); first | refine vA ?_ | with_reducible first | refine v8 ?_ | refine Sp.mk ?_ ?_ | refine vS ?_ | refine vR ?_ | refine vB ?_ | refine br_nt ?_ | refine br_tt ?_ | refine br_ff ?_ | refine vP ?_ | refine vQ ?_ | refine vT ?_ | refine vF ?_ | refine br_and ?_ | refine br_or ?_ | refine br_d (fun _ => ?_) fun _ => ?_ | refine vM (fun _ => ?_) fun _ => ?_)
    refine ⟨(l ++ [1 + k4], j - 1, p4), ⟨by show 0 ≤ j - 1; omega, by simp; omega, by simp; omega, ?_⟩, by show (j - 1).toNat < j.toNat; omega, ⟨⟨[some 0, some 1, some 2, some 5], [], rfl, rfl, ?_, ?_⟩⟩⟩
    · intro v hv
      rcases List.mem_append.1 hv with hv | hv
      · exact i4 v hv
      · simp at hv; omega
    · repeat' ((conv => whnf); first | with_reducible exact True.intro | exact vW | with_reducible refine And.intro ?_ ?_)
    · repeat' ((conv => whnf); first | with_reducible exact True.intro | exact vW | with_reducible refine And.intro ?_ ?_)
      all_goals exact Chk.mk (ext_push rfl)
  · refine ⟨_, _, [0], [], rfl, ?_, ?_, (⟨b, q⟩, n), rfl, rfl, ⟨⟨h1, h2, ?_, ?_⟩, h5⟩, ?_⟩
    · repeat' ((conv => whnf); first | with_reducible exact True.intro | exact vW | with_reducible refine And.intro ?_ ?_)
    · repeat' ((conv => whnf); first | with_reducible exact True.intro | exact vW | with_reducible refine And.intro ?_ ?_)
    · dsimp only; omega
    · dsimp only; omega
    intro v p5 g1 g2
    dsimp only at g1 g2
    repeat' ((conv => whnf); first | refine vA ?_ | with_reducible first | refine v8 ?_ | refine Sp.mk ?_ ?_ | refine vS ?_ | refine vR ?_ | refine vB ?_ | refine br_nt ?_ | refine br_tt ?_ | refine br_ff ?_ | refine vP ?_ | refine vQ ?_ | refine vT ?_ | refine vF ?_ | refine br_and ?_ | refine br_or ?_ | refine br_d (fun _ => ?_) fun _ => ?_ | refine vM (fun _ => ?_) fun _ => ?_)
    · refine ⟨_, _, [0], [], rfl, ?_, ?_, (⟨b, p5⟩, 3), rfl, rfl, ⟨⟨h1, h2, ?_, ?_⟩, ?_⟩, ?_⟩
      · repeat' ((conv => whnf); first | with_reducible exact True.intro | exact vW | with_reducible refine And.intro ?_ ?_)
        try exact Chk.mk (by rw [pw_sh (by assumption)])
      · repeat' ((conv => whnf); first | with_reducible exact True.intro | exact vW | with_reducible refine And.intro ?_ ?_)
      · dsimp only; omega
      · dsimp only; omega
      · unfold i64r; dsimp only; omega
      intro k6 p6 e0 e1 e2
      dsimp only at e0 e1 e2
      repeat' ((conv => whnf); first | refine vA ?_ | with_reducible first | refine v8 ?_ | refine Sp.mk ?_ ?_ | refine vS ?_ | refine vR ?_ | refine vB ?_ | refine br_nt ?_ | refine br_tt ?_ | refine br_ff ?_ | refine vP ?_ | refine vQ ?_ | refine vT ?_ | refine vF ?_ | refine br_and ?_ | refine br_or ?_ | refine br_d (fun _ => ?_) fun _ => ?_ | refine vM (fun _ => ?_) fun _ => ?_)
      · refine ⟨_, _, [0], [], rfl, ?_, ?_, (⟨b, p6⟩, 2), rfl, rfl, ⟨⟨h1, h2, ?_, ?_⟩, ?_⟩, ?_⟩
        · repeat' ((conv => whnf); first | with_reducible exact True.intro | exact vW | with_reducible refine And.intro ?_ ?_)
          try exact Chk.mk (by rw [pw_sh (by assumption)])
        · repeat' ((conv => whnf); first | with_reducible exact True.intro | exact vW | with_reducible refine And.intro ?_ ?_)
        · dsimp only; omega
        · dsimp only; omega
        · unfold i64r; dsimp only; omega
        intro k7 p7 f0 f1 f2
        dsimp only at f0 f1 f2
        rcases (show k7 = 0 ∨ k7 = 1 by omega) with rfl | rfl
        · repeat' ((conv => whnf); first | refine vA ?_ | with_reducible first | refine v8 ?_ | refine Sp.mk ?_ ?_ | refine vS ?_ | refine vR ?_ | refine vB ?_ | refine br_nt ?_ | refine br_tt ?_ | refine br_ff ?_ | refine vP ?_ | refine vQ ?_ | refine vT ?_ | refine vF ?_ | refine br_and ?_ | refine br_or ?_ | refine br_d (fun _ => ?_) fun _ => ?_ | refine vM (fun _ => ?_) fun _ => ?_)
          refine ⟨_, _, [some 0], [3], rfl, rfl, ?_, ?_, h ⟨0, l⟩ p7 (by omega) (by omega) (by show (0:Int) ≤ 0 ∧ (0:Int) ≤ 7; decide) (by show l.length ≤ 4; omega) i4⟩
          · repeat' ((conv => whnf); first | with_reducible exact True.intro | exact vW | with_reducible refine And.intro ?_ ?_)
          · repeat' ((conv => whnf); first | with_reducible exact True.intro | exact vW | with_reducible refine And.intro ?_ ?_)
        · repeat' ((conv => whnf); first | refine vA ?_ | with_reducible first | refine v8 ?_ | refine Sp.mk ?_ ?_ | refine vS ?_ | refine vR ?_ | refine vB ?_ | refine br_nt ?_ | refine br_tt ?_ | refine br_ff ?_ | refine vP ?_ | refine vQ ?_ | refine vT ?_ | refine vF ?_ | refine br_and ?_ | refine br_or ?_ | refine br_d (fun _ => ?_) fun _ => ?_ | refine vM (fun _ => ?_) fun _ => ?_)
          refine ⟨_, _, [some 0], [3], rfl, rfl, ?_, ?_, h ⟨7, l⟩ p7 (by omega) (by omega) (by show (0:Int) ≤ 7 ∧ (7:Int) ≤ 7; decide) (by show l.length ≤ 4; omega) i4⟩
          · repeat' ((conv => whnf); first | with_reducible exact True.intro | exact vW | with_reducible refine And.intro ?_ ?_)
          · repeat' ((conv => whnf); first | with_reducible exact True.intro | exact vW | with_reducible refine And.intro ?_ ?_)
      · refine ⟨_, _, [some 0], [5], rfl, rfl, ?_, ?_, h ⟨P, l ++ [0]⟩ p6 (by omega) (by omega) ?_ ?_ ?_⟩
        · repeat' ((conv => whnf); first | with_reducible exact True.intro | exact vW | with_reducible refine And.intro ?_ ?_)
          all_goals exact Chk.mk ⟨by simp, by simp, fun i hi => by rw [Nat.zero_add]; exact (ext_push (l := l) (x := (0 : Int)) (enc := encI) (d := 0) rfl).2 i hi⟩
        · repeat' ((conv => whnf); first | with_reducible exact True.intro | exact vW | with_reducible refine And.intro ?_ ?_)
        · show 0 ≤ P ∧ P ≤ 7
          unfold people at pp; omega
        · show (l ++ [0]).length ≤ 4
          simp; omega
        · intro v hv
          rcases List.mem_append.1 hv with hv | hv
          · exact i4 v hv
          · simp at hv; omega
      · refine ⟨_, _, [some 0], [], rfl, rfl, ?_, ?_, h ⟨P, []⟩ p6 (by omega) (by omega) ⟨by show 0 ≤ P; unfold people at pp; omega, by show P ≤ 7; unfold people at pp; omega⟩ (by show 0 ≤ 4; omega) (fun _ hb => by cases hb)⟩
        · repeat' ((conv => whnf); first | with_reducible exact True.intro | exact vW | with_reducible refine And.intro ?_ ?_)
        · repeat' ((conv => whnf); first | with_reducible exact True.intro | exact vW | with_reducible refine And.intro ?_ ?_)
    · refine ⟨_, _, [some 0], [3], rfl, rfl, ?_, ?_, h ⟨P, l⟩ p5 (by omega) (by omega) (by show 0 ≤ P ∧ P ≤ 7; unfold people at pp; omega) (by show l.length ≤ 4; omega) i4⟩
      · repeat' ((conv => whnf); first | with_reducible exact True.intro | exact vW | with_reducible refine And.intro ?_ ?_)
      · repeat' ((conv => whnf); first | with_reducible exact True.intro | exact vW | with_reducible refine And.intro ?_ ?_)
end Go.Proofs.YtjefkdhecccfpaaDoor.Vc
end
section
/- Part ZQ: terms that are drawn. -/
namespace Go.Proofs.YtjefkdhecccfpaaDoor.Vc
open Go.Proofs
set_option maxRecDepth 10000
set_option maxHeartbeats 4000000
def encP (l : List Mark) : List AV := [slM l]
def sumL : List (List Mark) → Nat
  | [] => 0
  | l :: r => l.length + sumL r
theorem sumL_app : ∀ a b : List (List Mark), sumL (a ++ b) = sumL a + sumL b
  | [], b => by simp [sumL]
  | x :: a, b => by simp only [List.cons_append, sumL, sumL_app a b]; omega
theorem sumL_mem {l : List Mark} : ∀ {P : List (List Mark)}, l ∈ P → l.length ≤ sumL P
  | x :: P, h => by
    rcases List.mem_cons.1 h with rfl | h
    · simp only [sumL]; omega
    · have := sumL_mem h; simp only [sumL]; omega
structure Tx where
  r : Rd
  h : House
  n : Int
theorem app_extG {α : Type} (enc : α → List AV) (d : α) {l : List α} {c : α} {g : Nat → List AV} (hg : g 0 = enc c) : (l ++ [c]).length = l.length + 1 ∧ ∀ j, j < (l ++ [c]).length → enc ((l ++ [c]).getD j d) = appF l.length (fun j => enc (l.getD j d)) g j := by
  refine ⟨by simp, fun j hj => ?_⟩
  simp only [List.length_append, List.length_cons, List.length_nil] at hj
  unfold appF
  rw [List.getD_eq_getElem?_getD, List.getElem?_append]
  cases hb : Nat.blt j l.length with
  | true =>
    have h1 : j < l.length := Nat.le_of_ble_eq_true hb
    rw [if_pos h1, ← List.getD_eq_getElem?_getD]
    rfl
  | false =>
    have : ¬ j < l.length := fun h => by
      have : Nat.blt j l.length = true := Nat.ble_eq_true_of_le h
      rw [this] at hb; cases hb
    have : j = l.length := by omega
    subst this
    rw [if_neg (by omega)]
    simp [hg]
theorem one_ext {l : List (List Mark)} {x y z : Int} : (l ++ [[(⟨x, y, z⟩ : Mark)]]).length = l.length + 1 ∧ ∀ j, j < (l ++ [[(⟨x, y, z⟩ : Mark)]]).length → encP ((l ++ [[(⟨x, y, z⟩ : Mark)]]).getD j []) = appF l.length (fun j => encP (l.getD j []))
    (fun i => (fun i => [[AV.sl 3 1 fun i => (fun i => [[AV.int .i64 x, AV.int .i64 y, AV.int .i64 z]].getD i [AV.int .i64 0, AV.int .i64 0, AV.int .i64 0]) (0 + i)]].getD i [AV.nils]) (0 + i)) j := by
  refine app_extG encP [] ?_
  have e : (fun i => (fun i => [[AV.int .i64 x, AV.int .i64 y, AV.int .i64 z]].getD i [AV.int .i64 0, AV.int .i64 0, AV.int .i64 0]) (0 + i)) = fun i => encM (([⟨x, y, z⟩] : List Mark).getD i default) := by
    funext i
    simp only [Nat.zero_add]
    match i with
    | 0 => rfl
    | i + 1 => rfl
  rw [e]
  rfl
theorem appF_enc {α : Type} (enc : α → List AV) (d : α) (l r : List α) : appF l.length (fun i => enc (l.getD i d)) (fun i => enc (r.getD i d)) = fun i => enc ((l ++ r).getD i d) := by
  funext i
  unfold appF
  rw [List.getD_eq_getElem?_getD (l := l ++ r), List.getElem?_append]
  cases hb : Nat.blt i l.length with
  | true =>
    have h1 : i < l.length := Nat.le_of_ble_eq_true hb
    rw [if_pos h1, ← List.getD_eq_getElem?_getD]
    rfl
  | false =>
    have : ¬ i < l.length := fun h => by
      have : Nat.blt i l.length = true := Nat.ble_eq_true_of_le h
      rw [this] at hb; cases hb
    rw [if_neg this, ← List.getD_eq_getElem?_getD]
    rfl
theorem lit1 {x y z : Int} : (fun i => (fun i => [[AV.int .i64 x, AV.int .i64 y, AV.int .i64 z]].getD i [AV.int .i64 0, AV.int .i64 0, AV.int .i64 0]) (0 + i)) = fun i => encM (([⟨x, y, z⟩] : List Mark).getD i default) := by
  funext i
  simp only [Nat.zero_add]
  match i with
  | 0 => rfl
  | i + 1 => rfl
theorem three_ext {A B : List Mark} {x y z : Int} : (A ++ B ++ [(⟨x, y, z⟩ : Mark)]).length = A.length + B.length + 1 ∧ ∀ j, j < (A ++ B ++ [(⟨x, y, z⟩ : Mark)]).length → encM ((A ++ B ++ [(⟨x, y, z⟩ : Mark)]).getD j default) =
    appF (A.length + B.length) (appF A.length (fun i => encM (A.getD i default)) fun i => encM (B.getD i default)) (fun i => (fun i => [[AV.int .i64 x, AV.int .i64 y, AV.int .i64 z]].getD i [AV.int .i64 0, AV.int .i64 0, AV.int .i64 0]) (0 + i)) j := by
  refine ⟨by simp; omega, fun j _ => ?_⟩
  rw [lit1, appF_enc, show A.length + B.length = (A ++ B).length by simp, appF_enc]
theorem getD_take_app {α : Type} {l r : List α} {n i : Nat} {d : α} (hn : n ≤ l.length) (hi : i < n) : (l.take n ++ r).getD i d = l.getD i d := by
  rw [List.getD_eq_getElem?_getD, List.getElem?_append_left (by rw [List.length_take]; omega), List.getElem?_take_of_lt hi, ← List.getD_eq_getElem?_getD]
theorem merge_ext {P : List (List Mark)} {a c : Nat} {T : List Mark} (h : c ≤ P.length) (ha : a ≤ P.length) : (P.take a ++ [T] ++ P.drop c).length = a + 1 + (P.length - c) ∧ ∀ j, j < (P.take a ++ [T] ++ P.drop c).length → encP ((P.take a ++ [T] ++ P.drop c).getD j []) =
    appF (a + 1) (appF a (fun i => (fun j => encP (P.getD j [])) (0 + 0 + i)) fun i => (fun i => [[AV.sl 3 T.length fun i => (fun j => encM (T.getD j default)) (0 + i)]].getD i [AV.nils]) (0 + i)) (fun i => (fun j => encP (P.getD j [])) (0 + c + i)) j := by
  have hl : (P.take a).length = a := by rw [List.length_take]; omega
  refine ⟨by simp; omega, fun j hj => ?_⟩
  have e1 : (fun i => (fun j => encM (T.getD j default)) (0 + i)) = fun j => encM (T.getD j default) := by funext i; rw [Nat.zero_add]
  rw [e1]
  unfold appF
  cases hb : Nat.blt j (a + 1) with
  | true =>
    have h1 : j < a + 1 := Nat.le_of_ble_eq_true hb
    cases hb2 : Nat.blt j a with
    | true =>
      have h2 : j < a := Nat.le_of_ble_eq_true hb2
      rw [List.append_assoc, getD_take_app ha h2]
      show _ = encP (P.getD (0 + 0 + j) [])
      rw [show 0 + 0 + j = j by omega]
    | false =>
      have h2 : j = a := by
        rcases Nat.lt_or_ge j a with h | h
        · have : Nat.blt j a = true := Nat.ble_eq_true_of_le h
          rw [this] at hb2; cases hb2
        · omega
      subst h2
      rw [List.append_assoc, List.getD_eq_getElem?_getD, List.getElem?_append_right (by omega), hl]
      simp [encP]
  | false =>
    have h1 : a + 1 ≤ j := by
      rcases Nat.lt_or_ge j (a + 1) with h | h
      · have : Nat.blt j (a + 1) = true := Nat.ble_eq_true_of_le h
        rw [this] at hb; cases hb
      · exact h
    show _ = encP (P.getD (0 + c + (j - (a + 1))) [])
    rw [List.getD_eq_getElem?_getD, List.getElem?_append_right (by simp [hl]; omega), List.getElem?_drop, ← List.getD_eq_getElem?_getD]
    congr 2
    simp [hl]
theorem sumL_take_drop : ∀ (P : List (List Mark)) (a : Nat), a + 1 < P.length → sumL (P.take a) + sumL (P.drop (a + 2)) + (P.getD a []).length + (P.getD (a + 1) []).length = sumL P
  | [], a, h => by simp at h
  | [_], a, h => by simp at h
  | x :: y :: P, 0, _ => by simp [sumL]; omega
  | x :: P, a + 1, h => by
    have := sumL_take_drop P a (by simpa using h)
    simp only [List.take_succ_cons, List.drop_succ_cons, sumL, List.getD_cons_succ]
    omega
def C60 : GC := conG (X := Tx) (fun x => [.ptr 0 0, enH x.h, .int .i64 x.n]) (fun x => [.box [slB x.r.b, .int .i64 x.r.p]]) (fun x => x.r.okn 600000000 ∧ x.h.i64 ∧ x.h.bs.length ≤ 8 ∧ i64r x.n) fun x K => ∀ (t : List Mark) (p' : Int), x.r.p ≤ p' → p' ≤ x.r.p + 40 → t.length ≤ 9 → (∀ m ∈ t, m.i64) → K (slM t) [.box [slB x.r.b, .int .i64 p']]
theorem F60 : GG 73 C60 := by
  refine fitG [(100, C48)] (by simp only [List.mem_cons, List.not_mem_nil, or_false]; rintro _ rfl <;> first | exact F48) [(68, C52), (55, C53)] (by simp only [List.mem_cons, List.not_mem_nil, or_false]; rintro _ (rfl | rfl) <;> first | exact F52 | exact F53) Tryd.f73 ⟨rfl, by decide +kernel, by decide +kernel⟩ (by intro x K K2 hk h; (try dsimp only at h ⊢); intros; apply hk; first | exact h | (apply h <;> assumption)) ?_
  rintro ⟨⟨b, p⟩, ⟨hp, bs⟩, n⟩ K ⟨⟨h1, h2, h3, h4⟩, h5, h6, h7⟩ h
  refine ⟨Nat.le_of_ble_eq_true rfl, ?_⟩
  dsimp only [enH] at h h1 h2 h3 h4 h5 h6 h7 ⊢
  repeat' ((conv => whnf); first | refine vA ?_ | with_reducible first | refine v8 ?_ | refine Sp.mk ?_ ?_ | refine vS ?_ | refine vR ?_ | refine vB ?_ | refine br_nt ?_ | refine br_tt ?_ | refine br_ff ?_ | refine vP ?_ | refine vQ ?_ | refine vT ?_ | refine vF ?_ | refine br_and ?_ | refine br_or ?_ | refine br_d (fun _ => ?_) fun _ => ?_ | refine vM (fun _ => ?_) fun _ => ?_)
  · refine ⟨_, _, [0], [], rfl, ?_, ?_, (⟨b, p⟩, 4), rfl, rfl, ⟨⟨h1, h2, ?_, ?_⟩, ?_⟩, ?_⟩
    · repeat' ((conv => whnf); first | with_reducible exact True.intro | exact vW | with_reducible refine And.intro ?_ ?_)
      try exact Chk.mk (by rw [pw_sh (by assumption)])
    · repeat' ((conv => whnf); first | with_reducible exact True.intro | exact vW | with_reducible refine And.intro ?_ ?_)
    · dsimp only; omega
    · dsimp only; omega
    · unfold i64r; dsimp only; omega
    intro k9 p9 z0 z1 z2
    dsimp only at z0 z1 z2
    rcases (show k9 = 0 ∨ k9 = 1 ∨ k9 = 2 ∨ k9 = 3 by omega) with rfl | rfl | rfl | rfl
    · repeat' ((conv => whnf); first | refine vA ?_ | with_reducible first | refine v8 ?_ | refine Sp.mk ?_ ?_ | refine vS ?_ | refine vR ?_ | refine vB ?_ | refine br_nt ?_ | refine br_tt ?_ | refine br_ff ?_ | refine vP ?_ | refine vQ ?_ | refine vT ?_ | refine vF ?_ | refine br_and ?_ | refine br_or ?_ | refine br_d (fun _ => ?_) fun _ => ?_ | refine vM (fun _ => ?_) fun _ => ?_)
      refine ⟨_, _, [some 0], [], rfl, rfl, ?_, ?_, h [] p9 (by omega) (by omega) (by decide) (by simp)⟩
      · repeat' ((conv => whnf); first | with_reducible exact True.intro | exact vW | with_reducible refine And.intro ?_ ?_)
      · repeat' ((conv => whnf); first | with_reducible exact True.intro | exact vW | with_reducible refine And.intro ?_ ?_)
    · repeat' ((conv => whnf); first | refine vA ?_ | with_reducible first | refine v8 ?_ | refine Sp.mk ?_ ?_ | refine vS ?_ | refine vR ?_ | refine vB ?_ | refine br_nt ?_ | refine br_tt ?_ | refine br_ff ?_ | refine vP ?_ | refine vQ ?_ | refine vT ?_ | refine vF ?_ | refine br_and ?_ | refine br_or ?_ | refine br_d (fun _ => ?_) fun _ => ?_ | refine vM (fun _ => ?_) fun _ => ?_)
      refine ⟨_, _, [some 0], [], rfl, rfl, ?_, ?_, h [⟨1, 0, 0⟩] p9 (by omega) (by omega) (by decide) (by simp [Mark.i64, i64r])⟩
      · repeat' ((conv => whnf); first | with_reducible exact True.intro | exact vW | with_reducible refine And.intro ?_ ?_)
        all_goals exact Chk.mk ⟨rfl, fun i hi => by match i, hi with | 0, _ => rfl⟩
      · repeat' ((conv => whnf); first | with_reducible exact True.intro | exact vW | with_reducible refine And.intro ?_ ?_)
    · repeat' ((conv => whnf); first | refine vA ?_ | with_reducible first | refine v8 ?_ | refine Sp.mk ?_ ?_ | refine vS ?_ | refine vR ?_ | refine vB ?_ | refine br_nt ?_ | refine br_tt ?_ | refine br_ff ?_ | refine vP ?_ | refine vQ ?_ | refine vT ?_ | refine vF ?_ | refine br_and ?_ | refine br_or ?_ | refine br_d (fun _ => ?_) fun _ => ?_ | refine vM (fun _ => ?_) fun _ => ?_)
      refine ⟨_, _, [some 0], [], rfl, rfl, ?_, ?_, h [⟨0, 3, 7⟩] p9 (by omega) (by omega) (by decide) (by simp [Mark.i64, i64r])⟩
      · repeat' ((conv => whnf); first | with_reducible exact True.intro | exact vW | with_reducible refine And.intro ?_ ?_)
        all_goals exact Chk.mk ⟨rfl, fun i hi => by match i, hi with | 0, _ => rfl⟩
      · repeat' ((conv => whnf); first | with_reducible exact True.intro | exact vW | with_reducible refine And.intro ?_ ?_)
    · repeat' ((conv => whnf); first | refine vA ?_ | with_reducible first | refine v8 ?_ | refine Sp.mk ?_ ?_ | refine vS ?_ | refine vR ?_ | refine vB ?_ | refine br_nt ?_ | refine br_tt ?_ | refine br_ff ?_ | refine vP ?_ | refine vQ ?_ | refine vT ?_ | refine vF ?_ | refine br_and ?_ | refine br_or ?_ | refine br_d (fun _ => ?_) fun _ => ?_ | refine vM (fun _ => ?_) fun _ => ?_)
      refine ⟨_, _, [some 0], [], rfl, rfl, ?_, ?_, h [⟨0, 0, 1⟩, ⟨0, 0, 1⟩] p9 (by omega) (by omega) (by decide) (by simp [Mark.i64, i64r])⟩
      · repeat' ((conv => whnf); first | with_reducible exact True.intro | exact vW | with_reducible refine And.intro ?_ ?_)
        all_goals exact Chk.mk ⟨rfl, fun i hi => by match i, hi with | 0, _ => rfl | 1, _ => rfl⟩
      · repeat' ((conv => whnf); first | with_reducible exact True.intro | exact vW | with_reducible refine And.intro ?_ ?_)
  refine ⟨_, _, [0], [], rfl, ?_, ?_, (⟨b, p⟩, n), rfl, rfl, ⟨⟨h1, h2, ?_, ?_⟩, h7⟩, ?_⟩
  · repeat' ((conv => whnf); first | with_reducible exact True.intro | exact vW | with_reducible refine And.intro ?_ ?_)
  · repeat' ((conv => whnf); first | with_reducible exact True.intro | exact vW | with_reducible refine And.intro ?_ ?_)
  · dsimp only; omega
  · dsimp only; omega
  intro v p1 g1 g2
  dsimp only at g1 g2
  repeat' ((conv => whnf); first | refine vA ?_ | with_reducible first | refine v8 ?_ | refine Sp.mk ?_ ?_ | refine vS ?_ | refine vR ?_ | refine vB ?_ | refine br_nt ?_ | refine br_tt ?_ | refine br_ff ?_ | refine vP ?_ | refine vQ ?_ | refine vT ?_ | refine vF ?_ | refine br_and ?_ | refine br_or ?_ | refine br_d (fun _ => ?_) fun _ => ?_ | refine vM (fun _ => ?_) fun _ => ?_)
  · refine ⟨_, _, [0], [], rfl, ?_, ?_, (⟨b, p1⟩, 4), rfl, rfl, ⟨⟨h1, h2, ?_, ?_⟩, ?_⟩, ?_⟩
    · repeat' ((conv => whnf); first | with_reducible exact True.intro | exact vW | with_reducible refine And.intro ?_ ?_)
      try exact Chk.mk (by rw [pw_sh (by assumption)])
    · repeat' ((conv => whnf); first | with_reducible exact True.intro | exact vW | with_reducible refine And.intro ?_ ?_)
    · dsimp only; omega
    · dsimp only; omega
    · unfold i64r; dsimp only; omega
    intro k9 p9 z0 z1 z2
    dsimp only at z0 z1 z2
    rcases (show k9 = 0 ∨ k9 = 1 ∨ k9 = 2 ∨ k9 = 3 by omega) with rfl | rfl | rfl | rfl
    · repeat' ((conv => whnf); first | refine vA ?_ | with_reducible first | refine v8 ?_ | refine Sp.mk ?_ ?_ | refine vS ?_ | refine vR ?_ | refine vB ?_ | refine br_nt ?_ | refine br_tt ?_ | refine br_ff ?_ | refine vP ?_ | refine vQ ?_ | refine vT ?_ | refine vF ?_ | refine br_and ?_ | refine br_or ?_ | refine br_d (fun _ => ?_) fun _ => ?_ | refine vM (fun _ => ?_) fun _ => ?_)
      refine ⟨_, _, [some 0], [], rfl, rfl, ?_, ?_, h [] p9 (by omega) (by omega) (by decide) (by simp)⟩
      · repeat' ((conv => whnf); first | with_reducible exact True.intro | exact vW | with_reducible refine And.intro ?_ ?_)
      · repeat' ((conv => whnf); first | with_reducible exact True.intro | exact vW | with_reducible refine And.intro ?_ ?_)
    · repeat' ((conv => whnf); first | refine vA ?_ | with_reducible first | refine v8 ?_ | refine Sp.mk ?_ ?_ | refine vS ?_ | refine vR ?_ | refine vB ?_ | refine br_nt ?_ | refine br_tt ?_ | refine br_ff ?_ | refine vP ?_ | refine vQ ?_ | refine vT ?_ | refine vF ?_ | refine br_and ?_ | refine br_or ?_ | refine br_d (fun _ => ?_) fun _ => ?_ | refine vM (fun _ => ?_) fun _ => ?_)
      refine ⟨_, _, [some 0], [], rfl, rfl, ?_, ?_, h [⟨1, 0, 0⟩] p9 (by omega) (by omega) (by decide) (by simp [Mark.i64, i64r])⟩
      · repeat' ((conv => whnf); first | with_reducible exact True.intro | exact vW | with_reducible refine And.intro ?_ ?_)
        all_goals exact Chk.mk ⟨rfl, fun i hi => by match i, hi with | 0, _ => rfl⟩
      · repeat' ((conv => whnf); first | with_reducible exact True.intro | exact vW | with_reducible refine And.intro ?_ ?_)
    · repeat' ((conv => whnf); first | refine vA ?_ | with_reducible first | refine v8 ?_ | refine Sp.mk ?_ ?_ | refine vS ?_ | refine vR ?_ | refine vB ?_ | refine br_nt ?_ | refine br_tt ?_ | refine br_ff ?_ | refine vP ?_ | refine vQ ?_ | refine vT ?_ | refine vF ?_ | refine br_and ?_ | refine br_or ?_ | refine br_d (fun _ => ?_) fun _ => ?_ | refine vM (fun _ => ?_) fun _ => ?_)
      refine ⟨_, _, [some 0], [], rfl, rfl, ?_, ?_, h [⟨0, 3, 7⟩] p9 (by omega) (by omega) (by decide) (by simp [Mark.i64, i64r])⟩
      · repeat' ((conv => whnf); first | with_reducible exact True.intro | exact vW | with_reducible refine And.intro ?_ ?_)
        all_goals exact Chk.mk ⟨rfl, fun i hi => by match i, hi with | 0, _ => rfl⟩
      · repeat' ((conv => whnf); first | with_reducible exact True.intro | exact vW | with_reducible refine And.intro ?_ ?_)
    · repeat' ((conv => whnf); first | refine vA ?_ | with_reducible first | refine v8 ?_ | refine Sp.mk ?_ ?_ | refine vS ?_ | refine vR ?_ | refine vB ?_ | refine br_nt ?_ | refine br_tt ?_ | refine br_ff ?_ | refine vP ?_ | refine vQ ?_ | refine vT ?_ | refine vF ?_ | refine br_and ?_ | refine br_or ?_ | refine br_d (fun _ => ?_) fun _ => ?_ | refine vM (fun _ => ?_) fun _ => ?_)
      refine ⟨_, _, [some 0], [], rfl, rfl, ?_, ?_, h [⟨0, 0, 1⟩, ⟨0, 0, 1⟩] p9 (by omega) (by omega) (by decide) (by simp [Mark.i64, i64r])⟩
      · repeat' ((conv => whnf); first | with_reducible exact True.intro | exact vW | with_reducible refine And.intro ?_ ?_)
        all_goals exact Chk.mk ⟨rfl, fun i hi => by match i, hi with | 0, _ => rfl | 1, _ => rfl⟩
      · repeat' ((conv => whnf); first | with_reducible exact True.intro | exact vW | with_reducible refine And.intro ?_ ?_)
  refine ⟨_, _, [0], [], rfl, ?_, ?_, (⟨b, p1⟩, 4), rfl, rfl, ⟨⟨h1, h2, ?_, ?_⟩, ?_⟩, ?_⟩
  · repeat' ((conv => whnf); first | with_reducible exact True.intro | exact vW | with_reducible refine And.intro ?_ ?_)
    try exact Chk.mk (by rw [pw_sh (by assumption)])
  · repeat' ((conv => whnf); first | with_reducible exact True.intro | exact vW | with_reducible refine And.intro ?_ ?_)
  · dsimp only; omega
  · dsimp only; omega
  · unfold i64r; dsimp only; omega
  intro k1 p2 a0 a1 a2
  dsimp only at a0 a1 a2
  repeat' ((conv => whnf); first | refine vA ?_ | with_reducible first | refine v8 ?_ | refine Sp.mk ?_ ?_ | refine vS ?_ | refine vR ?_ | refine vB ?_ | refine br_nt ?_ | refine br_tt ?_ | refine br_ff ?_ | refine vP ?_ | refine vQ ?_ | refine vT ?_ | refine vF ?_ | refine br_and ?_ | refine br_or ?_ | refine br_d (fun _ => ?_) fun _ => ?_ | refine vM (fun _ => ?_) fun _ => ?_)
  refine Lp.mk ⟨List (List Mark) × Int × Int, fun x => [(0, .ptr 0 0), (4, .ptr 1 0), (7, .row 2 1 0 x.1.length), (8, .int .i64 x.2.1)],
    fun x => [rdO b x.2.2, .box [.int .i64 hp, slI bs], .row 1 x.1.length fun j => encP (x.1.getD j [])],
    fun x => 0 ≤ x.2.1 ∧ x.2.1 + x.1.length = 1 + k1 ∧ x.2.2 = p2 + 2 * x.1.length ∧ sumL x.1 = x.1.length ∧ ∀ l ∈ x.1, ∀ m ∈ l, m.i64, fun x => x.2.1.toNat, ⟨([], 1 + k1, p2), ⟨by show 0 ≤ 1 + k1; omega, by simp, by simp, rfl, by simp⟩, ⟨⟨[some 0, some 1, none], [], rfl, rfl, ?_, ?_⟩⟩⟩, ?_⟩
  · repeat' ((conv => whnf); first | with_reducible exact True.intro | exact vW | with_reducible refine And.intro ?_ ?_)
  · repeat' ((conv => whnf); first | with_reducible exact True.intro | exact vW | with_reducible refine And.intro ?_ ?_)
  rintro ⟨P, j, q⟩ ⟨i1, i2, i3, i4, i5⟩
  dsimp only at i1 i2 i3 i4 i5 ⊢
  repeat' ((conv => whnf); first | refine vA ?_ | with_reducible first | refine v8 ?_ | refine Sp.mk ?_ ?_ | refine vS ?_ | refine vR ?_ | refine vB ?_ | refine br_nt ?_ | refine br_tt ?_ | refine br_ff ?_ | refine vP ?_ | refine vQ ?_ | refine vT ?_ | refine vF ?_ | refine br_and ?_ | refine br_or ?_ | refine br_d (fun _ => ?_) fun _ => ?_ | refine vM (fun _ => ?_) fun _ => ?_)
  · refine ⟨_, _, [0], [], rfl, ?_, ?_, (⟨b, q⟩, bs.length), rfl, rfl, ⟨⟨h1, h2, ?_, ?_⟩, ?_⟩, ?_⟩
    · repeat' ((conv => whnf); first | with_reducible exact True.intro | exact vW | with_reducible refine And.intro ?_ ?_)
      try exact Chk.mk (by rw [pw_sh (by assumption)])
    · repeat' ((conv => whnf); first | with_reducible exact True.intro | exact vW | with_reducible refine And.intro ?_ ?_)
    · dsimp only; omega
    · dsimp only; omega
    · unfold i64r; dsimp only; omega
    intro k2 p3 c0 c1 c2
    dsimp only at c0 c1 c2
    repeat' ((conv => whnf); first | refine vA ?_ | with_reducible first | refine v8 ?_ | refine Sp.mk ?_ ?_ | refine vS ?_ | refine vR ?_ | refine vB ?_ | refine br_nt ?_ | refine br_tt ?_ | refine br_ff ?_ | refine vP ?_ | refine vQ ?_ | refine vT ?_ | refine vF ?_ | refine br_and ?_ | refine br_or ?_ | refine br_d (fun _ => ?_) fun _ => ?_ | refine vM (fun _ => ?_) fun _ => ?_)
    have hbs := h5.2 _ (getD_mem' (l := bs) (i := k2.toNat) (d := 0) (by omega))
    refine ⟨(if 0 > bs.getD k2.toNat 0 then 0 else bs.getD k2.toNat 0), ?_, ⟨by split <;> (first | exact hbs | exact ⟨by decide, by decide⟩)⟩, ?_⟩
    · repeat' ((conv => whnf); first | with_reducible exact True.intro | exact vW | with_reducible refine And.intro ?_ ?_)
    obtain ⟨H, hH⟩ : ∃ H : Nat, heads ((if 0 > bs.getD k2.toNat 0 then 0 else bs.getD k2.toNat 0) : Int).toNat = H := ⟨_, rfl⟩
    have hH2 : H ≤ 64 := by rw [← hH]; exact heads_le _
    rw [hH]
    obtain ⟨M, hM⟩ : ∃ M : Int, M = if (1 : Int) > (H : Int) then (1 : Int) else (H : Int) := ⟨_, rfl⟩
    have hM2 : 1 ≤ M ∧ M ≤ 64 := by rw [hM]; split <;> omega
    repeat' ((conv => whnf); first | refine vA ?_ | with_reducible first | refine v8 ?_ | refine Sp.mk ?_ ?_ | refine vS ?_ | refine vR ?_ | refine vB ?_ | refine br_nt ?_ | refine br_tt ?_ | refine br_ff ?_ | refine vP ?_ | refine vQ ?_ | refine vT ?_ | refine vF ?_ | refine br_and ?_ | refine br_or ?_ | refine br_d (fun _ => ?_) fun _ => ?_ | refine vM (fun _ => ?_) fun _ => ?_)
    refine ⟨_, _, [0], [], rfl, ?_, ?_, (⟨b, p3⟩, if (1 : Int) > (H : Int) then (1 : Int) else (H : Int)), rfl, rfl, ⟨⟨h1, h2, ?_, ?_⟩, ?_⟩, ?_⟩
    · repeat' ((conv => whnf); first | with_reducible exact True.intro | exact vW | with_reducible refine And.intro ?_ ?_)
      try exact Chk.mk (by rw [pw_sh (by assumption)])
    · repeat' ((conv => whnf); first | with_reducible exact True.intro | exact vW | with_reducible refine And.intro ?_ ?_)
    · dsimp only; omega
    · dsimp only; omega
    · unfold i64r; dsimp only; omega
    intro k3 p4 d0 d1 d2
    dsimp only at d0 d1 d2
    rw [← hM] at d0 d1
    repeat' ((conv => whnf); first | refine vA ?_ | with_reducible first | refine v8 ?_ | refine Sp.mk ?_ ?_ | refine vS ?_ | refine vR ?_ | refine vB ?_ | refine br_nt ?_ | refine br_tt ?_ | refine br_ff ?_ | refine vP ?_ | refine vQ ?_ | refine vT ?_ | refine vF ?_ | refine br_and ?_ | refine br_or ?_ | refine br_d (fun _ => ?_) fun _ => ?_ | refine vM (fun _ => ?_) fun _ => ?_)
    refine ⟨(P ++ [[⟨0, k2, 1 + k3⟩]], j - 1, p4), ⟨by show 0 ≤ j - 1; omega, by simp; omega, by simp; omega, ?_, ?_⟩, by show (j - 1).toNat < j.toNat; omega, ⟨⟨[some 0, some 1, some 5], [], rfl, rfl, ?_, ?_⟩⟩⟩
    · dsimp only
      rw [sumL_app, i4]
      simp [sumL]
    · intro l hl m hm
      rcases List.mem_append.1 hl with hl | hl
      · exact i5 l hl m hm
      · simp at hl
        subst hl
        simp at hm
        subst hm
        unfold Mark.i64 i64r
        dsimp only
        omega
    · repeat' ((conv => whnf); first | with_reducible exact True.intro | exact vW | with_reducible refine And.intro ?_ ?_)
    · repeat' ((conv => whnf); first | with_reducible exact True.intro | exact vW | with_reducible refine And.intro ?_ ?_)
      all_goals exact Chk.mk one_ext
  · have hP : 1 ≤ P.length := by omega
    have hP2 : sumL P + P.length ≤ 8 := by omega
    have hq : q + 2 * P.length ≤ p2 + 16 := by omega
    have hq2 : p2 ≤ q := by omega
    refine Lp.mk ⟨List (List Mark) × Int, fun x => [(0, .ptr 0 0), (7, .row 1 1 0 x.1.length)],
      fun x => [rdO b x.2, .row 1 x.1.length fun j => encP (x.1.getD j [])],
      fun x => 1 ≤ x.1.length ∧ sumL x.1 + x.1.length ≤ 8 ∧ x.2 + 2 * x.1.length ≤ p2 + 16 ∧ p2 ≤ x.2 ∧ ∀ l ∈ x.1, ∀ m ∈ l, m.i64, fun x => x.1.length, ⟨(P, q), ⟨hP, hP2, hq, hq2, i5⟩, ⟨⟨[some 0, some 2], [], rfl, rfl, ?_, ?_⟩⟩⟩, ?_⟩
    · repeat' ((conv => whnf); first | with_reducible exact True.intro | exact vW | with_reducible refine And.intro ?_ ?_)
    · repeat' ((conv => whnf); first | with_reducible exact True.intro | exact vW | with_reducible refine And.intro ?_ ?_)
    clear i1 i2 i3 i4 i5 hP hP2 hq hq2
    rintro ⟨P, q⟩ ⟨i1, i2, i3, i4, i5⟩
    dsimp only at i1 i2 i3 i4 i5 ⊢
    repeat' ((conv => whnf); first | refine vA ?_ | with_reducible first | refine v8 ?_ | refine Sp.mk ?_ ?_ | refine vS ?_ | refine vR ?_ | refine vB ?_ | refine br_nt ?_ | refine br_tt ?_ | refine br_ff ?_ | refine vP ?_ | refine vQ ?_ | refine vT ?_ | refine vF ?_ | refine br_and ?_ | refine br_or ?_ | refine br_d (fun _ => ?_) fun _ => ?_ | refine vM (fun _ => ?_) fun _ => ?_)
    · refine ⟨_, _, [0], [], rfl, ?_, ?_, (⟨b, q⟩, P.length - 1), rfl, rfl, ⟨⟨h1, h2, ?_, ?_⟩, ?_⟩, ?_⟩
      · repeat' ((conv => whnf); first | with_reducible exact True.intro | exact vW | with_reducible refine And.intro ?_ ?_)
        try exact Chk.mk (by rw [pw_sh (by assumption)])
      · repeat' ((conv => whnf); first | with_reducible exact True.intro | exact vW | with_reducible refine And.intro ?_ ?_)
      · dsimp only; omega
      · dsimp only; omega
      · unfold i64r; dsimp only; omega
      intro a p3 c0 c1 c2
      dsimp only at c0 c1 c2
      obtain ⟨A, hA⟩ : ∃ A, P.getD (0 + a.toNat) [] = A := ⟨_, rfl⟩
      obtain ⟨B, hB⟩ : ∃ B, P.getD (0 + (a + 1).toNat) [] = B := ⟨_, rfl⟩
      have mA : A ∈ P := by rw [← hA]; exact getD_mem' (by omega)
      have mB : B ∈ P := by rw [← hB]; exact getD_mem' (by omega)
      have lA : (P.getD (0 + a.toNat) []).length ≤ 8 := by rw [hA]; have := sumL_mem mA; omega
      have lB : (P.getD (0 + (a + 1).toNat) []).length ≤ 8 := by rw [hB]; have := sumL_mem mB; omega
      repeat' ((conv => whnf); first | refine vA ?_ | with_reducible first | refine v8 ?_ | refine Sp.mk ?_ ?_ | refine vS ?_ | refine vR ?_ | refine vB ?_ | refine br_nt ?_ | refine br_tt ?_ | refine br_ff ?_ | refine vP ?_ | refine vQ ?_ | refine vT ?_ | refine vF ?_ | refine br_and ?_ | refine br_or ?_ | refine br_d (fun _ => ?_) fun _ => ?_ | refine vM (fun _ => ?_) fun _ => ?_)
      refine Dr.mk ⟨(.rd 1 (.rd 2 (.rd 3 (.rd 4 (.rd 6 (.rd 7 (.rd 8 (.rd 9 (.rd 10 (.rd 12 (.ef 0 (.ef 5 (.ef 11 (.ef 13 (.rd 14 (.rd 15 (.ef 16 (.ef 17 (.rd 18 .dn) .no) .no))) .no) .no) .no) .no))))))))))), by decide +kernel, ?_⟩
      repeat' ((conv => whnf); first | refine vA ?_ | with_reducible first | refine v8 ?_ | refine Sp.mk ?_ ?_ | refine vS ?_ | refine vR ?_ | refine vB ?_ | refine br_nt ?_ | refine br_tt ?_ | refine br_ff ?_ | refine vP ?_ | refine vQ ?_ | refine vT ?_ | refine vF ?_ | refine br_and ?_ | refine br_or ?_ | refine br_d (fun _ => ?_) fun _ => ?_ | refine vM (fun _ => ?_) fun _ => ?_)
      refine ⟨_, _, [0], [], rfl, ?_, ?_, (⟨b, p3⟩, 2), rfl, rfl, ⟨⟨h1, h2, ?_, ?_⟩, ?_⟩, ?_⟩
      · repeat' ((conv => whnf); first | with_reducible exact True.intro | exact vW | with_reducible refine And.intro ?_ ?_)
        try exact Chk.mk (by rw [pw_sh (by assumption)])
      · repeat' ((conv => whnf); first | with_reducible exact True.intro | exact vW | with_reducible refine And.intro ?_ ?_)
      · dsimp only; omega
      · dsimp only; omega
      · unfold i64r; dsimp only; omega
      intro k p4 d0 d1 d2
      dsimp only at d0 d1 d2
      repeat' ((conv => whnf); first | with_reducible refine wk_at 12 ?_ | with_reducible refine wk_at1 12 ?_ | with_reducible refine wk_at2 12 ?_ | refine vA ?_ | with_reducible first | refine v8 ?_ | refine Sp.mk ?_ ?_ | refine vS ?_ | refine vR ?_ | refine vB ?_ | refine br_nt ?_ | refine br_tt ?_ | refine br_ff ?_ | refine vP ?_ | refine vQ ?_ | refine vT ?_ | refine vF ?_ | refine br_and ?_ | refine br_or ?_ | refine br_d (fun _ => ?_) fun _ => ?_ | refine vM (fun _ => ?_) fun _ => ?_)
      refine ⟨Wk.go [(0, .ptr 0 0), (7, .row 1 1 0 P.length), (10, .int .i64 a), (11, .row 2 3 0 (P.getD (0 + a.toNat) [] ++ P.getD (0 + (a + 1).toNat) [] ++ [(⟨1 + k, 0, 0⟩ : Mark)]).length)]
        [rdO b p4, .row 1 P.length fun j => encP (P.getD j []), .row 3 (P.getD (0 + a.toNat) [] ++ P.getD (0 + (a + 1).toNat) [] ++ [(⟨1 + k, 0, 0⟩ : Mark)]).length fun j => encM ((P.getD (0 + a.toNat) [] ++ P.getD (0 + (a + 1).toNat) [] ++ [(⟨1 + k, 0, 0⟩ : Mark)]).getD j default)] ⟨⟨[some 0, some 1, some 5], [], rfl, rfl, ?_, ?_⟩⟩ ?_⟩
      · repeat' ((conv => whnf); first | with_reducible exact True.intro | exact vW | with_reducible refine And.intro ?_ ?_)
        all_goals exact Chk.mk ⟨rfl, three_ext.1⟩
      · repeat' ((conv => whnf); first | with_reducible exact True.intro | exact vW | with_reducible refine And.intro ?_ ?_)
        all_goals exact Chk.mk three_ext
      rw [hA] at lA
      rw [hB] at lB
      rw [hA, hB]
      obtain ⟨T, hT⟩ : ∃ T, A ++ B ++ [(⟨1 + k, 0, 0⟩ : Mark)] = T := ⟨_, rfl⟩
      have lT : T.length = A.length + B.length + 1 := by rw [← hT]; simp; omega
      rw [hT]
      repeat' ((conv => whnf); first | refine vA ?_ | with_reducible first | refine v8 ?_ | refine Sp.mk ?_ ?_ | refine vS ?_ | refine vR ?_ | refine vB ?_ | refine br_nt ?_ | refine br_tt ?_ | refine br_ff ?_ | refine vP ?_ | refine vQ ?_ | refine vT ?_ | refine vF ?_ | refine br_and ?_ | refine br_or ?_ | refine br_d (fun _ => ?_) fun _ => ?_ | refine vM (fun _ => ?_) fun _ => ?_)
      have hm := sumL_take_drop P a.toNat (by omega)
      have hA' : P.getD a.toNat [] = A := by rw [← hA, Nat.zero_add]
      have hB' : P.getD (a.toNat + 1) [] = B := by rw [← hB, Nat.zero_add, show (a + 1).toNat = a.toNat + 1 by omega]
      rw [hA', hB', show a.toNat + 2 = (a + 2).toNat by omega] at hm
      refine ⟨(P.take a.toNat ++ [T] ++ P.drop (a + 2).toNat, p4), ⟨?_, ?_, ?_, by show p2 ≤ p4; omega, ?_⟩, ?_, ⟨⟨[some 0, some 6], [], rfl, rfl, ?_, ?_⟩⟩⟩
      · simp; omega
      · dsimp only
        rw [sumL_app, sumL_app]
        simp [sumL]
        omega
      · simp; omega
      · intro l hl m hm
        simp only [List.mem_append, List.mem_singleton] at hl
        rcases hl with (hl | rfl) | hl
        · exact i5 l (List.mem_of_mem_take hl) m hm
        · rw [← hT] at hm
          simp only [List.mem_append, List.mem_singleton] at hm
          rcases hm with (hm | hm) | rfl
          · exact i5 A mA m hm
          · exact i5 B mB m hm
          · unfold Mark.i64 i64r; dsimp only; omega
        · exact i5 l (List.mem_of_mem_drop hl) m hm
      · simp; omega
      · repeat' ((conv => whnf); first | with_reducible exact True.intro | exact vW | with_reducible refine And.intro ?_ ?_)
        all_goals exact Chk.mk ⟨rfl, (merge_ext (by omega) (by omega)).1⟩
      · repeat' ((conv => whnf); first | with_reducible exact True.intro | exact vW | with_reducible refine And.intro ?_ ?_)
        all_goals exact Chk.mk (merge_ext (by omega) (by omega))
    · have hl := sumL_mem (getD_mem' (l := P) (i := 0) (d := []) (by omega))
      repeat' ((conv => whnf); first | refine vA ?_ | with_reducible first | refine v8 ?_ | refine Sp.mk ?_ ?_ | refine vS ?_ | refine vR ?_ | refine vB ?_ | refine br_nt ?_ | refine br_tt ?_ | refine br_ff ?_ | refine vP ?_ | refine vQ ?_ | refine vT ?_ | refine vF ?_ | refine br_and ?_ | refine br_or ?_ | refine br_d (fun _ => ?_) fun _ => ?_ | refine vM (fun _ => ?_) fun _ => ?_)
      refine ⟨_, _, [some 0], [], rfl, rfl, ?_, ?_, h (P.getD 0 []) q (by omega) (by omega) (by omega) (i5 _ (getD_mem' (by omega)))⟩
      · repeat' ((conv => whnf); first | with_reducible exact True.intro | exact vW | with_reducible refine And.intro ?_ ?_)
      · repeat' ((conv => whnf); first | with_reducible exact True.intro | exact vW | with_reducible refine And.intro ?_ ?_)
end Go.Proofs.YtjefkdhecccfpaaDoor.Vc
end
section
/- Part TK: places that are drawn. -/
namespace Go.Proofs.YtjefkdhecccfpaaDoor.Vc
open Go.Proofs
set_option maxRecDepth 10000
set_option maxHeartbeats 4000000
structure drawnP (x : Place) : Prop where
  p0 : 0 ≤ x.p
  p1 : x.p ≤ 7
  bl : x.bs.length ≤ 4
  bb : ∀ b ∈ x.bs, 0 ≤ b ∧ b ≤ 64
  rl : x.rules.length ≤ 4
  rr : ∀ r ∈ x.rules, r.size ≤ 10000
theorem drawnP.I {x : Place} (h : drawnP x) : placeI x := ⟨⟨⟨⟨by have := h.p0; show -9223372036854775808 ≤ x.p; omega, by have := h.p1; show x.p ≤ 9223372036854775807; omega⟩, fun b hb => by have := h.bb b hb; exact ⟨by omega, by omega⟩⟩, by have := h.bl; show x.bs.length < _; omega⟩, by have := h.rl; omega, fun r hr => by have := h.rr r hr; omega⟩
theorem drawnP.len {x : Place} (h : drawnP x) : lenI x := ⟨by have := h.bl; omega, by have := h.rl; omega⟩
theorem ttext_size (h : House) (t : List Mark) : (ttext (h, t)).size ≤ 10000 := by
  unfold ttext
  split
  · rename_i g
    exact text_size (bodies_of g.1) g.2.2 g.2.1
  · exact Nat.zero_le _
theorem set0_ext {l : List ByteArray} {x : ByteArray} {i : Nat} (h : 0 < l.length) : encS ((l.set 0 x).getD i ⟨#[]⟩) = setF (fun j => encS (l.getD j ⟨#[]⟩)) 0 (encS x) (0 + i) := by
  rw [Nat.zero_add]
  unfold setF
  cases i with
  | zero => cases l <;> first | rfl | (simp at h)
  | succ i => cases l <;> first | rfl | simp
def C151 : GC := conG (X := Rd × Int) (fun x => [.ptr 0 0, .int .i64 x.2]) (fun x => [rdO x.1.b x.1.p]) (fun x => x.1.okn 400000000 ∧ i64r x.2) fun x K => ∀ (y : Place) (p' : Int), x.1.p ≤ p' → p' ≤ x.1.p + 250 → drawnP y → K (enPl y) [rdO x.1.b p']
theorem F151 : GG 64 C151 := by
  refine fitG [(72, C173)] (by simp only [List.mem_cons, List.not_mem_nil, or_false]; rintro _ rfl <;> first | exact F173) [(68, C52), (55, C53), (95, C59), (73, C60)] (by simp only [List.mem_cons, List.not_mem_nil, or_false]; rintro _ (rfl | rfl | rfl | rfl) <;> first | exact F52 | exact F53 | exact F59 | exact F60) Tryd.f64 ⟨rfl, by decide +kernel, by decide +kernel⟩ (by intro x K K2 hk h; (try dsimp only at h ⊢); intros; apply hk; first | exact h | (apply h <;> assumption)) ?_
  rintro ⟨⟨b, p⟩, n⟩ K ⟨⟨h1, h2, h3, h4⟩, h5⟩ h
  refine ⟨Nat.le_of_ble_eq_true rfl, ?_⟩
  dsimp only at h h1 h2 h3 h4 h5 ⊢
  repeat' ((conv => whnf); first | refine vA ?_ | with_reducible first | refine v8 ?_ | refine Sp.mk ?_ ?_ | refine vS ?_ | refine vR ?_ | refine vB ?_ | refine br_nt ?_ | refine br_tt ?_ | refine br_ff ?_ | refine vP ?_ | refine vQ ?_ | refine vT ?_ | refine vF ?_ | refine br_and ?_ | refine br_or ?_ | refine br_d (fun _ => ?_) fun _ => ?_ | refine vM (fun _ => ?_) fun _ => ?_)
  refine ⟨_, _, [0], [], rfl, ?_, ?_, (⟨b, p⟩, 0), rfl, rfl, ⟨⟨h1, h2, h3, by dsimp only; omega⟩, by unfold i64r; dsimp only; omega⟩, ?_⟩
  · repeat' ((conv => whnf); first | with_reducible exact True.intro | exact vW | with_reducible refine And.intro ?_ ?_)
  · repeat' ((conv => whnf); first | with_reducible exact True.intro | exact vW | with_reducible refine And.intro ?_ ?_)
  rintro ⟨P, bs⟩ p1 g1 g2 g3 g4 g5
  dsimp only [enH] at g1 g2 g3 g4 g5 ⊢
  repeat' ((conv => whnf); first | refine vA ?_ | with_reducible first | refine v8 ?_ | refine Sp.mk ?_ ?_ | refine vS ?_ | refine vR ?_ | refine vB ?_ | refine br_nt ?_ | refine br_tt ?_ | refine br_ff ?_ | refine vP ?_ | refine vQ ?_ | refine vT ?_ | refine vF ?_ | refine br_and ?_ | refine br_or ?_ | refine br_d (fun _ => ?_) fun _ => ?_ | refine vM (fun _ => ?_) fun _ => ?_)
  refine ⟨_, _, [0], [], rfl, ?_, ?_, (⟨b, p1⟩, 3), rfl, rfl, ⟨⟨h1, h2, ?_, ?_⟩, ?_⟩, ?_⟩
  · repeat' ((conv => whnf); first | with_reducible exact True.intro | exact vW | with_reducible refine And.intro ?_ ?_)
    try exact Chk.mk (by rw [pw_sh (by assumption)])
  · repeat' ((conv => whnf); first | with_reducible exact True.intro | exact vW | with_reducible refine And.intro ?_ ?_)
  · dsimp only; omega
  · dsimp only; omega
  · unfold i64r; dsimp only; omega
  intro k2 p2 a0 a1 a2
  dsimp only at a0 a1 a2
  repeat' ((conv => whnf); first | refine vA ?_ | with_reducible first | refine v8 ?_ | refine Sp.mk ?_ ?_ | refine vS ?_ | refine vR ?_ | refine vB ?_ | refine br_nt ?_ | refine br_tt ?_ | refine br_ff ?_ | refine vP ?_ | refine vQ ?_ | refine vT ?_ | refine vF ?_ | refine br_and ?_ | refine br_or ?_ | refine br_d (fun _ => ?_) fun _ => ?_ | refine vM (fun _ => ?_) fun _ => ?_)
  refine Lp.mk ⟨List ByteArray × Int × Int, fun x => [(0, .ptr 0 0), (1, .int .i64 n), (4, .ptr 1 0), (5, .ptr 2 0), (6, .int .i64 x.2.1)],
    fun x => [rdO b x.2.2, .box [.int .i64 0, .nils, .nils], .box [.int .i64 P, slI bs, .row 3 1 0 x.1.length], .row 1 x.1.length fun j => encS (x.1.getD j ⟨#[]⟩)],
    fun x => 0 ≤ x.2.1 ∧ x.2.1 + x.1.length = 1 + k2 ∧ p2 ≤ x.2.2 ∧ x.2.2 ≤ p2 + 40 * x.1.length ∧ ∀ r ∈ x.1, r.size ≤ 10000, fun x => x.2.1.toNat, ⟨([], 1 + k2, p2), ⟨by show 0 ≤ 1 + k2; omega, by simp, by dsimp only; omega, by simp, by simp⟩, ⟨⟨[some 0, some 1, some 2, none], [], rfl, rfl, ?_, ?_⟩⟩⟩, ?_⟩
  · repeat' ((conv => whnf); first | with_reducible exact True.intro | exact vW | with_reducible refine And.intro ?_ ?_)
  · repeat' ((conv => whnf); first | with_reducible exact True.intro | exact vW | with_reducible refine And.intro ?_ ?_)
  rintro ⟨l, j, q⟩ ⟨i1, i2, i3, i4, i5⟩
  dsimp only at i1 i2 i3 i4 i5 ⊢
  have hI : House.i64 ⟨P, bs⟩ := ⟨⟨by dsimp only; omega, by dsimp only; omega⟩, fun b hb => by have := g5 b hb; exact ⟨by omega, by omega⟩⟩
  repeat' ((conv => whnf); first | refine vA ?_ | with_reducible first | refine v8 ?_ | refine Sp.mk ?_ ?_ | refine vS ?_ | refine vR ?_ | refine vB ?_ | refine br_nt ?_ | refine br_tt ?_ | refine br_ff ?_ | refine vP ?_ | refine vQ ?_ | refine vT ?_ | refine vF ?_ | refine br_and ?_ | refine br_or ?_ | refine br_d (fun _ => ?_) fun _ => ?_ | refine vM (fun _ => ?_) fun _ => ?_)
  · rename_i hj
    refine Dr.mk ⟨(.rd 0 (.rd 1 (.rd 2 (.rd 3 (.rd 4 (.rd 5 (.rd 6 (.ef 7 (.ef 8 (.ef 9 (.ef 10 (.rd 11 (.ef 12 .dn .no)) .no) .no) .no) .no)))))))), by decide +kernel, ?_⟩
    repeat' ((conv => whnf); first | refine vA ?_ | with_reducible first | refine v8 ?_ | refine Sp.mk ?_ ?_ | refine vS ?_ | refine vR ?_ | refine vB ?_ | refine br_nt ?_ | refine br_tt ?_ | refine br_ff ?_ | refine vP ?_ | refine vQ ?_ | refine vT ?_ | refine vF ?_ | refine br_and ?_ | refine br_or ?_ | refine br_d (fun _ => ?_) fun _ => ?_ | refine vM (fun _ => ?_) fun _ => ?_)
    refine ⟨_, _, [0], [], rfl, ?_, ?_, ⟨⟨b, q⟩, ⟨P, bs⟩, 0⟩, rfl, rfl, ⟨⟨h1, h2, by dsimp only; omega, by dsimp only; omega⟩, hI, by dsimp only; omega, by unfold i64r; dsimp only; omega⟩, ?_⟩
    · repeat' ((conv => whnf); first | with_reducible exact True.intro | exact vW | with_reducible refine And.intro ?_ ?_)
    · repeat' ((conv => whnf); first | with_reducible exact True.intro | exact vW | with_reducible refine And.intro ?_ ?_)
    intro t p' t1 t2 t3 t4
    dsimp only at t1 t2 t3 t4 ⊢
    repeat' ((conv => whnf); first | refine vA ?_ | with_reducible first | refine v8 ?_ | refine Sp.mk ?_ ?_ | refine vS ?_ | refine vR ?_ | refine vB ?_ | refine br_nt ?_ | refine br_tt ?_ | refine br_ff ?_ | refine vP ?_ | refine vQ ?_ | refine vT ?_ | refine vF ?_ | refine br_and ?_ | refine br_or ?_ | refine br_d (fun _ => ?_) fun _ => ?_ | refine vM (fun _ => ?_) fun _ => ?_)
    refine ⟨(⟨P, bs⟩, t), ?_, ⟨hI, by dsimp only; omega, t4, by dsimp only; omega⟩, ?_⟩
    · repeat' ((conv => whnf); first | with_reducible exact True.intro | exact vW | with_reducible refine And.intro ?_ ?_)
    have hts := ttext_size ⟨P, bs⟩ t
    repeat' ((conv => whnf); first | refine vA ?_ | with_reducible first | refine v8 ?_ | refine Sp.mk ?_ ?_ | refine vS ?_ | refine vR ?_ | refine vB ?_ | refine br_nt ?_ | refine br_tt ?_ | refine br_ff ?_ | refine vP ?_ | refine vQ ?_ | refine vT ?_ | refine vF ?_ | refine br_and ?_ | refine br_or ?_ | refine br_d (fun _ => ?_) fun _ => ?_ | refine vM (fun _ => ?_) fun _ => ?_)
    refine ⟨(l ++ [ttext (⟨P, bs⟩, t)], j - 1, p'), ⟨by dsimp only; omega, by simp only [List.length_append, List.length_cons, List.length_nil]; omega, by dsimp only; omega, by simp only [List.length_append, List.length_cons, List.length_nil]; omega, fun r hr => ?_⟩, by dsimp only; omega, ⟨⟨[some 0, some 1, some 2, some 5], [], rfl, rfl, ?_, ?_⟩⟩⟩
    · rcases List.mem_append.1 hr with hr | hr
      · exact i5 r hr
      · rw [List.mem_singleton.1 hr]; exact hts
    · repeat' ((conv => whnf); first | with_reducible exact True.intro | exact vW | with_reducible refine And.intro ?_ ?_)
    · repeat' ((conv => whnf); first | with_reducible exact True.intro | exact vW | with_reducible refine And.intro ?_ ?_)
      all_goals first | exact Chk.mk (ext_push rfl) | exact Chk.mk ⟨rfl, by simp⟩
  · have hl : l.length ≤ 3 := by omega
    have hD : ∀ (P' : Int) (l' : List ByteArray), 0 ≤ P' → P' ≤ 7 → l'.length ≤ 4 → (∀ r ∈ l', r.size ≤ 10000) → drawnP ⟨P', bs, l'⟩ := fun P' l' q0 q1 q2 q3 => ⟨q0, q1, g4, g5, q2, q3⟩
    repeat' ((conv => whnf); first | refine vA ?_ | with_reducible first | refine v8 ?_ | refine Sp.mk ?_ ?_ | refine vS ?_ | refine vR ?_ | refine vB ?_ | refine br_nt ?_ | refine br_tt ?_ | refine br_ff ?_ | refine vP ?_ | refine vQ ?_ | refine vT ?_ | refine vF ?_ | refine br_and ?_ | refine br_or ?_ | refine br_d (fun _ => ?_) fun _ => ?_ | refine vM (fun _ => ?_) fun _ => ?_)
    refine ⟨_, _, [0], [], rfl, ?_, ?_, (⟨b, q⟩, n), rfl, rfl, ⟨⟨h1, h2, by dsimp only; omega, by dsimp only; omega⟩, h5⟩, ?_⟩
    · repeat' ((conv => whnf); first | with_reducible exact True.intro | exact vW | with_reducible refine And.intro ?_ ?_)
    · repeat' ((conv => whnf); first | with_reducible exact True.intro | exact vW | with_reducible refine And.intro ?_ ?_)
    intro v p' v1 v2
    dsimp only at v1 v2 ⊢
    repeat' ((conv => whnf); first | refine vA ?_ | with_reducible first | refine v8 ?_ | refine Sp.mk ?_ ?_ | refine vS ?_ | refine vR ?_ | refine vB ?_ | refine br_nt ?_ | refine br_tt ?_ | refine br_ff ?_ | refine vP ?_ | refine vQ ?_ | refine vT ?_ | refine vF ?_ | refine br_and ?_ | refine br_or ?_ | refine br_d (fun _ => ?_) fun _ => ?_ | refine vM (fun _ => ?_) fun _ => ?_)
    · refine ⟨_, _, [0], [], rfl, ?_, ?_, (⟨b, p'⟩, 3), rfl, rfl, ⟨⟨h1, h2, ?_, ?_⟩, ?_⟩, ?_⟩
      · repeat' ((conv => whnf); first | with_reducible exact True.intro | exact vW | with_reducible refine And.intro ?_ ?_)
        try exact Chk.mk (by rw [pw_sh (by assumption)])
      · repeat' ((conv => whnf); first | with_reducible exact True.intro | exact vW | with_reducible refine And.intro ?_ ?_)
      · dsimp only; omega
      · dsimp only; omega
      · unfold i64r; dsimp only; omega
      intro k5 p5 e0 e1 e2
      dsimp only at e0 e1 e2
      repeat' ((conv => whnf); first | refine vA ?_ | with_reducible first | refine v8 ?_ | refine Sp.mk ?_ ?_ | refine vS ?_ | refine vR ?_ | refine vB ?_ | refine br_nt ?_ | refine br_tt ?_ | refine br_ff ?_ | refine vP ?_ | refine vQ ?_ | refine vT ?_ | refine vF ?_ | refine br_and ?_ | refine br_or ?_ | refine br_d (fun _ => ?_) fun _ => ?_ | refine vM (fun _ => ?_) fun _ => ?_)
      · refine ⟨_, _, [some 0], [3], rfl, rfl, ?_, ?_, h ⟨P, bs, l.set 0 ⟨#[40, 65, 49, 41]⟩⟩ p5 (by omega) (by omega) (hD P _ (by omega) (by omega) (by rw [List.length_set]; omega) (fun r hr => (List.mem_or_eq_of_mem_set hr).elim (fun hr => i5 r hr) (fun e => by rw [e]; exact (by decide : (4 : Nat) ≤ 10000))))⟩
        · repeat' ((conv => whnf); first | with_reducible exact True.intro | exact vW | with_reducible refine And.intro ?_ ?_)
          all_goals exact Chk.mk ⟨by rw [List.length_set], by omega, fun i _ => set0_ext (by omega)⟩
        · repeat' ((conv => whnf); first | with_reducible exact True.intro | exact vW | with_reducible refine And.intro ?_ ?_)
      · refine ⟨_, _, [some 0], [3], rfl, rfl, ?_, ?_, h ⟨7, bs, l⟩ p5 (by omega) (by omega) (hD 7 l (by omega) (by omega) (by omega) i5)⟩
        · repeat' ((conv => whnf); first | with_reducible exact True.intro | exact vW | with_reducible refine And.intro ?_ ?_)
          all_goals exact Chk.mk ⟨rfl, by omega, fun i _ => by rw [Nat.zero_add]⟩
        · repeat' ((conv => whnf); first | with_reducible exact True.intro | exact vW | with_reducible refine And.intro ?_ ?_)
      · refine ⟨_, _, [some 0], [], rfl, rfl, ?_, ?_, h default p5 (by omega) (by omega) ⟨by decide, by decide, by decide, (fun _ hb => by cases hb), by decide, (fun _ hb => by cases hb)⟩⟩
        · repeat' ((conv => whnf); first | with_reducible exact True.intro | exact vW | with_reducible refine And.intro ?_ ?_)
        · repeat' ((conv => whnf); first | with_reducible exact True.intro | exact vW | with_reducible refine And.intro ?_ ?_)
    · refine ⟨_, _, [some 0], [3], rfl, rfl, ?_, ?_, h ⟨P, bs, l⟩ p' (by omega) (by omega) (hD P l (by omega) (by omega) (by omega) i5)⟩
      · repeat' ((conv => whnf); first | with_reducible exact True.intro | exact vW | with_reducible refine And.intro ?_ ?_)
        all_goals exact Chk.mk ⟨rfl, by omega, fun i _ => by rw [Nat.zero_add]⟩
      · repeat' ((conv => whnf); first | with_reducible exact True.intro | exact vW | with_reducible refine And.intro ?_ ?_)
def bytesI (l : List Int) : Prop := (∀ n ∈ l, u8r n) ∧ l.length < 9223372036854775808
def dpost (K : AV → Prop) : Prop := ∀ y : Place, drawnP y → K (enPl y)
def C125 : List AV → (AV → Prop) → Prop := con (X := List Int) (fun l => [slB l]) bytesI fun _ K => dpost K
def C131 := C125
/-! ### A further body leaves terms what they are -/
theorem stepP_more' {bs cs : List Int} {m : Mark} {k j : Nat} (h : stepP bs m k = some j) : stepP (bs ++ cs) m k = some j := by
  unfold stepP at h ⊢
  split at h
  · rename_i g
    obtain ⟨g0, g1, g2, g3, g4⟩ := g
    have e : (bs ++ cs).getD m.at_.toNat 0 = bs.getD m.at_.toNat 0 := by
      rw [List.getD_eq_getElem?_getD, List.getElem?_append_left (by omega), ← List.getD_eq_getElem?_getD]
    rw [if_pos ⟨g0, g1, by rw [List.length_append]; omega, g3, by rw [e]; exact g4⟩]
    exact h
  · rename_i g
    split at h
    · rename_i g2
      rw [if_neg (by omega), if_pos g2]
      exact h
    · cases h
theorem walkP_more {bs cs : List Int} : ∀ {t : List Mark} {k j : Nat}, walkP bs t k = some j → walkP (bs ++ cs) t k = some j
  | [], _, _, h => h
  | m :: t, k, j, h => by
    simp only [walkP] at h ⊢
    cases e : stepP bs m k with
    | none => rw [e] at h; cases h
    | some i =>
      rw [e] at h
      rw [stepP_more' e]
      exact walkP_more (t := t) h
theorem house_more {p : Int} {bs : List Int} {c : Int} (h : houseOk ⟨p, bs⟩) (hl : bs.length < 4) (hc : crowd p c) (h0 : c ≠ 0) : houseOk ⟨p, bs ++ [c]⟩ :=
  ⟨h.1, by show (bs ++ [c]).length ≤ 4; simp only [List.length_append, List.length_cons, List.length_nil]; omega, fun b hb => (List.mem_append.1 hb).elim (fun hb => h.2.2 b hb) fun hb => by rw [List.mem_singleton.1 hb]; exact ⟨hc, h0⟩⟩
theorem bad_more {p : Int} {bs : List Int} {c : Int} {r : ByteArray} (hh : houseOk ⟨p, bs ++ [c]⟩) (h : bad ⟨p, bs⟩ r = false) : bad ⟨p, bs ++ [c]⟩ r = false := by
  obtain ⟨t, ht⟩ := bad_term h
  obtain ⟨g1, g2, g3⟩ := (rdT_iff (by decide)).1 ht
  have : rdT 49 ⟨p, bs ++ [c]⟩ r = some t := (rdT_iff (by decide)).2 ⟨g1, ⟨hh, g2.2.1, walkP_more g2.2.2⟩, g3⟩
  unfold bad
  rw [this]
  rfl
theorem place_more {p : Int} {bs : List Int} {rs : List ByteArray} {c : Int} (h : placeOk ⟨p, bs, rs⟩) (hl : bs.length < 4) (hc : crowd p c) (h0 : c ≠ 0) : placeOk ⟨p, bs ++ [c], rs⟩ := by
  have hh := house_more (c := c) h.1 hl hc h0
  exact ⟨hh, h.2.1, fun r hr => bad_more hh (h.2.2 r hr)⟩
theorem place_first {p : Int} {bs : List Int} {rs : List ByteArray} (h : placeOk ⟨p, bs, rs⟩) : placeOk ⟨p, bs, rs.take 1⟩ := by
  have := h.2.1
  dsimp only at this
  refine ⟨h.1, ?_, fun r hr => h.2.2 r (List.mem_of_mem_take hr)⟩
  dsimp only
  rw [List.length_take]
  omega
theorem crowd_one {p : Int} (h : people p) : crowd p 1 := ⟨h, by decide, by have := pw_le h; omega⟩
theorem no_place : ¬ placeOk default := fun h => by
  have := h.1.1.1
  exact absurd this (by decide)
theorem take1_ext {l : List ByteArray} {i : Nat} (h : i < 1) : encS (l.getD (0 + i) ⟨#[]⟩) = encS ((l.take 1).getD i ⟨#[]⟩) := by
  rw [Nat.zero_add, List.getD_eq_getElem?_getD, List.getD_eq_getElem?_getD, List.getElem?_take_of_lt h]
def C117 : List AV → (AV → Prop) → Prop := con (X := List Int) (fun l => [slB l]) bytesI fun _ K => K (.bool true)
end Go.Proofs.YtjefkdhecccfpaaDoor.Vc
end
section
/- Part UG: texts of places are read: the law. -/
namespace Go.Proofs.YtjefkdhecccfpaaDoor.Vc
open Go.Proofs
set_option maxRecDepth 10000
set_option maxHeartbeats 4000000
def C218 := C214
def C225 := C125
def C228 : List AV → (AV → Prop) → Prop := con (X := List Int) (fun l => [slB l]) bytesI fun _ K => K (.bool true)
end Go.Proofs.YtjefkdhecccfpaaDoor.Vc
end
section
/- Part UH: read texts are canonical: the law. -/
namespace Go.Proofs.YtjefkdhecccfpaaDoor.Vc
open Go.Proofs
set_option maxRecDepth 10000
set_option maxHeartbeats 4000000
structure Rtx where
  r : Rd
  t : ByteArray
theorem st6 {k : Int} (h0 : 0 ≤ k) (h : k < 6) (z : List AV) : ∃ v : ByteArray, v.size ≤ 4 ∧ [[AV.str ⟨#[]⟩], [.str ⟨#[48]⟩], [.str ⟨#[32]⟩], [.str ⟨#[10]⟩], [.str ⟨#[49]⟩], [.str ⟨#[98, 97, 99, 107]⟩]].getD (0 + k.toNat) z = [.str v] := by
  rcases (show k = 0 ∨ k = 1 ∨ k = 2 ∨ k = 3 ∨ k = 4 ∨ k = 5 by omega) with rfl | rfl | rfl | rfl | rfl | rfl <;> exact ⟨_, by decide, rfl⟩
def C217 : GC := conG (X := Rtx) (fun x => [.ptr 0 0, .str x.t]) (fun x => [rdO x.r.b x.r.p]) (fun x => x.r.okn 600000000 ∧ x.t.size ≤ 1000000) fun x K => ∀ (u : ByteArray) (p' : Int), x.r.p ≤ p' → p' ≤ x.r.p + 2 → u.size ≤ x.t.size + 4 → K (.str u) [rdO x.r.b p']
theorem F217 : GG 69 C217 := by
  refine fitG [] (by simp) [(68, C52)] (by simp only [List.mem_cons, List.not_mem_nil, or_false]; rintro _ rfl <;> first | exact F52) Tryd.f69 ⟨rfl, by decide +kernel, by decide +kernel⟩ (by intro x K K2 hk h; (try dsimp only at h ⊢); intros; apply hk; first | exact h | (apply h <;> assumption)) ?_
  rintro ⟨⟨b, p⟩, t⟩ K ⟨⟨h1, h2, h3, h4⟩, h5⟩ h
  refine ⟨Nat.le_of_ble_eq_true rfl, ?_⟩
  dsimp only at h h1 h2 h3 h4 h5 ⊢
  repeat' ((conv => whnf); first | refine vA ?_ | with_reducible first | refine v8 ?_ | refine Sp.mk ?_ ?_ | refine vS ?_ | refine vR ?_ | refine vB ?_ | refine br_nt ?_ | refine br_tt ?_ | refine br_ff ?_ | refine vP ?_ | refine vQ ?_ | refine vT ?_ | refine vF ?_ | refine br_and ?_ | refine br_or ?_ | refine br_d (fun _ => ?_) fun _ => ?_ | refine vM (fun _ => ?_) fun _ => ?_)
  · refine ⟨_, _, [some 0], [], rfl, rfl, ?_, ?_, h ⟨#[10]⟩ p (by omega) (by omega) (by show 1 ≤ _; omega)⟩
    · repeat' ((conv => whnf); first | with_reducible exact True.intro | exact vW | with_reducible refine And.intro ?_ ?_)
    · repeat' ((conv => whnf); first | with_reducible exact True.intro | exact vW | with_reducible refine And.intro ?_ ?_)
  rename_i ht
  refine ⟨_, _, [0], [], rfl, ?_, ?_, (⟨b, p⟩, t.size), rfl, rfl, ⟨⟨h1, h2, ?_, ?_⟩, ?_⟩, ?_⟩
  · repeat' ((conv => whnf); first | with_reducible exact True.intro | exact vW | with_reducible refine And.intro ?_ ?_)
    try exact Chk.mk (by rw [pw_sh (by assumption)])
  · repeat' ((conv => whnf); first | with_reducible exact True.intro | exact vW | with_reducible refine And.intro ?_ ?_)
  · dsimp only; omega
  · dsimp only; omega
  · unfold i64r; dsimp only; omega
  intro k p1 a0 a1 a2
  dsimp only at a0 a1 a2
  repeat' ((conv => whnf); first | refine vA ?_ | with_reducible first | refine v8 ?_ | refine Sp.mk ?_ ?_ | refine vS ?_ | refine vR ?_ | refine vB ?_ | refine br_nt ?_ | refine br_tt ?_ | refine br_ff ?_ | refine vP ?_ | refine vQ ?_ | refine vT ?_ | refine vF ?_ | refine br_and ?_ | refine br_or ?_ | refine br_d (fun _ => ?_) fun _ => ?_ | refine vM (fun _ => ?_) fun _ => ?_)
  refine Dr.mk ⟨(.rd 0 (.rd 1 (.rd 2 (.rd 4 (.rd 9 (.rd 10 (.rd 11 (.rd 12 (.ef 3 (.ef 5 (.rd 6 (.rd 7 (.rd 8 (.rd 13 (.rd 14 .dn))))) .no) (.ef 5 (.ef 3 (.rd 6 (.rd 7 (.rd 8 (.rd 13 (.rd 14 .dn))))) .no) .no)))))))))), by decide +kernel, ?_⟩
  repeat' ((conv => whnf); first | refine vA ?_ | with_reducible first | refine v8 ?_ | refine Sp.mk ?_ ?_ | refine vS ?_ | refine vR ?_ | refine vB ?_ | refine br_nt ?_ | refine br_tt ?_ | refine br_ff ?_ | refine vP ?_ | refine vQ ?_ | refine vT ?_ | refine vF ?_ | refine br_and ?_ | refine br_or ?_ | refine br_d (fun _ => ?_) fun _ => ?_ | refine vM (fun _ => ?_) fun _ => ?_)
  all_goals
    refine ⟨_, _, [0], [], rfl, ?_, ?_, (⟨b, p1⟩, 6), rfl, rfl, ⟨⟨h1, h2, ?_, ?_⟩, ?_⟩, ?_⟩
    · repeat' ((conv => whnf); first | with_reducible exact True.intro | exact vW | with_reducible refine And.intro ?_ ?_)
      try exact Chk.mk (by rw [pw_sh (by assumption)])
    · repeat' ((conv => whnf); first | with_reducible exact True.intro | exact vW | with_reducible refine And.intro ?_ ?_)
    · dsimp only; omega
    · dsimp only; omega
    · unfold i64r; dsimp only; omega
    intro j p2 c0 c1 c2
    dsimp only at c0 c1 c2
    obtain ⟨v, v1, hv⟩ := st6 (c1 (by decide)).1 (c1 (by decide)).2 (lookT TT 9).z
    have a3 := a1 (by omega)
    have e1 : (t.extract (Int.toNat 0) k.toNat).size ≤ k.toNat := by rw [ByteArray.size_extract]; have := Nat.min_le_left k.toNat t.size; show min k.toNat t.size - 0 ≤ _; omega
    have e2 : (t.extract (k + 1).toNat (t.size : Int).toNat).size ≤ t.size - (k + 1).toNat := by rw [ByteArray.size_extract]; exact Nat.sub_le_sub_right (Nat.min_le_right _ _) _
    have e3 : (t.extract (Int.toNat 0) k.toNat ++ v).size ≤ k.toNat + 4 := by rw [ByteArray.size_append]; omega
    have e4 : (t.extract (Int.toNat 0) k.toNat ++ v ++ t.extract (k + 1).toNat (t.size : Int).toNat).size ≤ t.size + 4 := by rw [ByteArray.size_append]; omega
    repeat' ((conv => whnf); first | refine vA ?_ | with_reducible first | refine v8 ?_ | refine Sp.mk ?_ ?_ | refine vS ?_ | refine vR ?_ | refine vB ?_ | refine br_nt ?_ | refine br_tt ?_ | refine br_ff ?_ | refine vP ?_ | refine vQ ?_ | refine vT ?_ | refine vF ?_ | refine br_and ?_ | refine br_or ?_ | refine br_d (fun _ => ?_) fun _ => ?_ | refine vM (fun _ => ?_) fun _ => ?_)
  all_goals try
    dsimp only [List.drop]
    rw [hv]
    repeat' ((conv => whnf); first | refine vA ?_ | with_reducible first | refine v8 ?_ | refine Sp.mk ?_ ?_ | refine vS ?_ | refine vR ?_ | refine vB ?_ | refine br_nt ?_ | refine br_tt ?_ | refine br_ff ?_ | refine vP ?_ | refine vQ ?_ | refine vT ?_ | refine vF ?_ | refine br_and ?_ | refine br_or ?_ | refine br_d (fun _ => ?_) fun _ => ?_ | refine vM (fun _ => ?_) fun _ => ?_)
  all_goals
    refine ⟨_, _, [some 0], [], rfl, rfl, ?_, ?_, h _ p2 (by omega) (by omega) e4⟩
    · repeat' ((conv => whnf); first | with_reducible exact True.intro | exact vW | with_reducible refine And.intro ?_ ?_)
    · repeat' ((conv => whnf); first | with_reducible exact True.intro | exact vW | with_reducible refine And.intro ?_ ?_)
theorem cutL_snoc (c : UInt8) : ∀ l : List UInt8, cutL c (l ++ [c]) = cutL c l ++ [[]]
  | [] => by show (if c = c then _ else _) = _; rw [if_pos rfl]; rfl
  | b :: l => by
    have ih := cutL_snoc c l
    show (if b = c then _ else headApp [b] (cutL c (l ++ [c]))) = (if b = c then _ else headApp [b] (cutL c l)) ++ _
    split
    · show [] :: cutL c (l ++ [c]) = _
      rw [ih]; rfl
    · rw [ih]
      cases e : cutL c l with
      | nil => exact absurd e (cutL_ne c l)
      | cons x r => rfl
theorem no_empty (h : House) : bad h ⟨#[]⟩ = true := by
  unfold bad rdT
  rfl
theorem isPt_sp {s : ByteArray} {x y : Place} (h : isPt s x) (g : isPt (s ++ ⟨#[32]⟩) y) : False := by
  have e : cutB (s ++ ⟨#[32]⟩) 32 = cutB s 32 ++ [⟨#[]⟩] := by
    unfold cutB
    rw [show (s ++ ⟨#[32]⟩).data.toList = s.data.toList ++ [32] by rw [ByteArray.data_append, Array.toList_append], cutL_snoc, List.map_append]
    rfl
  have e2 := isPt_rs g
  rw [e, isPt_cut h] at e2
  have m : (⟨#[]⟩ : ByteArray) ∈ y.rules := by
    rw [← e2]
    show _ ∈ x.rules ++ [⟨#[]⟩]
    exact List.mem_append_right _ List.mem_cons_self
  have := g.1.2.2 _ m
  rw [no_empty] at this
  cases this
def C226 : List AV → (AV → Prop) → Prop := con (X := List Int) (fun l => [slB l]) bytesI fun _ K => ∀ s : ByteArray, s.size ≤ 20004 → K (.str s)
theorem ptext_size (x : Place) : (ptext x).size ≤ 20000 := by
  unfold ptext
  split
  · rename_i hO
    exact plT_size hO
  · exact Nat.zero_le _
theorem I_of {x : Place} (h : placeOk x) : placeI x := by
  have hb := placeOk_small h
  exact ⟨⟨⟨⟨by have := hb.2.1; show -9223372036854775808 ≤ x.p; omega, by have := hb.2.2.1; show x.p ≤ 9223372036854775807; omega⟩, fun b q => by have := hb.1.2 b q; exact ⟨by omega, by omega⟩⟩, by have := hb.1.1; show x.bs.length < _; omega⟩, by have := h.2.1.2; omega, fun r q => by have := hb.2.2.2 r q; omega⟩
def C230 : List AV → (AV → Prop) → Prop := con (X := List Int) (fun l => [slB l]) bytesI fun _ K => K (.bool true)
end Go.Proofs.YtjefkdhecccfpaaDoor.Vc
end
section
/- Part TL: new desks. -/
namespace Go.Proofs.YtjefkdhecccfpaaDoor.Vc
open Go.Proofs
set_option maxRecDepth 10000
set_option maxHeartbeats 4000000
def newDe (x : Place) : Desk := if placeOk x then ⟨x, []⟩ else default
theorem placeOk_short {x : Place} (h : placeOk x) : x.rules.length ≤ 100000000 ∧ x.bs.length ≤ 100000000 := ⟨Nat.le_trans h.2.1.2 (by omega), Nat.le_trans h.1.2.1 (by omega)⟩
def C132 : List AV → (AV → Prop) → Prop := con (X := Place) (fun x => [enPl x]) placeI fun x K => K (.tup [enDe (newDe x), .bool (decide (placeOk x))])
def C133 := C132
theorem F133 : FF 71 C133 := by
  refine fitXE [(47, C127), (80, C158)] (by simp only [List.mem_cons, List.not_mem_nil, or_false]; rintro _ (rfl | rfl) <;> first | exact F127 | exact F158) [] (by simp) Tryd.f71 ⟨rfl, by decide +kernel, by decide +kernel⟩ (by intro x K K2 hk h; (try dsimp only at h ⊢); intros; apply hk; first | exact h | (apply h <;> assumption)) ?_
  rintro ⟨p, bs, rs⟩ K hI h
  refine ⟨Nat.le_of_ble_eq_true rfl, ?_⟩
  unfold newDe at h
  dsimp only [enPl, plC] at h ⊢
  repeat' ((conv => whnf); first | refine vA ?_ | with_reducible first | refine v8 ?_ | refine Sp.mk ?_ ?_ | refine vS ?_ | refine vR ?_ | refine vB ?_ | refine br_nt ?_ | refine br_tt ?_ | refine br_ff ?_ | refine vP ?_ | refine vQ ?_ | refine vT ?_ | refine vF ?_ | refine br_and ?_ | refine br_or ?_ | refine br_d (fun _ => ?_) fun _ => ?_ | refine vM (fun _ => ?_) fun _ => ?_)
  refine ⟨⟨p, bs, rs⟩, ?_, ⟨hI⟩, ?_⟩
  · repeat' ((conv => whnf); first | with_reducible exact True.intro | exact vW | with_reducible refine And.intro ?_ ?_)
  repeat' ((conv => whnf); first | refine vA ?_ | with_reducible first | refine v8 ?_ | refine Sp.mk ?_ ?_ | refine vS ?_ | refine vR ?_ | refine vB ?_ | refine br_nt ?_ | refine br_tt ?_ | refine br_ff ?_ | refine vP ?_ | refine vQ ?_ | refine vT ?_ | refine vF ?_ | refine br_and ?_ | refine br_or ?_ | refine br_d (fun _ => ?_) fun _ => ?_ | refine vM (fun _ => ?_) fun _ => ?_)
  · rename_i hO
    replace hO : placeOk ⟨p, bs, rs⟩ := hO
    rw [if_pos hO, decide_eq_true hO] at h
    refine ⟨⟨p, bs, rs⟩, ?_, ⟨placeOk_short hO⟩, ?_⟩
    · repeat' ((conv => whnf); first | with_reducible exact True.intro | exact vW | with_reducible refine And.intro ?_ ?_)
    dsimp only [enPl, plC]
    repeat' ((conv => whnf); first | refine vA ?_ | with_reducible first | refine v8 ?_ | refine Sp.mk ?_ ?_ | refine vS ?_ | refine vR ?_ | refine vB ?_ | refine br_nt ?_ | refine br_tt ?_ | refine br_ff ?_ | refine vP ?_ | refine vQ ?_ | refine vT ?_ | refine vF ?_ | refine br_and ?_ | refine br_or ?_ | refine br_d (fun _ => ?_) fun _ => ?_ | refine vM (fun _ => ?_) fun _ => ?_)
    refine ⟨_, ?_, h⟩
    repeat' ((conv => whnf); first | with_reducible exact True.intro | exact vW | with_reducible refine And.intro ?_ ?_)
  · rename_i hO
    replace hO : ¬ placeOk ⟨p, bs, rs⟩ := hO
    rw [if_neg hO, decide_eq_false hO] at h
    refine ⟨_, ?_, h⟩
    repeat' ((conv => whnf); first | with_reducible exact True.intro | exact vW | with_reducible refine And.intro ?_ ?_)
theorem drawnP.lenD {x : Place} (h : drawnP x) : lenD ⟨x, []⟩ := ⟨h.len, (by decide : 0 < 9223372036854775808), fun _ hb => by cases hb⟩
theorem lenD0 : lenD default := ⟨⟨by decide, by decide⟩, by decide, fun _ hb => by cases hb⟩
def C119 : List AV → (AV → Prop) → Prop := con (X := List Int) (fun l => [slB l]) bytesI fun _ K => K (.bool true)
end Go.Proofs.YtjefkdhecccfpaaDoor.Vc
end
section
/- Part TM: what a deed makes of a place, by the reference. -/
namespace Go.Proofs.YtjefkdhecccfpaaDoor.Vc
open Go.Proofs
set_option maxRecDepth 10000
set_option maxHeartbeats 4000000
structure Hc where
  h : House
  t : List Mark
  c : Int
def consB (x : Hc) : Bool := decide (termOk x.h x.t) && (decide (crowd x.h.p x.c) && says x.h.bs x.c x.t)
def C209 : List AV → (AV → Prop) → Prop := con (X := Hc) (fun x => [enH x.h, slM x.t, .int .i64 x.c]) (fun x => termI x.h x.t ∧ i64r x.c) fun x K => K (.bool (consB x))
theorem sayOk_of' {p : Int} {bs : List Int} {t : List Mark} (h : termOk ⟨p, bs⟩ t) {c : Int} (hc : crowd p c) : sayOk ⟨p, bs, t, c⟩ := by
  have pw2 := (pw_le hc.1).2
  have hl := h.2.1
  have hcl := hc.2
  exact ⟨by show t.length < 4611686018427387904; omega, h.2.2, fun b hb => by have g : crowd p b := (h.1.2.2 b hb).1; have := g.2; omega, hcl.1, by show c < 64; omega⟩
theorem F209 : FF 109 C209 := by
  refine fitE [(98, C33), (111, C62), (123, C36)] (by simp only [List.mem_cons, List.not_mem_nil, or_false]; rintro _ (rfl | rfl | rfl) <;> first | exact F33 | exact F62 | exact F36) Tryd.f109 ⟨rfl, by decide +kernel, by decide +kernel⟩ (fun _ _ _ hk h => hk _ h) ?_
  rintro ⟨⟨p, bs⟩, t, c⟩ K ⟨hI, hc⟩ h
  refine ⟨Nat.le_of_ble_eq_true rfl, ?_⟩
  have hp := hI.1.1
  unfold consB at h
  dsimp only [enH] at h hc hp ⊢
  repeat' ((conv => whnf); first | refine vA ?_ | with_reducible first | refine v8 ?_ | refine Sp.mk ?_ ?_ | refine vS ?_ | refine vR ?_ | refine vB ?_ | refine br_nt ?_ | refine br_tt ?_ | refine br_ff ?_ | refine vP ?_ | refine vQ ?_ | refine vT ?_ | refine vF ?_ | refine br_and ?_ | refine br_or ?_ | refine br_d (fun _ => ?_) fun _ => ?_ | refine vM (fun _ => ?_) fun _ => ?_)
  refine ⟨(⟨p, bs⟩, t), ?_, ⟨hI⟩, ?_⟩
  · repeat' ((conv => whnf); first | with_reducible exact True.intro | exact vW | with_reducible refine And.intro ?_ ?_)
  repeat' ((conv => whnf); first | refine vA ?_ | with_reducible first | refine v8 ?_ | refine Sp.mk ?_ ?_ | refine vS ?_ | refine vR ?_ | refine vB ?_ | refine br_nt ?_ | refine br_tt ?_ | refine br_ff ?_ | refine vP ?_ | refine vQ ?_ | refine vT ?_ | refine vF ?_ | refine br_and ?_ | refine br_or ?_ | refine br_d (fun _ => ?_) fun _ => ?_ | refine vM (fun _ => ?_) fun _ => ?_)
  · rename_i hO
    have hO' : termOk ⟨p, bs⟩ t := hO
    rw [decide_eq_true hO', Bool.true_and] at h
    refine ⟨(p, c), ?_, ⟨hp, hc⟩, ?_⟩
    · repeat' ((conv => whnf); first | with_reducible exact True.intro | exact vW | with_reducible refine And.intro ?_ ?_)
    repeat' ((conv => whnf); first | refine vA ?_ | with_reducible first | refine v8 ?_ | refine Sp.mk ?_ ?_ | refine vS ?_ | refine vR ?_ | refine vB ?_ | refine br_nt ?_ | refine br_tt ?_ | refine br_ff ?_ | refine vP ?_ | refine vQ ?_ | refine vT ?_ | refine vF ?_ | refine br_and ?_ | refine br_or ?_ | refine br_d (fun _ => ?_) fun _ => ?_ | refine vM (fun _ => ?_) fun _ => ?_)
    · rename_i hcr
      have hcr' : crowd p c := hcr
      rw [decide_eq_true hcr', Bool.true_and] at h
      refine ⟨⟨p, bs, t, c⟩, ?_, ⟨sayOk_of' hO' hcr'⟩, ?_⟩
      · repeat' ((conv => whnf); first | with_reducible exact True.intro | exact vW | with_reducible refine And.intro ?_ ?_)
      repeat' ((conv => whnf); first | refine vA ?_ | with_reducible first | refine v8 ?_ | refine Sp.mk ?_ ?_ | refine vS ?_ | refine vR ?_ | refine vB ?_ | refine br_nt ?_ | refine br_tt ?_ | refine br_ff ?_ | refine vP ?_ | refine vQ ?_ | refine vT ?_ | refine vF ?_ | refine br_and ?_ | refine br_or ?_ | refine br_d (fun _ => ?_) fun _ => ?_ | refine vM (fun _ => ?_) fun _ => ?_)
      exact h
    · rename_i hcr
      have hcr' : ¬ crowd p c := hcr
      rw [decide_eq_false hcr', Bool.false_and] at h
      exact h
  · rename_i hO
    have hO' : ¬ termOk ⟨p, bs⟩ t := hO
    rw [decide_eq_false hO', Bool.false_and] at h
    exact h
/-- Does a rule of a place consent? -/
def consR (x : Place) (r c : Int) : Bool := if 0 ≤ r ∧ r < x.rules.length then (match rdT 49 x.h (x.rules.getD r.toNat ⟨#[]⟩) with
  | some t => decide (crowd x.p c) && says x.bs c t
  | none => false) else false
structure Pc where
  x : Place
  r : Int
  c : Int
def C206 : List AV → (AV → Prop) → Prop := con (X := Pc) (fun x => [enPl x.x, .int .i64 x.r, .int .i64 x.c]) (fun x => placeI x.x ∧ i64r x.r ∧ i64r x.c) fun x K => K (.bool (consR x.x x.r x.c))
theorem rdT_termI {h : House} (hI : houI h) {s : ByteArray} {t : List Mark} (e : rdT 49 h s = some t) : termI h t ∧ termOk h t := by
  obtain ⟨g1, g2, g3⟩ := (rdT_iff (by decide)).1 e
  have hs := (read_tr (lo := 49) (bodies_of g2.1) (by decide) (Tr.of g2.2.2)).2 80 (by rw [g3]; exact g1) [] (by simp)
  rw [List.append_nil] at hs
  have hs' : eitherP (partF 49 80) (bys (textT t)) = some (t, []) := by rw [hs]; rfl
  have hm := eitherP_sane (by decide) 80 _ _ _ hs'
  have hl := g2.2.1
  exact ⟨⟨hI.1, hI.2, hm, by omega⟩, g2⟩
theorem F206 : FF 81 C206 := by
  refine fitE [(66, C35), (82, C153), (109, C209)] (by simp only [List.mem_cons, List.not_mem_nil, or_false]; rintro _ (rfl | rfl | rfl) <;> first | exact F35 | exact F153 | exact F209) Tryd.f81 ⟨rfl, by decide +kernel, by decide +kernel⟩ (fun _ _ _ hk h => hk _ h) ?_
  rintro ⟨⟨p, bs, rs⟩, r, c⟩ K ⟨hI, hr, hc⟩ h
  refine ⟨Nat.le_of_ble_eq_true rfl, ?_⟩
  have hI1 := hI.1
  have hI2 := hI.2.1
  have hI3 := hI.2.2
  unfold consR at h
  dsimp only [enPl, plC] at h hr hc hI2 hI3 ⊢
  repeat' ((conv => whnf); first | refine vA ?_ | with_reducible first | refine v8 ?_ | refine Sp.mk ?_ ?_ | refine vS ?_ | refine vR ?_ | refine vB ?_ | refine br_nt ?_ | refine br_tt ?_ | refine br_ff ?_ | refine vP ?_ | refine vQ ?_ | refine vT ?_ | refine vF ?_ | refine br_and ?_ | refine br_or ?_ | refine br_d (fun _ => ?_) fun _ => ?_ | refine vM (fun _ => ?_) fun _ => ?_)
  refine ⟨(r, 0, rs.length - 1), ?_, ⟨trivial⟩, ?_⟩
  · repeat' ((conv => whnf); first | with_reducible exact True.intro | exact vW | with_reducible refine And.intro ?_ ?_)
  dsimp only
  repeat' ((conv => whnf); first | refine vA ?_ | with_reducible first | refine v8 ?_ | refine Sp.mk ?_ ?_ | refine vS ?_ | refine vR ?_ | refine vB ?_ | refine br_nt ?_ | refine br_tt ?_ | refine br_ff ?_ | refine vP ?_ | refine vQ ?_ | refine vT ?_ | refine vF ?_ | refine br_and ?_ | refine br_or ?_ | refine br_d (fun _ => ?_) fun _ => ?_ | refine vM (fun _ => ?_) fun _ => ?_)
  · rename_i g
    rw [if_pos (by omega)] at h
    have hr2 : r.toNat < rs.length := by omega
    refine Dr.mk ⟨(.rd 0 (.rd 1 (.rd 2 (.rd 3 (.rd 4 (.rd 5 (.rd 6 (.ef 7 (.rd 8 (.rd 9 (.rd 10 (.rd 11 (.rd 12 .dn))))) .no)))))))), by decide +kernel, ?_⟩
    repeat' ((conv => whnf); first | refine vA ?_ | with_reducible first | refine v8 ?_ | refine Sp.mk ?_ ?_ | refine vS ?_ | refine vR ?_ | refine vB ?_ | refine br_nt ?_ | refine br_tt ?_ | refine br_ff ?_ | refine vP ?_ | refine vQ ?_ | refine vT ?_ | refine vF ?_ | refine br_and ?_ | refine br_or ?_ | refine br_d (fun _ => ?_) fun _ => ?_ | refine vM (fun _ => ?_) fun _ => ?_)
    refine ⟨⟨⟨p, bs⟩, rs.getD r.toNat ⟨#[]⟩⟩, ?_, ⟨hI1, getD_len hI3 hr2⟩, ?_⟩
    · repeat' ((conv => whnf); first | with_reducible exact True.intro | exact vW | with_reducible refine And.intro ?_ ?_)
    refine And.intro (fun e => ?_) (fun t e => ?_)
    · have e' : rdT 49 (Place.h ⟨p, bs, rs⟩) (rs.getD r.toNat ⟨#[]⟩) = none := by rw [← rdT_eq]; exact e
      rw [e'] at h
      repeat' ((conv => whnf); first | refine vA ?_ | with_reducible first | refine v8 ?_ | refine Sp.mk ?_ ?_ | refine vS ?_ | refine vR ?_ | refine vB ?_ | refine br_nt ?_ | refine br_tt ?_ | refine br_ff ?_ | refine vP ?_ | refine vQ ?_ | refine vT ?_ | refine vF ?_ | refine br_and ?_ | refine br_or ?_ | refine br_d (fun _ => ?_) fun _ => ?_ | refine vM (fun _ => ?_) fun _ => ?_)
      refine ⟨⟨⟨p, bs⟩, [], c⟩, ?_, ⟨⟨hI1.1, hI1.2, by simp, by simp⟩, hc⟩, ?_⟩
      · repeat' ((conv => whnf); first | with_reducible exact True.intro | exact vW | with_reducible refine And.intro ?_ ?_)
      have hno : consB ⟨⟨p, bs⟩, [], c⟩ = false := by
        unfold consB
        rw [decide_eq_false (fun q => by have := q.2.2; simp [walkP] at this)]
        rfl
      dsimp only
      rw [hno]
      repeat' ((conv => whnf); first | refine vA ?_ | with_reducible first | refine v8 ?_ | refine Sp.mk ?_ ?_ | refine vS ?_ | refine vR ?_ | refine vB ?_ | refine br_nt ?_ | refine br_tt ?_ | refine br_ff ?_ | refine vP ?_ | refine vQ ?_ | refine vT ?_ | refine vF ?_ | refine br_and ?_ | refine br_or ?_ | refine br_d (fun _ => ?_) fun _ => ?_ | refine vM (fun _ => ?_) fun _ => ?_)
      exact h
    · have e' : rdT 49 (Place.h ⟨p, bs, rs⟩) (rs.getD r.toNat ⟨#[]⟩) = some t := by rw [← rdT_eq]; exact e
      rw [e'] at h
      obtain ⟨ht, hO⟩ := rdT_termI hI1 e'
      repeat' ((conv => whnf); first | refine vA ?_ | with_reducible first | refine v8 ?_ | refine Sp.mk ?_ ?_ | refine vS ?_ | refine vR ?_ | refine vB ?_ | refine br_nt ?_ | refine br_tt ?_ | refine br_ff ?_ | refine vP ?_ | refine vQ ?_ | refine vT ?_ | refine vF ?_ | refine br_and ?_ | refine br_or ?_ | refine br_d (fun _ => ?_) fun _ => ?_ | refine vM (fun _ => ?_) fun _ => ?_)
      refine ⟨⟨⟨p, bs⟩, t, c⟩, ?_, ⟨ht, hc⟩, ?_⟩
      · repeat' ((conv => whnf); first | with_reducible exact True.intro | exact vW | with_reducible refine And.intro ?_ ?_)
      have hyes : consB ⟨⟨p, bs⟩, t, c⟩ = (decide (crowd p c) && says bs c t) := by
        unfold consB
        rw [decide_eq_true (show termOk ⟨p, bs⟩ t from hO), Bool.true_and]
      dsimp only
      rw [hyes]
      repeat' ((conv => whnf); first | refine vA ?_ | with_reducible first | refine v8 ?_ | refine Sp.mk ?_ ?_ | refine vS ?_ | refine vR ?_ | refine vB ?_ | refine br_nt ?_ | refine br_tt ?_ | refine br_ff ?_ | refine vP ?_ | refine vQ ?_ | refine vT ?_ | refine vF ?_ | refine br_and ?_ | refine br_or ?_ | refine br_d (fun _ => ?_) fun _ => ?_ | refine vM (fun _ => ?_) fun _ => ?_)
      exact h
  · rename_i g
    rw [if_neg (by omega)] at h
    exact h
/-! ### Copies with memory of their own -/
def plG (x : Place) : AV := .agg [.int .i64 x.p, .row 0 1 0 x.bs.length, .row 1 1 0 x.rules.length]
def plO (x : Place) : List Obj := [.row 1 x.bs.length fun i => encI (x.bs.getD i 0), .row 1 x.rules.length fun i => encS (x.rules.getD i ⟨#[]⟩)]
def C158g : GC := conG (X := Place) (fun x => [enPl x]) (fun _ => []) (fun x => x.rules.length ≤ 100000000 ∧ x.bs.length ≤ 100000000) fun x K => K (plG x) (plO x)
theorem F158g : GG 80 C158g := by
  refine fitG [] (by simp) [] (by simp) Tryd.f80 ⟨rfl, by decide +kernel, by decide +kernel⟩ (by intro x K K2 hk h; (try dsimp only at h ⊢); intros; apply hk; first | exact h | (apply h <;> assumption)) ?_
  rintro ⟨p, bs, rs⟩ K ⟨h1, h2⟩ h
  refine ⟨Nat.le_of_ble_eq_true rfl, ?_⟩
  unfold plG plO at h
  dsimp only [enPl, plC] at h h1 h2 ⊢
  repeat' ((conv => whnf); first | refine vA ?_ | with_reducible first | refine v8 ?_ | refine Sp.mk ?_ ?_ | refine vS ?_ | refine vR ?_ | refine vB ?_ | refine br_nt ?_ | refine br_tt ?_ | refine br_ff ?_ | refine vP ?_ | refine vQ ?_ | refine vT ?_ | refine vF ?_ | refine br_and ?_ | refine br_or ?_ | refine br_d (fun _ => ?_) fun _ => ?_ | refine vM (fun _ => ?_) fun _ => ?_)
  refine Dr.mk ⟨(.rd 0 (.rd 1 (.rd 2 (.rd 4 (.rd 5 (.rd 6 (.rd 10 (.rd 11 (.ef 3 (.ef 7 (.rd 8 (.ef 9 (.ef 12 (.rd 13 (.ef 14 .dn .no)) .no) .no)) (.ef 9 (.ef 7 (.rd 8 (.ef 12 (.rd 13 (.ef 14 .dn .no)) .no)) .no) .no)) (.ef 9 (.ef 3 (.ef 7 (.rd 8 (.ef 12 (.rd 13 (.ef 14 .dn .no)) .no)) .no) .no) .no)))))))))), by decide +kernel, ?_⟩
  repeat' ((conv => whnf); first | refine vA ?_ | with_reducible first | refine v8 ?_ | refine Sp.mk ?_ ?_ | refine vS ?_ | refine vR ?_ | refine vB ?_ | refine br_nt ?_ | refine br_tt ?_ | refine br_ff ?_ | refine vP ?_ | refine vQ ?_ | refine vT ?_ | refine vF ?_ | refine br_and ?_ | refine br_or ?_ | refine br_d (fun _ => ?_) fun _ => ?_ | refine vM (fun _ => ?_) fun _ => ?_)
  all_goals
    first
    | (refine ⟨_, _, [some 2, some 3], [], rfl, rfl, ?_, ?_, h⟩ <;> (repeat' ((conv => whnf); first | with_reducible exact True.intro | exact vW | with_reducible refine And.intro ?_ ?_)) <;> fail)
    | (refine ⟨_, _, [some 3, some 2], [], rfl, rfl, ?_, ?_, h⟩ <;> (repeat' ((conv => whnf); first | with_reducible exact True.intro | exact vW | with_reducible refine And.intro ?_ ?_)) <;> fail)
def C157g := C158g
theorem F157g : GG 104 C157g := by
  refine fitG [] (by simp) [] (by simp) Tryd.f104 ⟨rfl, by decide +kernel, by decide +kernel⟩ (by intro x K K2 hk h; (try dsimp only at h ⊢); intros; apply hk; first | exact h | (apply h <;> assumption)) ?_
  rintro ⟨p, bs, rs⟩ K ⟨h1, h2⟩ h
  refine ⟨Nat.le_of_ble_eq_true rfl, ?_⟩
  unfold plG plO at h
  dsimp only [enPl, plC] at h h1 h2 ⊢
  repeat' ((conv => whnf); first | refine vA ?_ | with_reducible first | refine v8 ?_ | refine Sp.mk ?_ ?_ | refine vS ?_ | refine vR ?_ | refine vB ?_ | refine br_nt ?_ | refine br_tt ?_ | refine br_ff ?_ | refine vP ?_ | refine vQ ?_ | refine vT ?_ | refine vF ?_ | refine br_and ?_ | refine br_or ?_ | refine br_d (fun _ => ?_) fun _ => ?_ | refine vM (fun _ => ?_) fun _ => ?_)
  refine Dr.mk ⟨(.rd 0 (.rd 1 (.rd 2 (.rd 4 (.rd 5 (.rd 6 (.rd 10 (.rd 11 (.ef 3 (.ef 7 (.rd 8 (.ef 9 (.ef 12 (.rd 13 (.ef 14 .dn .no)) .no) .no)) (.ef 9 (.ef 7 (.rd 8 (.ef 12 (.rd 13 (.ef 14 .dn .no)) .no)) .no) .no)) (.ef 9 (.ef 3 (.ef 7 (.rd 8 (.ef 12 (.rd 13 (.ef 14 .dn .no)) .no)) .no) .no) .no)))))))))), by decide +kernel, ?_⟩
  repeat' ((conv => whnf); first | refine vA ?_ | with_reducible first | refine v8 ?_ | refine Sp.mk ?_ ?_ | refine vS ?_ | refine vR ?_ | refine vB ?_ | refine br_nt ?_ | refine br_tt ?_ | refine br_ff ?_ | refine vP ?_ | refine vQ ?_ | refine vT ?_ | refine vF ?_ | refine br_and ?_ | refine br_or ?_ | refine br_d (fun _ => ?_) fun _ => ?_ | refine vM (fun _ => ?_) fun _ => ?_)
  all_goals
    first
    | (refine ⟨_, _, [some 2, some 3], [], rfl, rfl, ?_, ?_, h⟩ <;> (repeat' ((conv => whnf); first | with_reducible exact True.intro | exact vW | with_reducible refine And.intro ?_ ?_)) <;> fail)
    | (refine ⟨_, _, [some 3, some 2], [], rfl, rfl, ?_, ?_, h⟩ <;> (repeat' ((conv => whnf); first | with_reducible exact True.intro | exact vW | with_reducible refine And.intro ?_ ?_)) <;> fail)
theorem ext_sym {α : Type} {enc : α → List AV} {d : α} {l : List α} {n : Nat} {g : Nat → List AV} (h : l.length = n ∧ ∀ j, j < l.length → enc (l.getD j d) = g j) : n = l.length ∧ ∀ j, j < n → g (0 + j) = enc (l.getD j d) := ⟨h.1.symm, fun j hj => by rw [Nat.zero_add]; exact (h.2 j (by rw [h.1]; exact hj)).symm⟩
theorem consR_in {x : Place} {r c : Int} (h : consR x r c = true) : (0 ≤ r ∧ r < x.rules.length) ∧ r.toNat < x.rules.length := by
  unfold consR at h
  split at h
  · rename_i g
    exact ⟨g, by omega⟩
  · cases h
theorem ext_set {l : List ByteArray} {x : ByteArray} {n : Nat} (h : n < l.length) : l.length = (l.set n x).length ∧ ∀ i, i < l.length → setF (fun j => encS (l.getD j ⟨#[]⟩)) (0 + n) (encS x) (0 + i) = encS ((l.set n x).getD i ⟨#[]⟩) := by
  refine ⟨by rw [List.length_set], fun i hi => ?_⟩
  rw [Nat.zero_add, Nat.zero_add, List.getD_eq_getElem?_getD, List.getElem?_set]
  unfold setF
  cases hb : Nat.beq i n with
  | true =>
    obtain rfl := Nat.eq_of_beq_eq_true hb
    rw [if_pos rfl, if_pos h]
    rfl
  | false =>
    have := Nat.ne_of_beq_eq_false hb
    rw [if_neg (fun e => this e.symm), ← List.getD_eq_getElem?_getD]
    rfl
theorem ext_cut {l : List ByteArray} {n : Nat} (h : n < l.length) : n + (l.length - (n + 1)) = (l.take n ++ l.drop (n + 1)).length ∧ ∀ i, i < n + (l.length - (n + 1)) → appF n (fun j => encS (l.getD j ⟨#[]⟩)) (fun j => encS (l.getD (n + 1 + j) ⟨#[]⟩)) (0 + i) = encS ((l.take n ++ l.drop (n + 1)).getD i ⟨#[]⟩) := by
  have := ext_app (enc := encS) (d := ⟨#[]⟩) (l := l) (m := l.drop (n + 1)) (n := n) (g := fun j => encS (l.getD (n + 1 + j) ⟨#[]⟩)) (by omega) fun j hj => by
    rw [List.getD_eq_getElem?_getD, List.getD_eq_getElem?_getD, List.getElem?_drop]
  rw [List.length_drop] at this
  exact ext_sym this
def madeP (x : Place) (a : Dd) : Place :=
  if a.kind = 0 ∧ a.b = 0 ∧ a.words = ⟨#[]⟩ then ⟨x.p, x.bs ++ [a.a], x.rules⟩
  else if a.kind = 1 ∧ a.a = 0 ∧ a.b = 0 then ⟨x.p, x.bs, x.rules ++ [a.words]⟩
  else if a.kind = 2 ∧ consR x a.a a.b = true then ⟨x.p, x.bs, x.rules.set a.a.toNat a.words⟩
  else if a.kind = 3 ∧ a.words = ⟨#[]⟩ ∧ consR x a.a a.b = true then ⟨x.p, x.bs, x.rules.take a.a.toNat ++ x.rules.drop (a.a.toNat + 1)⟩
  else default
section
variable {x : Place} {k a b : Int} {w : ByteArray}
theorem made_0n (h : k = 0) (hn : ¬ (b = 0 ∧ w = ⟨#[]⟩)) : madeP x ⟨k, a, b, w⟩ = default := by
  unfold madeP
  dsimp only
  rw [if_neg (fun q => hn q.2), if_neg (by omega), if_neg (by omega), if_neg (by omega)]
theorem made_1n (h : k = 1) (hn : ¬ (a = 0 ∧ b = 0)) : madeP x ⟨k, a, b, w⟩ = default := by
  unfold madeP
  dsimp only
  rw [if_neg (by omega), if_neg (fun q => hn q.2), if_neg (by omega), if_neg (by omega)]
theorem made_2n (h : k = 2) (hn : consR x a b = false) : madeP x ⟨k, a, b, w⟩ = default := by
  unfold madeP
  dsimp only
  rw [if_neg (by omega), if_neg (by omega), if_neg (fun q => by rw [hn] at q; cases q.2), if_neg (by omega)]
theorem made_3n (h : k = 3) (hn : ¬ (w = ⟨#[]⟩ ∧ consR x a b = true)) : madeP x ⟨k, a, b, w⟩ = default := by
  unfold madeP
  dsimp only
  rw [if_neg (by omega), if_neg (by omega), if_neg (by omega), if_neg (fun q => hn q.2)]
theorem made_n (h0 : ¬ k = 0) (h1 : ¬ k = 1) (h2 : ¬ k = 2) (h3 : ¬ k = 3) : madeP x ⟨k, a, b, w⟩ = default := by
  unfold madeP
  dsimp only
  rw [if_neg (by omega), if_neg (by omega), if_neg (by omega), if_neg (by omega)]
theorem made_0 (h : k = 0) (h1 : b = 0) (h2 : w = ⟨#[]⟩) : madeP x ⟨k, a, b, w⟩ = ⟨x.p, x.bs ++ [a], x.rules⟩ := if_pos ⟨h, h1, h2⟩
theorem made_1 (h : k = 1) (h1 : a = 0) (h2 : b = 0) : madeP x ⟨k, a, b, w⟩ = ⟨x.p, x.bs, x.rules ++ [w]⟩ := by
  unfold madeP
  dsimp only
  rw [if_neg (by omega), if_pos ⟨h, h1, h2⟩]
theorem made_2 (h : k = 2) (h1 : consR x a b = true) : madeP x ⟨k, a, b, w⟩ = ⟨x.p, x.bs, x.rules.set a.toNat w⟩ := by
  unfold madeP
  dsimp only
  rw [if_neg (by omega), if_neg (by omega), if_pos ⟨h, h1⟩]
theorem made_3 (h : k = 3) (h1 : w = ⟨#[]⟩) (h2 : consR x a b = true) : madeP x ⟨k, a, b, w⟩ = ⟨x.p, x.bs, x.rules.take a.toNat ++ x.rules.drop (a.toNat + 1)⟩ := by
  unfold madeP
  dsimp only
  rw [if_neg (by omega), if_neg (by omega), if_neg (by omega), if_pos ⟨h, h1, h2⟩]
end
structure Pd where
  x : Place
  a : Dd
def shortP (x : Place) : Prop := x.rules.length ≤ 100000000 ∧ x.bs.length ≤ 100000000
def dedI (a : Dd) : Prop := i64r a.kind ∧ i64r a.a ∧ i64r a.b ∧ a.words.size < 9223372036854775808
def C199 : List AV → (AV → Prop) → Prop := con (X := Pd) (fun x => [enPl x.x, ded x.a]) (fun x => placeI x.x ∧ shortP x.x ∧ dedI x.a) fun x K => K (enPl (madeP x.x x.a))
theorem F199 : FF 46 C199 := by
  refine fitXE [(81, C206)] (by simp only [List.mem_cons, List.not_mem_nil, or_false]; rintro _ rfl; exact F206) [(80, C158g)] (by simp only [List.mem_cons, List.not_mem_nil, or_false]; rintro _ rfl; exact F158g) Tryd.f46 ⟨rfl, by decide +kernel, by decide +kernel⟩ (fun _ _ _ hk h => hk _ h) ?_
  rintro ⟨⟨p, bs, rs⟩, ⟨k, a, b, w⟩⟩ K ⟨hI, hs, h1, h2, h3, h4⟩ h
  refine ⟨Nat.le_of_ble_eq_true rfl, ?_⟩
  have hs1 := hs.1
  have hs2 := hs.2
  dsimp only [ded, encD, enPl, plC] at h1 h2 h3 h4 hs1 hs2 ⊢
  have x1 := ext_push (enc := encI) (d := 0) (l := bs) (x := a) (g := fun i => (fun i => [[AV.int .i64 a]].getD i [.int .i64 0]) (0 + i)) rfl
  have x2 := ext_push (enc := encS) (d := ⟨#[]⟩) (l := rs) (x := w) (g := fun i => (fun i => [[AV.str w]].getD i [.str ⟨#[]⟩]) (0 + i)) rfl
  have y1 := ext_sym x1
  have y2 := ext_sym x2
  repeat' ((conv => whnf); first | refine vA ?_ | with_reducible first | refine v8 ?_ | refine Sp.mk ?_ ?_ | refine vS ?_ | refine vR ?_ | refine vB ?_ | refine br_nt ?_ | refine br_tt ?_ | refine br_ff ?_ | refine vP ?_ | refine vQ ?_ | refine vT ?_ | refine vF ?_ | refine br_and ?_ | refine br_or ?_ | refine br_d (fun _ => ?_) fun _ => ?_ | refine vM (fun _ => ?_) fun _ => ?_)
  refine ⟨_, _, [], [], rfl, ?_, ?_, ⟨p, bs, rs⟩, rfl, rfl, ⟨hs⟩, ?_⟩
  · repeat' ((conv => whnf); first | with_reducible exact True.intro | exact vW | with_reducible refine And.intro ?_ ?_)
  · repeat' ((conv => whnf); first | with_reducible exact True.intro | exact vW | with_reducible refine And.intro ?_ ?_)
  dsimp only [plG, plO]
  repeat' ((conv => whnf); first | refine vA ?_ | with_reducible first | refine v8 ?_ | refine Sp.mk ?_ ?_ | refine vS ?_ | refine vR ?_ | refine vB ?_ | refine br_nt ?_ | refine br_tt ?_ | refine br_ff ?_ | refine vP ?_ | refine vQ ?_ | refine vT ?_ | refine vF ?_ | refine br_and ?_ | refine br_or ?_ | refine br_d (fun _ => ?_) fun _ => ?_ | refine vM (fun _ => ?_) fun _ => ?_)
  · have e := made_0 (x := ⟨p, bs, rs⟩) (k := k) (b := b) (w := w) (a := a) (by assumption) (by assumption) (by assumption)
    replace h : K (enPl (madeP ⟨p, bs, rs⟩ ⟨k, a, b, w⟩)) := h
    rw [e] at h
    refine ⟨_, ?_, h⟩
    repeat' ((conv => whnf); first | with_reducible exact True.intro | exact vW | with_reducible refine And.intro ?_ ?_)
    all_goals first | exact Chk.mk ⟨rfl, fun i _ => by dsimp only; rw [Nat.zero_add]⟩ | exact Chk.mk y1
  · rename_i q1 q2 q3
    have e := made_0n (x := ⟨p, bs, rs⟩) (a := a) (b := b) q1 fun q => q3 q.2
    replace h : K (enPl (madeP ⟨p, bs, rs⟩ ⟨k, a, b, w⟩)) := h
    rw [e] at h
    refine ⟨_, ?_, h⟩
    repeat' ((conv => whnf); first | with_reducible exact True.intro | exact vW | with_reducible refine And.intro ?_ ?_)
  · rename_i q1 q2
    have e := made_0n (x := ⟨p, bs, rs⟩) (a := a) (b := b) (w := w) q1 fun q => q2 q.1
    replace h : K (enPl (madeP ⟨p, bs, rs⟩ ⟨k, a, b, w⟩)) := h
    rw [e] at h
    refine ⟨_, ?_, h⟩
    repeat' ((conv => whnf); first | with_reducible exact True.intro | exact vW | with_reducible refine And.intro ?_ ?_)
  · rename_i q1 q2 q3 q4
    have e := made_1 (x := ⟨p, bs, rs⟩) (w := w) q1 q2 q3
    replace h : K (enPl (madeP ⟨p, bs, rs⟩ ⟨k, a, b, w⟩)) := h
    rw [e] at h
    refine ⟨_, ?_, h⟩
    repeat' ((conv => whnf); first | with_reducible exact True.intro | exact vW | with_reducible refine And.intro ?_ ?_)
    all_goals first | exact Chk.mk ⟨rfl, fun i _ => by dsimp only; rw [Nat.zero_add]⟩ | exact Chk.mk y2
  · rename_i hw
    exact absurd rfl hw
  · rename_i q1 q2 q3
    have e := made_1n (x := ⟨p, bs, rs⟩) (w := w) (a := a) (b := b) q1 fun q => q3 q.2
    replace h : K (enPl (madeP ⟨p, bs, rs⟩ ⟨k, a, b, w⟩)) := h
    rw [e] at h
    refine ⟨_, ?_, h⟩
    repeat' ((conv => whnf); first | with_reducible exact True.intro | exact vW | with_reducible refine And.intro ?_ ?_)
  · rename_i q1 q2
    have e := made_1n (x := ⟨p, bs, rs⟩) (w := w) (a := a) (b := b) q1 fun q => q2 q.1
    replace h : K (enPl (madeP ⟨p, bs, rs⟩ ⟨k, a, b, w⟩)) := h
    rw [e] at h
    refine ⟨_, ?_, h⟩
    repeat' ((conv => whnf); first | with_reducible exact True.intro | exact vW | with_reducible refine And.intro ?_ ?_)
  · rename_i q1
    refine ⟨⟨⟨p, bs, rs⟩, a, b⟩, ?_, ⟨hI, h2, h3⟩, ?_⟩
    · repeat' ((conv => whnf); first | with_reducible exact True.intro | exact vW | with_reducible refine And.intro ?_ ?_)
    dsimp only
    cases hc : consR ⟨p, bs, rs⟩ a b
    · have e := made_2n (x := ⟨p, bs, rs⟩) (w := w) q1 hc
      repeat' ((conv => whnf); first | refine vA ?_ | with_reducible first | refine v8 ?_ | refine Sp.mk ?_ ?_ | refine vS ?_ | refine vR ?_ | refine vB ?_ | refine br_nt ?_ | refine br_tt ?_ | refine br_ff ?_ | refine vP ?_ | refine vQ ?_ | refine vT ?_ | refine vF ?_ | refine br_and ?_ | refine br_or ?_ | refine br_d (fun _ => ?_) fun _ => ?_ | refine vM (fun _ => ?_) fun _ => ?_)
      replace h : K (enPl (madeP ⟨p, bs, rs⟩ ⟨k, a, b, w⟩)) := h
      rw [e] at h
      refine ⟨_, ?_, h⟩
      repeat' ((conv => whnf); first | with_reducible exact True.intro | exact vW | with_reducible refine And.intro ?_ ?_)
    · have hr := consR_in hc
      dsimp only at hr
      have y3 := ext_set (x := w) hr.2
      have e := made_2 (x := ⟨p, bs, rs⟩) (w := w) q1 hc
      repeat' ((conv => whnf); first | refine vA ?_ | with_reducible first | refine v8 ?_ | refine Sp.mk ?_ ?_ | refine vS ?_ | refine vR ?_ | refine vB ?_ | refine br_nt ?_ | refine br_tt ?_ | refine br_ff ?_ | refine vP ?_ | refine vQ ?_ | refine vT ?_ | refine vF ?_ | refine br_and ?_ | refine br_or ?_ | refine br_d (fun _ => ?_) fun _ => ?_ | refine vM (fun _ => ?_) fun _ => ?_)
      replace h : K (enPl (madeP ⟨p, bs, rs⟩ ⟨k, a, b, w⟩)) := h
      rw [e] at h
      refine ⟨_, ?_, h⟩
      repeat' ((conv => whnf); first | with_reducible exact True.intro | exact vW | with_reducible refine And.intro ?_ ?_)
      all_goals first | exact Chk.mk ⟨rfl, fun i _ => by dsimp only; rw [Nat.zero_add]⟩ | exact Chk.mk y3
  · rename_i q1 q2
    refine ⟨⟨⟨p, bs, rs⟩, a, b⟩, ?_, ⟨hI, h2, h3⟩, ?_⟩
    · repeat' ((conv => whnf); first | with_reducible exact True.intro | exact vW | with_reducible refine And.intro ?_ ?_)
    dsimp only
    cases hc : consR ⟨p, bs, rs⟩ a b
    · have e := made_3n (x := ⟨p, bs, rs⟩) (w := w) (a := a) (b := b) q1 fun q => by rw [hc] at q; cases q.2
      repeat' ((conv => whnf); first | refine vA ?_ | with_reducible first | refine v8 ?_ | refine Sp.mk ?_ ?_ | refine vS ?_ | refine vR ?_ | refine vB ?_ | refine br_nt ?_ | refine br_tt ?_ | refine br_ff ?_ | refine vP ?_ | refine vQ ?_ | refine vT ?_ | refine vF ?_ | refine br_and ?_ | refine br_or ?_ | refine br_d (fun _ => ?_) fun _ => ?_ | refine vM (fun _ => ?_) fun _ => ?_)
      replace h : K (enPl (madeP ⟨p, bs, rs⟩ ⟨k, a, b, w⟩)) := h
      rw [e] at h
      refine ⟨_, ?_, h⟩
      repeat' ((conv => whnf); first | with_reducible exact True.intro | exact vW | with_reducible refine And.intro ?_ ?_)
    · have hr := consR_in hc
      dsimp only at hr
      have y3 := ext_cut hr.2
      have e := made_3 (x := ⟨p, bs, rs⟩) (w := w) q1 q2 hc
      repeat' ((conv => whnf); first | refine vA ?_ | with_reducible first | refine v8 ?_ | refine Sp.mk ?_ ?_ | refine vS ?_ | refine vR ?_ | refine vB ?_ | refine br_nt ?_ | refine br_tt ?_ | refine br_ff ?_ | refine vP ?_ | refine vQ ?_ | refine vT ?_ | refine vF ?_ | refine br_and ?_ | refine br_or ?_ | refine br_d (fun _ => ?_) fun _ => ?_ | refine vM (fun _ => ?_) fun _ => ?_)
      have e5 : (a + 1).toNat = a.toNat + 1 := by omega
      have y4 : a.toNat - Int.toNat 0 + ((rs.length : Int).toNat - (a + 1).toNat) = (rs.take a.toNat ++ rs.drop (a.toNat + 1)).length ∧ ∀ i, i < a.toNat - Int.toNat 0 + ((rs.length : Int).toNat - (a + 1).toNat) → appF (a.toNat - Int.toNat 0) (fun i => (fun i => encS (rs.getD i ⟨#[]⟩)) (Int.toNat 0 + i)) (fun i => (fun i => encS (rs.getD i ⟨#[]⟩)) ((a + 1).toNat + i)) (0 + i) = encS ((rs.take a.toNat ++ rs.drop (a.toNat + 1)).getD i ⟨#[]⟩) := by
        rw [e5, show Int.toNat 0 = 0 from rfl, Nat.sub_zero, Int.toNat_natCast]
        simp only [Nat.zero_add] at y3 ⊢
        exact y3
      refine Dr.mk ⟨(.rd 0 (.rd 1 (.rd 3 (.rd 4 (.rd 5 (.rd 6 (.rd 7 (.rd 9 (.rd 10 (.rd 11 (.rd 12 (.rd 13 (.rd 14 (.ef 2 (.ef 8 (.ef 15 (.rd 16 (.ef 17 .dn .no)) .no) .no) .no)))))))))))))), by decide +kernel, ?_⟩
      repeat' ((conv => whnf); first | refine vA ?_ | with_reducible first | refine v8 ?_ | refine Sp.mk ?_ ?_ | refine vS ?_ | refine vR ?_ | refine vB ?_ | refine br_nt ?_ | refine br_tt ?_ | refine br_ff ?_ | refine vP ?_ | refine vQ ?_ | refine vT ?_ | refine vF ?_ | refine br_and ?_ | refine br_or ?_ | refine br_d (fun _ => ?_) fun _ => ?_ | refine vM (fun _ => ?_) fun _ => ?_)
      replace h : K (enPl (madeP ⟨p, bs, rs⟩ ⟨k, a, b, w⟩)) := h
      rw [e] at h
      refine ⟨_, ?_, h⟩
      repeat' ((conv => whnf); first | with_reducible exact True.intro | exact vW | with_reducible refine And.intro ?_ ?_)
      all_goals first | exact Chk.mk ⟨rfl, fun i _ => by dsimp only; rw [Nat.zero_add]⟩ | exact Chk.mk y4
  · rename_i q1 q2
    have e := made_3n (x := ⟨p, bs, rs⟩) (a := a) (b := b) (w := w) q1 fun q => q2 q.1
    replace h : K (enPl (madeP ⟨p, bs, rs⟩ ⟨k, a, b, w⟩)) := h
    rw [e] at h
    refine ⟨_, ?_, h⟩
    repeat' ((conv => whnf); first | with_reducible exact True.intro | exact vW | with_reducible refine And.intro ?_ ?_)
  · have e := made_n (x := ⟨p, bs, rs⟩) (a := a) (b := b) (w := w) (by assumption) (by assumption) (by assumption) (by assumption)
    replace h : K (enPl (madeP ⟨p, bs, rs⟩ ⟨k, a, b, w⟩)) := h
    rw [e] at h
    refine ⟨_, ?_, h⟩
    repeat' ((conv => whnf); first | with_reducible exact True.intro | exact vW | with_reducible refine And.intro ?_ ?_)
end Go.Proofs.YtjefkdhecccfpaaDoor.Vc
end
