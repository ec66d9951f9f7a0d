/- Part PB: the law FnPivotIn. -/
import Derived.Test.YtbbgojaloebknaaVcPA
import Derived.Test.YtbbgojaloebknaaVcZW
namespace Go.Proofs.Ytbbgojaloebknaa.Vc
open Go.Proofs
set_option maxRecDepth 10000
set_option maxHeartbeats 4000000
theorem pivotR_mem (bs : List Int) (t : List Mark) : ∀ (l : List Int) (c : Int), pivotR bs t l c = -1 ∨ pivotR bs t l c ∈ l
  | [], _ => .inl rfl
  | w :: l, c => by
    unfold pivotR
    split
    · exact .inr List.mem_cons_self
    · rcases pivotR_mem bs t l (add c w) with h | h
      · exact .inl h
      · exact .inr (List.mem_cons_of_mem _ h)
theorem cons_ext {l : List Int} {c : Int} {g : Nat → List AV} (hg : g 0 = encI c) : (c :: l).length = 1 + l.length ∧ ∀ j, j < (c :: l).length → encI ((c :: l).getD j 0) = appF 1 g (fun j => encI (l.getD j 0)) j := by
  refine ⟨by simp; omega, fun j _ => ?_⟩
  unfold appF
  cases j with
  | zero => exact hg.symm
  | succ j =>
    show encI (l.getD j 0) = encI (l.getD (j + 1 - 1) 0)
    rw [Nat.add_sub_cancel]
theorem nd_at {α : Type} [DecidableEq α] {a b : List α} {v d : α} (h : (a ++ v :: b).Nodup) {i : Nat} (hi : i < (a ++ v :: b).length) (e : (a ++ v :: b).getD i d = v) : i = a.length := by
  have h1 : (a ++ v :: b)[i]? = some v := by rw [List.getElem?_eq_getElem hi]; rw [List.getD_eq_getElem?_getD, List.getElem?_eq_getElem hi] at e; exact congrArg some e
  have h2 : (a ++ v :: b)[a.length]? = some v := by rw [List.getElem?_append_right (Nat.le_refl _)]; simp
  have hl : a.length < (a ++ v :: b).length := by simp
  rw [List.getElem?_eq_getElem hi] at h1
  rw [List.getElem?_eq_getElem hl] at h2
  have e2 : (a ++ v :: b)[i] = (a ++ v :: b)[a.length] := by rw [Option.some.inj h1, Option.some.inj h2]
  rcases Nat.lt_trichotomy i a.length with q | q | q
  · exact absurd e2 (List.pairwise_iff_getElem.1 h _ _ hi hl q)
  · exact q
  · exact absurd e2.symm (List.pairwise_iff_getElem.1 h _ _ hl hi q)
theorem bef_step {p : Int} (hp : p ≤ 6) {a b : List Int} {v D : Int} (h : seenP p (a ++ v :: b) 0 = some D) {i : Nat} (hi : i < a.length) : 0 ≤ sp (a.take i) ∧ sp (a.take i) < 64 ∧ 0 ≤ a.getD i 0 ∧ a.getD i 0 < p ∧ add (sp (a.take i)) (a.getD i 0) = sp (a.take (i + 1)) := by
  have e : a ++ v :: b = a.take i ++ (a.getD i 0 :: (a.drop (i + 1) ++ v :: b)) := by
    rw [← List.cons_append, ← drop_cons 0 hi, ← List.append_assoc, List.take_append_drop]
  rw [e] at h
  obtain ⟨c, c1, c2, c3, c4, c5⟩ := seen_split hp h
  unfold seenP at c2
  split at c2
  case isFalse => cases c2
  rename_i g
  rw [← c3]
  refine ⟨c4, c5, g.1, g.2.1, ?_⟩
  rw [add_sum hp c4 c5 g.1 g.2.1 g.2.2, take_succ' 0 hi, sp_app, c3]
  simp [sp]
def C6 := lawB
theorem F6 : FF 6 C6 := by
  refine fitE [(27, C27), (15, C15), (11, C11), (22, C22), (23, C23), (28, C28)] (by simp only [List.mem_cons, List.not_mem_nil, or_false]; rintro _ (rfl | rfl | rfl | rfl | rfl | rfl) <;> first | exact F27 | exact F15 | exact F11 | exact F22 | exact F23 | exact F28) Try.f6 ⟨rfl, by decide +kernel, by decide +kernel⟩ (fun _ _ _ hk h => hk _ h) ?_
  rintro l K ⟨h1, h2⟩ h
  refine ⟨Nat.le_of_ble_eq_true rfl, ?_⟩
  repeat' ((conv => whnf); first | refine vA ?_ | with_reducible first | refine vS ?_ | refine vR ?_ | refine vB ?_ | refine br_nt ?_ | refine br_tt ?_ | refine br_ff ?_ | refine vP ?_ | refine vQ ?_ | refine vT ?_ | refine vF ?_ | refine br_and ?_ | refine br_or ?_ | refine br_d (fun _ => ?_) fun _ => ?_ | refine vM (fun _ => ?_) fun _ => ?_)
  · exact h
  refine ⟨l, ?_, ⟨h1, h2⟩, ?_⟩
  · repeat' ((conv => whnf); first | with_reducible exact True.intro | exact vW | with_reducible refine And.intro ?_ ?_)
  rintro ⟨p, bs⟩ t o hd o1 o2
  have hI := hd.i64
  have hoI : ∀ w ∈ o, i64r w := fun w hw => by have := o2 w hw; unfold i64r; omega
  repeat' ((conv => whnf); first | refine vA ?_ | with_reducible first | refine vS ?_ | refine vR ?_ | refine vB ?_ | refine br_nt ?_ | refine br_tt ?_ | refine br_ff ?_ | refine vP ?_ | refine vQ ?_ | refine vT ?_ | refine vF ?_ | refine br_and ?_ | refine br_or ?_ | refine br_d (fun _ => ?_) fun _ => ?_ | refine vM (fun _ => ?_) fun _ => ?_)
  refine ⟨⟨⟨p, bs⟩, t, o⟩, ?_, ⟨hI, hoI, by show o.length < _; omega⟩, ?_⟩
  · repeat' ((conv => whnf); first | with_reducible exact True.intro | exact vW | with_reducible refine And.intro ?_ ?_)
  dsimp only
  obtain ⟨v, hv⟩ : ∃ v, pivotIn ⟨p, bs⟩ t o = v := ⟨_, rfl⟩
  rw [hv]
  repeat' ((conv => whnf); first | refine vA ?_ | with_reducible first | refine vS ?_ | refine vR ?_ | refine vB ?_ | refine br_nt ?_ | refine br_tt ?_ | refine br_ff ?_ | refine vP ?_ | refine vQ ?_ | refine vT ?_ | refine vF ?_ | refine br_and ?_ | refine br_or ?_ | refine br_d (fun _ => ?_) fun _ => ?_ | refine vM (fun _ => ?_) fun _ => ?_)
  refine ⟨⟨⟨p, bs⟩, t, o⟩, ?_, ⟨hI, hoI, by show o.length < _; omega⟩, ?_⟩
  · repeat' ((conv => whnf); first | with_reducible exact True.intro | exact vW | with_reducible refine And.intro ?_ ?_)
  dsimp only
  rw [hv]
  have hv1 : v = -1 ∨ 0 ≤ v := by
    unfold pivotIn at hv
    split at hv
    · rcases pivotR_mem bs t o 0 with q | q
      · exact .inl (hv.symm.trans q)
      · exact .inr (by rw [← hv]; exact (o2 _ q).1)
    · exact .inl hv.symm
  repeat' ((conv => whnf); first | refine vA ?_ | with_reducible first | refine vS ?_ | refine vR ?_ | refine vB ?_ | refine br_nt ?_ | refine br_tt ?_ | refine br_ff ?_ | refine vP ?_ | refine vQ ?_ | refine vT ?_ | refine vF ?_ | refine br_and ?_ | refine br_or ?_ | refine br_d (fun _ => ?_) fun _ => ?_ | refine vM (fun _ => ?_) fun _ => ?_)
  · refine ⟨(), ?_, ⟨trivial⟩, ?_⟩
    · repeat' ((conv => whnf); first | with_reducible exact True.intro | exact vW | with_reducible refine And.intro ?_ ?_)
    repeat' ((conv => whnf); first | refine vA ?_ | with_reducible first | refine vS ?_ | refine vR ?_ | refine vB ?_ | refine br_nt ?_ | refine br_tt ?_ | refine br_ff ?_ | refine vP ?_ | refine vQ ?_ | refine vT ?_ | refine vF ?_ | refine br_and ?_ | refine br_or ?_ | refine br_d (fun _ => ?_) fun _ => ?_ | refine vM (fun _ => ?_) fun _ => ?_)
    exact h
  · rename_i g1
    have hc : termOk ⟨p, bs⟩ t ∧ (o.length : Int) = p ∧ (seenP p o 0).isSome = true ∧ pivotR bs t o 0 = v := by
      unfold pivotIn at hv
      split at hv
      · rename_i q; exact ⟨q.1, q.2.1, q.2.2, hv⟩
      · omega
    obtain ⟨hO, hl, hs, hr⟩ := hc
    have pp : people p := hO.1.1
    have p6 : p ≤ 6 := pp.2
    have pl := pw_le pp
    obtain ⟨D, hD⟩ := Option.isSome_iff_exists.1 hs
    obtain ⟨a, b, P, hback⟩ := pivot_back hO hl hs hr (by omega)
    have el := P.el
    subst el
    have hdI := dual_i64 hd hO
    have hlen : (a ++ v :: b).length = a.length + b.length + 1 := by simp; omega
    have hs0 : ∀ i, 0 ≤ sp (a.take i) ∧ sp (a.take i) < 64 := fun i => by
      rcases Nat.lt_or_ge i a.length with q | q
      · have := bef_step p6 hD q; exact ⟨this.1, this.2.1⟩
      · rw [List.take_of_length_le q]; have := P.lt; omega
    refine Lp.mk ⟨Nat, fun i => [(3, .ptr 0 0), (4, slM t), (5, slI (a ++ v :: b)), (6, .int .i64 v), (7, .row 1 1 0 i), (8, .int .i64 (sp (a.take i))), (9, .bool (decide (a.length < i))), (10, .int .i64 i)],
      fun i => [.box [.int .i64 p, slI bs], .row 1 i fun j => encI (((a ++ v :: b).take i).reverse.getD j 0)], fun i => i ≤ (a ++ v :: b).length, fun i => (a ++ v :: b).length - i, ⟨0, Nat.zero_le _, ⟨⟨[some 0, none], [], rfl, rfl, ?_, ?_⟩⟩⟩, ?_⟩
    · repeat' ((conv => whnf); first | with_reducible exact True.intro | exact vW | with_reducible refine And.intro ?_ ?_)
      all_goals exact Chk.mk (decide_eq_false (by omega))
    · repeat' ((conv => whnf); first | with_reducible exact True.intro | exact vW | with_reducible refine And.intro ?_ ?_)
    intro i i1
    dsimp only
    have hsi := hs0 i
    have rowx : ∀ {g : Nat → List AV}, i < (a ++ v :: b).length → g 0 = encI ((a ++ v :: b).getD i 0) → i + 1 = 1 + i ∧ ∀ j, j < i + 1 → encI (((a ++ v :: b).take (i + 1)).reverse.getD j 0) = appF 1 g (fun j => (fun j => encI (((a ++ v :: b).take i).reverse.getD j 0)) (0 + j)) j := fun {g} hi hg => by
      have e : ((a ++ v :: b).take (i + 1)).reverse = (a ++ v :: b).getD i 0 :: ((a ++ v :: b).take i).reverse := by
        rw [take_succ' 0 hi, List.reverse_append]; rfl
      have := cons_ext (l := ((a ++ v :: b).take i).reverse) hg
      have e2 : (fun j => (fun j => encI (((a ++ v :: b).take i).reverse.getD j 0)) (0 + j)) = fun j => encI (((a ++ v :: b).take i).reverse.getD j 0) := by funext j; rw [Nat.zero_add]
      rw [e, e2]
      exact ⟨by omega, fun j hj => this.2 j (by simp; omega)⟩
    repeat' ((conv => whnf); first | refine vA ?_ | with_reducible first | refine vS ?_ | refine vR ?_ | refine vB ?_ | refine br_nt ?_ | refine br_tt ?_ | refine br_ff ?_ | refine vP ?_ | refine vQ ?_ | refine vT ?_ | refine vF ?_ | refine br_and ?_ | refine br_or ?_ | refine br_d (fun _ => ?_) fun _ => ?_ | refine vM (fun _ => ?_) fun _ => ?_)
    · rename_i hi hf
      have e8 : sp (a.take (i + 1)) = sp (a.take i) := by rw [List.take_of_length_le (by omega), List.take_of_length_le (by omega)]
      refine ⟨i + 1, by omega, by omega, ⟨⟨[some 0, some 3], [], rfl, rfl, ?_, ?_⟩⟩⟩
      · repeat' ((conv => whnf); first | with_reducible exact True.intro | exact vW | with_reducible refine And.intro ?_ ?_)
        all_goals first | exact Chk.mk e8 | exact Chk.mk (decide_eq_true (by omega)) | exact Chk.mk ⟨rfl, (rowx (by omega) rfl).1⟩
      · repeat' ((conv => whnf); first | with_reducible exact True.intro | exact vW | with_reducible refine And.intro ?_ ?_)
        all_goals exact Chk.mk (rowx (by omega) rfl)
    · rename_i hi hf hx
      have ei := nd_at P.nd (show i < (a ++ v :: b).length by omega) hx
      have e8 : sp (a.take (i + 1)) = sp (a.take i) := by rw [List.take_of_length_le (by omega), List.take_of_length_le (by omega)]
      refine ⟨i + 1, by omega, by omega, ⟨⟨[some 0, some 3], [], rfl, rfl, ?_, ?_⟩⟩⟩
      · repeat' ((conv => whnf); first | with_reducible exact True.intro | exact vW | with_reducible refine And.intro ?_ ?_)
        all_goals first | exact Chk.mk e8 | exact Chk.mk ((decide_eq_true (by omega)).trans (decide_eq_true hx).symm) | exact Chk.mk (decide_eq_true (by omega)) | exact Chk.mk ⟨rfl, (rowx (by omega) rfl).1⟩
      · repeat' ((conv => whnf); first | with_reducible exact True.intro | exact vW | with_reducible refine And.intro ?_ ?_)
        all_goals exact Chk.mk (rowx (by omega) rfl)
    · rename_i hi hf hx
      have hia : i < a.length := by
        rcases Nat.lt_or_ge i a.length with q | q
        · exact q
        · exfalso
          have : i = a.length := by omega
          subst this
          refine hx ?_
          show (a ++ v :: b).getD a.length 0 = v
          rw [List.getD_eq_getElem?_getD, List.getElem?_append_right (Nat.le_refl _)]
          simp
      obtain ⟨q1, q2, q3, q4, q5⟩ := bef_step p6 hD hia
      have eg : (a ++ v :: b).getD i 0 = a.getD i 0 := by
        rw [List.getD_eq_getElem?_getD, List.getElem?_append_left hia, ← List.getD_eq_getElem?_getD]
      rw [← eg] at q3 q4 q5
      have e0 : ((i : Nat) : Int).toNat = i := rfl
      rw [e0]
      repeat' ((conv => whnf); first | with_reducible refine Wr.ex (wshw (by omega) (by omega)) ?_ | refine vA ?_ | with_reducible first | refine vS ?_ | refine vR ?_ | refine vB ?_ | refine br_nt ?_ | refine br_tt ?_ | refine br_ff ?_ | refine vP ?_ | refine vQ ?_ | refine vT ?_ | refine vF ?_ | refine br_and ?_ | refine br_or ?_ | refine br_d (fun _ => ?_) fun _ => ?_ | refine vM (fun _ => ?_) fun _ => ?_)
      refine ⟨i + 1, by omega, by omega, ⟨⟨[some 0, some 3], [], rfl, rfl, ?_, ?_⟩⟩⟩
      · repeat' ((conv => whnf); first | with_reducible exact True.intro | exact vW | with_reducible refine And.intro ?_ ?_)
        all_goals first | exact Chk.mk q5.symm | exact Chk.mk ((decide_eq_false (by omega)).trans (decide_eq_false hx).symm) | exact Chk.mk (decide_eq_false (by omega)) | exact Chk.mk ⟨rfl, (rowx (by omega) rfl).1⟩
      · repeat' ((conv => whnf); first | with_reducible exact True.intro | exact vW | with_reducible refine And.intro ?_ ?_)
        all_goals exact Chk.mk (rowx (by omega) rfl)
    · rename_i hi
      have ei : i = (a ++ v :: b).length := by omega
      subst ei
      rw [List.take_length, List.take_of_length_le (by omega)]
      have hno : decide (termOk ⟨p, bs⟩ t) = true := decide_eq_true hO
      have c1 : decide (crowd p (sp a)) = true := decide_eq_true ⟨pp, P.lt⟩
      have c2 : decide (crowd p (add (sp a) v)) = true := decide_eq_true ⟨pp, P.lt2⟩
      have hvr := P.vr
      have k1 : i64r (sp a) := by have := P.lt; unfold i64r; omega
      have k2 : i64r (add (sp a) v) := by have := P.lt2; unfold i64r; omega
      refine Dr.mk ⟨[0, 1, 2, 4, 6, 3, 5, 7, 8, 9, 10, 11, 12, 13, 14, 15, 16, 17, 18, 19, 20, 21, 22, 23, 24], by decide +kernel, ?_⟩
      repeat' ((conv => whnf); first | refine vA ?_ | with_reducible first | refine vS ?_ | refine vR ?_ | refine vB ?_ | refine br_nt ?_ | refine br_tt ?_ | refine br_ff ?_ | refine vP ?_ | refine vQ ?_ | refine vT ?_ | refine vF ?_ | refine br_and ?_ | refine br_or ?_ | refine br_d (fun _ => ?_) fun _ => ?_ | refine vM (fun _ => ?_) fun _ => ?_)
      refine ⟨(⟨p, bs⟩, t), ?_, ⟨hI, hO⟩, ?_⟩
      · repeat' ((conv => whnf); first | with_reducible exact True.intro | exact vW | with_reducible refine And.intro ?_ ?_)
      repeat' ((conv => whnf); first | refine vA ?_ | with_reducible first | refine vS ?_ | refine vR ?_ | refine vB ?_ | refine br_nt ?_ | refine br_tt ?_ | refine br_ff ?_ | refine vP ?_ | refine vQ ?_ | refine vT ?_ | refine vF ?_ | refine br_and ?_ | refine br_or ?_ | refine br_d (fun _ => ?_) fun _ => ?_ | refine vM (fun _ => ?_) fun _ => ?_)
      refine ⟨⟨⟨p, bs⟩, dualT bs t, (a ++ v :: b).reverse⟩, ?_, ⟨hdI, fun w hw => hoI w (List.mem_reverse.1 hw), by show (a ++ v :: b).reverse.length < _; rw [List.length_reverse]; omega⟩, ?_⟩
      · repeat' ((conv => whnf); first | with_reducible exact True.intro | exact vW | with_reducible refine And.intro ?_ ?_)
        all_goals exact (by (conv => whnf); exact Chk.mk ⟨List.length_reverse.symm, fun i _ => by show encI ((a ++ v :: b).reverse.getD (0 + i) 0) = _; rw [Nat.zero_add]⟩)
      dsimp only
      rw [hback]
      repeat' ((conv => whnf); first | refine vA ?_ | with_reducible first | refine vS ?_ | refine vR ?_ | refine vB ?_ | refine br_nt ?_ | refine br_tt ?_ | refine br_ff ?_ | refine vP ?_ | refine vQ ?_ | refine vT ?_ | refine vF ?_ | refine br_and ?_ | refine br_or ?_ | refine br_d (fun _ => ?_) fun _ => ?_ | refine vM (fun _ => ?_) fun _ => ?_)
      refine ⟨⟨p, bs, t, sp a⟩, ?_, ⟨hI, k1⟩, ?_⟩
      · repeat' ((conv => whnf); first | with_reducible exact True.intro | exact vW | with_reducible refine And.intro ?_ ?_)
      dsimp only
      rw [hno, c1, P.no]
      repeat' ((conv => whnf); first | with_reducible refine Wr.ex (wshw (by omega) (by omega)) ?_ | refine vA ?_ | with_reducible first | refine vS ?_ | refine vR ?_ | refine vB ?_ | refine br_nt ?_ | refine br_tt ?_ | refine br_ff ?_ | refine vP ?_ | refine vQ ?_ | refine vT ?_ | refine vF ?_ | refine br_and ?_ | refine br_or ?_ | refine br_d (fun _ => ?_) fun _ => ?_ | refine vM (fun _ => ?_) fun _ => ?_)
      refine ⟨⟨p, bs, t, add (sp a) v⟩, ?_, ⟨hI, k2⟩, ?_⟩
      · repeat' ((conv => whnf); first | with_reducible exact True.intro | exact vW | with_reducible refine And.intro ?_ ?_)
      dsimp only
      rw [hno, c2, P.yes]
      repeat' ((conv => whnf); first | refine vA ?_ | with_reducible first | refine vS ?_ | refine vR ?_ | refine vB ?_ | refine br_nt ?_ | refine br_tt ?_ | refine br_ff ?_ | refine vP ?_ | refine vQ ?_ | refine vT ?_ | refine vF ?_ | refine br_and ?_ | refine br_or ?_ | refine br_d (fun _ => ?_) fun _ => ?_ | refine vM (fun _ => ?_) fun _ => ?_)
      exact h
end Go.Proofs.Ytbbgojaloebknaa.Vc
