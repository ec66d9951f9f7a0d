/- Part DC: the reference text of a deed. -/
import Derived.Test.YtbbgojaloebknaaDoorVcDB
namespace Go.Proofs.YtbbgojaloebknaaDoor.Vc
open Go.Proofs
theorem containsAny_eq (chars : List UInt8) : ∀ l : List UInt8, Lib.containsAny l chars = l.any chars.contains
  | [] => rfl
  | b :: l => by
    have ih' : 0 ≤ Lib.indexAny l chars ↔ l.any chars.contains = true := by rw [← containsAny_eq chars l]; simp [Lib.containsAny]
    have hg := Lib.indexAny_ge chars l
    rw [Bool.eq_iff_iff, List.any_cons, Bool.or_eq_true, ← ih']
    show decide (0 ≤ Lib.indexAny (b :: l) chars) = true ↔ _
    rw [decide_eq_true_eq, Lib.indexAny]
    split
    · rename_i e; exact ⟨fun _ => Or.inl e, fun _ => Int.le_refl 0⟩
    · rename_i e
      simp only [beq_iff_eq]
      have e' : ¬ chars.contains b = true := e
      split
      · rename_i e1; rw [e1]; exact ⟨fun h => absurd h (by decide), fun h => h.elim (fun h => absurd h e') id⟩
      · constructor
        · intro _; right; omega
        · rintro (h | h)
          · exact absurd h e'
          · omega
theorem bt_at (w : ByteArray) (i : Nat) (h : i < w.size) : ∃ b : UInt8, w.data.toList[i]? = some b ∧ bt w i = b.toNat := by
  have h' : i < w.data.size := h
  refine ⟨w.data[i], by simp, ?_⟩
  simp [bt, Array.getElem?_eq_getElem h']
def okTo (w : ByteArray) : Nat → Bool
  | 0 => decide ((w.size : Int) > 0)
  | i + 1 => okTo w i && (decide (¬ bt w i = 32) && decide (¬ bt w i = 10))
theorem okTo_iff (w : ByteArray) : ∀ i, okTo w i = true ↔ 0 < w.size ∧ ∀ j, j < i → bt w j ≠ 32 ∧ bt w j ≠ 10
  | 0 => by simp [okTo]
  | i + 1 => by
    simp only [okTo, Bool.and_eq_true, decide_eq_true_eq, okTo_iff w i]
    constructor
    · rintro ⟨⟨h1, h2⟩, h3, h4⟩
      refine ⟨h1, fun j hj => ?_⟩
      by_cases e : j = i
      · subst e; exact ⟨h3, h4⟩
      · exact h2 j (by omega)
    · rintro ⟨h1, h2⟩
      exact ⟨⟨h1, fun j hj => h2 j (by omega)⟩, h2 i (by omega)⟩
theorem size_zero {w : ByteArray} : w = ⟨#[]⟩ ↔ ¬ 0 < w.size := by
  constructor
  · rintro rfl; decide
  · intro h
    have h1 : w.data.size = 0 := by have : ¬ 0 < w.data.size := h; omega
    have : w.data = #[] := Array.eq_empty_of_size_eq_zero h1
    cases w
    simp_all
theorem okTo_plain (w : ByteArray) : okTo w w.size = plainW w := by
  rw [Bool.eq_iff_iff, okTo_iff]
  unfold plainW spc
  rw [containsAny_eq]
  simp only [Bool.and_eq_true, decide_eq_true_eq, Bool.not_eq_true', List.any_eq_false, size_zero, Classical.not_not]
  refine and_congr_right fun h0 => ⟨fun h b hb => ?_, fun h j hj => ?_⟩
  · obtain ⟨i, hi, rfl⟩ := List.getElem_of_mem hb
    have hi' : i < w.size := by simpa using hi
    obtain ⟨c, h1, h2⟩ := bt_at w i hi'
    rw [List.getElem?_eq_getElem hi] at h1
    have hc := Option.some.inj h1
    have := h i hi'
    rw [h2, ← hc] at this
    intro hs
    have : w.data.toList[i] = 32 ∨ w.data.toList[i] = 10 := by simpa [sn] using hs
    rcases this with e | e <;> simp [e] at this
    all_goals simp_all
  · obtain ⟨c, h1, h2⟩ := bt_at w j hj
    have := h c (List.mem_of_getElem? h1)
    rw [h2]
    constructor
    · intro e
      have : c = 32 := by apply UInt8.toNat_inj.1; show c.toNat = 32; omega
      subst this
      exact absurd rfl this
    · intro e
      have : c = 10 := by apply UInt8.toNat_inj.1; show c.toNat = 10; omega
      subst this
      exact absurd rfl this
def C105 : List AV → (AV → Prop) → Prop := con (X := Dd) (fun d => [ded d]) (fun d => d.words.size ≤ 1048576) fun d K => K (.str (deedT d))
set_option maxRecDepth 10000 in
set_option maxHeartbeats 4000000 in
theorem F105 : FF 6 C105 := by
  refine fitE [(14, C35), (15, C106)] (by simp only [List.mem_cons, List.not_mem_nil, or_false]; rintro _ (rfl | rfl) <;> first | exact F35 | exact F106) Tryd.f6 ⟨rfl, by decide +kernel, by decide +kernel⟩ (fun _ _ _ hk h => hk _ h) ?_
  rintro ⟨k, a, b, w⟩ K h1 h
  refine ⟨Nat.le_of_ble_eq_true rfl, ?_⟩
  dsimp only [ded, encD] at h1 h ⊢
  repeat' ((conv => whnf); first | refine vA ?_ | with_reducible first | refine v8 ?_ | refine Sp.mk ?_ ?_ | refine vS ?_ | refine vR ?_ | refine vB ?_ | refine br_nt ?_ | refine br_tt ?_ | refine br_ff ?_ | refine vP ?_ | refine vQ ?_ | refine vT ?_ | refine vF ?_ | refine br_and ?_ | refine br_or ?_ | refine br_d (fun _ => ?_) fun _ => ?_ | refine vM (fun _ => ?_) fun _ => ?_)
  refine Lp.mk ⟨Nat, fun i => [(1, .ptr 0 0), (3, .bool (okTo w i)), (4, .int .i64 i)], fun _ => [.box (encD ⟨k, a, b, w⟩)], fun i => i ≤ w.size, fun i => w.size - i, ⟨0, Nat.zero_le _, ⟨⟨[some 0], [], rfl, rfl, ?_, ?_⟩⟩⟩, ?_⟩
  · repeat' ((conv => whnf); first | with_reducible exact True.intro | exact vW | with_reducible refine And.intro ?_ ?_)
  · repeat' ((conv => whnf); first | with_reducible exact True.intro | exact vW | with_reducible refine And.intro ?_ ?_)
  intro i i1
  dsimp only [encD]
  cases hp : okTo w i
  · have hq : okTo w (i + 1) = false := by simp only [okTo, hp, Bool.false_and]
    repeat' ((conv => whnf); first | refine vA ?_ | with_reducible first | refine v8 ?_ | refine Sp.mk ?_ ?_ | refine vS ?_ | refine vR ?_ | refine vB ?_ | refine br_nt ?_ | refine br_tt ?_ | refine br_ff ?_ | refine vP ?_ | refine vQ ?_ | refine vT ?_ | refine vF ?_ | refine br_and ?_ | refine br_or ?_ | refine br_d (fun _ => ?_) fun _ => ?_ | refine vM (fun _ => ?_) fun _ => ?_)
    · refine ⟨i + 1, by omega, by omega, ⟨⟨[some 0], [], rfl, rfl, ?_, ?_⟩⟩⟩
      · repeat' ((conv => whnf); first | with_reducible exact True.intro | exact vW | with_reducible refine And.intro ?_ ?_)
        all_goals first | exact Chk.mk hq | exact Chk.mk hq.symm | exact Chk.mk (by omega)
      · repeat' ((conv => whnf); first | with_reducible exact True.intro | exact vW | with_reducible refine And.intro ?_ ?_)
    · obtain rfl : i = w.size := by omega
      rw [okTo_plain] at hp
      refine ⟨(a, 0, 99), ?_, ⟨trivial⟩, ?_⟩
      · repeat' ((conv => whnf); first | with_reducible exact True.intro | exact vW | with_reducible refine And.intro ?_ ?_)
      dsimp only
      repeat' ((conv => whnf); first | refine vA ?_ | with_reducible first | refine v8 ?_ | refine Sp.mk ?_ ?_ | refine vS ?_ | refine vR ?_ | refine vB ?_ | refine br_nt ?_ | refine br_tt ?_ | refine br_ff ?_ | refine vP ?_ | refine vQ ?_ | refine vT ?_ | refine vF ?_ | refine br_and ?_ | refine br_or ?_ | refine br_d (fun _ => ?_) fun _ => ?_ | refine vM (fun _ => ?_) fun _ => ?_)
      · rename_i r1
        refine ⟨(b, 0, 99), ?_, ⟨trivial⟩, ?_⟩
        · repeat' ((conv => whnf); first | with_reducible exact True.intro | exact vW | with_reducible refine And.intro ?_ ?_)
        dsimp only
        repeat' ((conv => whnf); first | refine vA ?_ | with_reducible first | refine v8 ?_ | refine Sp.mk ?_ ?_ | refine vS ?_ | refine vR ?_ | refine vB ?_ | refine br_nt ?_ | refine br_tt ?_ | refine br_ff ?_ | refine vP ?_ | refine vQ ?_ | refine vT ?_ | refine vF ?_ | refine br_and ?_ | refine br_or ?_ | refine br_d (fun _ => ?_) fun _ => ?_ | refine vM (fun _ => ?_) fun _ => ?_)
        · have na' := num_size (n := a) (by omega) (by omega)
          refine ⟨a, ?_, ⟨by omega, by omega⟩, ?_⟩
          · repeat' ((conv => whnf); first | with_reducible exact True.intro | exact vW | with_reducible refine And.intro ?_ ?_)
          repeat' ((conv => whnf); first | refine ⟨Chk.mk (by have z1 := sz1; have z2 := sz2; have z3 := sz3; have z4 := sz4; have z5 := sz5; (repeat rw [ByteArray.size_append]); omega), ?_⟩ | refine vA ?_ | with_reducible first | refine v8 ?_ | refine Sp.mk ?_ ?_ | refine vS ?_ | refine vR ?_ | refine vB ?_ | refine br_nt ?_ | refine br_tt ?_ | refine br_ff ?_ | refine vP ?_ | refine vQ ?_ | refine vT ?_ | refine vF ?_ | refine br_and ?_ | refine br_or ?_ | refine br_d (fun _ => ?_) fun _ => ?_ | refine vM (fun _ => ?_) fun _ => ?_)
          ((unfold deedT at h; repeat' (split at h)) <;> first | exact h | (exfalso; simp_all; done) | (exfalso; simp_all; omega))
        all_goals try ((unfold deedT at h; repeat' (split at h)) <;> first | exact h | (exfalso; simp_all; done) | (exfalso; simp_all; omega))
        · have na' := num_size (n := a) (by omega) (by omega)
          have nb' := num_size (n := b) (by omega) (by omega)
          refine Dr.mk ⟨(.rd 0 (.rd 1 (.rd 5 (.rd 6 (.ef 2 (.rd 3 (.rd 4 (.ef 7 (.rd 8 (.rd 9 .dn)) .no))) .no))))), by decide +kernel, ?_⟩
          repeat' ((conv => whnf); first | refine ⟨Chk.mk (by have z1 := sz1; have z2 := sz2; have z3 := sz3; have z4 := sz4; have z5 := sz5; (repeat rw [ByteArray.size_append]); omega), ?_⟩ | refine vA ?_ | with_reducible first | refine v8 ?_ | refine Sp.mk ?_ ?_ | refine vS ?_ | refine vR ?_ | refine vB ?_ | refine br_nt ?_ | refine br_tt ?_ | refine br_ff ?_ | refine vP ?_ | refine vQ ?_ | refine vT ?_ | refine vF ?_ | refine br_and ?_ | refine br_or ?_ | refine br_d (fun _ => ?_) fun _ => ?_ | refine vM (fun _ => ?_) fun _ => ?_)
          refine ⟨a, ?_, ⟨by omega, by omega⟩, ?_⟩
          · repeat' ((conv => whnf); first | with_reducible exact True.intro | exact vW | with_reducible refine And.intro ?_ ?_)
          repeat' ((conv => whnf); first | refine ⟨Chk.mk (by have z1 := sz1; have z2 := sz2; have z3 := sz3; have z4 := sz4; have z5 := sz5; (repeat rw [ByteArray.size_append]); omega), ?_⟩ | refine vA ?_ | with_reducible first | refine v8 ?_ | refine Sp.mk ?_ ?_ | refine vS ?_ | refine vR ?_ | refine vB ?_ | refine br_nt ?_ | refine br_tt ?_ | refine br_ff ?_ | refine vP ?_ | refine vQ ?_ | refine vT ?_ | refine vF ?_ | refine br_and ?_ | refine br_or ?_ | refine br_d (fun _ => ?_) fun _ => ?_ | refine vM (fun _ => ?_) fun _ => ?_)
          refine ⟨b, ?_, ⟨by omega, by omega⟩, ?_⟩
          · repeat' ((conv => whnf); first | with_reducible exact True.intro | exact vW | with_reducible refine And.intro ?_ ?_)
          repeat' ((conv => whnf); first | refine ⟨Chk.mk (by have z1 := sz1; have z2 := sz2; have z3 := sz3; have z4 := sz4; have z5 := sz5; (repeat rw [ByteArray.size_append]); omega), ?_⟩ | refine vA ?_ | with_reducible first | refine v8 ?_ | refine Sp.mk ?_ ?_ | refine vS ?_ | refine vR ?_ | refine vB ?_ | refine br_nt ?_ | refine br_tt ?_ | refine br_ff ?_ | refine vP ?_ | refine vQ ?_ | refine vT ?_ | refine vF ?_ | refine br_and ?_ | refine br_or ?_ | refine br_d (fun _ => ?_) fun _ => ?_ | refine vM (fun _ => ?_) fun _ => ?_)
          ((unfold deedT at h; repeat' (split at h)) <;> first | exact h | (exfalso; simp_all; done) | (exfalso; simp_all; omega))
        · rename_i r2
          replace r2 : b < 0 ∨ 99 < b := by omega
          unfold deedT at h; dsimp only at h; rw [if_pos (by omega)] at h; exact h
      · rename_i r1
        replace r1 : a < 0 ∨ 99 < a := by omega
        unfold deedT at h; dsimp only at h; rw [if_pos (by omega)] at h; exact h
  · repeat' ((conv => whnf); first | refine vA ?_ | with_reducible first | refine v8 ?_ | refine Sp.mk ?_ ?_ | refine vS ?_ | refine vR ?_ | refine vB ?_ | refine br_nt ?_ | refine br_tt ?_ | refine br_ff ?_ | refine vP ?_ | refine vQ ?_ | refine vT ?_ | refine vF ?_ | refine br_and ?_ | refine br_or ?_ | refine br_d (fun _ => ?_) fun _ => ?_ | refine vM (fun _ => ?_) fun _ => ?_)
    · refine ⟨i + 1, by omega, by omega, ⟨⟨[some 0], [], rfl, rfl, ?_, ?_⟩⟩⟩
      · repeat' ((conv => whnf); first | with_reducible exact True.intro | exact vW | with_reducible refine And.intro ?_ ?_)
        all_goals first | exact Chk.mk (by omega) | exact Chk.mk (by simp_all [okTo])
      · repeat' ((conv => whnf); first | with_reducible exact True.intro | exact vW | with_reducible refine And.intro ?_ ?_)
    · refine ⟨i + 1, by omega, by omega, ⟨⟨[some 0], [], rfl, rfl, ?_, ?_⟩⟩⟩
      · repeat' ((conv => whnf); first | with_reducible exact True.intro | exact vW | with_reducible refine And.intro ?_ ?_)
        all_goals first | exact Chk.mk (by omega) | exact Chk.mk (by simp_all [okTo])
      · repeat' ((conv => whnf); first | with_reducible exact True.intro | exact vW | with_reducible refine And.intro ?_ ?_)
    · obtain rfl : i = w.size := by omega
      rw [okTo_plain] at hp
      refine ⟨(a, 0, 99), ?_, ⟨trivial⟩, ?_⟩
      · repeat' ((conv => whnf); first | with_reducible exact True.intro | exact vW | with_reducible refine And.intro ?_ ?_)
      dsimp only
      repeat' ((conv => whnf); first | refine vA ?_ | with_reducible first | refine v8 ?_ | refine Sp.mk ?_ ?_ | refine vS ?_ | refine vR ?_ | refine vB ?_ | refine br_nt ?_ | refine br_tt ?_ | refine br_ff ?_ | refine vP ?_ | refine vQ ?_ | refine vT ?_ | refine vF ?_ | refine br_and ?_ | refine br_or ?_ | refine br_d (fun _ => ?_) fun _ => ?_ | refine vM (fun _ => ?_) fun _ => ?_)
      · rename_i r1
        refine ⟨(b, 0, 99), ?_, ⟨trivial⟩, ?_⟩
        · repeat' ((conv => whnf); first | with_reducible exact True.intro | exact vW | with_reducible refine And.intro ?_ ?_)
        dsimp only
        repeat' ((conv => whnf); first | refine vA ?_ | with_reducible first | refine v8 ?_ | refine Sp.mk ?_ ?_ | refine vS ?_ | refine vR ?_ | refine vB ?_ | refine br_nt ?_ | refine br_tt ?_ | refine br_ff ?_ | refine vP ?_ | refine vQ ?_ | refine vT ?_ | refine vF ?_ | refine br_and ?_ | refine br_or ?_ | refine br_d (fun _ => ?_) fun _ => ?_ | refine vM (fun _ => ?_) fun _ => ?_)
        · have na' := num_size (n := a) (by omega) (by omega)
          refine ⟨a, ?_, ⟨by omega, by omega⟩, ?_⟩
          · repeat' ((conv => whnf); first | with_reducible exact True.intro | exact vW | with_reducible refine And.intro ?_ ?_)
          repeat' ((conv => whnf); first | refine ⟨Chk.mk (by have z1 := sz1; have z2 := sz2; have z3 := sz3; have z4 := sz4; have z5 := sz5; (repeat rw [ByteArray.size_append]); omega), ?_⟩ | refine vA ?_ | with_reducible first | refine v8 ?_ | refine Sp.mk ?_ ?_ | refine vS ?_ | refine vR ?_ | refine vB ?_ | refine br_nt ?_ | refine br_tt ?_ | refine br_ff ?_ | refine vP ?_ | refine vQ ?_ | refine vT ?_ | refine vF ?_ | refine br_and ?_ | refine br_or ?_ | refine br_d (fun _ => ?_) fun _ => ?_ | refine vM (fun _ => ?_) fun _ => ?_)
          ((unfold deedT at h; repeat' (split at h)) <;> first | exact h | (exfalso; simp_all; done) | (exfalso; simp_all; omega))
        all_goals try ((unfold deedT at h; repeat' (split at h)) <;> first | exact h | (exfalso; simp_all; done) | (exfalso; simp_all; omega))
        · repeat' ((conv => whnf); first | refine ⟨Chk.mk (by have z1 := sz1; have z2 := sz2; have z3 := sz3; have z4 := sz4; have z5 := sz5; (repeat rw [ByteArray.size_append]); omega), ?_⟩ | refine vA ?_ | with_reducible first | refine v8 ?_ | refine Sp.mk ?_ ?_ | refine vS ?_ | refine vR ?_ | refine vB ?_ | refine br_nt ?_ | refine br_tt ?_ | refine br_ff ?_ | refine vP ?_ | refine vQ ?_ | refine vT ?_ | refine vF ?_ | refine br_and ?_ | refine br_or ?_ | refine br_d (fun _ => ?_) fun _ => ?_ | refine vM (fun _ => ?_) fun _ => ?_)
          ((unfold deedT at h; repeat' (split at h)) <;> first | exact h | (exfalso; simp_all; done) | (exfalso; simp_all; omega))
        · have na' := num_size (n := a) (by omega) (by omega)
          have nb' := num_size (n := b) (by omega) (by omega)
          refine Dr.mk ⟨(.rd 0 (.rd 1 (.rd 5 (.rd 6 (.rd 10 (.rd 11 (.ef 2 (.rd 3 (.rd 4 (.ef 7 (.rd 8 (.rd 9 (.rd 12 (.rd 13 .dn)))) .no))) .no))))))), by decide +kernel, ?_⟩
          repeat' ((conv => whnf); first | refine ⟨Chk.mk (by have z1 := sz1; have z2 := sz2; have z3 := sz3; have z4 := sz4; have z5 := sz5; (repeat rw [ByteArray.size_append]); omega), ?_⟩ | refine vA ?_ | with_reducible first | refine v8 ?_ | refine Sp.mk ?_ ?_ | refine vS ?_ | refine vR ?_ | refine vB ?_ | refine br_nt ?_ | refine br_tt ?_ | refine br_ff ?_ | refine vP ?_ | refine vQ ?_ | refine vT ?_ | refine vF ?_ | refine br_and ?_ | refine br_or ?_ | refine br_d (fun _ => ?_) fun _ => ?_ | refine vM (fun _ => ?_) fun _ => ?_)
          refine ⟨a, ?_, ⟨by omega, by omega⟩, ?_⟩
          · repeat' ((conv => whnf); first | with_reducible exact True.intro | exact vW | with_reducible refine And.intro ?_ ?_)
          repeat' ((conv => whnf); first | refine ⟨Chk.mk (by have z1 := sz1; have z2 := sz2; have z3 := sz3; have z4 := sz4; have z5 := sz5; (repeat rw [ByteArray.size_append]); omega), ?_⟩ | refine vA ?_ | with_reducible first | refine v8 ?_ | refine Sp.mk ?_ ?_ | refine vS ?_ | refine vR ?_ | refine vB ?_ | refine br_nt ?_ | refine br_tt ?_ | refine br_ff ?_ | refine vP ?_ | refine vQ ?_ | refine vT ?_ | refine vF ?_ | refine br_and ?_ | refine br_or ?_ | refine br_d (fun _ => ?_) fun _ => ?_ | refine vM (fun _ => ?_) fun _ => ?_)
          refine ⟨b, ?_, ⟨by omega, by omega⟩, ?_⟩
          · repeat' ((conv => whnf); first | with_reducible exact True.intro | exact vW | with_reducible refine And.intro ?_ ?_)
          repeat' ((conv => whnf); first | refine ⟨Chk.mk (by have z1 := sz1; have z2 := sz2; have z3 := sz3; have z4 := sz4; have z5 := sz5; (repeat rw [ByteArray.size_append]); omega), ?_⟩ | refine vA ?_ | with_reducible first | refine v8 ?_ | refine Sp.mk ?_ ?_ | refine vS ?_ | refine vR ?_ | refine vB ?_ | refine br_nt ?_ | refine br_tt ?_ | refine br_ff ?_ | refine vP ?_ | refine vQ ?_ | refine vT ?_ | refine vF ?_ | refine br_and ?_ | refine br_or ?_ | refine br_d (fun _ => ?_) fun _ => ?_ | refine vM (fun _ => ?_) fun _ => ?_)
          ((unfold deedT at h; repeat' (split at h)) <;> first | exact h | (exfalso; simp_all; done) | (exfalso; simp_all; omega))
        · have na' := num_size (n := a) (by omega) (by omega)
          have nb' := num_size (n := b) (by omega) (by omega)
          refine Dr.mk ⟨(.rd 0 (.rd 1 (.rd 5 (.rd 6 (.ef 2 (.rd 3 (.rd 4 (.ef 7 (.rd 8 (.rd 9 .dn)) .no))) .no))))), by decide +kernel, ?_⟩
          repeat' ((conv => whnf); first | refine ⟨Chk.mk (by have z1 := sz1; have z2 := sz2; have z3 := sz3; have z4 := sz4; have z5 := sz5; (repeat rw [ByteArray.size_append]); omega), ?_⟩ | refine vA ?_ | with_reducible first | refine v8 ?_ | refine Sp.mk ?_ ?_ | refine vS ?_ | refine vR ?_ | refine vB ?_ | refine br_nt ?_ | refine br_tt ?_ | refine br_ff ?_ | refine vP ?_ | refine vQ ?_ | refine vT ?_ | refine vF ?_ | refine br_and ?_ | refine br_or ?_ | refine br_d (fun _ => ?_) fun _ => ?_ | refine vM (fun _ => ?_) fun _ => ?_)
          refine ⟨a, ?_, ⟨by omega, by omega⟩, ?_⟩
          · repeat' ((conv => whnf); first | with_reducible exact True.intro | exact vW | with_reducible refine And.intro ?_ ?_)
          repeat' ((conv => whnf); first | refine ⟨Chk.mk (by have z1 := sz1; have z2 := sz2; have z3 := sz3; have z4 := sz4; have z5 := sz5; (repeat rw [ByteArray.size_append]); omega), ?_⟩ | refine vA ?_ | with_reducible first | refine v8 ?_ | refine Sp.mk ?_ ?_ | refine vS ?_ | refine vR ?_ | refine vB ?_ | refine br_nt ?_ | refine br_tt ?_ | refine br_ff ?_ | refine vP ?_ | refine vQ ?_ | refine vT ?_ | refine vF ?_ | refine br_and ?_ | refine br_or ?_ | refine br_d (fun _ => ?_) fun _ => ?_ | refine vM (fun _ => ?_) fun _ => ?_)
          refine ⟨b, ?_, ⟨by omega, by omega⟩, ?_⟩
          · repeat' ((conv => whnf); first | with_reducible exact True.intro | exact vW | with_reducible refine And.intro ?_ ?_)
          repeat' ((conv => whnf); first | refine ⟨Chk.mk (by have z1 := sz1; have z2 := sz2; have z3 := sz3; have z4 := sz4; have z5 := sz5; (repeat rw [ByteArray.size_append]); omega), ?_⟩ | refine vA ?_ | with_reducible first | refine v8 ?_ | refine Sp.mk ?_ ?_ | refine vS ?_ | refine vR ?_ | refine vB ?_ | refine br_nt ?_ | refine br_tt ?_ | refine br_ff ?_ | refine vP ?_ | refine vQ ?_ | refine vT ?_ | refine vF ?_ | refine br_and ?_ | refine br_or ?_ | refine br_d (fun _ => ?_) fun _ => ?_ | refine vM (fun _ => ?_) fun _ => ?_)
          ((unfold deedT at h; repeat' (split at h)) <;> first | exact h | (exfalso; simp_all; done) | (exfalso; simp_all; omega))
        · rename_i r2
          replace r2 : b < 0 ∨ 99 < b := by omega
          unfold deedT at h; dsimp only at h; rw [if_pos (by omega)] at h; exact h
      · rename_i r1
        replace r1 : a < 0 ∨ 99 < a := by omega
        unfold deedT at h; dsimp only at h; rw [if_pos (by omega)] at h; exact h
end Go.Proofs.YtbbgojaloebknaaDoor.Vc
