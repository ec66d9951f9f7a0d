/- Part TO: deeds and desks that are drawn. -/
import Derived.Lib.SplitLaws
import Derived.Lib.AtoiAll
import Derived.Lib.SmallJoins
import Derived.Test.YtjefkdhecccfpaaDoorVc5
section
namespace Go.Proofs.YtjefkdhecccfpaaDoor.Vc
open Go.Proofs
set_option maxRecDepth 10000
set_option maxHeartbeats 4000000
structure drawnA (a : Dd) : Prop where
  k0 : i64r a.kind
  a0 : i64r a.a
  b0 : i64r a.b
  w0 : a.words.size ≤ 10000
def placeS (x : Place) : Prop := placeI x ∧ x.bs.length ≤ 4 ∧ x.rules.length ≤ 100000
structure Pr where
  r : Rd
  x : Place
theorem kt {k : Int} (h0 : 0 ≤ k) (h : k < 8) (z : List AV) : ∃ v, 0 ≤ v ∧ v ≤ 4 ∧ [[AV.int .i64 0], [.int .i64 1], [.int .i64 2], [.int .i64 2], [.int .i64 2], [.int .i64 2], [.int .i64 3], [.int .i64 4]].getD (0 + k.toNat) z = [.int .i64 v] := by
  rcases (show k = 0 ∨ k = 1 ∨ k = 2 ∨ k = 3 ∨ k = 4 ∨ k = 5 ∨ k = 6 ∨ k = 7 by omega) with rfl | rfl | rfl | rfl | rfl | rfl | rfl | rfl <;> exact ⟨_, by decide, by decide, rfl⟩
def C184 : GC := conG (X := Pr) (fun x => [.ptr 0 0, enPl x.x]) (fun x => [rdO x.r.b x.r.p]) (fun x => x.r.okn 450000000 ∧ placeS x.x) fun x K => ∀ (a : Dd) (p' : Int), x.r.p ≤ p' → p' ≤ x.r.p + 250 → drawnA a → K (ded a) [rdO x.r.b p']
theorem F184 : GG 42 C184 := by
  refine fitG [(72, C173)] (by simp only [List.mem_cons, List.not_mem_nil, or_false]; rintro _ rfl <;> first | exact F173) [(68, C52), (55, C53), (73, C60)] (by simp only [List.mem_cons, List.not_mem_nil, or_false]; rintro _ (rfl | rfl | rfl) <;> first | exact F52 | exact F53 | exact F60) Tryd.f42 ⟨rfl, by decide +kernel, by decide +kernel⟩ (by intro x K K2 hk h; (try dsimp only at h ⊢); intros; apply hk; first | exact h | (apply h <;> assumption)) ?_
  rintro ⟨⟨b, p⟩, ⟨q, bs, rs⟩⟩ K ⟨⟨h1, h2, h3, h4⟩, h5, h6, h7⟩ h
  refine ⟨Nat.le_of_ble_eq_true rfl, ?_⟩
  dsimp only [enPl, plC] at h h1 h2 h3 h4 h5 h6 h7 ⊢
  apply later
  · intro key1
    repeat' ((conv => whnf); first | refine vA ?_ | with_reducible first | refine v8 ?_ | refine Sp.mk ?_ ?_ | refine vS ?_ | refine vR ?_ | refine vB ?_ | refine br_nt ?_ | refine br_tt ?_ | refine br_ff ?_ | refine vP ?_ | refine vQ ?_ | refine vT ?_ | refine vF ?_ | refine br_and ?_ | refine br_or ?_ | refine br_d (fun _ => ?_) fun _ => ?_ | refine vM (fun _ => ?_) fun _ => ?_)
    refine Dr.mk ⟨(.rd 1 (.rd 5 (.ef 0 (.ef 2 (.rd 3 (.rd 4 (.ef 6 (.rd 7 (.rd 8 (.rd 9 (.rd 10 (.ef 11 (.ef 12 .dn .no) .no))))) (.ef 11 (.ef 6 (.rd 7 (.rd 8 (.rd 9 (.rd 10 (.ef 12 .dn .no))))) .no) .no)))) (.ef 11 (.ef 2 (.rd 3 (.rd 4 (.ef 6 (.rd 7 (.rd 8 (.rd 9 (.rd 10 (.ef 12 .dn .no))))) .no))) .no) .no)) (.ef 2 (.ef 0 (.rd 3 (.rd 4 (.ef 6 (.rd 7 (.rd 8 (.rd 9 (.rd 10 (.ef 11 (.ef 12 .dn .no) .no))))) (.ef 11 (.ef 6 (.rd 7 (.rd 8 (.rd 9 (.rd 10 (.ef 12 .dn .no))))) .no) .no)))) (.ef 6 (.rd 7 (.rd 8 (.ef 0 (.rd 3 (.rd 4 (.rd 9 (.rd 10 (.ef 11 (.ef 12 .dn .no) .no))))) (.ef 11 (.ef 0 (.rd 3 (.rd 4 (.rd 9 (.rd 10 (.ef 12 .dn .no))))) .no) .no)))) (.ef 11 (.ef 0 (.rd 3 (.rd 4 (.ef 6 (.rd 7 (.rd 8 (.rd 9 (.rd 10 (.ef 12 .dn .no))))) .no))) (.ef 6 (.rd 7 (.rd 8 (.ef 0 (.rd 3 (.rd 4 (.rd 9 (.rd 10 (.ef 12 .dn .no))))) .no))) .no)) .no))) (.ef 11 (.ef 0 (.ef 2 (.rd 3 (.rd 4 (.ef 6 (.rd 7 (.rd 8 (.rd 9 (.rd 10 (.ef 12 .dn .no))))) .no))) .no) (.ef 2 (.ef 0 (.rd 3 (.rd 4 (.ef 6 (.rd 7 (.rd 8 (.rd 9 (.rd 10 (.ef 12 .dn .no))))) .no))) (.ef 6 (.rd 7 (.rd 8 (.ef 0 (.rd 3 (.rd 4 (.rd 9 (.rd 10 (.ef 12 .dn .no))))) .no))) .no)) .no)) .no))))), by decide +kernel, ?_⟩
    repeat' ((conv => whnf); first | refine vA ?_ | with_reducible first | refine v8 ?_ | refine Sp.mk ?_ ?_ | refine vS ?_ | refine vR ?_ | refine vB ?_ | refine br_nt ?_ | refine br_tt ?_ | refine br_ff ?_ | refine vP ?_ | refine vQ ?_ | refine vT ?_ | refine vF ?_ | refine br_and ?_ | refine br_or ?_ | refine br_d (fun _ => ?_) fun _ => ?_ | refine vM (fun _ => ?_) fun _ => ?_)
    all_goals
      refine ⟨_, _, [0], [], rfl, ?_, ?_, (⟨b, p⟩, 8), rfl, rfl, ⟨⟨h1, h2, ?_, ?_⟩, ?_⟩, ?_⟩
      · repeat' ((conv => whnf); first | with_reducible exact True.intro | exact vW | with_reducible refine And.intro ?_ ?_)
        try exact Chk.mk (by rw [pw_sh (by assumption)])
      · repeat' ((conv => whnf); first | with_reducible exact True.intro | exact vW | with_reducible refine And.intro ?_ ?_)
      · dsimp only; omega
      · dsimp only; omega
      · unfold i64r; dsimp only; omega
      intro k1 p1 a0 a1 a2
      dsimp only at a0 a1 a2
      obtain ⟨v, v0, v1, hv⟩ := kt (a1 (by decide)).1 (a1 (by decide)).2 (lookT TT 3).z
      repeat' ((conv => whnf); first | refine vA ?_ | with_reducible first | refine v8 ?_ | refine Sp.mk ?_ ?_ | refine vS ?_ | refine vR ?_ | refine vB ?_ | refine br_nt ?_ | refine br_tt ?_ | refine br_ff ?_ | refine vP ?_ | refine vQ ?_ | refine vT ?_ | refine vF ?_ | refine br_and ?_ | refine br_or ?_ | refine br_d (fun _ => ?_) fun _ => ?_ | refine vM (fun _ => ?_) fun _ => ?_)
    all_goals try
      dsimp only [List.drop]
      rw [hv]
      repeat' ((conv => whnf); first | refine vA ?_ | with_reducible first | refine v8 ?_ | refine Sp.mk ?_ ?_ | refine vS ?_ | refine vR ?_ | refine vB ?_ | refine br_nt ?_ | refine br_tt ?_ | refine br_ff ?_ | refine vP ?_ | refine vQ ?_ | refine vT ?_ | refine vF ?_ | refine br_and ?_ | refine br_or ?_ | refine br_d (fun _ => ?_) fun _ => ?_ | refine vM (fun _ => ?_) fun _ => ?_)
    all_goals
      refine ⟨_, _, [0], [], rfl, ?_, ?_, (⟨b, p1⟩, 60), rfl, rfl, ⟨⟨h1, h2, ?_, ?_⟩, ?_⟩, ?_⟩
      · repeat' ((conv => whnf); first | with_reducible exact True.intro | exact vW | with_reducible refine And.intro ?_ ?_)
        try exact Chk.mk (by rw [pw_sh (by assumption)])
      · repeat' ((conv => whnf); first | with_reducible exact True.intro | exact vW | with_reducible refine And.intro ?_ ?_)
      · dsimp only; omega
      · dsimp only; omega
      · unfold i64r; dsimp only; omega
      intro k2 p2 c0 c1 c2
      dsimp only at c0 c1 c2
      have e59 := Int.tdiv_eq_ediv_of_nonneg (a := k2) (b := 59) (c1 (by decide)).1
      have c3 := c1 (by decide)
      repeat' ((conv => whnf); first | with_reducible refine wk_at 3 ?_ | with_reducible refine wk_at1 3 ?_ | with_reducible refine wk_at2 3 ?_ | refine vA ?_ | with_reducible first | refine v8 ?_ | refine Sp.mk ?_ ?_ | refine vS ?_ | refine vR ?_ | refine vB ?_ | refine br_nt ?_ | refine br_tt ?_ | refine br_ff ?_ | refine vP ?_ | refine vQ ?_ | refine vT ?_ | refine vF ?_ | refine br_and ?_ | refine br_or ?_ | refine br_d (fun _ => ?_) fun _ => ?_ | refine vM (fun _ => ?_) fun _ => ?_)
    all_goals try
      dsimp only [List.drop]
      rw [hv]
      repeat' ((conv => whnf); first | with_reducible refine wk_at 3 ?_ | with_reducible refine wk_at1 3 ?_ | with_reducible refine wk_at2 3 ?_ | refine vA ?_ | with_reducible first | refine v8 ?_ | refine Sp.mk ?_ ?_ | refine vS ?_ | refine vR ?_ | refine vB ?_ | refine br_nt ?_ | refine br_tt ?_ | refine br_ff ?_ | refine vP ?_ | refine vQ ?_ | refine vT ?_ | refine vF ?_ | refine br_and ?_ | refine br_or ?_ | refine br_d (fun _ => ?_) fun _ => ?_ | refine vM (fun _ => ?_) fun _ => ?_)
    all_goals
      obtain ⟨V, hV⟩ : ∃ V, (if 6 < if 1 > q then 1 else q then 6 else if 1 > q then 1 else q) = V := ⟨_, rfl⟩
      obtain ⟨k, hk⟩ : ∃ k, v + k2.tdiv 59 * 5 = k := ⟨_, rfl⟩
      have pV : people V := by unfold people; subst hV; (repeat' split) <;> omega
      have k0 : i64r k := by unfold i64r; omega
      try rw [hV]
      try rw [hk]
      refine ⟨Wk.go [(0, .ptr 0 0), (3, .ptr 1 0), (4, .ptr 2 0), (5, .ptr 3 0), (6, .int .i64 V)] [rdO b p2, .box [.int .i64 q, slI bs, slS rs], .box [.int .i64 0, .int .i64 0, .int .i64 0, .str ⟨#[]⟩], .box [.int .i64 k, .int .i64 0, .int .i64 0, .str ⟨#[]⟩]] ?_ ?_⟩
      · first | (refine ⟨⟨[some 0, some 1, some 2, some 4], [], rfl, rfl, ?_, ?_⟩⟩ <;> (repeat' ((conv => whnf); first | with_reducible exact True.intro | exact vW | with_reducible refine And.intro ?_ ?_)) <;> fail) | (refine ⟨⟨[some 0, some 1, some 2, some 3], [], rfl, rfl, ?_, ?_⟩⟩ <;> (repeat' ((conv => whnf); first | with_reducible exact True.intro | exact vW | with_reducible refine And.intro ?_ ?_)) <;> fail)
      have hp2 : p ≤ p2 ∧ p2 ≤ p + 2 := by omega
      clear hV hk e59 c3 c0 c1 c2
      revert V k p2
      exact key1.t
  · intro p2 V k pV k0 hp2
    have pw2 := pw_le pV
    have hI := h5.1.1
    apply later
    · intro key2
      repeat' ((conv => whnf); first | with_reducible refine wk_at 15 ?_ | with_reducible refine wk_at1 15 ?_ | with_reducible refine wk_at2 15 ?_ | refine vA ?_ | with_reducible first | refine v8 ?_ | refine Sp.mk ?_ ?_ | refine vS ?_ | refine vR ?_ | refine vB ?_ | refine br_nt ?_ | refine br_tt ?_ | refine br_ff ?_ | refine vP ?_ | refine vQ ?_ | refine vT ?_ | refine vF ?_ | refine br_and ?_ | refine br_or ?_ | refine br_d (fun _ => ?_) fun _ => ?_ | refine vM (fun _ => ?_) fun _ => ?_)
      · repeat' ((conv => whnf); first | with_reducible refine Wr.ex (wsh pV) ?_ | with_reducible refine Wr.ex (wi64 (by rw [pw_sh pV]; omega) (by rw [pw_sh pV]; omega)) ?_ | refine vA ?_ | with_reducible first | refine v8 ?_ | refine Sp.mk ?_ ?_ | refine vS ?_ | refine vR ?_ | refine vB ?_ | refine br_nt ?_ | refine br_tt ?_ | refine br_ff ?_ | refine vP ?_ | refine vQ ?_ | refine vT ?_ | refine vF ?_ | refine br_and ?_ | refine br_or ?_ | refine br_d (fun _ => ?_) fun _ => ?_ | refine vM (fun _ => ?_) fun _ => ?_)
        refine ⟨_, _, [0], [], rfl, ?_, ?_, (⟨b, p2⟩, (pw V - 1)), rfl, rfl, ⟨⟨h1, h2, ?_, ?_⟩, ?_⟩, ?_⟩
        · repeat' ((conv => whnf); first | with_reducible exact True.intro | exact vW | with_reducible refine And.intro ?_ ?_)
          try exact Chk.mk (by rw [pw_sh (by assumption)])
        · repeat' ((conv => whnf); first | with_reducible exact True.intro | exact vW | with_reducible refine And.intro ?_ ?_)
        · dsimp only; omega
        · dsimp only; omega
        · unfold i64r; dsimp only; omega
        intro j1 p3 c0 c1 c2
        dsimp only at c0 c1 c2
        repeat' ((conv => whnf); first | with_reducible refine wk_at 15 ?_ | with_reducible refine wk_at1 15 ?_ | with_reducible refine wk_at2 15 ?_ | refine vA ?_ | with_reducible first | refine v8 ?_ | refine Sp.mk ?_ ?_ | refine vS ?_ | refine vR ?_ | refine vB ?_ | refine br_nt ?_ | refine br_tt ?_ | refine br_ff ?_ | refine vP ?_ | refine vQ ?_ | refine vT ?_ | refine vF ?_ | refine br_and ?_ | refine br_or ?_ | refine br_d (fun _ => ?_) fun _ => ?_ | refine vM (fun _ => ?_) fun _ => ?_)
        obtain ⟨A, hA⟩ : ∃ A : Int, A = 1+j1 := ⟨_, rfl⟩
        obtain ⟨B, hB⟩ : ∃ B : Int, B = 0 := ⟨_, rfl⟩
        obtain ⟨W, hW⟩ : ∃ W : ByteArray, ⟨#[]⟩ = W := ⟨_, rfl⟩
        have A0 : i64r A := by rw [hA]; first | exact wi64r _ | (unfold i64r; omega)
        have B0 : i64r B := by rw [hB]; first | exact wi64r _ | (unfold i64r; omega)
        have W0 : W.size ≤ 10000 := by rw [← hW]; first | exact ttext_size _ _ | exact Nat.zero_le _
        obtain ⟨p9, hp9⟩ : ∃ p9 : Int, p9 = p3 := ⟨_, rfl⟩
        have p90 : p ≤ p9 ∧ p9 ≤ p + 200 := by omega
        refine ⟨Wk.go [(0, .ptr 0 0), (4, .ptr 1 0), (5, .ptr 2 0)] [rdO b p9, .box [.int .i64 0, .int .i64 0, .int .i64 0, .str ⟨#[]⟩], .box [.int .i64 k, .int .i64 A, .int .i64 B, .str W]] ⟨⟨[some 0, some 2, some 3], [], rfl, rfl, ?_, ?_⟩⟩ ?_⟩
        · repeat' ((conv => whnf); first | with_reducible exact True.intro | exact vW | with_reducible refine And.intro ?_ ?_)
        · subst hW
          repeat' ((conv => whnf); first | with_reducible exact True.intro | exact vW | with_reducible refine And.intro ?_ ?_)
        clear hA hB hW hp9
        revert A B W p9
        exact key2.t
      · refine Dr.mk ⟨(.rd 0 (.rd 1 (.rd 2 (.rd 3 (.rd 4 (.ef 5 (.ef 6 (.rd 7 (.ef 8 .dn .no)) .no) .no)))))), by decide +kernel, ?_⟩
        repeat' ((conv => whnf); first | refine vA ?_ | with_reducible first | refine v8 ?_ | refine Sp.mk ?_ ?_ | refine vS ?_ | refine vR ?_ | refine vB ?_ | refine br_nt ?_ | refine br_tt ?_ | refine br_ff ?_ | refine vP ?_ | refine vQ ?_ | refine vT ?_ | refine vF ?_ | refine br_and ?_ | refine br_or ?_ | refine br_d (fun _ => ?_) fun _ => ?_ | refine vM (fun _ => ?_) fun _ => ?_)
        refine ⟨_, _, [0], [], rfl, ?_, ?_, ⟨⟨b, p2⟩, ⟨q, bs⟩, 0⟩, rfl, rfl, ⟨⟨h1, h2, by dsimp only; omega, by dsimp only; omega⟩, hI, by dsimp only; omega, by unfold i64r; dsimp only; omega⟩, ?_⟩
        · repeat' ((conv => whnf); first | with_reducible exact True.intro | exact vW | with_reducible refine And.intro ?_ ?_)
        · repeat' ((conv => whnf); first | with_reducible exact True.intro | exact vW | with_reducible refine And.intro ?_ ?_)
        intro t p3 t1 t2 t3 t4
        dsimp only at t1 t2 t3 t4 ⊢
        repeat' ((conv => whnf); first | refine vA ?_ | with_reducible first | refine v8 ?_ | refine Sp.mk ?_ ?_ | refine vS ?_ | refine vR ?_ | refine vB ?_ | refine br_nt ?_ | refine br_tt ?_ | refine br_ff ?_ | refine vP ?_ | refine vQ ?_ | refine vT ?_ | refine vF ?_ | refine br_and ?_ | refine br_or ?_ | refine br_d (fun _ => ?_) fun _ => ?_ | refine vM (fun _ => ?_) fun _ => ?_)
        refine ⟨(⟨q, bs⟩, t), ?_, ⟨hI, by dsimp only; omega, t4, by dsimp only; omega⟩, ?_⟩
        · repeat' ((conv => whnf); first | with_reducible exact True.intro | exact vW | with_reducible refine And.intro ?_ ?_)
        repeat' ((conv => whnf); first | with_reducible refine wk_at 15 ?_ | with_reducible refine wk_at1 15 ?_ | with_reducible refine wk_at2 15 ?_ | refine vA ?_ | with_reducible first | refine v8 ?_ | refine Sp.mk ?_ ?_ | refine vS ?_ | refine vR ?_ | refine vB ?_ | refine br_nt ?_ | refine br_tt ?_ | refine br_ff ?_ | refine vP ?_ | refine vQ ?_ | refine vT ?_ | refine vF ?_ | refine br_and ?_ | refine br_or ?_ | refine br_d (fun _ => ?_) fun _ => ?_ | refine vM (fun _ => ?_) fun _ => ?_)
        obtain ⟨A, hA⟩ : ∃ A : Int, A = 0 := ⟨_, rfl⟩
        obtain ⟨B, hB⟩ : ∃ B : Int, B = 0 := ⟨_, rfl⟩
        obtain ⟨W, hW⟩ : ∃ W : ByteArray, ttext (⟨q,bs⟩,t) = W := ⟨_, rfl⟩
        have A0 : i64r A := by rw [hA]; first | exact wi64r _ | (unfold i64r; omega)
        have B0 : i64r B := by rw [hB]; first | exact wi64r _ | (unfold i64r; omega)
        have W0 : W.size ≤ 10000 := by rw [← hW]; first | exact ttext_size _ _ | exact Nat.zero_le _
        obtain ⟨p9, hp9⟩ : ∃ p9 : Int, p9 = p3 := ⟨_, rfl⟩
        have p90 : p ≤ p9 ∧ p9 ≤ p + 200 := by omega
        refine ⟨Wk.go [(0, .ptr 0 0), (4, .ptr 1 0), (5, .ptr 2 0)] [rdO b p9, .box [.int .i64 0, .int .i64 0, .int .i64 0, .str ⟨#[]⟩], .box [.int .i64 k, .int .i64 A, .int .i64 B, .str W]] ⟨⟨[some 0, some 2, some 3], [], rfl, rfl, ?_, ?_⟩⟩ ?_⟩
        · repeat' ((conv => whnf); first | with_reducible exact True.intro | exact vW | with_reducible refine And.intro ?_ ?_)
        · subst hW
          repeat' ((conv => whnf); first | with_reducible exact True.intro | exact vW | with_reducible refine And.intro ?_ ?_)
        clear hA hB hW hp9
        revert A B W p9
        exact key2.t
      · refine ⟨_, _, [0], [], rfl, ?_, ?_, (⟨b, p2⟩, (if 1 > (rs.length : Int) then 1 else (rs.length : Int))), rfl, rfl, ⟨⟨h1, h2, ?_, ?_⟩, ?_⟩, ?_⟩
        · repeat' ((conv => whnf); first | with_reducible exact True.intro | exact vW | with_reducible refine And.intro ?_ ?_)
          try exact Chk.mk (by rw [pw_sh (by assumption)])
        · repeat' ((conv => whnf); first | with_reducible exact True.intro | exact vW | with_reducible refine And.intro ?_ ?_)
        · dsimp only; omega
        · dsimp only; omega
        · unfold i64r; dsimp only; omega
        intro j1 p3 c0 c1 c2
        dsimp only at c0 c1 c2
        have c3 : i64r j1 := by unfold i64r; split at c1 <;> omega
        repeat' ((conv => whnf); first | refine vA ?_ | with_reducible first | refine v8 ?_ | refine Sp.mk ?_ ?_ | refine vS ?_ | refine vR ?_ | refine vB ?_ | refine br_nt ?_ | refine br_tt ?_ | refine br_ff ?_ | refine vP ?_ | refine vQ ?_ | refine vT ?_ | refine vF ?_ | refine br_and ?_ | refine br_or ?_ | refine br_d (fun _ => ?_) fun _ => ?_ | refine vM (fun _ => ?_) fun _ => ?_)
        refine Dr.mk ⟨(.rd 0 (.rd 1 (.rd 2 (.rd 4 (.rd 5 (.rd 6 (.ef 3 (.ef 7 (.rd 8 (.rd 9 (.ef 10 .dn .no))) .no) .no))))))), by decide +kernel, ?_⟩
        repeat' ((conv => whnf); first | with_reducible refine Wr.ex (wsh pV) ?_ | refine vA ?_ | with_reducible first | refine v8 ?_ | refine Sp.mk ?_ ?_ | refine vS ?_ | refine vR ?_ | refine vB ?_ | refine br_nt ?_ | refine br_tt ?_ | refine br_ff ?_ | refine vP ?_ | refine vQ ?_ | refine vT ?_ | refine vF ?_ | refine br_and ?_ | refine br_or ?_ | refine br_d (fun _ => ?_) fun _ => ?_ | refine vM (fun _ => ?_) fun _ => ?_)
        refine ⟨_, _, [0], [], rfl, ?_, ?_, (⟨b, p3⟩, (pw V)), rfl, rfl, ⟨⟨h1, h2, ?_, ?_⟩, ?_⟩, ?_⟩
        · repeat' ((conv => whnf); first | with_reducible exact True.intro | exact vW | with_reducible refine And.intro ?_ ?_)
          try exact Chk.mk (by rw [pw_sh (by assumption)])
        · repeat' ((conv => whnf); first | with_reducible exact True.intro | exact vW | with_reducible refine And.intro ?_ ?_)
        · dsimp only; omega
        · dsimp only; omega
        · unfold i64r; dsimp only; omega
        intro j2 p4 d0 d1 d2
        dsimp only at d0 d1 d2
        repeat' ((conv => whnf); first | refine vA ?_ | with_reducible first | refine v8 ?_ | refine Sp.mk ?_ ?_ | refine vS ?_ | refine vR ?_ | refine vB ?_ | refine br_nt ?_ | refine br_tt ?_ | refine br_ff ?_ | refine vP ?_ | refine vQ ?_ | refine vT ?_ | refine vF ?_ | refine br_and ?_ | refine br_or ?_ | refine br_d (fun _ => ?_) fun _ => ?_ | refine vM (fun _ => ?_) fun _ => ?_)
        refine ⟨_, _, [0], [], rfl, ?_, ?_, (⟨b, p4⟩, (pw V)), rfl, rfl, ⟨⟨h1, h2, ?_, ?_⟩, ?_⟩, ?_⟩
        · repeat' ((conv => whnf); first | with_reducible exact True.intro | exact vW | with_reducible refine And.intro ?_ ?_)
          try exact Chk.mk (by rw [pw_sh (by assumption)])
        · repeat' ((conv => whnf); first | with_reducible exact True.intro | exact vW | with_reducible refine And.intro ?_ ?_)
        · dsimp only; omega
        · dsimp only; omega
        · unfold i64r; dsimp only; omega
        intro j3 p5 e0 e1 e2
        dsimp only at e0 e1 e2
        repeat' ((conv => whnf); first | refine vA ?_ | with_reducible first | refine v8 ?_ | refine Sp.mk ?_ ?_ | refine vS ?_ | refine vR ?_ | refine vB ?_ | refine br_nt ?_ | refine br_tt ?_ | refine br_ff ?_ | refine vP ?_ | refine vQ ?_ | refine vT ?_ | refine vF ?_ | refine br_and ?_ | refine br_or ?_ | refine br_d (fun _ => ?_) fun _ => ?_ | refine vM (fun _ => ?_) fun _ => ?_)
        refine Dr.mk ⟨(.rd 0 (.rd 1 (.rd 2 (.rd 3 (.rd 4 (.ef 5 (.ef 6 (.rd 7 (.ef 8 .dn .no)) .no) .no)))))), by decide +kernel, ?_⟩
        repeat' ((conv => whnf); first | refine vA ?_ | with_reducible first | refine v8 ?_ | refine Sp.mk ?_ ?_ | refine vS ?_ | refine vR ?_ | refine vB ?_ | refine br_nt ?_ | refine br_tt ?_ | refine br_ff ?_ | refine vP ?_ | refine vQ ?_ | refine vT ?_ | refine vF ?_ | refine br_and ?_ | refine br_or ?_ | refine br_d (fun _ => ?_) fun _ => ?_ | refine vM (fun _ => ?_) fun _ => ?_)
        refine ⟨_, _, [0], [], rfl, ?_, ?_, ⟨⟨b, p5⟩, ⟨q, bs⟩, 0⟩, rfl, rfl, ⟨⟨h1, h2, by dsimp only; omega, by dsimp only; omega⟩, hI, by dsimp only; omega, by unfold i64r; dsimp only; omega⟩, ?_⟩
        · repeat' ((conv => whnf); first | with_reducible exact True.intro | exact vW | with_reducible refine And.intro ?_ ?_)
        · repeat' ((conv => whnf); first | with_reducible exact True.intro | exact vW | with_reducible refine And.intro ?_ ?_)
        intro t p6 t1 t2 t3 t4
        dsimp only at t1 t2 t3 t4 ⊢
        repeat' ((conv => whnf); first | refine vA ?_ | with_reducible first | refine v8 ?_ | refine Sp.mk ?_ ?_ | refine vS ?_ | refine vR ?_ | refine vB ?_ | refine br_nt ?_ | refine br_tt ?_ | refine br_ff ?_ | refine vP ?_ | refine vQ ?_ | refine vT ?_ | refine vF ?_ | refine br_and ?_ | refine br_or ?_ | refine br_d (fun _ => ?_) fun _ => ?_ | refine vM (fun _ => ?_) fun _ => ?_)
        refine ⟨(⟨q, bs⟩, t), ?_, ⟨hI, by dsimp only; omega, t4, by dsimp only; omega⟩, ?_⟩
        · repeat' ((conv => whnf); first | with_reducible exact True.intro | exact vW | with_reducible refine And.intro ?_ ?_)
        repeat' ((conv => whnf); first | with_reducible refine wk_at 15 ?_ | with_reducible refine wk_at1 15 ?_ | with_reducible refine wk_at2 15 ?_ | refine vA ?_ | with_reducible first | refine v8 ?_ | refine Sp.mk ?_ ?_ | refine vS ?_ | refine vR ?_ | refine vB ?_ | refine br_nt ?_ | refine br_tt ?_ | refine br_ff ?_ | refine vP ?_ | refine vQ ?_ | refine vT ?_ | refine vF ?_ | refine br_and ?_ | refine br_or ?_ | refine br_d (fun _ => ?_) fun _ => ?_ | refine vM (fun _ => ?_) fun _ => ?_)
        obtain ⟨A, hA⟩ : ∃ A : Int, A = j1 := ⟨_, rfl⟩
        obtain ⟨B, hB⟩ : ∃ B : Int, B = (bitop .i64 .or j2 j3) := ⟨_, rfl⟩
        obtain ⟨W, hW⟩ : ∃ W : ByteArray, ttext (⟨q,bs⟩,t) = W := ⟨_, rfl⟩
        have A0 : i64r A := by rw [hA]; first | exact wi64r _ | (unfold i64r; omega)
        have B0 : i64r B := by rw [hB]; first | exact wi64r _ | (unfold i64r; omega)
        have W0 : W.size ≤ 10000 := by rw [← hW]; first | exact ttext_size _ _ | exact Nat.zero_le _
        obtain ⟨p9, hp9⟩ : ∃ p9 : Int, p9 = p6 := ⟨_, rfl⟩
        have p90 : p ≤ p9 ∧ p9 ≤ p + 200 := by omega
        refine ⟨Wk.go [(0, .ptr 0 0), (4, .ptr 1 0), (5, .ptr 2 0)] [rdO b p9, .box [.int .i64 0, .int .i64 0, .int .i64 0, .str ⟨#[]⟩], .box [.int .i64 k, .int .i64 A, .int .i64 B, .str W]] ⟨⟨[some 0, some 2, some 3], [], rfl, rfl, ?_, ?_⟩⟩ ?_⟩
        · repeat' ((conv => whnf); first | with_reducible exact True.intro | exact vW | with_reducible refine And.intro ?_ ?_)
        · subst hW
          repeat' ((conv => whnf); first | with_reducible exact True.intro | exact vW | with_reducible refine And.intro ?_ ?_)
        clear hA hB hW hp9
        revert A B W p9
        exact key2.t
      · refine ⟨_, _, [0], [], rfl, ?_, ?_, (⟨b, p2⟩, (if 1 > (rs.length : Int) then 1 else (rs.length : Int))), rfl, rfl, ⟨⟨h1, h2, ?_, ?_⟩, ?_⟩, ?_⟩
        · repeat' ((conv => whnf); first | with_reducible exact True.intro | exact vW | with_reducible refine And.intro ?_ ?_)
          try exact Chk.mk (by rw [pw_sh (by assumption)])
        · repeat' ((conv => whnf); first | with_reducible exact True.intro | exact vW | with_reducible refine And.intro ?_ ?_)
        · dsimp only; omega
        · dsimp only; omega
        · unfold i64r; dsimp only; omega
        intro j1 p3 c0 c1 c2
        dsimp only at c0 c1 c2
        have c3 : i64r j1 := by unfold i64r; split at c1 <;> omega
        repeat' ((conv => whnf); first | refine vA ?_ | with_reducible first | refine v8 ?_ | refine Sp.mk ?_ ?_ | refine vS ?_ | refine vR ?_ | refine vB ?_ | refine br_nt ?_ | refine br_tt ?_ | refine br_ff ?_ | refine vP ?_ | refine vQ ?_ | refine vT ?_ | refine vF ?_ | refine br_and ?_ | refine br_or ?_ | refine br_d (fun _ => ?_) fun _ => ?_ | refine vM (fun _ => ?_) fun _ => ?_)
        refine Dr.mk ⟨(.rd 0 (.rd 1 (.rd 2 (.rd 4 (.rd 5 (.rd 6 (.ef 3 (.ef 7 (.rd 8 (.rd 9 (.ef 10 .dn .no))) .no) .no))))))), by decide +kernel, ?_⟩
        repeat' ((conv => whnf); first | with_reducible refine Wr.ex (wsh pV) ?_ | refine vA ?_ | with_reducible first | refine v8 ?_ | refine Sp.mk ?_ ?_ | refine vS ?_ | refine vR ?_ | refine vB ?_ | refine br_nt ?_ | refine br_tt ?_ | refine br_ff ?_ | refine vP ?_ | refine vQ ?_ | refine vT ?_ | refine vF ?_ | refine br_and ?_ | refine br_or ?_ | refine br_d (fun _ => ?_) fun _ => ?_ | refine vM (fun _ => ?_) fun _ => ?_)
        refine ⟨_, _, [0], [], rfl, ?_, ?_, (⟨b, p3⟩, (pw V)), rfl, rfl, ⟨⟨h1, h2, ?_, ?_⟩, ?_⟩, ?_⟩
        · repeat' ((conv => whnf); first | with_reducible exact True.intro | exact vW | with_reducible refine And.intro ?_ ?_)
          try exact Chk.mk (by rw [pw_sh (by assumption)])
        · repeat' ((conv => whnf); first | with_reducible exact True.intro | exact vW | with_reducible refine And.intro ?_ ?_)
        · dsimp only; omega
        · dsimp only; omega
        · unfold i64r; dsimp only; omega
        intro j2 p4 d0 d1 d2
        dsimp only at d0 d1 d2
        repeat' ((conv => whnf); first | refine vA ?_ | with_reducible first | refine v8 ?_ | refine Sp.mk ?_ ?_ | refine vS ?_ | refine vR ?_ | refine vB ?_ | refine br_nt ?_ | refine br_tt ?_ | refine br_ff ?_ | refine vP ?_ | refine vQ ?_ | refine vT ?_ | refine vF ?_ | refine br_and ?_ | refine br_or ?_ | refine br_d (fun _ => ?_) fun _ => ?_ | refine vM (fun _ => ?_) fun _ => ?_)
        refine ⟨_, _, [0], [], rfl, ?_, ?_, (⟨b, p4⟩, (pw V)), rfl, rfl, ⟨⟨h1, h2, ?_, ?_⟩, ?_⟩, ?_⟩
        · repeat' ((conv => whnf); first | with_reducible exact True.intro | exact vW | with_reducible refine And.intro ?_ ?_)
          try exact Chk.mk (by rw [pw_sh (by assumption)])
        · repeat' ((conv => whnf); first | with_reducible exact True.intro | exact vW | with_reducible refine And.intro ?_ ?_)
        · dsimp only; omega
        · dsimp only; omega
        · unfold i64r; dsimp only; omega
        intro j3 p5 e0 e1 e2
        dsimp only at e0 e1 e2
        repeat' ((conv => whnf); first | with_reducible refine wk_at 15 ?_ | with_reducible refine wk_at1 15 ?_ | with_reducible refine wk_at2 15 ?_ | refine vA ?_ | with_reducible first | refine v8 ?_ | refine Sp.mk ?_ ?_ | refine vS ?_ | refine vR ?_ | refine vB ?_ | refine br_nt ?_ | refine br_tt ?_ | refine br_ff ?_ | refine vP ?_ | refine vQ ?_ | refine vT ?_ | refine vF ?_ | refine br_and ?_ | refine br_or ?_ | refine br_d (fun _ => ?_) fun _ => ?_ | refine vM (fun _ => ?_) fun _ => ?_)
        obtain ⟨A, hA⟩ : ∃ A : Int, A = j1 := ⟨_, rfl⟩
        obtain ⟨B, hB⟩ : ∃ B : Int, B = (bitop .i64 .or j2 j3) := ⟨_, rfl⟩
        obtain ⟨W, hW⟩ : ∃ W : ByteArray, ⟨#[]⟩ = W := ⟨_, rfl⟩
        have A0 : i64r A := by rw [hA]; first | exact wi64r _ | (unfold i64r; omega)
        have B0 : i64r B := by rw [hB]; first | exact wi64r _ | (unfold i64r; omega)
        have W0 : W.size ≤ 10000 := by rw [← hW]; first | exact ttext_size _ _ | exact Nat.zero_le _
        obtain ⟨p9, hp9⟩ : ∃ p9 : Int, p9 = p5 := ⟨_, rfl⟩
        have p90 : p ≤ p9 ∧ p9 ≤ p + 200 := by omega
        refine ⟨Wk.go [(0, .ptr 0 0), (4, .ptr 1 0), (5, .ptr 2 0)] [rdO b p9, .box [.int .i64 0, .int .i64 0, .int .i64 0, .str ⟨#[]⟩], .box [.int .i64 k, .int .i64 A, .int .i64 B, .str W]] ⟨⟨[some 0, some 2, some 3], [], rfl, rfl, ?_, ?_⟩⟩ ?_⟩
        · repeat' ((conv => whnf); first | with_reducible exact True.intro | exact vW | with_reducible refine And.intro ?_ ?_)
        · subst hW
          repeat' ((conv => whnf); first | with_reducible exact True.intro | exact vW | with_reducible refine And.intro ?_ ?_)
        clear hA hB hW hp9
        revert A B W p9
        exact key2.t
      · obtain ⟨A, hA⟩ : ∃ A : Int, A = 0 := ⟨_, rfl⟩
        obtain ⟨B, hB⟩ : ∃ B : Int, B = 0 := ⟨_, rfl⟩
        obtain ⟨W, hW⟩ : ∃ W : ByteArray, ⟨#[]⟩ = W := ⟨_, rfl⟩
        have A0 : i64r A := by rw [hA]; first | exact wi64r _ | (unfold i64r; omega)
        have B0 : i64r B := by rw [hB]; first | exact wi64r _ | (unfold i64r; omega)
        have W0 : W.size ≤ 10000 := by rw [← hW]; first | exact ttext_size _ _ | exact Nat.zero_le _
        obtain ⟨p9, hp9⟩ : ∃ p9 : Int, p9 = p2 := ⟨_, rfl⟩
        have p90 : p ≤ p9 ∧ p9 ≤ p + 200 := by omega
        refine ⟨Wk.go [(0, .ptr 0 0), (4, .ptr 1 0), (5, .ptr 2 0)] [rdO b p9, .box [.int .i64 0, .int .i64 0, .int .i64 0, .str ⟨#[]⟩], .box [.int .i64 k, .int .i64 A, .int .i64 B, .str W]] ⟨⟨[some 0, some 2, some 3], [], rfl, rfl, ?_, ?_⟩⟩ ?_⟩
        · repeat' ((conv => whnf); first | with_reducible exact True.intro | exact vW | with_reducible refine And.intro ?_ ?_)
        · subst hW
          repeat' ((conv => whnf); first | with_reducible exact True.intro | exact vW | with_reducible refine And.intro ?_ ?_)
        clear hA hB hW hp9
        revert A B W p9
        exact key2.t
    · intro A B W A0 B0 W0 p9 p90
      repeat' ((conv => whnf); first | refine vA ?_ | with_reducible first | refine v8 ?_ | refine Sp.mk ?_ ?_ | refine vS ?_ | refine vR ?_ | refine vB ?_ | refine br_nt ?_ | refine br_tt ?_ | refine br_ff ?_ | refine vP ?_ | refine vQ ?_ | refine vT ?_ | refine vF ?_ | refine br_and ?_ | refine br_or ?_ | refine br_d (fun _ => ?_) fun _ => ?_ | refine vM (fun _ => ?_) fun _ => ?_)
      refine ⟨_, _, [0], [], rfl, ?_, ?_, (⟨b, p9⟩, 40), rfl, rfl, ⟨⟨h1, h2, by dsimp only; omega, by dsimp only; omega⟩, by unfold i64r; dsimp only; omega⟩, ?_⟩
      · repeat' ((conv => whnf); first | with_reducible exact True.intro | exact vW | with_reducible refine And.intro ?_ ?_)
      · repeat' ((conv => whnf); first | with_reducible exact True.intro | exact vW | with_reducible refine And.intro ?_ ?_)
      intro o p10 g1 g2
      dsimp only at g1 g2
      repeat' ((conv => whnf); first | refine vA ?_ | with_reducible first | refine v8 ?_ | refine Sp.mk ?_ ?_ | refine vS ?_ | refine vR ?_ | refine vB ?_ | refine br_nt ?_ | refine br_tt ?_ | refine br_ff ?_ | refine vP ?_ | refine vQ ?_ | refine vT ?_ | refine vF ?_ | refine br_and ?_ | refine br_or ?_ | refine br_d (fun _ => ?_) fun _ => ?_ | refine vM (fun _ => ?_) fun _ => ?_)
      · refine ⟨_, _, [0], [], rfl, ?_, ?_, (⟨b, p10⟩, 3), rfl, rfl, ⟨⟨h1, h2, ?_, ?_⟩, ?_⟩, ?_⟩
        · repeat' ((conv => whnf); first | with_reducible exact True.intro | exact vW | with_reducible refine And.intro ?_ ?_)
          try exact Chk.mk (by rw [pw_sh (by assumption)])
        · repeat' ((conv => whnf); first | with_reducible exact True.intro | exact vW | with_reducible refine And.intro ?_ ?_)
        · dsimp only; omega
        · dsimp only; omega
        · unfold i64r; dsimp only; omega
        intro r1 p11 f0 f1 f2
        dsimp only at f0 f1 f2
        repeat' ((conv => whnf); first | refine vA ?_ | with_reducible first | refine v8 ?_ | refine Sp.mk ?_ ?_ | refine vS ?_ | refine vR ?_ | refine vB ?_ | refine br_nt ?_ | refine br_tt ?_ | refine br_ff ?_ | refine vP ?_ | refine vQ ?_ | refine vT ?_ | refine vF ?_ | refine br_and ?_ | refine br_or ?_ | refine br_d (fun _ => ?_) fun _ => ?_ | refine vM (fun _ => ?_) fun _ => ?_)
        · refine ⟨_, _, [0], [], rfl, ?_, ?_, (⟨b, p11⟩, 2), rfl, rfl, ⟨⟨h1, h2, ?_, ?_⟩, ?_⟩, ?_⟩
          · repeat' ((conv => whnf); first | with_reducible exact True.intro | exact vW | with_reducible refine And.intro ?_ ?_)
            try exact Chk.mk (by rw [pw_sh (by assumption)])
          · repeat' ((conv => whnf); first | with_reducible exact True.intro | exact vW | with_reducible refine And.intro ?_ ?_)
          · dsimp only; omega
          · dsimp only; omega
          · unfold i64r; dsimp only; omega
          intro r2 p12 g0 g1 g2
          dsimp only at g0 g1 g2
          rcases (show r2 = 0 ∨ r2 = 1 by omega) with rfl | rfl
          · repeat' ((conv => whnf); first | refine vA ?_ | with_reducible first | refine v8 ?_ | refine Sp.mk ?_ ?_ | refine vS ?_ | refine vR ?_ | refine vB ?_ | refine br_nt ?_ | refine br_tt ?_ | refine br_ff ?_ | refine vP ?_ | refine vQ ?_ | refine vT ?_ | refine vF ?_ | refine br_and ?_ | refine br_or ?_ | refine br_d (fun _ => ?_) fun _ => ?_ | refine vM (fun _ => ?_) fun _ => ?_)
            refine ⟨_, _, [some 0], [], rfl, rfl, ?_, ?_, h ⟨k, (-1), B, W⟩ p12 (by omega) (by omega) ⟨k0, (show i64r (-1) from ⟨by decide,by decide⟩), B0, W0⟩⟩
            · repeat' ((conv => whnf); first | with_reducible exact True.intro | exact vW | with_reducible refine And.intro ?_ ?_)
            · repeat' ((conv => whnf); first | with_reducible exact True.intro | exact vW | with_reducible refine And.intro ?_ ?_)
          · repeat' ((conv => whnf); first | refine vA ?_ | with_reducible first | refine v8 ?_ | refine Sp.mk ?_ ?_ | refine vS ?_ | refine vR ?_ | refine vB ?_ | refine br_nt ?_ | refine br_tt ?_ | refine br_ff ?_ | refine vP ?_ | refine vQ ?_ | refine vT ?_ | refine vF ?_ | refine br_and ?_ | refine br_or ?_ | refine br_d (fun _ => ?_) fun _ => ?_ | refine vM (fun _ => ?_) fun _ => ?_)
            refine ⟨_, _, [some 0], [], rfl, rfl, ?_, ?_, h ⟨k, 100, B, W⟩ p12 (by omega) (by omega) ⟨k0, (show i64r 100 from ⟨by decide,by decide⟩), B0, W0⟩⟩
            · repeat' ((conv => whnf); first | with_reducible exact True.intro | exact vW | with_reducible refine And.intro ?_ ?_)
            · repeat' ((conv => whnf); first | with_reducible exact True.intro | exact vW | with_reducible refine And.intro ?_ ?_)
        · refine ⟨_, _, [0], [], rfl, ?_, ?_, (⟨b, p11⟩, 3), rfl, rfl, ⟨⟨h1, h2, ?_, ?_⟩, ?_⟩, ?_⟩
          · repeat' ((conv => whnf); first | with_reducible exact True.intro | exact vW | with_reducible refine And.intro ?_ ?_)
            try exact Chk.mk (by rw [pw_sh (by assumption)])
          · repeat' ((conv => whnf); first | with_reducible exact True.intro | exact vW | with_reducible refine And.intro ?_ ?_)
          · dsimp only; omega
          · dsimp only; omega
          · unfold i64r; dsimp only; omega
          intro r2 p12 g0 g1 g2
          dsimp only at g0 g1 g2
          rcases (show r2 = 0 ∨ r2 = 1 ∨ r2 = 2 by omega) with rfl | rfl | rfl
          · repeat' ((conv => whnf); first | refine vA ?_ | with_reducible first | refine v8 ?_ | refine Sp.mk ?_ ?_ | refine vS ?_ | refine vR ?_ | refine vB ?_ | refine br_nt ?_ | refine br_tt ?_ | refine br_ff ?_ | refine vP ?_ | refine vQ ?_ | refine vT ?_ | refine vF ?_ | refine br_and ?_ | refine br_or ?_ | refine br_d (fun _ => ?_) fun _ => ?_ | refine vM (fun _ => ?_) fun _ => ?_)
            refine ⟨_, _, [some 0], [], rfl, rfl, ?_, ?_, h ⟨k, A, B, ⟨#[40,65,49,41]⟩⟩ p12 (by omega) (by omega) ⟨k0, A0, B0, (show (4:Nat)≤10000 by decide)⟩⟩
            · repeat' ((conv => whnf); first | with_reducible exact True.intro | exact vW | with_reducible refine And.intro ?_ ?_)
            · repeat' ((conv => whnf); first | with_reducible exact True.intro | exact vW | with_reducible refine And.intro ?_ ?_)
          · repeat' ((conv => whnf); first | refine vA ?_ | with_reducible first | refine v8 ?_ | refine Sp.mk ?_ ?_ | refine vS ?_ | refine vR ?_ | refine vB ?_ | refine br_nt ?_ | refine br_tt ?_ | refine br_ff ?_ | refine vP ?_ | refine vQ ?_ | refine vT ?_ | refine vF ?_ | refine br_and ?_ | refine br_or ?_ | refine br_d (fun _ => ?_) fun _ => ?_ | refine vM (fun _ => ?_) fun _ => ?_)
            refine ⟨_, _, [some 0], [], rfl, rfl, ?_, ?_, h ⟨k, A, B, ⟨#[97,32,98]⟩⟩ p12 (by omega) (by omega) ⟨k0, A0, B0, (show (3:Nat)≤10000 by decide)⟩⟩
            · repeat' ((conv => whnf); first | with_reducible exact True.intro | exact vW | with_reducible refine And.intro ?_ ?_)
            · repeat' ((conv => whnf); first | with_reducible exact True.intro | exact vW | with_reducible refine And.intro ?_ ?_)
          · repeat' ((conv => whnf); first | refine vA ?_ | with_reducible first | refine v8 ?_ | refine Sp.mk ?_ ?_ | refine vS ?_ | refine vR ?_ | refine vB ?_ | refine br_nt ?_ | refine br_tt ?_ | refine br_ff ?_ | refine vP ?_ | refine vQ ?_ | refine vT ?_ | refine vF ?_ | refine br_and ?_ | refine br_or ?_ | refine br_d (fun _ => ?_) fun _ => ?_ | refine vM (fun _ => ?_) fun _ => ?_)
            refine ⟨_, _, [some 0], [], rfl, rfl, ?_, ?_, h ⟨k, A, B, ⟨#[]⟩⟩ p12 (by omega) (by omega) ⟨k0, A0, B0, (show (0:Nat)≤10000 by decide)⟩⟩
            · repeat' ((conv => whnf); first | with_reducible exact True.intro | exact vW | with_reducible refine And.intro ?_ ?_)
            · repeat' ((conv => whnf); first | with_reducible exact True.intro | exact vW | with_reducible refine And.intro ?_ ?_)
        · refine ⟨_, _, [some 0], [], rfl, rfl, ?_, ?_, h ⟨k, A, 99, W⟩ p11 (by omega) (by omega) ⟨k0, A0, (show i64r 99 from ⟨by decide,by decide⟩), W0⟩⟩
          · repeat' ((conv => whnf); first | with_reducible exact True.intro | exact vW | with_reducible refine And.intro ?_ ?_)
          · repeat' ((conv => whnf); first | with_reducible exact True.intro | exact vW | with_reducible refine And.intro ?_ ?_)
      · refine ⟨_, _, [some 0], [], rfl, rfl, ?_, ?_, h ⟨k, A, B, W⟩ p10 (by omega) (by omega) ⟨k0, A0, B0, W0⟩⟩
        · repeat' ((conv => whnf); first | with_reducible exact True.intro | exact vW | with_reducible refine And.intro ?_ ?_)
        · repeat' ((conv => whnf); first | with_reducible exact True.intro | exact vW | with_reducible refine And.intro ?_ ?_)
/-! ### Desks that are drawn -/
structure drawnQ (x : Place) : Prop where
  i : placeI x
  bl : x.bs.length ≤ 4
  rl : x.rules.length ≤ 4
  rr : ∀ r ∈ x.rules, r.size ≤ 10000
def drawnD (d : Desk) : Prop := drawnQ d.now ∧ d.past.length ≤ 9 ∧ ∀ p ∈ d.past, drawnQ p
def goodD (d : Desk) : Prop := drawnD d ∧ (deskOk d ∨ d = default)
theorem drawnQ0 : drawnQ default := ⟨placeI0, (by decide : 0 ≤ 4), (by decide : 0 ≤ 4), fun _ h => by cases h⟩
theorem drawnD0 : drawnD default := ⟨drawnQ0, (by decide : 0 ≤ 9), fun _ h => by cases h⟩
theorem drawnP.q {x : Place} (h : drawnP x) : drawnQ x := ⟨h.I, h.bl, h.rl, h.rr⟩
theorem drawnQ.s {x : Place} (h : drawnQ x) : shortP x := ⟨Nat.le_trans h.rl (by decide), Nat.le_trans h.bl (by decide)⟩
theorem drawnD.I {d : Desk} (h : drawnD d) : deskI d := ⟨h.1.i, Nat.lt_of_le_of_lt h.2.1 (by decide), fun p hp => (h.2.2 p hp).i⟩
theorem newDe_good {x : Place} (h : drawnP x) : goodD (newDe x) := by
  unfold newDe
  split
  · rename_i hO
    exact ⟨⟨h.q, (by decide : 0 ≤ 9), fun _ h => by cases h⟩, .inl ⟨hO, (by decide : 0 ≤ 8), fun _ h => by cases h⟩⟩
  · exact ⟨drawnD0, .inr rfl⟩
theorem madeP_mem {x : Place} {a : Dd} : ∀ r ∈ (madeP x a).rules, r ∈ x.rules ∨ r = a.words := by
  unfold madeP
  intro r hr
  split at hr
  · exact .inl hr
  · split at hr
    · exact (List.mem_append.1 hr).imp id fun h => List.mem_singleton.1 h
    · split at hr
      · exact (List.mem_or_eq_of_mem_set hr)
      · split at hr
        · exact .inl ((List.mem_append.1 hr).elim (fun h => List.mem_of_mem_take h) fun h => List.mem_of_mem_drop h)
        · cases hr
theorem drawnA.I {a : Dd} (h : drawnA a) : dedI a := ⟨h.k0, h.a0, h.b0, Nat.lt_of_le_of_lt h.w0 (by decide)⟩
theorem doD_good {d e : Desk} {a : Dd} (h : drawnD d) (hO : deskOk d) (ha : drawnA a) (he : doD d a = some e) : goodD e := by
  unfold doD at he
  split at he
  · rename_i g
    cases he
    have m : d.past.getD (d.past.length - 1) default ∈ d.past := getD_mem' (by omega)
    refine ⟨⟨h.2.2 _ m, ?_, fun p hp => h.2.2 p (List.mem_of_mem_take hp)⟩, .inl ⟨hO.2.2 _ m, ?_, fun p hp => hO.2.2 p (List.mem_of_mem_take hp)⟩⟩
    · have := h.2.1
      dsimp only
      rw [List.length_take]
      omega
    · have := hO.2.1
      dsimp only
      rw [List.length_take]
      omega
  · split at he
    · rename_i g
      cases he
      have M := madeP_I h.1.i h.1.s ha.I
      have P := g.1
      have L := hO.2.1
      have mem : ∀ p ∈ pushP d.past d.now, p ∈ d.past ∨ p = d.now := by
        unfold pushP
        intro p hp
        split at hp
        · exact (List.mem_append.1 (List.mem_of_mem_drop hp)).imp id fun h => List.mem_singleton.1 h
        · exact (List.mem_append.1 hp).imp id fun h => List.mem_singleton.1 h
      have len : (pushP d.past d.now).length ≤ 8 := by
        unfold pushP
        split
        · rw [List.length_drop, List.length_append]
          show d.past.length + 1 - 1 ≤ 8
          omega
        · omega
      have q : drawnQ (madeP d.now a) := ⟨M, P.1.2.1, P.2.1.2, fun r hr => (madeP_mem r hr).elim (fun k => h.1.rr r k) fun k => k ▸ ha.w0⟩
      exact ⟨⟨q, Nat.le_trans len (by decide), fun p hp => (mem p hp).elim (fun k => h.2.2 p k) fun k => k ▸ h.1⟩, .inl ⟨P, len, fun p hp => (mem p hp).elim (fun k => hO.2.2 p k) fun k => k ▸ hO.1⟩⟩
    · cases he
theorem canD_t {d : Desk} {a : Dd} (h : canD d a = true) : ∃ e, deskOk d ∧ doD d a = some e ∧ afterD d a = e := by
  unfold canD at h
  rw [Bool.and_eq_true, decide_eq_true_eq, Option.isSome_iff_exists] at h
  obtain ⟨e, he⟩ := h.2
  exact ⟨e, h.1, he, afterD_some h.1 he⟩
end Go.Proofs.YtjefkdhecccfpaaDoor.Vc
end
section
/- Part UA: texts that are cut, and numbers that are read. -/
namespace Go.Proofs.YtjefkdhecccfpaaDoor.Vc
open Go.Proofs
set_option maxRecDepth 10000
/-! ### Numbers -/
def digB (b : UInt8) : Prop := 48 ≤ b.toNat ∧ b.toNat ≤ 57
def valL (a : Nat) : List UInt8 → Nat
  | [] => a
  | b :: l => valL (a * 10 + (b.toNat - 48)) l
theorem valL_app : ∀ (l m : List UInt8) (a : Nat), valL a (l ++ m) = valL (valL a l) m
  | [], _, _ => rfl
  | _ :: l, m, _ => valL_app l m _
theorem dig_toNat {k : Nat} (h : k < 10) : (UInt8.ofNat (48 + k)).toNat = 48 + k := by
  rw [UInt8.toNat_ofNat']
  exact Nat.mod_eq_of_lt (by omega)
theorem dec_val (n : Nat) : valL 0 (Lib.decDigits n) = n := by
  induction n using Nat.strongRecOn with
  | _ n ih =>
    rw [Lib.decDigits]
    split
    · rename_i h
      show 0 * 10 + ((UInt8.ofNat (48 + n)).toNat - 48) = n
      rw [dig_toNat h]
      omega
    · rename_i h
      rw [valL_app, ih (n / 10) (by omega)]
      show n / 10 * 10 + ((UInt8.ofNat (48 + n % 10)).toNat - 48) = n
      rw [dig_toNat (by omega)]
      omega
theorem dec_dig (n : Nat) : ∀ b ∈ Lib.decDigits n, digB b := by
  induction n using Nat.strongRecOn with
  | _ n ih =>
    rw [Lib.decDigits]
    split
    · rename_i h
      intro b hb
      rw [List.mem_singleton.1 hb]
      unfold digB
      rw [dig_toNat h]
      omega
    · rename_i h
      intro b hb
      rcases List.mem_append.1 hb with hb | hb
      · exact ih _ (by omega) b hb
      · rw [List.mem_singleton.1 hb]
        unfold digB
        rw [dig_toNat (by omega)]
        omega
theorem num_list (n : Nat) : (num (n : Int)).data.toList = Lib.decDigits n := by
  show (Lib.decDigits (n : Int).toNat).toArray.toList = _
  rw [Int.toNat_natCast]
theorem num_val (n : Nat) : valL 0 (num (n : Int)).data.toList = n := by rw [num_list, dec_val]
/-! ### Cutting -/
def headApp (x : List UInt8) : List (List UInt8) → List (List UInt8)
  | y :: r => (x ++ y) :: r
  | [] => [x]
def cutL (c : UInt8) : List UInt8 → List (List UInt8)
  | [] => [[]]
  | b :: l => if b = c then [] :: cutL c l else headApp [b] (cutL c l)
theorem cutL_none {c : UInt8} : ∀ {x : List UInt8}, c ∉ x → cutL c x = [x]
  | [], _ => rfl
  | b :: x, h => by
    unfold cutL
    rw [if_neg (fun e : b = c => h (e ▸ List.mem_cons_self)), cutL_none fun q => h (List.mem_cons_of_mem _ q)]
    rfl
theorem cutL_hit {c : UInt8} {r : List UInt8} : ∀ {x : List UInt8}, c ∉ x → cutL c (x ++ c :: r) = x :: cutL c r
  | [], _ => by show (if c = c then _ else _) = _; rw [if_pos rfl]
  | b :: x, h => by
    show (if b = c then _ else headApp [b] (cutL c (x ++ c :: r))) = _
    rw [if_neg (fun e : b = c => h (e ▸ List.mem_cons_self)), cutL_hit fun q => h (List.mem_cons_of_mem _ q)]
    rfl
def cutB (s : ByteArray) (c : UInt8) : List ByteArray := (cutL c s.data.toList).map fun l => ⟨l.toArray⟩
theorem join_cut (c : UInt8) : ∀ {xs : List (List UInt8)}, xs ≠ [] → (∀ x ∈ xs, c ∉ x) → cutL c (Lib.join xs [c]) = xs
  | [], h, _ => absurd rfl h
  | [x], _, h => by rw [Lib.join_one, cutL_none (h x List.mem_cons_self)]
  | x :: y :: r, _, h => by
    have e : Lib.join (x :: y :: r) [c] = x ++ c :: Lib.join (y :: r) [c] := by
      unfold Lib.join List.intercalate
      rw [List.intersperse_cons_cons, List.flatten_cons, List.flatten_cons]
      rfl
    rw [e, cutL_hit (h x List.mem_cons_self), join_cut c (List.cons_ne_nil _ _) fun z hz => h z (List.mem_cons_of_mem _ hz)]
theorem joinB_cut {c : UInt8} {xs : List ByteArray} (h : xs ≠ []) (hc : ∀ x ∈ xs, c ∉ x.data.toList) : cutB (joinB xs ⟨#[c]⟩) c = xs := by
  have e : cutL c (Lib.join (xs.map (·.data.toList)) [c]) = xs.map (·.data.toList) := join_cut c (fun e => h (List.map_eq_nil_iff.1 e)) fun x hx => by
    obtain ⟨y, hy, rfl⟩ := List.mem_map.1 hx
    exact hc y hy
  show (cutL c (Lib.join (xs.map (·.data.toList)) [c])).map _ = _
  rw [e, List.map_map]
  exact List.map_id _
end Go.Proofs.YtjefkdhecccfpaaDoor.Vc
end
section
/- Part UB: strings.Split, strconv.Atoi, and what reads by them. -/
namespace Go.Proofs.YtjefkdhecccfpaaDoor.Vc
open Go.Proofs Go.RowKit Go.Sort
set_option maxRecDepth 10000
set_option maxHeartbeats 4000000
end Go.Proofs.YtjefkdhecccfpaaDoor.Vc
end
section
/- Part UC: numbers and cuts, by both sides. -/
namespace Go.Proofs.YtjefkdhecccfpaaDoor.Vc
open Go.Proofs
set_option maxRecDepth 10000
set_option maxHeartbeats 4000000
/-! ### The reference's cut -/
/-! ### The reference's digits -/
end Go.Proofs.YtjefkdhecccfpaaDoor.Vc
end
section
/- Part UD: what a place's text is cut into. -/
namespace Go.Proofs.YtjefkdhecccfpaaDoor.Vc
open Go.Proofs
set_option maxRecDepth 10000
set_option maxHeartbeats 4000000
def visB (s : ByteArray) : Prop := ∀ b ∈ s.data.toList, 33 ≤ b.toNat
theorem vis_app {a b : ByteArray} (ha : visB a) (hb : visB b) : visB (a ++ b) := fun x hx => by
  rw [ByteArray.data_append, Array.toList_append] at hx
  exact (List.mem_append.1 hx).elim (ha x) (hb x)
theorem vis_num {n : Int} (h : 0 ≤ n) : visB (num n) := fun b hb => by
  obtain ⟨k, rfl⟩ : ∃ k : Nat, n = k := ⟨n.toNat, by omega⟩
  rw [num_list] at hb
  have := dec_dig k b hb
  unfold digB at this
  omega
theorem vis_one {k : UInt8} (h : 33 ≤ k.toNat) : visB ⟨#[k]⟩ := fun b hb => by
  rw [List.mem_singleton.1 hb]; exact h
theorem vis_wrap {s : ByteArray} {b : Bool} (h : visB s) : visB (wrapT s b) := by
  unfold wrapT
  split
  · exact vis_app (vis_app (vis_one (by decide)) h) (vis_one (by decide))
  · exact h
theorem vis_letter {a : Int} (h0 : 0 ≤ a) (h : a < 8) : visB (letter a) := vis_one (by
  rw [UInt8.toNat_ofNat', Nat.mod_eq_of_lt (by omega)]
  omega)
theorem vis_join {k : Int} {a b : Pt} (ha : visB a.s) (hb : visB b.s) : visB (join2 k a b).s := by
  unfold join2
  split
  · exact vis_app (vis_app ha (vis_one (by decide))) (vis_wrap hb)
  · exact vis_app (vis_app (vis_wrap ha) (vis_one (by decide))) (vis_wrap hb)
def okM (m : Mark) : Prop := m.kind = 0 → (0 ≤ m.at_ ∧ m.at_ < 8) ∧ 0 ≤ m.need
theorem vis_step {m : Mark} {st : List Pt} (hm : okM m) (h : ∀ p ∈ st, visB p.s) : ∀ p ∈ stepT m st, visB p.s := by
  unfold stepT
  split
  · rename_i e
    have := hm e
    intro p hp
    rcases List.mem_cons.1 hp with rfl | hp
    · exact vis_app (vis_letter this.1.1 this.1.2) (vis_num this.2)
    · exact h p hp
  · match st, h with
    | [], h => exact h
    | [a], h => exact h
    | b :: a :: r, h =>
      intro p hp
      rcases List.mem_cons.1 hp with rfl | hp
      · exact vis_join (h a (List.mem_cons_of_mem _ List.mem_cons_self)) (h b List.mem_cons_self)
      · exact h p (List.mem_cons_of_mem _ (List.mem_cons_of_mem _ hp))
theorem vis_run : ∀ {t : List Mark} {st : List Pt}, (∀ m ∈ t, okM m) → (∀ p ∈ st, visB p.s) → ∀ p ∈ runT t st, visB p.s
  | [], _, _, h => h
  | m :: t, _, hm, h => vis_run (t := t) (fun x hx => hm x (List.mem_cons_of_mem _ hx)) (vis_step (hm m List.mem_cons_self) h)
theorem walk_marks {bs : List Int} (hl : bs.length ≤ 8) : ∀ {t : List Mark} {k j : Nat}, walkP bs t k = some j → ∀ m ∈ t, okM m
  | [], _, _, _, m, hm => by cases hm
  | x :: t, k, j, h, m, hm => by
    simp only [walkP] at h
    cases e : stepP bs x k with
    | none => rw [e] at h; cases h
    | some i =>
      rw [e] at h
      rcases List.mem_cons.1 hm with rfl | hm
      · intro hk
        unfold stepP at e
        split at e
        · rename_i g
          exact ⟨⟨g.2.1, by omega⟩, by omega⟩
        · rename_i g
          split at e
          · rename_i g2
            omega
          · cases e
      · exact walk_marks hl (t := t) (k := i) (j := j) h m hm
theorem vis_term {h : House} {t : List Mark} (ht : termOk h t) : visB (textT t) := by
  have h1 := vis_run (t := t) (st := []) (walk_marks (Nat.le_trans ht.1.2.1 (by decide)) ht.2.2) (fun _ q => by cases q)
  unfold textT partT
  cases e : runT t [] with
  | nil => intro b hb; cases hb
  | cons p r => rw [e] at h1; exact h1 p List.mem_cons_self
theorem vis_rule {h : House} {r : ByteArray} (e : bad h r = false) : visB r := by
  obtain ⟨t, ht⟩ := bad_term e
  obtain ⟨_, g2, g3⟩ := (rdT_iff (by decide)).1 ht
  rw [← g3]
  exact vis_term g2
theorem vis_joinB {s : ByteArray} (hs : visB s) : ∀ {l : List ByteArray}, (∀ x ∈ l, visB x) → visB (joinB l s) := by
  intro l h b hb
  have hb' : b ∈ Lib.join (l.map (·.data.toList)) s.data.toList := hb
  have key : ∀ (l : List (List UInt8)), b ∈ Lib.join l s.data.toList → b ∈ s.data.toList ∨ ∃ x ∈ l, b ∈ x := by
    intro l
    induction l with
    | nil => intro q; cases q
    | cons x l ih =>
      cases l with
      | nil => rw [Lib.join_one]; exact fun q => .inr ⟨x, List.mem_cons_self, q⟩
      | cons y r =>
        have e : Lib.join (x :: y :: r) s.data.toList = x ++ (s.data.toList ++ Lib.join (y :: r) s.data.toList) := by
          unfold Lib.join List.intercalate
          rw [List.intersperse_cons_cons, List.flatten_cons, List.flatten_cons]
        rw [e]
        intro q
        rcases List.mem_append.1 q with q | q
        · exact .inr ⟨x, List.mem_cons_self, q⟩
        · rcases List.mem_append.1 q with q | q
          · exact .inl q
          · exact (ih q).imp id fun ⟨z, hz, hq⟩ => ⟨z, List.mem_cons_of_mem _ hz, hq⟩
  rcases key _ hb' with q | ⟨x, hx, q⟩
  · exact hs b q
  · obtain ⟨y, hy, rfl⟩ := List.mem_map.1 hx
    exact h y hy b q
theorem vis_no {s : ByteArray} (h : visB s) {c : UInt8} (hc : c.toNat < 33) : c ∉ s.data.toList := fun q => by have := h c q; omega
theorem num_nocomma {n : Int} (h : 0 ≤ n) : (44 : UInt8) ∉ (num n).data.toList := fun q => by
  obtain ⟨k, rfl⟩ : ∃ k : Nat, n = k := ⟨n.toNat, by omega⟩
  rw [num_list] at q
  have := dec_dig k _ q
  unfold digB at this
  have h44 : (44 : UInt8).toNat = 44 := rfl
  omega
theorem cut_listT {l : List Int} (h : smallL l) (hne : l ≠ []) : cutB (listT l) 44 = l.map num := joinB_cut (c := 44) (fun e => hne (List.map_eq_nil_iff.1 e)) fun x hx => by
  obtain ⟨n, hn, rfl⟩ := List.mem_map.1 hx
  exact num_nocomma (h.2 n hn).1
theorem cut_plT {x : Place} (h : placeOk x) : cutB (plT x) 32 = num x.p :: listT x.bs :: x.rules := joinB_cut (c := 32) (List.cons_ne_nil _ _) fun y hy => by
  obtain ⟨g1, g2, g3, g4⟩ := placeOk_small h
  refine vis_no ?_ (by decide)
  rcases List.mem_cons.1 hy with rfl | hy
  · exact vis_num g2
  · rcases List.mem_cons.1 hy with rfl | hy
    · exact vis_joinB (vis_one (by decide)) fun z hz => by
        obtain ⟨n, hn, rfl⟩ := List.mem_map.1 hz
        exact vis_num (g1.2 n hn).1
    · exact vis_rule (h.2.2 y hy)
theorem num_inj {m : Nat} {n : Int} (h0 : 0 ≤ n) (h : num (m : Int) = num n) : (m : Int) = n := by
  obtain ⟨k, rfl⟩ : ∃ k : Nat, n = k := ⟨n.toNat, by omega⟩
  have := num_val m
  rw [h, num_val] at this
  rw [this]
/-- A text tells of at most one place. -/
theorem plT_inj {x y : Place} (hx : placeOk x) (hy : placeOk y) (h : plT x = plT y) : x = y := by
  have e := cut_plT hx
  rw [h, cut_plT hy] at e
  obtain ⟨x1, x2, x3⟩ := x
  obtain ⟨y1, y2, y3⟩ := y
  have sx := placeOk_small hx
  have sy := placeOk_small hy
  injection e with e1 e2
  injection e2 with e2 e3
  have nx := placeOk_bs hx
  have ny := placeOk_bs hy
  dsimp only at e1 e2 e3 sx sy nx ny
  have h1 : x1 = y1 := by
    obtain ⟨k, rfl⟩ : ∃ k : Nat, y1 = k := ⟨y1.toNat, by omega⟩
    exact (num_inj sx.2.1 e1).symm
  have e4 := cut_listT sx.1 nx
  rw [← e2, cut_listT sy.1 ny] at e4
  have h2 : x2 = y2 := by
    have key : ∀ (a b : List Int), (∀ n ∈ a, 0 ≤ n) → (∀ n ∈ b, 0 ≤ n) → a.map num = b.map num → a = b := by
      intro a
      induction a with
      | nil => intro b _ _ e; cases b with | nil => rfl | cons => cases e
      | cons n a ih =>
        intro b ha hb e
        cases b with
        | nil => cases e
        | cons m b =>
          rw [List.map_cons, List.map_cons] at e
          injection e with e1 e2
          obtain ⟨k, rfl⟩ : ∃ k : Nat, n = k := ⟨n.toNat, by have := ha n List.mem_cons_self; omega⟩
          rw [num_inj (hb m List.mem_cons_self) e1, ih b (fun z hz => ha z (List.mem_cons_of_mem _ hz)) (fun z hz => hb z (List.mem_cons_of_mem _ hz)) e2]
    exact (key _ _ (fun n hn => (sy.1.2 n hn).1) (fun n hn => (sx.1.2 n hn).1) e4).symm
  rw [h1, h2, e3]
end Go.Proofs.YtjefkdhecccfpaaDoor.Vc
end
section
/- Part DC: the reference text of a deed. -/
namespace Go.Proofs.YtjefkdhecccfpaaDoor.Vc
open Go.Proofs
theorem containsAny_eq (chars : List UInt8) : ∀ l : List UInt8, Lib.containsAny l chars = l.any chars.contains
  | [] => rfl
  | b :: l => by
    have ih' : 0 ≤ Lib.indexAny l chars ↔ l.any chars.contains = true := by rw [← containsAny_eq chars l]; simp [Lib.containsAny]
    have hg := Lib.indexAny_ge chars l
    rw [Bool.eq_iff_iff, List.any_cons, Bool.or_eq_true, ← ih']
    show decide (0 ≤ Lib.indexAny (b :: l) chars) = true ↔ _
    rw [decide_eq_true_eq, Lib.indexAny]
    split
    · rename_i e; exact ⟨fun _ => Or.inl e, fun _ => Int.le_refl 0⟩
    · rename_i e
      simp only [beq_iff_eq]
      have e' : ¬ chars.contains b = true := e
      split
      · rename_i e1; rw [e1]; exact ⟨fun h => absurd h (by decide), fun h => h.elim (fun h => absurd h e') id⟩
      · constructor
        · intro _; right; omega
        · rintro (h | h)
          · exact absurd h e'
          · omega
end Go.Proofs.YtjefkdhecccfpaaDoor.Vc
end
section
/- Part DD: the laws on the texts of deeds and journals. -/
namespace Go.Proofs.YtjefkdhecccfpaaDoor.Vc
open Go.Proofs
set_option maxRecDepth 10000
set_option maxHeartbeats 4000000
end Go.Proofs.YtjefkdhecccfpaaDoor.Vc
end
section
/- Part DE: the law on the texts of journals. -/
namespace Go.Proofs.YtjefkdhecccfpaaDoor.Vc
open Go.Proofs
set_option maxRecDepth 10000
set_option maxHeartbeats 4000000
abbrev slD (l : List Dd) : AV := .sl 4 l.length fun i => encD (l.getD i default)
def wsum (l : List Dd) : Nat → Nat
  | 0 => 0
  | i + 1 => wsum l i + (l.getD i default).words.size
end Go.Proofs.YtjefkdhecccfpaaDoor.Vc
end
section
/- Part DF: the texts of journals. -/
namespace Go.Proofs.YtjefkdhecccfpaaDoor.Vc
open Go.Proofs
set_option maxRecDepth 10000
set_option maxHeartbeats 4000000
def jOk (l : List Dd) : Prop := l.length + wsum l l.length ≤ 1048576
end Go.Proofs.YtjefkdhecccfpaaDoor.Vc
end
section
/- Part XA: deeds and journals that are read: the plain law. -/
namespace Go.Proofs.YtjefkdhecccfpaaDoor.Vc
open Go.Proofs
set_option maxRecDepth 10000
set_option maxHeartbeats 4000000
/-! ### Deeds that have a text -/
def kindB (k : Int) : ByteArray := if k = 0 then ⟨#[98, 111, 100, 121]⟩ else if k = 1 then ⟨#[114, 117, 108, 101]⟩ else if k = 2 then ⟨#[97, 109, 101, 110, 100]⟩ else if k = 3 then ⟨#[100, 114, 111, 112]⟩ else ⟨#[98, 97, 99, 107]⟩
def numsOf (x : Dd) : List Int := if x.kind = 0 then [x.a] else if x.kind = 2 ∨ x.kind = 3 then [x.a, x.b] else []
def wordsOf (x : Dd) : List ByteArray := if x.words = ⟨#[]⟩ then [] else [x.words]
structure okDd (x : Dd) : Prop where
  a : 0 ≤ x.a ∧ x.a ≤ 99
  b : 0 ≤ x.b ∧ x.b ≤ 99
  k : (x.kind = 0 ∧ x.b = 0 ∧ x.words = ⟨#[]⟩) ∨ (x.kind = 1 ∧ x.a = 0 ∧ x.b = 0 ∧ plainW x.words = true) ∨ (x.kind = 2 ∧ plainW x.words = true) ∨ (x.kind = 3 ∧ x.words = ⟨#[]⟩) ∨ (x.kind = 4 ∧ x.a = 0 ∧ x.b = 0 ∧ x.words = ⟨#[]⟩)
theorem plainW_no {w : ByteArray} (h : plainW w = true) : w ≠ ⟨#[]⟩ ∧ (32 : UInt8) ∉ w.data.toList ∧ (10 : UInt8) ∉ w.data.toList := by
  unfold plainW spc at h
  rw [containsAny_eq] at h
  simp only [Bool.and_eq_true, decide_eq_true_eq, Bool.not_eq_true', List.any_eq_false] at h
  exact ⟨h.1, fun q => h.2 32 q rfl, fun q => h.2 10 q rfl⟩
theorem joinB_three (x y z sep : ByteArray) : joinB [x, y, z] sep = x ++ sep ++ y ++ sep ++ z := by
  have := joinB_app (l := [x, y]) (x := z) (sep := sep) (by simp)
  rwa [joinB_two] at this
theorem joinB_four (x y z u sep : ByteArray) : joinB [x, y, z, u] sep = x ++ sep ++ y ++ sep ++ z ++ sep ++ u := by
  have := joinB_app (l := [x, y, z]) (x := u) (sep := sep) (by simp)
  rwa [joinB_three] at this
theorem deedT_ok {x : Dd} (h : okDd x) : deedT x = joinB (kindB x.kind :: ((numsOf x).map num ++ wordsOf x)) space := by
  obtain ⟨k, a, b, w⟩ := x
  obtain ⟨ha, hb, hk⟩ := h
  dsimp only at ha hb hk
  unfold deedT
  dsimp only
  rw [if_neg (by omega)]
  rcases hk with ⟨rfl, rfl, rfl⟩ | ⟨rfl, rfl, rfl, hw⟩ | ⟨rfl, hw⟩ | ⟨rfl, rfl⟩ | ⟨rfl, rfl, rfl, rfl⟩
  · rw [if_pos ⟨rfl, rfl, rfl⟩]
    show (⟨#[98, 111, 100, 121, 32]⟩ ++ num a : ByteArray) = joinB [kindB 0, num a] space
    rw [joinB_two, show kindB 0 ++ space = ⟨#[98, 111, 100, 121, 32]⟩ from rfl]
  · have := (plainW_no hw).1
    rw [if_neg (by omega), if_pos ⟨rfl, rfl, rfl, hw⟩]
    unfold wordsOf
    rw [if_neg this]
    show (⟨#[114, 117, 108, 101, 32]⟩ ++ w : ByteArray) = joinB [kindB 1, w] space
    rw [joinB_two, show kindB 1 ++ space = ⟨#[114, 117, 108, 101, 32]⟩ from rfl]
  · have := (plainW_no hw).1
    rw [if_neg (by omega), if_neg (by omega), if_pos ⟨rfl, hw⟩]
    unfold wordsOf
    rw [if_neg this]
    show (⟨#[97, 109, 101, 110, 100, 32]⟩ ++ num a ++ ⟨#[32]⟩ ++ num b ++ ⟨#[32]⟩ ++ w : ByteArray) = joinB [kindB 2, num a, num b, w] space
    rw [joinB_four, show kindB 2 ++ space = ⟨#[97, 109, 101, 110, 100, 32]⟩ from rfl]
    rfl
  · rw [if_neg (by omega), if_neg (by omega), if_neg (by omega), if_pos ⟨rfl, rfl⟩]
    show (⟨#[100, 114, 111, 112, 32]⟩ ++ num a ++ ⟨#[32]⟩ ++ num b : ByteArray) = joinB [kindB 3, num a, num b] space
    rw [joinB_three, show kindB 3 ++ space = ⟨#[100, 114, 111, 112, 32]⟩ from rfl]
    rfl
  · rw [if_neg (by omega), if_neg (by omega), if_neg (by omega), if_neg (by omega), if_pos ⟨rfl, rfl, rfl, rfl⟩]
    rfl
theorem deedT_no {x : Dd} (h : ¬ okDd x) : deedT x = ⟨#[]⟩ := by
  unfold deedT
  split
  · rfl
  · rename_i hr
    have ha : 0 ≤ x.a ∧ x.a ≤ 99 := by omega
    have hb : 0 ≤ x.b ∧ x.b ≤ 99 := by omega
    rw [if_neg fun q => h ⟨ha, hb, .inl q⟩, if_neg fun q => h ⟨ha, hb, .inr (.inl q)⟩, if_neg fun q => h ⟨ha, hb, .inr (.inr (.inl q))⟩, if_neg fun q => h ⟨ha, hb, .inr (.inr (.inr (.inl q)))⟩, if_neg fun q => h ⟨ha, hb, .inr (.inr (.inr (.inr q)))⟩]
theorem kindB_no (k : Int) : (32 : UInt8) ∉ (kindB k).data.toList ∧ (10 : UInt8) ∉ (kindB k).data.toList ∧ (kindB k).size ≠ 0 := by
  unfold kindB
  (repeat' split) <;> decide
theorem num_no32 {n : Int} (h : 0 ≤ n) : (32 : UInt8) ∉ (num n).data.toList ∧ (10 : UInt8) ∉ (num n).data.toList := ⟨vis_no (vis_num h) (by decide), vis_no (vis_num h) (by decide)⟩
theorem numsOf_mem {x : Dd} (h : okDd x) : ∀ n ∈ numsOf x, 0 ≤ n ∧ n ≤ 99 := by
  unfold numsOf
  intro n hn
  split at hn
  · rw [List.mem_singleton.1 hn]; exact h.a
  · split at hn
    · rcases List.mem_cons.1 hn with rfl | hn
      · exact h.a
      · rw [List.mem_singleton.1 hn]; exact h.b
    · cases hn
theorem okDd_plain {x : Dd} (h : okDd x) : x.words = ⟨#[]⟩ ∨ plainW x.words = true := by
  rcases h.k with q | q | q | q | q
  · exact .inl q.2.2
  · exact .inr q.2.2.2
  · exact .inr q.2
  · exact .inl q.2
  · exact .inl q.2.2.2
theorem parts_no {x : Dd} (h : okDd x) : ∀ y ∈ kindB x.kind :: ((numsOf x).map num ++ wordsOf x), (32 : UInt8) ∉ y.data.toList ∧ (10 : UInt8) ∉ y.data.toList := by
  intro y hy
  rcases List.mem_cons.1 hy with rfl | hy
  · exact ⟨(kindB_no _).1, (kindB_no _).2.1⟩
  · rcases List.mem_append.1 hy with hy | hy
    · obtain ⟨n, hn, rfl⟩ := List.mem_map.1 hy
      exact num_no32 (numsOf_mem h n hn).1
    · unfold wordsOf at hy
      split at hy
      · cases hy
      · rename_i hw
        rw [List.mem_singleton.1 hy]
        have := plainW_no ((okDd_plain h).resolve_left hw)
        exact this.2
theorem cut_deed {x : Dd} (h : okDd x) : cutB (deedT x) 32 = kindB x.kind :: ((numsOf x).map num ++ wordsOf x) := by
  rw [deedT_ok h]
  exact joinB_cut (c := 32) (List.cons_ne_nil _ _) fun y hy => (parts_no h y hy).1
theorem mem_join {b : UInt8} {s : List UInt8} : ∀ (l : List (List UInt8)), b ∈ Lib.join l s → b ∈ s ∨ ∃ x ∈ l, b ∈ x := by
  intro l
  induction l with
  | nil => intro q; cases q
  | cons x l ih =>
    cases l with
    | nil => rw [Lib.join_one]; exact fun q => .inr ⟨x, List.mem_cons_self, q⟩
    | cons y r =>
      have e : Lib.join (x :: y :: r) s = x ++ (s ++ Lib.join (y :: r) s) := by
        unfold Lib.join List.intercalate
        rw [List.intersperse_cons_cons, List.flatten_cons, List.flatten_cons]
      rw [e]
      intro q
      rcases List.mem_append.1 q with q | q
      · exact .inr ⟨x, List.mem_cons_self, q⟩
      · rcases List.mem_append.1 q with q | q
        · exact .inl q
        · exact (ih q).imp id fun ⟨z, hz, hq⟩ => ⟨z, List.mem_cons_of_mem _ hz, hq⟩
theorem deed_nl (x : Dd) : (10 : UInt8) ∉ (deedT x).data.toList := by
  by_cases h : okDd x
  · rw [deedT_ok h]
    intro q
    have q' : (10 : UInt8) ∈ Lib.join ((kindB x.kind :: ((numsOf x).map num ++ wordsOf x)).map (·.data.toList)) space.data.toList := q
    rcases mem_join _ q' with q | ⟨y, hy, q⟩
    · have : (10 : UInt8) ∉ space.data.toList := by decide
      exact this q
    · obtain ⟨z, hz, rfl⟩ := List.mem_map.1 hy
      exact (parts_no h z hz).2 q
  · rw [deedT_no h]
    intro q
    cases q
theorem kindB_inj {j k : Int} (hj : 0 ≤ j ∧ j ≤ 4) (hk : 0 ≤ k ∧ k ≤ 4) (h : kindB j = kindB k) : j = k := by
  rcases (show j = 0 ∨ j = 1 ∨ j = 2 ∨ j = 3 ∨ j = 4 by omega) with rfl | rfl | rfl | rfl | rfl <;> rcases (show k = 0 ∨ k = 1 ∨ k = 2 ∨ k = 3 ∨ k = 4 by omega) with rfl | rfl | rfl | rfl | rfl <;> first | rfl | exact absurd h (by decide)
theorem okDd_kind {x : Dd} (h : okDd x) : 0 ≤ x.kind ∧ x.kind ≤ 4 := by
  rcases h.k with q | q | q | q | q <;> omega
theorem num_inj' {m n : Int} (hm : 0 ≤ m) (hn : 0 ≤ n) (h : num m = num n) : m = n := by
  obtain ⟨k, rfl⟩ : ∃ k : Nat, m = k := ⟨m.toNat, by omega⟩
  exact num_inj hn h
theorem deed_inj {x y : Dd} (hx : okDd x) (hy : okDd y) (h : deedT x = deedT y) : x = y := by
  have e := cut_deed hx
  rw [h, cut_deed hy] at e
  injection e with e1 e2
  have e1 := kindB_inj (okDd_kind hy) (okDd_kind hx) e1
  have kx := hx.k
  have ky := hy.k
  have ax := hx.a
  have ay := hy.a
  have bx := hx.b
  have by' := hy.b
  obtain ⟨k, a, b, w⟩ := x
  obtain ⟨k', a', b', w'⟩ := y
  dsimp only at e1 kx ky ax ay bx by' e2
  subst e1
  have pw : ∀ {w : ByteArray}, plainW w = true → wordsOf ⟨k', a, b, w⟩ = [w] := fun h => if_neg (plainW_no h).1
  have pw' : ∀ {w : ByteArray}, plainW w = true → wordsOf ⟨k', a', b', w⟩ = [w] := fun h => if_neg (plainW_no h).1
  rcases kx with ⟨rfl, q1, q2⟩ | ⟨rfl, q1, q2, q3⟩ | ⟨rfl, q1⟩ | ⟨rfl, q1⟩ | ⟨rfl, q1, q2, q3⟩
  · rcases ky with ⟨_, r1, r2⟩ | ⟨r, _⟩ | ⟨r, _⟩ | ⟨r, _⟩ | ⟨r, _⟩ <;> first | exact absurd r (by decide) | skip
    subst q1 q2 r1 r2
    have e3 : [num a'] = [num a] := e2
    injection e3 with e3 _
    rw [num_inj' ax.1 ay.1 e3.symm]
  · rcases ky with ⟨r, _⟩ | ⟨_, r1, r2, r3⟩ | ⟨r, _⟩ | ⟨r, _⟩ | ⟨r, _⟩ <;> first | exact absurd r (by decide) | skip
    subst q1 q2 r1 r2
    rw [pw q3, pw' r3] at e2
    have e3 : [w'] = [w] := e2
    injection e3 with e3 _
    rw [e3]
  · rcases ky with ⟨r, _⟩ | ⟨r, _⟩ | ⟨_, r1⟩ | ⟨r, _⟩ | ⟨r, _⟩ <;> first | exact absurd r (by decide) | skip
    rw [pw q1, pw' r1] at e2
    have e3 : [num a', num b', w'] = [num a, num b, w] := e2
    injection e3 with e3 e4
    injection e4 with e4 e5
    injection e5 with e5 _
    rw [num_inj' ax.1 ay.1 e3.symm, num_inj' bx.1 by'.1 e4.symm, e5]
  · rcases ky with ⟨r, _⟩ | ⟨r, _⟩ | ⟨r, _⟩ | ⟨_, r1⟩ | ⟨r, _⟩ <;> first | exact absurd r (by decide) | skip
    subst q1 r1
    have e3 : [num a', num b'] = [num a, num b] := e2
    injection e3 with e3 e4
    injection e4 with e4 _
    rw [num_inj' ax.1 ay.1 e3.symm, num_inj' bx.1 by'.1 e4.symm]
  · rcases ky with ⟨r, _⟩ | ⟨r, _⟩ | ⟨r, _⟩ | ⟨r, _⟩ | ⟨_, r1, r2, r3⟩ <;> first | exact absurd r (by decide) | skip
    subst q1 q2 q3 r1 r2 r3
    rfl
/-! ### What a text tells -/
def isDd (s : ByteArray) (x : Dd) : Prop := okDd x ∧ deedT x = s
def ddPost (s : ByteArray) (K : AV → Prop) : Prop := (∀ x, isDd s x → K (.tup [ded x, .bool true])) ∧ ((¬ ∃ x, isDd s x) → K (.tup [ded default, .bool false]))
theorem ddPost.mono {s : ByteArray} {K K2 : AV → Prop} (hk : ∀ r, K r → K2 r) (h : ddPost s K) : ddPost s K2 := ⟨fun x q => hk _ (h.1 x q), fun q => hk _ (h.2 q)⟩
/-! ### Journals -/
def lineL (x : Dd) : List UInt8 := (deedT x).data.toList ++ [10]
def jl : List Dd → List UInt8
  | [] => []
  | x :: l => lineL x ++ jl l
theorem jl_app (l m : List Dd) : jl (l ++ m) = jl l ++ jl m := by
  induction l with
  | nil => rfl
  | cons x l ih => show lineL x ++ jl (l ++ m) = lineL x ++ jl l ++ jl m; rw [ih, List.append_assoc]
theorem jl_one (x : Dd) : jl [x] = lineL x := List.append_nil _
structure isJr (s : List UInt8) (l : List Dd) (r : List UInt8) : Prop where
  ok : ∀ x ∈ l, okDd x
  eq : s = jl l ++ r
  stop : ∀ x t, okDd x → r ≠ lineL x ++ t
theorem first_inj {c : UInt8} : ∀ {p q t u : List UInt8}, c ∉ p → c ∉ q → p ++ c :: t = q ++ c :: u → p = q ∧ t = u
  | [], [], t, u, _, _, h => ⟨rfl, by injection h⟩
  | [], b :: q, t, u, _, hq, h => by
    injection h with h1 _
    exact absurd (h1 ▸ List.mem_cons_self) hq
  | a :: p, [], t, u, hp, _, h => by
    injection h with h1 _
    exact absurd (h1 ▸ List.mem_cons_self) hp
  | a :: p, b :: q, t, u, hp, hq, h => by
    injection h with h1 h2
    obtain ⟨e1, e2⟩ := first_inj (fun k => hp (List.mem_cons_of_mem _ k)) (fun k => hq (List.mem_cons_of_mem _ k)) h2
    exact ⟨by rw [h1, e1], e2⟩
theorem bytes_inj {s t : ByteArray} (h : s.data.toList = t.data.toList) : s = t := ByteArray.ext (Array.toList_inj.1 h)
theorem line_inj {x y : Dd} {t u : List UInt8} (hx : okDd x) (hy : okDd y) (h : lineL x ++ t = lineL y ++ u) : x = y ∧ t = u := by
  unfold lineL at h
  rw [List.append_assoc, List.append_assoc] at h
  obtain ⟨e1, e2⟩ := first_inj (deed_nl x) (deed_nl y) h
  exact ⟨deed_inj hx hy (bytes_inj e1), e2⟩
theorem isJr.cons {s : List UInt8} {l : List Dd} {r : List UInt8} {x : Dd} (hx : okDd x) (h : isJr s l r) : isJr (lineL x ++ s) (x :: l) r :=
  ⟨fun y hy => (List.mem_cons.1 hy).elim (fun e => e ▸ hx) (h.ok y), by rw [h.eq]; exact (List.append_assoc ..).symm, h.stop⟩
theorem isJr.tail {s : List UInt8} {l : List Dd} {r : List UInt8} {x : Dd} (h : isJr (lineL x ++ s) (x :: l) r) : isJr s l r :=
  ⟨fun y hy => h.ok y (List.mem_cons_of_mem _ hy), by
    have := h.eq
    rw [show jl (x :: l) = lineL x ++ jl l from rfl, List.append_assoc] at this
    exact List.append_cancel_left this, h.stop⟩
theorem isJr_one : ∀ {l m : List Dd} {s r t : List UInt8}, isJr s l r → isJr s m t → l = m ∧ r = t
  | [], [], s, r, t, h, g => ⟨rfl, by have := h.eq; rw [g.eq] at this; exact this.symm⟩
  | [], y :: m, s, r, t, h, g => by
    have e : r = lineL y ++ (jl m ++ t) := by
      have := h.eq
      rw [g.eq] at this
      exact this.symm.trans (List.append_assoc ..)
    exact absurd e (h.stop y _ (g.ok y List.mem_cons_self))
  | x :: l, [], s, r, t, h, g => by
    have e : t = lineL x ++ (jl l ++ r) := by
      have := g.eq
      rw [h.eq] at this
      exact this.symm.trans (List.append_assoc ..)
    exact absurd e (g.stop x _ (h.ok x List.mem_cons_self))
  | x :: l, y :: m, s, r, t, h, g => by
    have e : lineL x ++ (jl l ++ r) = lineL y ++ (jl m ++ t) := by
      have := h.eq
      rw [g.eq] at this
      exact (List.append_assoc ..).symm.trans (this.symm.trans (List.append_assoc ..))
    obtain ⟨rfl, e2⟩ := line_inj (h.ok x List.mem_cons_self) (g.ok y List.mem_cons_self) e
    have h' : isJr (jl l ++ r) l r := ⟨fun z hz => h.ok z (List.mem_cons_of_mem _ hz), rfl, h.stop⟩
    have g' : isJr (jl l ++ r) m t := ⟨fun z hz => g.ok z (List.mem_cons_of_mem _ hz), e2, g.stop⟩
    obtain ⟨rfl, rfl⟩ := isJr_one h' g'
    exact ⟨rfl, rfl⟩
theorem isJr_ex : ∀ (n : Nat) (s : List UInt8), s.length ≤ n → ∃ l r, isJr s l r
  | n, s, hn => by
    by_cases h : ∃ x t, okDd x ∧ s = lineL x ++ t
    · obtain ⟨x, t, hx, rfl⟩ := h
      cases n with
      | zero => simp [lineL] at hn
      | succ n =>
        obtain ⟨l, r, g⟩ := isJr_ex n t (by simp [lineL] at hn; omega)
        exact ⟨x :: l, r, g.cons hx⟩
    · exact ⟨[], s, fun _ q => (by cases q), rfl, fun x t hx e => h ⟨x, t, hx, e⟩⟩
theorem jr_has (s : ByteArray) : ∃ l r, isJr s.data.toList l r := isJr_ex _ _ (Nat.le_refl _)
/-- The deeds that are read from a text; how many bytes they have. -/
noncomputable def jr (s : ByteArray) : List Dd := Classical.choose (jr_has s)
noncomputable def jn (s : ByteArray) : Nat := (jl (jr s)).length
theorem jr_spec (s : ByteArray) : ∃ r, isJr s.data.toList (jr s) r := Classical.choose_spec (jr_has s)
theorem jr_of {s : ByteArray} {l : List Dd} {r : List UInt8} (h : isJr s.data.toList l r) : jr s = l ∧ jn s = (jl l).length := by
  obtain ⟨t, ht⟩ := jr_spec s
  obtain ⟨e, _⟩ := isJr_one ht h
  exact ⟨e, by unfold jn; rw [e]⟩
theorem line_len (x : Dd) : (lineL x).length = (deedT x).size + 1 := by
  unfold lineL
  rw [List.length_append, Array.length_toList]
  rfl
end Go.Proofs.YtjefkdhecccfpaaDoor.Vc
end
section
/- Part XB: deeds at a desk, one after the other: the plain law. -/
namespace Go.Proofs.YtjefkdhecccfpaaDoor.Vc
open Go.Proofs
set_option maxRecDepth 10000
set_option maxHeartbeats 4000000
theorem pushP_mem {l : List Place} {x : Place} : ∀ p ∈ pushP l x, p ∈ l ∨ p = x := by
  unfold pushP
  intro p hp
  split at hp
  · exact (List.mem_append.1 (List.mem_of_mem_drop hp)).imp id fun h => List.mem_singleton.1 h
  · exact (List.mem_append.1 hp).imp id fun h => List.mem_singleton.1 h
theorem pushP_len {l : List Place} {x : Place} (h : l.length ≤ 8) : (pushP l x).length ≤ 8 := by
  unfold pushP
  split
  · rw [List.length_drop, List.length_append]
    show l.length + 1 - 1 ≤ 8
    omega
  · omega
theorem doD_ok {d e : Desk} {a : Dd} (hO : deskOk d) (he : doD d a = some e) : deskOk e := by
  unfold doD at he
  split at he
  · rename_i g
    cases he
    have m : d.past.getD (d.past.length - 1) default ∈ d.past := getD_mem' (by omega)
    refine ⟨hO.2.2 _ m, ?_, fun p hp => hO.2.2 p (List.mem_of_mem_take hp)⟩
    have := hO.2.1
    dsimp only
    rw [List.length_take]
    omega
  · split at he
    · rename_i g
      cases he
      exact ⟨g.1, pushP_len hO.2.1, fun p hp => (pushP_mem p hp).elim (hO.2.2 p) fun k => k ▸ hO.1⟩
    · cases he
/-- A desk after deeds, and how many could be done. -/
noncomputable def runD (d : Desk) : List Dd → Desk × Nat
  | [] => (d, 0)
  | a :: l => match doD d a with
    | some e => ((runD e l).1, (runD e l).2 + 1)
    | none => runD d l
theorem runD_app (d : Desk) (l m : List Dd) : runD d (l ++ m) = ((runD (runD d l).1 m).1, (runD d l).2 + (runD (runD d l).1 m).2) := by
  induction l generalizing d with
  | nil => exact Prod.ext rfl (Nat.zero_add _).symm
  | cons a l ih =>
    rw [List.cons_append]
    simp only [runD]
    cases h : doD d a with
    | none => exact ih d
    | some e =>
      simp only [ih e]
      exact Prod.ext rfl (by dsimp only; omega)
theorem runD_one (d : Desk) (a : Dd) : runD d [a] = match doD d a with
    | some e => (e, 1)
    | none => (d, 0) := by
  simp only [runD]
theorem runD_some {d e : Desk} {l : List Dd} {a : Dd} (h : doD (runD d l).1 a = some e) : runD d (l ++ [a]) = (e, (runD d l).2 + 1) := by
  rw [runD_app, runD_one, h]
theorem runD_none {d : Desk} {l : List Dd} {a : Dd} (h : doD (runD d l).1 a = none) : runD d (l ++ [a]) = runD d l := by
  rw [runD_app, runD_one, h]
  rfl
theorem runD_ok {d : Desk} (h : deskOk d) : ∀ l : List Dd, deskOk (runD d l).1
  | [] => h
  | a :: l => by
    simp only [runD]
    cases e : doD d a with
    | none => exact runD_ok h l
    | some x => exact runD_ok (doD_ok h e) l
theorem runD_le (d : Desk) : ∀ l : List Dd, (runD d l).2 ≤ l.length
  | [] => Nat.le_refl _
  | a :: l => by
    simp only [runD]
    cases e : doD d a with
    | none => have := runD_le d l; simp only [List.length_cons]; omega
    | some x => have := runD_le x l; simp only [List.length_cons]; omega
theorem take_step {l : List Dd} {i : Nat} (h : i < l.length) : l.take (i + 1) = l.take i ++ [l.getD i default] := take_succ' default h
end Go.Proofs.YtjefkdhecccfpaaDoor.Vc
end
section
/- Part ZC: what a term says, by the program. -/
namespace Go.Proofs.YtjefkdhecccfpaaDoor.Vc
open Go.Proofs
set_option maxRecDepth 10000
set_option maxHeartbeats 4000000
def bl (s : List Bool) (j : Nat) : List AV := [.bool (s.reverse.getD j false)]
theorem push_len {bs : List Int} {c : Int} {m : Mark} {s : List Bool} (hk : m.kind = 0) : (stepS bs c m s).length = s.length + 1 := by
  unfold stepS
  rw [if_pos hk]
  rfl
theorem push_ext {bs : List Int} {c : Int} {m : Mark} {s : List Bool} {g : Nat → List AV} (hk : m.kind = 0) (hg : g 0 = [.bool (cnt bs c m)]) : (stepS bs c m s).length = s.length + 1 ∧ ∀ j, j < (stepS bs c m s).length → bl (stepS bs c m s) j = appF s.length (bl s) g j := by
  unfold stepS
  rw [if_pos hk]
  refine ⟨rfl, fun j hj => ?_⟩
  simp only [List.length_cons] at hj
  unfold appF bl
  rw [List.reverse_cons, List.getD_eq_getElem?_getD, List.getElem?_append]
  cases hb : Nat.blt j s.length with
  | true =>
    have : j < s.length := Nat.le_of_ble_eq_true hb
    rw [if_pos (by simpa using this), ← List.getD_eq_getElem?_getD]
    rfl
  | false =>
    have : ¬ j < s.length := fun h => by
      have : Nat.blt j s.length = true := Nat.ble_eq_true_of_le h
      rw [this] at hb; cases hb
    have : j = s.length := by omega
    subst this
    rw [if_neg (by simp)]
    simp [hg]
theorem rev_a {b a : Bool} {r : List Bool} : (b :: a :: r).reverse.getD r.length false = a := by
  simp [List.getD_eq_getElem?_getD]
theorem rev_b {b a : Bool} {r : List Bool} : (b :: a :: r).reverse.getD (r.length + 1) false = b := by
  simp [List.getD_eq_getElem?_getD]
theorem conn_len {bs : List Int} {c : Int} {m : Mark} {b a : Bool} {r : List Bool} {n : Nat} (hk : m.kind ≠ 0) (hn : n = r.length) : (stepS bs c m (b :: a :: r)).length = n + 1 := by
  subst hn
  unfold stepS
  rw [if_neg hk]
  rfl
theorem conn_ext {bs : List Int} {c : Int} {m : Mark} {b a v : Bool} {r : List Bool} {g : Nat → List AV} {n : Nat} (hk : m.kind ≠ 0) (hv : v = if m.kind = 2 then a || b else a && b) (hn : n = r.length) (hg : g 0 = [.bool v]) : (stepS bs c m (b :: a :: r)).length = n + 1 ∧ (∀ j, j < (stepS bs c m (b :: a :: r)).length → bl (stepS bs c m (b :: a :: r)) j = appF n (bl (b :: a :: r)) g j) := by
  subst hn
  unfold stepS
  rw [if_neg hk]
  dsimp only
  rw [← hv]
  refine ⟨rfl, fun j hj => ?_⟩
  simp only [List.length_cons] at hj
  unfold appF bl
  rw [List.reverse_cons, List.getD_eq_getElem?_getD, List.getElem?_append]
  cases hb : Nat.blt j r.length with
  | true =>
    have h1 : j < r.length := Nat.le_of_ble_eq_true hb
    rw [if_pos (by simpa using h1)]
    simp [List.getD_eq_getElem?_getD, List.getElem?_append, h1]
    try rw [if_pos (by omega)]
  | false =>
    have : ¬ j < r.length := fun h => by
      have : Nat.blt j r.length = true := Nat.ble_eq_true_of_le h
      rw [this] at hb; cases hb
    have : j = r.length := by omega
    subst this
    rw [if_neg (by simp)]
    simp [hg]
def C39 : List AV → (AV → Prop) → Prop := con (X := Sy) (fun x => [house x.p x.bs, slM x.t, .int .i64 x.c]) (fun x => sayOk x ∧ x.t.length ≤ 9) fun x K => K (.bool (says x.bs x.c x.t))
theorem F39 : FF 54 C39 := by
  refine fitE [(89, C50)] (by simp only [List.mem_cons, List.not_mem_nil, or_false]; rintro _ rfl <;> first | exact F50) Tryd.f54 ⟨rfl, by decide +kernel, by decide +kernel⟩ (fun _ _ _ hk h => hk _ h) ?_
  rintro ⟨p, bs, t, c⟩ K ⟨⟨h1, h2, h3, h4, h5⟩, h6⟩ h
  refine ⟨Nat.le_of_ble_eq_true rfl, ?_⟩
  dsimp only at h h1 h2 h3 h4 h5 h6 ⊢
  repeat' ((conv => whnf); first | refine vA ?_ | with_reducible first | refine v8 ?_ | refine Sp.mk ?_ ?_ | refine vS ?_ | refine vR ?_ | refine vB ?_ | refine br_nt ?_ | refine br_tt ?_ | refine br_ff ?_ | refine vP ?_ | refine vQ ?_ | refine vT ?_ | refine vF ?_ | refine br_and ?_ | refine br_or ?_ | refine br_d (fun _ => ?_) fun _ => ?_ | refine vM (fun _ => ?_) fun _ => ?_)
  refine Lp.mk ⟨Nat, fun i => [(2, .int .i64 c), (3, .ptr 0 0), (6, .bool false), (7, .row 1 1 0 (runS bs c (t.take i) []).length), (14, slM t), (15, .int .i64 t.length), (16, .int .i64 i)],
    fun i => [.box [.int .i64 p, slI bs], .row 1 (runS bs c (t.take i) []).length (bl (runS bs c (t.take i) []))], fun i => i ≤ t.length, fun i => t.length - i, ⟨0, Nat.zero_le _, ⟨⟨[some 0, none], [], rfl, rfl, ?_, ?_⟩⟩⟩, ?_⟩
  · repeat' ((conv => whnf); first | with_reducible exact True.intro | exact vW | with_reducible refine And.intro ?_ ?_)
  · repeat' ((conv => whnf); first | with_reducible exact True.intro | exact vW | with_reducible refine And.intro ?_ ?_)
  intro i i1
  obtain ⟨q, hq⟩ := walk_prefix h2 i
  have hl := (runS_frame (bs := bs) (c := c) (t.take i) [] [] q hq).2
  have hql : q ≤ i := by
    have := walkP_le bs _ _ _ hq
    simp only [List.length_take] at this
    omega
  have hst : i < t.length → ∃ q', stepP bs (t.getD i default) q = some q' := fun hi => by
    obtain ⟨q', hq'⟩ := walk_prefix h2 (i + 1)
    rw [walkP_take hi hq] at hq'
    exact ⟨q', hq'⟩
  have hnx : i < t.length → runS bs c (t.take (i + 1)) [] = stepS bs c (t.getD i default) (runS bs c (t.take i) []) := fun hi => by
    rw [take_succ' default hi, runS_app]
    rfl
  have hend : ¬ i < t.length → runS bs c (t.take i) [] = runS bs c t [] := fun hi => by rw [List.take_of_length_le (by omega)]
  dsimp only
  generalize hs : runS bs c (t.take i) [] = s at *
  have hat : i < t.length → (t.getD (i : Int).toNat default).kind = 0 → 0 ≤ (t.getD (i : Int).toNat default).at_ ∧ (t.getD (i : Int).toNat default).at_ < bs.length := fun hi hk => by
    obtain ⟨q', e⟩ := hst hi
    replace hk : (t.getD i default).kind = 0 := hk
    show 0 ≤ (t.getD i default).at_ ∧ (t.getD i default).at_ < bs.length
    unfold stepP at e
    split at e
    · omega
    · rw [if_neg (by omega)] at e; cases e
  have h2s : i < t.length → ¬ (t.getD (i : Int).toNat default).kind = 0 → 2 ≤ s.length := fun hi hk => by
    obtain ⟨q', e⟩ := hst hi
    rcases stepP_kind e with ⟨g, _⟩ | ⟨_, _, g, _⟩
    · exact absurd g hk
    · omega
  repeat' ((conv => whnf); first | refine vA ?_ | with_reducible first | refine v8 ?_ | refine Sp.mk ?_ ?_ | refine vS ?_ | refine vR ?_ | refine vB ?_ | refine br_nt ?_ | refine br_tt ?_ | refine br_ff ?_ | refine vP ?_ | refine vQ ?_ | refine vT ?_ | refine vF ?_ | refine br_and ?_ | refine br_or ?_ | refine br_d (fun _ => ?_) fun _ => ?_ | refine vM (fun _ => ?_) fun _ => ?_)
  · rename_i hi hk
    have hi : i < t.length := by omega
    have hb := hat hi hk
    refine Dr.mk ⟨(.rd 0 (.rd 1 (.rd 2 (.rd 3 (.rd 4 (.rd 5 (.rd 6 (.rd 7 (.rd 8 (.rd 10 (.rd 11 (.ef 9 (.rd 12 (.ef 13 (.ef 14 (.rd 15 .dn) .no) .no)) .no)))))))))))), by decide +kernel, ?_⟩
    repeat' ((conv => whnf); first | refine vA ?_ | with_reducible first | refine v8 ?_ | refine Sp.mk ?_ ?_ | refine vS ?_ | refine vR ?_ | refine vB ?_ | refine br_nt ?_ | refine br_tt ?_ | refine br_ff ?_ | refine vP ?_ | refine vQ ?_ | refine vT ?_ | refine vF ?_ | refine br_and ?_ | refine br_or ?_ | refine br_d (fun _ => ?_) fun _ => ?_ | refine vM (fun _ => ?_) fun _ => ?_)
    have hb2 := h3 _ (getD_mem' (l := bs) (i := (t.getD (i : Int).toNat default).at_.toNat) (d := 0) (by omega))
    have hb3 := band_lt hb2.1 hb2.2 h4 h5
    refine ⟨band (bs.getD (t.getD (i : Int).toNat default).at_.toNat 0) c, ?_, ⟨hb3⟩, ?_⟩
    · repeat' ((conv => whnf); first | with_reducible exact True.intro | exact vW | with_reducible refine And.intro ?_ ?_)
    repeat' ((conv => whnf); first | refine vA ?_ | with_reducible first | refine v8 ?_ | refine Sp.mk ?_ ?_ | refine vS ?_ | refine vR ?_ | refine vB ?_ | refine br_nt ?_ | refine br_tt ?_ | refine br_ff ?_ | refine vP ?_ | refine vQ ?_ | refine vT ?_ | refine vF ?_ | refine br_and ?_ | refine br_or ?_ | refine br_d (fun _ => ?_) fun _ => ?_ | refine vM (fun _ => ?_) fun _ => ?_)
    refine ⟨i + 1, by show i + 1 ≤ t.length; omega, by show t.length - (i + 1) < t.length - i; omega, ⟨⟨[some 0, some 4], [], rfl, rfl, ?_, ?_⟩⟩⟩
    · repeat' ((conv => whnf); first | with_reducible exact True.intro | exact vW | with_reducible refine And.intro ?_ ?_)
      (conv => whnf)
      refine Chk.mk ⟨rfl, ?_⟩
      rw [hnx hi]
      exact push_len hk
    · repeat' ((conv => whnf); first | with_reducible exact True.intro | exact vW | with_reducible refine And.intro ?_ ?_)
      (conv => whnf)
      refine Chk.mk ?_
      rw [hnx hi]
      exact push_ext hk rfl
  · rename_i hi hk
    have hi : i < t.length := by omega
    have hb := h2s hi hk
    replace hk : (t.getD i default).kind ≠ 0 := hk
    match s, hb, hnx with
    | b :: a :: r, hb, hnx =>
      have n2 : (((b :: a :: r).length : Int) - 2).toNat = r.length := by simp only [List.length_cons]; omega
      have n1 : (((b :: a :: r).length : Int) - 1).toNat = r.length + 1 := by simp only [List.length_cons]; omega
      have ea : (b :: a :: r).reverse.getD (0 + (((b :: a :: r).length : Int) - 2).toNat) false = a := by rw [n2, Nat.zero_add]; exact rev_a
      have eb : (b :: a :: r).reverse.getD (0 + (((b :: a :: r).length : Int) - 1).toNat) false = b := by rw [n1, Nat.zero_add]; exact rev_b
      refine Dr.mk ⟨(.rd 0 (.rd 1 (.rd 2 (.rd 3 (.rd 4 (.rd 5 (.rd 6 (.rd 7 (.rd 8 (.rd 9 (.rd 10 (.rd 11 (.rd 12 (.rd 13 .dn)))))))))))))), by decide +kernel, ?_⟩
      repeat' ((conv => whnf); first | refine vA ?_ | with_reducible first | refine v8 ?_ | refine Sp.mk ?_ ?_ | refine vS ?_ | refine vR ?_ | refine vB ?_ | refine br_nt ?_ | refine br_tt ?_ | refine br_ff ?_ | refine vP ?_ | refine vQ ?_ | refine vT ?_ | refine vF ?_ | refine br_and ?_ | refine br_or ?_ | refine br_d (fun _ => ?_) fun _ => ?_ | refine vM (fun _ => ?_) fun _ => ?_)
      all_goals
        rename_i g1 g2
        replace g1 := ea.symm.trans g1
      all_goals
        refine ⟨i + 1, by show i + 1 ≤ t.length; omega, by show t.length - (i + 1) < t.length - i; omega, ⟨⟨[some 0, some 4], [], rfl, rfl, ?_, ?_⟩⟩⟩
        · repeat' ((conv => whnf); first | with_reducible exact True.intro | exact vW | with_reducible refine And.intro ?_ ?_)
          all_goals
            (conv => whnf)
            refine Chk.mk ⟨rfl, ?_⟩
            rw [hnx hi]
            exact conn_len hk n2
        · repeat' ((conv => whnf); first | with_reducible exact True.intro | exact vW | with_reducible refine And.intro ?_ ?_)
          all_goals
            (conv => whnf)
            refine Chk.mk ?_
            rw [hnx hi]
            refine conn_ext hk ?_ n2 rfl
            first
              | (rw [if_pos (show (t.getD i default).kind = 2 from g2)]; first | (rw [g1]; rfl) | (refine eb.trans ?_; rw [g1]; rfl))
              | (rw [if_neg (show ¬ (t.getD i default).kind = 2 from g2)]; first | (rw [g1]; rfl) | (refine eb.trans ?_; rw [g1]; rfl))
  have e := hend (by omega)
  obtain ⟨v, hv⟩ := List.length_eq_one_iff.1 (runS_frame (bs := bs) (c := c) t [] [] 1 h2).2
  rw [hv] at e
  subst e
  have hsay : says bs c t = v := by unfold says; rw [hv]; rfl
  rw [hsay] at h
  repeat' ((conv => whnf); first | refine vA ?_ | with_reducible first | refine v8 ?_ | refine Sp.mk ?_ ?_ | refine vS ?_ | refine vR ?_ | refine vB ?_ | refine br_nt ?_ | refine br_tt ?_ | refine br_ff ?_ | refine vP ?_ | refine vQ ?_ | refine vT ?_ | refine vF ?_ | refine br_and ?_ | refine br_or ?_ | refine br_d (fun _ => ?_) fun _ => ?_ | refine vM (fun _ => ?_) fun _ => ?_)
  exact h
end Go.Proofs.YtjefkdhecccfpaaDoor.Vc
end
section
/- Part XI: slices.Equal, slices.Delete, and what an amendment asks. -/
namespace Go.Proofs.YtjefkdhecccfpaaDoor.Vc
open Go.Proofs Go.RowKit Go.Lib Go.Sort
set_option maxRecDepth 10000
set_option maxHeartbeats 4000000
/-! ### slices.Equal -/
theorem eq_of_getD {α : Type} [Inhabited α] {d : α} {l m : List α} (hl : l.length = m.length) (h : ∀ i, i < l.length → l.getD i d = m.getD i d) : l = m := by
  apply List.ext_getElem hl
  intro i h1 h2
  have := h i h1
  rwa [List.getD_eq_getElem?_getD, List.getD_eq_getElem?_getD, List.getElem?_eq_getElem h1, List.getElem?_eq_getElem h2] at this
def C268 : List AV → (AV → Prop) → Prop := con (X := List Int × List Int) (fun x => [slI x.1, slI x.2]) (fun x => x.1.length < 9223372036854775808) fun x K => K (.bool (decide (x.1 = x.2)))
theorem F268 : FF 107 C268 := by
  refine fitE [] (by simp) Tryd.f107 ⟨rfl, by decide +kernel, by decide +kernel⟩ (fun _ _ _ hk h => hk _ h) ?_
  rintro ⟨l, m⟩ K h1 h
  refine ⟨Nat.le_of_ble_eq_true rfl, ?_⟩
  dsimp only at h h1 ⊢
  by_cases hlen : l.length = m.length
  · repeat' ((conv => whnf); first | refine vA ?_ | with_reducible first | refine v8 ?_ | refine Sp.mk ?_ ?_ | refine vS ?_ | refine vR ?_ | refine vB ?_ | refine br_nt ?_ | refine br_tt ?_ | refine br_ff ?_ | refine vP ?_ | refine vQ ?_ | refine vT ?_ | refine vF ?_ | refine br_and ?_ | refine br_or ?_ | refine br_d (fun _ => ?_) fun _ => ?_ | refine vM (fun _ => ?_) fun _ => ?_)
    refine Lp.mk ⟨Nat, fun i => [(0, slI l), (1, slI m), (12, .int .i64 l.length), (13, .int .i64 i)], fun _ => [], fun i => i ≤ l.length ∧ ∀ j, j < i → l.getD j 0 = m.getD j 0, fun i => l.length - i, ⟨0, ⟨Nat.zero_le _, fun j hj => absurd hj (Nat.not_lt_zero _)⟩, ⟨⟨[], [], rfl, rfl, ?_, ?_⟩⟩⟩, ?_⟩
    · repeat' ((conv => whnf); first | with_reducible exact True.intro | exact vW | with_reducible refine And.intro ?_ ?_)
    · repeat' ((conv => whnf); first | with_reducible exact True.intro | exact vW | with_reducible refine And.intro ?_ ?_)
    rintro i ⟨i1, i2⟩
    dsimp only
    repeat' ((conv => whnf); first | refine vA ?_ | with_reducible first | refine v8 ?_ | refine Sp.mk ?_ ?_ | refine vS ?_ | refine vR ?_ | refine vB ?_ | refine br_nt ?_ | refine br_tt ?_ | refine br_ff ?_ | refine vP ?_ | refine vQ ?_ | refine vT ?_ | refine vF ?_ | refine br_and ?_ | refine br_or ?_ | refine br_d (fun _ => ?_) fun _ => ?_ | refine vM (fun _ => ?_) fun _ => ?_)
    · rename_i hi
      refine Dr.mk ⟨(.rd 0 (.rd 1 (.rd 2 (.rd 3 (.rd 4 (.rd 5 (.rd 6 (.rd 7 (.rd 8 .dn))))))))), by decide +kernel, ?_⟩
      repeat' ((conv => whnf); first | refine vA ?_ | with_reducible first | refine v8 ?_ | refine Sp.mk ?_ ?_ | refine vS ?_ | refine vR ?_ | refine vB ?_ | refine br_nt ?_ | refine br_tt ?_ | refine br_ff ?_ | refine vP ?_ | refine vQ ?_ | refine vT ?_ | refine vF ?_ | refine br_and ?_ | refine br_or ?_ | refine br_d (fun _ => ?_) fun _ => ?_ | refine vM (fun _ => ?_) fun _ => ?_)
      · rename_i he
        replace he : l.getD i 0 = m.getD i 0 := he
        refine ⟨i + 1, ⟨by omega, fun j hj => ?_⟩, by omega, ⟨⟨[], [], rfl, rfl, ?_, ?_⟩⟩⟩
        · by_cases e : j = i
          · subst e; exact he
          · exact i2 j (by omega)
        · repeat' ((conv => whnf); first | with_reducible exact True.intro | exact vW | with_reducible refine And.intro ?_ ?_)
        · repeat' ((conv => whnf); first | with_reducible exact True.intro | exact vW | with_reducible refine And.intro ?_ ?_)
      · rename_i he
        replace he : ¬ l.getD i 0 = m.getD i 0 := he
        exact yesF h fun q => he (by rw [q])
    · rename_i hi
      exact yesT h (eq_of_getD (d := 0) hlen fun j hj => i2 j (by omega))
  · repeat' ((conv => whnf); first | refine vA ?_ | with_reducible first | refine v8 ?_ | refine Sp.mk ?_ ?_ | refine vS ?_ | refine vR ?_ | refine vB ?_ | refine br_nt ?_ | refine br_tt ?_ | refine br_ff ?_ | refine vP ?_ | refine vQ ?_ | refine vT ?_ | refine vF ?_ | refine br_and ?_ | refine br_or ?_ | refine br_d (fun _ => ?_) fun _ => ?_ | refine vM (fun _ => ?_) fun _ => ?_)
    exact yesF h fun q => hlen (by rw [q])
def C269 : List AV → (AV → Prop) → Prop := con (X := List ByteArray × List ByteArray) (fun x => [slS x.1, slS x.2]) (fun x => x.1.length < 9223372036854775808) fun x K => K (.bool (decide (x.1 = x.2)))
theorem F269 : FF 108 C269 := by
  refine fitE [] (by simp) Tryd.f108 ⟨rfl, by decide +kernel, by decide +kernel⟩ (fun _ _ _ hk h => hk _ h) ?_
  rintro ⟨l, m⟩ K h1 h
  refine ⟨Nat.le_of_ble_eq_true rfl, ?_⟩
  dsimp only at h h1 ⊢
  by_cases hlen : l.length = m.length
  · repeat' ((conv => whnf); first | refine vA ?_ | with_reducible first | refine v8 ?_ | refine Sp.mk ?_ ?_ | refine vS ?_ | refine vR ?_ | refine vB ?_ | refine br_nt ?_ | refine br_tt ?_ | refine br_ff ?_ | refine vP ?_ | refine vQ ?_ | refine vT ?_ | refine vF ?_ | refine br_and ?_ | refine br_or ?_ | refine br_d (fun _ => ?_) fun _ => ?_ | refine vM (fun _ => ?_) fun _ => ?_)
    refine Lp.mk ⟨Nat, fun i => [(0, slS l), (1, slS m), (12, .int .i64 l.length), (13, .int .i64 i)], fun _ => [], fun i => i ≤ l.length ∧ ∀ j, j < i → l.getD j ⟨#[]⟩ = m.getD j ⟨#[]⟩, fun i => l.length - i, ⟨0, ⟨Nat.zero_le _, fun j hj => absurd hj (Nat.not_lt_zero _)⟩, ⟨⟨[], [], rfl, rfl, ?_, ?_⟩⟩⟩, ?_⟩
    · repeat' ((conv => whnf); first | with_reducible exact True.intro | exact vW | with_reducible refine And.intro ?_ ?_)
    · repeat' ((conv => whnf); first | with_reducible exact True.intro | exact vW | with_reducible refine And.intro ?_ ?_)
    rintro i ⟨i1, i2⟩
    dsimp only
    repeat' ((conv => whnf); first | refine vA ?_ | with_reducible first | refine v8 ?_ | refine Sp.mk ?_ ?_ | refine vS ?_ | refine vR ?_ | refine vB ?_ | refine br_nt ?_ | refine br_tt ?_ | refine br_ff ?_ | refine vP ?_ | refine vQ ?_ | refine vT ?_ | refine vF ?_ | refine br_and ?_ | refine br_or ?_ | refine br_d (fun _ => ?_) fun _ => ?_ | refine vM (fun _ => ?_) fun _ => ?_)
    · rename_i hi
      refine Dr.mk ⟨(.rd 0 (.rd 1 (.rd 2 (.rd 3 (.rd 4 (.rd 5 (.rd 6 (.rd 7 (.rd 8 .dn))))))))), by decide +kernel, ?_⟩
      repeat' ((conv => whnf); first | refine vA ?_ | with_reducible first | refine v8 ?_ | refine Sp.mk ?_ ?_ | refine vS ?_ | refine vR ?_ | refine vB ?_ | refine br_nt ?_ | refine br_tt ?_ | refine br_ff ?_ | refine vP ?_ | refine vQ ?_ | refine vT ?_ | refine vF ?_ | refine br_and ?_ | refine br_or ?_ | refine br_d (fun _ => ?_) fun _ => ?_ | refine vM (fun _ => ?_) fun _ => ?_)
      · rename_i he
        replace he : l.getD i ⟨#[]⟩ = m.getD i ⟨#[]⟩ := he
        refine ⟨i + 1, ⟨by omega, fun j hj => ?_⟩, by omega, ⟨⟨[], [], rfl, rfl, ?_, ?_⟩⟩⟩
        · by_cases e : j = i
          · subst e; exact he
          · exact i2 j (by omega)
        · repeat' ((conv => whnf); first | with_reducible exact True.intro | exact vW | with_reducible refine And.intro ?_ ?_)
        · repeat' ((conv => whnf); first | with_reducible exact True.intro | exact vW | with_reducible refine And.intro ?_ ?_)
      · rename_i he
        replace he : ¬ l.getD i ⟨#[]⟩ = m.getD i ⟨#[]⟩ := he
        exact yesF h fun q => he (by rw [q])
    · rename_i hi
      exact yesT h (eq_of_getD (d := ⟨#[]⟩) hlen fun j hj => i2 j (by omega))
  · repeat' ((conv => whnf); first | refine vA ?_ | with_reducible first | refine v8 ?_ | refine Sp.mk ?_ ?_ | refine vS ?_ | refine vR ?_ | refine vB ?_ | refine br_nt ?_ | refine br_tt ?_ | refine br_ff ?_ | refine vP ?_ | refine vQ ?_ | refine vT ?_ | refine vF ?_ | refine br_and ?_ | refine br_or ?_ | refine br_d (fun _ => ?_) fun _ => ?_ | refine vM (fun _ => ?_) fun _ => ?_)
    exact yesF h fun q => hlen (by rw [q])
theorem place_eq {p q : Int} {a b : List Int} {r s : List ByteArray} : (⟨p, a, r⟩ : Place) = ⟨q, b, s⟩ ↔ p = q ∧ a = b ∧ r = s := by
  constructor
  · intro h; injection h with h1 h2 h3; exact ⟨h1, h2, h3⟩
  · rintro ⟨rfl, rfl, rfl⟩; rfl
structure Pp where
  x : Place
  y : Place
def C263 : List AV → (AV → Prop) → Prop := con (X := Pp) (fun x => [enPl x.x, enPl x.y]) (fun x => x.x.bs.length < 9223372036854775808 ∧ x.x.rules.length < 9223372036854775808) fun x K => ∀ b : Bool, (b = true ↔ x.x = x.y) → K (.bool b)
theorem F263 : FF 79 C263 := by
  refine fitX [(107, C268), (108, C269)] (by simp only [List.mem_cons, List.not_mem_nil, or_false]; rintro _ (rfl | rfl) <;> first | exact F268 | exact F269) [] (by simp) Tryd.f79 ⟨rfl, by decide +kernel, by decide +kernel⟩ (fun _ _ _ hk h b q => hk _ (h b q)) ?_
  rintro ⟨⟨p, bs, rs⟩, ⟨q, cs, ss⟩⟩ K ⟨h1, h2⟩ h
  refine ⟨Nat.le_of_ble_eq_true rfl, ?_⟩
  dsimp only [enPl, plC] at h h1 h2 ⊢
  repeat' ((conv => whnf); first | refine vA ?_ | with_reducible first | refine v8 ?_ | refine Sp.mk ?_ ?_ | refine vS ?_ | refine vR ?_ | refine vB ?_ | refine br_nt ?_ | refine br_tt ?_ | refine br_ff ?_ | refine vP ?_ | refine vQ ?_ | refine vT ?_ | refine vF ?_ | refine br_and ?_ | refine br_or ?_ | refine br_d (fun _ => ?_) fun _ => ?_ | refine vM (fun _ => ?_) fun _ => ?_)
  · refine ⟨(bs, cs), ?_, ⟨h1⟩, ?_⟩
    · repeat' ((conv => whnf); first | with_reducible exact True.intro | exact vW | with_reducible refine And.intro ?_ ?_)
    dsimp only
    by_cases hb : bs = cs
    · rw [decide_eq_true hb]
      repeat' ((conv => whnf); first | refine vA ?_ | with_reducible first | refine v8 ?_ | refine Sp.mk ?_ ?_ | refine vS ?_ | refine vR ?_ | refine vB ?_ | refine br_nt ?_ | refine br_tt ?_ | refine br_ff ?_ | refine vP ?_ | refine vQ ?_ | refine vT ?_ | refine vF ?_ | refine br_and ?_ | refine br_or ?_ | refine br_d (fun _ => ?_) fun _ => ?_ | refine vM (fun _ => ?_) fun _ => ?_)
      refine ⟨(rs, ss), ?_, ⟨h2⟩, ?_⟩
      · repeat' ((conv => whnf); first | with_reducible exact True.intro | exact vW | with_reducible refine And.intro ?_ ?_)
      repeat' ((conv => whnf); first | refine vA ?_ | with_reducible first | refine v8 ?_ | refine Sp.mk ?_ ?_ | refine vS ?_ | refine vR ?_ | refine vB ?_ | refine br_nt ?_ | refine br_tt ?_ | refine br_ff ?_ | refine vP ?_ | refine vQ ?_ | refine vT ?_ | refine vF ?_ | refine br_and ?_ | refine br_or ?_ | refine br_d (fun _ => ?_) fun _ => ?_ | refine vM (fun _ => ?_) fun _ => ?_)
      exact h _ ⟨fun g => place_eq.2 ⟨by assumption, hb, of_decide_eq_true g⟩, fun g => decide_eq_true (place_eq.1 g).2.2⟩
    · rw [decide_eq_false hb]
      repeat' ((conv => whnf); first | refine vA ?_ | with_reducible first | refine v8 ?_ | refine Sp.mk ?_ ?_ | refine vS ?_ | refine vR ?_ | refine vB ?_ | refine br_nt ?_ | refine br_tt ?_ | refine br_ff ?_ | refine vP ?_ | refine vQ ?_ | refine vT ?_ | refine vF ?_ | refine br_and ?_ | refine br_or ?_ | refine br_d (fun _ => ?_) fun _ => ?_ | refine vM (fun _ => ?_) fun _ => ?_)
      exact h _ ⟨fun g => (by cases g), fun g => absurd (place_eq.1 g).2.1 hb⟩
  · exact h _ ⟨fun g => (by cases g), fun g => absurd (place_eq.1 g).1 (by assumption)⟩
/-! ### slices.Delete -/
theorem strs_map {l : List ByteArray} : Lib.strsOf (fun i => l.getD i ⟨#[]⟩) l.length = l.map (fun (x : ByteArray) => x.data.toList) := by
  unfold Lib.strsOf
  apply List.ext_getElem (by simp)
  intro i h1 h2
  have hi : i < l.length := by simpa using h2
  simp only [List.getElem_map, List.getElem_range]
  rw [List.getD_eq_getElem?_getD, List.getElem?_eq_getElem hi]
  rfl
structure Dl where
  l : List ByteArray
  n : Nat
def C267 : GC := conG (X := Dl) (fun x => [.row 0 1 0 x.l.length, .int .i64 x.n, .int .i64 ((x.n : Int) + 1)]) (fun x => [.row 1 x.l.length fun i => encS (x.l.getD i ⟨#[]⟩)]) (fun x => x.n < x.l.length) fun x K => K (.row 0 1 0 (x.l.length - 1)) [.row 1 (x.l.length - 1) fun i => encS ((x.l.take x.n ++ x.l.drop (x.n + 1)).getD i ⟨#[]⟩)]
theorem F267 : GG 106 C267 := fun Gl hG => by
  refine ⟨FnOk.has ⟨rfl, by decide +kernel, by decide +kernel⟩ (fn := Tryd.f106), fun us og K K' hk ⟨x, h1, h2, h3, h4⟩ => ⟨x, h1, h2, h3, hk _ _ h4⟩, ?_⟩
  rintro us og K ⟨⟨l, n⟩, rfl, rfl, ⟨hn⟩, hK⟩ ρ R w xs hh ha
  dsimp only at hn hK
  obtain ⟨hsz, hx⟩ := ha
  replace hsz : xs.size = 3 := hsz
  have a0 := (hx 0 (by show 0 < 3; omega)).vr rfl
  have a1 := (hx 1 (by show 1 < 3; omega)).vr rfl
  have a2 := (hx 2 (by show 2 < 3; omega)).vr rfl
  have ex : xs = #[xs.getD 0 Go.undef, xs.getD 1 Go.undef, xs.getD 2 Go.undef] := by
    apply Array.ext
    · simpa using hsz
    · intro i h1 h2
      have : i = 0 ∨ i = 1 ∨ i = 2 := by omega
      rcases this with rfl | rfl | rfl <;> simp [h1]
  rw [ex]
  generalize xs.getD 0 Go.undef = x0 at a0
  generalize xs.getD 1 Go.undef = x1 at a1
  generalize xs.getD 2 Go.undef = x2 at a2
  replace a0 : VR ρ R w (.row 0 1 0 l.length) x0 := a0
  replace a1 : VR ρ R w (.int .i64 n) x1 := a1
  replace a2 : VR ρ R w (.int .i64 ((n : Int) + 1)) x2 := a2
  obtain rfl : x1 = .int .i64 n := by cases a1 with | data a1 => cases a1; rfl
  obtain rfl : x2 = .int .i64 ((n : Int) + 1) := by cases a2 with | data a2 => cases a2; rfl
  obtain ⟨b, cs, ty, g1, g2, g3, g4, g5⟩ : ∃ b xs ty, ρ 0 = some b ∧ w.heap[b]? = some (.cells xs ty (0, 0)) ∧ l.length * 1 ≤ xs.size ∧ (∀ i, i < l.length → (encS (l.getD i ⟨#[]⟩)).length = 1) ∧ ∀ i, i < l.length → ∀ j, j < 1 → DR R w ((encS (l.getD i ⟨#[]⟩)).getD j .undef) (xs.getD (i * 1 + j) Go.undef) := by
    rcases hh.obj 0 _ rfl with ⟨q, _⟩ | q
    · have q' : l.length = 0 := q
      omega
    · exact q
  obtain ⟨cap, rfl, hcap⟩ : ∃ cap, x0 = .slice (some ⟨b, 0, none⟩) l.length cap ∧ l.length ≤ cap ∧ cap ≤ cs.size ∧ cap ≤ 9223372036854775807 := by
    generalize hl : l.length = len at a0
    cases a0 with
    | data a0 => cases a0
    | row h1 h2 h3 h4 h5 =>
      rw [g1] at h1
      cases h1
      rw [g2] at h2
      cases h2
      exact ⟨_, by rw [Nat.zero_mul], h3, by omega, h5⟩
    | row0 => rw [hl] at hn; exact absurd hn (Nat.not_lt_zero _)
  have hc : ∀ i, i < l.length → w.cell? ⟨b, 0 + i, none⟩ = some (.string (l.getD i ⟨#[]⟩)) := fun i hi => by
    have h6 := g5 i hi 0 (by decide)
    rw [Nat.mul_one, Nat.add_zero] at h6
    have h7 : DR R w (.str (l.getD i ⟨#[]⟩)) (cs.getD i Go.undef) := h6
    have hics : i < cs.size := by omega
    rw [Array.getD_eq_getD_getElem?, Array.getElem?_eq_getElem hics] at h7
    unfold World.cell?
    rw [Nat.zero_add]
    show (match w.heap[b]? with | some (.cells c _ _) => if (none : Option Nat).isSome then none else c[i]? | _ => none) = _
    rw [g2]
    show cs[i]? = _
    rw [Array.getElem?_eq_getElem hics]
    simp only [Option.getD_some] at h7
    generalize cs[i] = v at h7 ⊢
    cases h7
    rfl
  have hf : ∀ j, j < l.length → w.frozen? ⟨b, 0 + j, none⟩ = false := fun j _ => by
    unfold World.frozen?
    rw [show w.heap[(⟨b, 0 + j, none⟩ : Addr).block]? = some (.cells cs ty (0, 0)) from g2]
    simp
  have hcm : cap ≤ 9223372036854775807 := hcap.2.2
  refine (Tryd.slices_Delete_string_cells b 0 l.length cap n (n + 1) (fun i => l.getD i ⟨#[]⟩) w hcap.1 hcm (Nat.le_succ n) hn hc hf).mono fun e w' he => ?_
  obtain ⟨rfl, q, rfl⟩ := he
  rw [strs_map, show n + 1 - n = 1 by omega, ← List.map_take, ← List.map_drop, ← List.map_append]
  obtain ⟨m, hm⟩ : ∃ m, l.take n ++ l.drop (n + 1) = m := ⟨_, rfl⟩
  have hml : m.length = l.length - 1 := by rw [← hm, List.length_append, List.length_take, List.length_drop]; omega
  rw [hm] at hK ⊢
  obtain ⟨vs, hvs⟩ : ∃ vs, (m.map (fun (x : ByteArray) => x.data.toList) ++ List.replicate 1 []).map encStr = vs := ⟨_, rfl⟩
  have hvl : vs.length = l.length := by rw [← hvs, List.length_map, List.length_append, List.length_map, List.length_replicate]; omega
  have hvg : ∀ j, j < l.length - 1 → vs.getD j Go.undef = .string (m.getD j ⟨#[]⟩) := fun j hj => by
    rw [← hvs, List.getD_eq_getElem?_getD, List.getElem?_map, List.getElem?_append_left (by rw [List.length_map]; omega), List.getElem?_map, List.getD_eq_getElem?_getD, List.getElem?_eq_getElem (by omega)]
    rfl
  obtain ⟨ys, f1, f2, f3, f4, f5, f6, f7, f8⟩ := setCells_facts vs 0 (w := w.drewN q) (b := b) (xs := cs) (ty := ty) g2 (by omega)
  rw [hvs]
  have hsame : ∀ c, c ≠ b → ((w.drewN q).setCells b 0 vs).heap[c]? = w.heap[c]? := f4
  have hobj : OB ρ [.row 1 (l.length - 1) fun i => encS (m.getD i ⟨#[]⟩)] R ((w.drewN q).setCells b 0 vs) 0 (.row 1 (l.length - 1) fun i => encS (m.getD i ⟨#[]⟩)) := .inr ⟨b, ys, ty, g1, f1, by omega, fun _ _ => rfl, fun i hi j hj => by
    obtain rfl : j = 0 := by omega
    rw [Nat.mul_one, Nat.add_zero, f3 i, if_pos (by omega), Nat.sub_zero, hvg i hi]
    exact .str _⟩
  refine ⟨_, _, _, ρ, R, rfl, hK, ⟨fun id b' h => by have := hh.dom id b' h; exact this, fun id b' h => by rw [f5]; exact hh.lt id b' h, hh.inj, fun b' h => ⟨by rw [f5]; exact (hh.ro b' h).1, (hh.ro b' h).2⟩, fun id ob h => ?_, fun p hp => ⟨(hh.gl p hp).1, ?_⟩⟩, ⟨rfl, fun _ => ?_⟩, Nat.le_refl _, ?_⟩
  · match id, h with
    | 0, h => cases h; exact hobj
    | k + 1, h => cases h
  · rw [hsame p.1 fun e => (hh.ro _ (hh.gl p hp).1).2 0 (by rw [g1, e])]
    exact (hh.gl p hp).2
  · have h4 : (0 + cap) * 1 ≤ ys.size := by omega
    have := VR.row (ρ := ρ) (R := R) (w := (w.drewN q).setCells b 0 vs) (id := 0) (sz := 1) (off := 0) (len := l.length - 1) (b := b) (cs := ys) (ty := ty) (cap := cap) g1 f1 (by omega) h4 hcm
    rwa [Nat.zero_mul] at this
  · refine ⟨fun id hid => ?_, fun _ h => h, fun _ h => .inl h, fun id _ h => .inr ⟨id, h⟩, Nat.le_of_eq f5.symm, fun c _ hne => hsame c fun e => hne 0 (e ▸ g1), fun c xs' ty' h => ?_, f6, f7, f8⟩
    · match id, hid with
      | 0, _ => exact ⟨⟨_, _, rfl⟩, rfl⟩
    · by_cases e : c = b
      · subst e
        rw [g2] at h
        cases h
        exact ⟨ys, f1, f2⟩
      · exact ⟨xs', by rw [hsame c e]; exact h, rfl⟩
end Go.Proofs.YtjefkdhecccfpaaDoor.Vc
end
section
/- Part XJ: what a deed makes of a place, by the implementation. -/
namespace Go.Proofs.YtjefkdhecccfpaaDoor.Vc
open Go.Proofs
set_option maxRecDepth 10000
set_option maxHeartbeats 4000000
def C266 : List AV → (AV → Prop) → Prop := con (X := Pc) (fun x => [enPl x.x, .int .i64 x.r, .int .i64 x.c]) (fun x => placeI x.x ∧ placeOk x.x ∧ i64r x.r ∧ i64r x.c) fun x K => K (.bool (consR x.x x.r x.c))
theorem F266 : FF 105 C266 := by
  refine fitE [(53, C54), (51, C176), (54, C39)] (by simp only [List.mem_cons, List.not_mem_nil, or_false]; rintro _ (rfl | rfl | rfl) <;> first | exact F54 | exact F176 | exact F39) Tryd.f105 ⟨rfl, by decide +kernel, by decide +kernel⟩ (fun _ _ _ hk h => hk _ h) ?_
  rintro ⟨⟨p, bs, rs⟩, r, c⟩ K ⟨hI, hO, hr, hc⟩ h
  refine ⟨Nat.le_of_ble_eq_true rfl, ?_⟩
  have hI1 := hI.1
  have hI2 := hI.2.1
  have hI3 := hI.2.2
  have hp := hI.1.1.1
  unfold consR at h
  dsimp only [enPl, plC] at h hr hc hI2 hI3 hp ⊢
  by_cases hin : 0 ≤ r ∧ r < rs.length
  · rw [if_pos hin] at h
    have hr2 : r.toNat < rs.length := by omega
    obtain ⟨t, e'⟩ := bad_term (hO.2.2 _ (getD_mem' (l := rs) (i := r.toNat) (d := ⟨#[]⟩) hr2))
    rw [e'] at h
    dsimp only at h
    obtain ⟨ht, hOt⟩ := rdT_termI hI1 e'
    repeat' ((conv => whnf); first | refine vA ?_ | with_reducible first | refine v8 ?_ | refine Sp.mk ?_ ?_ | refine vS ?_ | refine vR ?_ | refine vB ?_ | refine br_nt ?_ | refine br_tt ?_ | refine br_ff ?_ | refine vP ?_ | refine vQ ?_ | refine vT ?_ | refine vF ?_ | refine br_and ?_ | refine br_or ?_ | refine br_d (fun _ => ?_) fun _ => ?_ | refine vM (fun _ => ?_) fun _ => ?_)
    refine ⟨(p, c), ?_, ⟨hp, hc⟩, ?_⟩
    · repeat' ((conv => whnf); first | with_reducible exact True.intro | exact vW | with_reducible refine And.intro ?_ ?_)
    by_cases hcr : crowd p c
    · rw [decide_eq_true hcr, Bool.true_and] at h
      dsimp only
      rw [decide_eq_true hcr]
      repeat' ((conv => whnf); first | refine vA ?_ | with_reducible first | refine v8 ?_ | refine Sp.mk ?_ ?_ | refine vS ?_ | refine vR ?_ | refine vB ?_ | refine br_nt ?_ | refine br_tt ?_ | refine br_ff ?_ | refine vP ?_ | refine vQ ?_ | refine vT ?_ | refine vF ?_ | refine br_and ?_ | refine br_or ?_ | refine br_d (fun _ => ?_) fun _ => ?_ | refine vM (fun _ => ?_) fun _ => ?_)
      refine Dr.mk ⟨(.rd 0 (.rd 1 (.rd 2 (.rd 3 (.rd 4 (.rd 5 (.rd 6 (.ef 7 (.rd 8 (.rd 9 (.rd 10 (.rd 11 (.rd 12 .dn))))) .no)))))))), by decide +kernel, ?_⟩
      repeat' ((conv => whnf); first | refine vA ?_ | with_reducible first | refine v8 ?_ | refine Sp.mk ?_ ?_ | refine vS ?_ | refine vR ?_ | refine vB ?_ | refine br_nt ?_ | refine br_tt ?_ | refine br_ff ?_ | refine vP ?_ | refine vQ ?_ | refine vT ?_ | refine vF ?_ | refine br_and ?_ | refine br_or ?_ | refine br_d (fun _ => ?_) fun _ => ?_ | refine vM (fun _ => ?_) fun _ => ?_)
      refine ⟨⟨⟨p, bs⟩, rs.getD r.toNat ⟨#[]⟩⟩, ?_, ⟨hI1, getD_len hI3 hr2⟩, ?_⟩
      · repeat' ((conv => whnf); first | with_reducible exact True.intro | exact vW | with_reducible refine And.intro ?_ ?_)
      refine And.intro (fun e => ?_) (fun u e => ?_)
      · rw [show rdT 49 (Place.h ⟨p, bs, rs⟩) (rs.getD r.toNat ⟨#[]⟩) = none from e] at e'
        cases e'
      · rw [show rdT 49 (Place.h ⟨p, bs, rs⟩) (rs.getD r.toNat ⟨#[]⟩) = some u from e] at e'
        cases e'
        repeat' ((conv => whnf); first | refine vA ?_ | with_reducible first | refine v8 ?_ | refine Sp.mk ?_ ?_ | refine vS ?_ | refine vR ?_ | refine vB ?_ | refine br_nt ?_ | refine br_tt ?_ | refine br_ff ?_ | refine vP ?_ | refine vQ ?_ | refine vT ?_ | refine vF ?_ | refine br_and ?_ | refine br_or ?_ | refine br_d (fun _ => ?_) fun _ => ?_ | refine vM (fun _ => ?_) fun _ => ?_)
        refine ⟨⟨p, bs, t, c⟩, ?_, ⟨sayOk_of' hOt hcr, hOt.2.1⟩, ?_⟩
        · repeat' ((conv => whnf); first | with_reducible exact True.intro | exact vW | with_reducible refine And.intro ?_ ?_)
        repeat' ((conv => whnf); first | refine vA ?_ | with_reducible first | refine v8 ?_ | refine Sp.mk ?_ ?_ | refine vS ?_ | refine vR ?_ | refine vB ?_ | refine br_nt ?_ | refine br_tt ?_ | refine br_ff ?_ | refine vP ?_ | refine vQ ?_ | refine vT ?_ | refine vF ?_ | refine br_and ?_ | refine br_or ?_ | refine br_d (fun _ => ?_) fun _ => ?_ | refine vM (fun _ => ?_) fun _ => ?_)
        exact h
    · rw [decide_eq_false hcr, Bool.false_and] at h
      dsimp only
      rw [decide_eq_false hcr]
      repeat' ((conv => whnf); first | refine vA ?_ | with_reducible first | refine v8 ?_ | refine Sp.mk ?_ ?_ | refine vS ?_ | refine vR ?_ | refine vB ?_ | refine br_nt ?_ | refine br_tt ?_ | refine br_ff ?_ | refine vP ?_ | refine vQ ?_ | refine vT ?_ | refine vF ?_ | refine br_and ?_ | refine br_or ?_ | refine br_d (fun _ => ?_) fun _ => ?_ | refine vM (fun _ => ?_) fun _ => ?_)
      exact h
  · rw [if_neg hin] at h
    repeat' ((conv => whnf); first | refine vA ?_ | with_reducible first | refine v8 ?_ | refine Sp.mk ?_ ?_ | refine vS ?_ | refine vR ?_ | refine vB ?_ | refine br_nt ?_ | refine br_tt ?_ | refine br_ff ?_ | refine vP ?_ | refine vQ ?_ | refine vT ?_ | refine vF ?_ | refine br_and ?_ | refine br_or ?_ | refine br_d (fun _ => ?_) fun _ => ?_ | refine vM (fun _ => ?_) fun _ => ?_)
    all_goals exact h
def npPost (x : Pd) (K : AV → Prop) : Prop := ∀ (y : Place) (ok : Bool), (ok = true → y = madeP x.x x.a) → (ok = false → madeP x.x x.a = default) → K (.tup [enPl y, .bool ok])
def C262 : List AV → (AV → Prop) → Prop := con (X := Pd) (fun x => [enPl x.x, ded x.a]) (fun x => placeI x.x ∧ placeOk x.x ∧ dedI x.a) npPost
theorem F262 : FF 78 C262 := by
  refine fitXE [(105, C266)] (by simp only [List.mem_cons, List.not_mem_nil, or_false]; rintro _ rfl; exact F266) [(104, C157g), (106, C267)] (by simp only [List.mem_cons, List.not_mem_nil, or_false]; rintro _ (rfl | rfl) <;> first | exact F157g | exact F267) Tryd.f78 ⟨rfl, by decide +kernel, by decide +kernel⟩ (fun _ _ _ hk h y ok h1 h2 => hk _ (h y ok h1 h2)) ?_
  rintro ⟨⟨p, bs, rs⟩, ⟨k, a, b, w⟩⟩ K ⟨hI, hO, h1, h2, h3, h4⟩ h
  refine ⟨Nat.le_of_ble_eq_true rfl, ?_⟩
  have hs1 : rs.length ≤ 4 := hO.2.1.2
  have hs2 : bs.length ≤ 4 := hO.1.2.1
  unfold npPost at h
  dsimp only [ded, encD, enPl, plC] at h h1 h2 h3 h4 ⊢
  repeat' ((conv => whnf); first | refine vA ?_ | with_reducible first | refine v8 ?_ | refine Sp.mk ?_ ?_ | refine vS ?_ | refine vR ?_ | refine vB ?_ | refine br_nt ?_ | refine br_tt ?_ | refine br_ff ?_ | refine vP ?_ | refine vQ ?_ | refine vT ?_ | refine vF ?_ | refine br_and ?_ | refine br_or ?_ | refine br_d (fun _ => ?_) fun _ => ?_ | refine vM (fun _ => ?_) fun _ => ?_)
  refine ⟨_, _, [], [], rfl, ?_, ?_, ⟨p, bs, rs⟩, rfl, rfl, ⟨by dsimp only; omega, by dsimp only; omega⟩, ?_⟩
  · repeat' ((conv => whnf); first | with_reducible exact True.intro | exact vW | with_reducible refine And.intro ?_ ?_)
  · repeat' ((conv => whnf); first | with_reducible exact True.intro | exact vW | with_reducible refine And.intro ?_ ?_)
  dsimp only [plG, plO]
  have y1 := ext_sym (ext_push (enc := encI) (d := 0) (l := bs) (x := a) (g := fun i => (fun i => [[AV.int .i64 a]].getD i [.int .i64 0]) (0 + i)) rfl)
  have y2 := ext_sym (ext_push (enc := encS) (d := ⟨#[]⟩) (l := rs) (x := w) (g := fun i => (fun i => [[AV.str w]].getD i [.str ⟨#[]⟩]) (0 + i)) rfl)
  repeat' ((conv => whnf); first | refine vA ?_ | with_reducible first | refine v8 ?_ | refine Sp.mk ?_ ?_ | refine vS ?_ | refine vR ?_ | refine vB ?_ | refine br_nt ?_ | refine br_tt ?_ | refine br_ff ?_ | refine vP ?_ | refine vQ ?_ | refine vT ?_ | refine vF ?_ | refine br_and ?_ | refine br_or ?_ | refine br_d (fun _ => ?_) fun _ => ?_ | refine vM (fun _ => ?_) fun _ => ?_)
  · rename_i q1
    refine Dr.mk ⟨(.rd 0 (.rd 1 (.rd 2 (.rd 3 (.rd 4 (.rd 5 (.rd 6 (.rd 7 (.rd 8 (.ef 9 (.rd 10 .dn) .no)))))))))), by decide +kernel, ?_⟩
    repeat' ((conv => whnf); first | refine vA ?_ | with_reducible first | refine v8 ?_ | refine Sp.mk ?_ ?_ | refine vS ?_ | refine vR ?_ | refine vB ?_ | refine br_nt ?_ | refine br_tt ?_ | refine br_ff ?_ | refine vP ?_ | refine vQ ?_ | refine vT ?_ | refine vF ?_ | refine br_and ?_ | refine br_or ?_ | refine br_d (fun _ => ?_) fun _ => ?_ | refine vM (fun _ => ?_) fun _ => ?_)
    · rename_i q2
      by_cases hw : w = ⟨#[]⟩
      · rw [decide_eq_true hw]
        refine ⟨_, ?_, h ⟨p,bs++[a],rs⟩ true (fun q => (made_0 (x := ⟨p,bs,rs⟩) q1 q2 hw).symm) (fun q => (by cases q))⟩
        repeat' ((conv => whnf); first | with_reducible exact True.intro | exact vW | with_reducible refine And.intro ?_ ?_)
        all_goals first | exact Chk.mk ⟨rfl, fun i _ => by dsimp only; rw [Nat.zero_add]⟩ | exact Chk.mk y1
      · rw [decide_eq_false hw]
        refine ⟨_, ?_, h ⟨p,bs++[a],rs⟩ false (fun q => (by cases q)) (fun q => (made_0n q1 fun g => hw g.2))⟩
        repeat' ((conv => whnf); first | with_reducible exact True.intro | exact vW | with_reducible refine And.intro ?_ ?_)
        all_goals first | exact Chk.mk ⟨rfl, fun i _ => by dsimp only; rw [Nat.zero_add]⟩ | exact Chk.mk y1
    · rename_i q2
      refine ⟨_, ?_, h ⟨p,bs++[a],rs⟩ false (fun q => (by cases q)) (fun q => (made_0n q1 fun g => q2 g.1))⟩
      repeat' ((conv => whnf); first | with_reducible exact True.intro | exact vW | with_reducible refine And.intro ?_ ?_)
      all_goals first | exact Chk.mk ⟨rfl, fun i _ => by dsimp only; rw [Nat.zero_add]⟩ | exact Chk.mk y1
  · rename_i q0 q1
    refine Dr.mk ⟨(.rd 0 (.rd 1 (.rd 2 (.rd 3 (.rd 4 (.rd 5 (.rd 6 (.rd 7 (.rd 8 (.ef 9 (.rd 10 .dn) .no)))))))))), by decide +kernel, ?_⟩
    repeat' ((conv => whnf); first | refine vA ?_ | with_reducible first | refine v8 ?_ | refine Sp.mk ?_ ?_ | refine vS ?_ | refine vR ?_ | refine vB ?_ | refine br_nt ?_ | refine br_tt ?_ | refine br_ff ?_ | refine vP ?_ | refine vQ ?_ | refine vT ?_ | refine vF ?_ | refine br_and ?_ | refine br_or ?_ | refine br_d (fun _ => ?_) fun _ => ?_ | refine vM (fun _ => ?_) fun _ => ?_)
    · rename_i q2
      by_cases hb : b = 0
      · rw [decide_eq_true hb]
        refine ⟨_, ?_, h ⟨p,bs,rs++[w]⟩ true (fun q => (made_1 (x := ⟨p,bs,rs⟩) q1 q2 hb).symm) (fun q => (by cases q))⟩
        repeat' ((conv => whnf); first | with_reducible exact True.intro | exact vW | with_reducible refine And.intro ?_ ?_)
        all_goals first | exact Chk.mk ⟨rfl, fun i _ => by dsimp only; rw [Nat.zero_add]⟩ | exact Chk.mk y2
      · rw [decide_eq_false hb]
        refine ⟨_, ?_, h ⟨p,bs,rs++[w]⟩ false (fun q => (by cases q)) (fun q => (made_1n q1 fun g => hb g.2))⟩
        repeat' ((conv => whnf); first | with_reducible exact True.intro | exact vW | with_reducible refine And.intro ?_ ?_)
        all_goals first | exact Chk.mk ⟨rfl, fun i _ => by dsimp only; rw [Nat.zero_add]⟩ | exact Chk.mk y2
    · rename_i q2
      refine ⟨_, ?_, h ⟨p,bs,rs++[w]⟩ false (fun q => (by cases q)) (fun q => (made_1n q1 fun g => q2 g.1))⟩
      repeat' ((conv => whnf); first | with_reducible exact True.intro | exact vW | with_reducible refine And.intro ?_ ?_)
      all_goals first | exact Chk.mk ⟨rfl, fun i _ => by dsimp only; rw [Nat.zero_add]⟩ | exact Chk.mk y2
  · rename_i q0 q1 q2
    refine ⟨⟨⟨p, bs, rs⟩, a, b⟩, ?_, ⟨hI, hO, h2, h3⟩, ?_⟩
    · repeat' ((conv => whnf); first | with_reducible exact True.intro | exact vW | with_reducible refine And.intro ?_ ?_)
      all_goals exact Chk.mk ⟨rfl, fun i _ => by dsimp only; rw [Nat.zero_add]⟩
    dsimp only
    cases hc : consR ⟨p, bs, rs⟩ a b
    · repeat' ((conv => whnf); first | refine vA ?_ | with_reducible first | refine v8 ?_ | refine Sp.mk ?_ ?_ | refine vS ?_ | refine vR ?_ | refine vB ?_ | refine br_nt ?_ | refine br_tt ?_ | refine br_ff ?_ | refine vP ?_ | refine vQ ?_ | refine vT ?_ | refine vF ?_ | refine br_and ?_ | refine br_or ?_ | refine br_d (fun _ => ?_) fun _ => ?_ | refine vM (fun _ => ?_) fun _ => ?_)
      refine ⟨_, ?_, h ⟨p,bs,rs⟩ false (fun q => (by cases q)) (fun q => (made_2n q2 hc))⟩
      repeat' ((conv => whnf); first | with_reducible exact True.intro | exact vW | with_reducible refine And.intro ?_ ?_)
      all_goals first | exact Chk.mk ⟨rfl, fun i _ => by dsimp only; rw [Nat.zero_add]⟩ | exact Chk.mk y2
    · have hr := consR_in hc
      dsimp only at hr
      have y3 := ext_set (x := w) hr.2
      repeat' ((conv => whnf); first | refine vA ?_ | with_reducible first | refine v8 ?_ | refine Sp.mk ?_ ?_ | refine vS ?_ | refine vR ?_ | refine vB ?_ | refine br_nt ?_ | refine br_tt ?_ | refine br_ff ?_ | refine vP ?_ | refine vQ ?_ | refine vT ?_ | refine vF ?_ | refine br_and ?_ | refine br_or ?_ | refine br_d (fun _ => ?_) fun _ => ?_ | refine vM (fun _ => ?_) fun _ => ?_)
      refine ⟨_, ?_, h ⟨p,bs,rs.set a.toNat w⟩ true (fun q => (made_2 (x := ⟨p,bs,rs⟩) q2 hc).symm) (fun q => (by cases q))⟩
      repeat' ((conv => whnf); first | with_reducible exact True.intro | exact vW | with_reducible refine And.intro ?_ ?_)
      all_goals first | exact Chk.mk ⟨rfl, fun i _ => by dsimp only; rw [Nat.zero_add]⟩ | exact Chk.mk y3
  · rename_i q0 q1 q2 q3
    refine ⟨⟨⟨p, bs, rs⟩, a, b⟩, ?_, ⟨hI, hO, h2, h3⟩, ?_⟩
    · repeat' ((conv => whnf); first | with_reducible exact True.intro | exact vW | with_reducible refine And.intro ?_ ?_)
      all_goals exact Chk.mk ⟨rfl, fun i _ => by dsimp only; rw [Nat.zero_add]⟩
    dsimp only
    cases hc : consR ⟨p, bs, rs⟩ a b
    · repeat' ((conv => whnf); first | refine vA ?_ | with_reducible first | refine v8 ?_ | refine Sp.mk ?_ ?_ | refine vS ?_ | refine vR ?_ | refine vB ?_ | refine br_nt ?_ | refine br_tt ?_ | refine br_ff ?_ | refine vP ?_ | refine vQ ?_ | refine vT ?_ | refine vF ?_ | refine br_and ?_ | refine br_or ?_ | refine br_d (fun _ => ?_) fun _ => ?_ | refine vM (fun _ => ?_) fun _ => ?_)
      refine ⟨_, ?_, h ⟨p,bs,rs⟩ false (fun q => (by cases q)) (fun q => (made_3n q3 fun g => by rw [hc] at g; cases g.2))⟩
      repeat' ((conv => whnf); first | with_reducible exact True.intro | exact vW | with_reducible refine And.intro ?_ ?_)
      all_goals first | exact Chk.mk ⟨rfl, fun i _ => by dsimp only; rw [Nat.zero_add]⟩ | exact Chk.mk y2
    · have hr := consR_in hc
      dsimp only at hr
      repeat' ((conv => whnf); first | refine vA ?_ | with_reducible first | refine v8 ?_ | refine Sp.mk ?_ ?_ | refine vS ?_ | refine vR ?_ | refine vB ?_ | refine br_nt ?_ | refine br_tt ?_ | refine br_ff ?_ | refine vP ?_ | refine vQ ?_ | refine vT ?_ | refine vF ?_ | refine br_and ?_ | refine br_or ?_ | refine br_d (fun _ => ?_) fun _ => ?_ | refine vM (fun _ => ?_) fun _ => ?_)
      refine ⟨_, _, [4], [], rfl, ?_, ?_, ⟨rs, a.toNat⟩, rfl, rfl, ⟨hr.2⟩, ?_⟩
      · repeat' ((conv => whnf); first | with_reducible exact True.intro | exact vW | with_reducible refine And.intro ?_ ?_)
        all_goals exact Chk.mk (by dsimp only; omega)
      · repeat' ((conv => whnf); first | with_reducible exact True.intro | exact vW | with_reducible refine And.intro ?_ ?_)
      dsimp only
      have y4 : rs.length - 1 = (rs.take a.toNat ++ rs.drop (a.toNat + 1)).length ∧ ∀ i, i < rs.length - 1 → (fun i => encS ((rs.take a.toNat ++ rs.drop (a.toNat + 1)).getD i ⟨#[]⟩)) (0 + i) = encS ((rs.take a.toNat ++ rs.drop (a.toNat + 1)).getD i ⟨#[]⟩) := ⟨by rw [List.length_append, List.length_take, List.length_drop]; omega, fun i _ => by dsimp only; rw [Nat.zero_add]⟩
      repeat' ((conv => whnf); first | refine vA ?_ | with_reducible first | refine v8 ?_ | refine Sp.mk ?_ ?_ | refine vS ?_ | refine vR ?_ | refine vB ?_ | refine br_nt ?_ | refine br_tt ?_ | refine br_ff ?_ | refine vP ?_ | refine vQ ?_ | refine vT ?_ | refine vF ?_ | refine br_and ?_ | refine br_or ?_ | refine br_d (fun _ => ?_) fun _ => ?_ | refine vM (fun _ => ?_) fun _ => ?_)
      refine Dr.mk ⟨(.rd 0 (.rd 1 (.rd 2 (.rd 3 (.ef 4 (.rd 5 .dn) .no))))), by decide +kernel, ?_⟩
      repeat' ((conv => whnf); first | refine vA ?_ | with_reducible first | refine v8 ?_ | refine Sp.mk ?_ ?_ | refine vS ?_ | refine vR ?_ | refine vB ?_ | refine br_nt ?_ | refine br_tt ?_ | refine br_ff ?_ | refine vP ?_ | refine vQ ?_ | refine vT ?_ | refine vF ?_ | refine br_and ?_ | refine br_or ?_ | refine br_d (fun _ => ?_) fun _ => ?_ | refine vM (fun _ => ?_) fun _ => ?_)
      by_cases hw : w = ⟨#[]⟩
      · rw [decide_eq_true hw]
        refine ⟨_, ?_, h ⟨p,bs,rs.take a.toNat ++ rs.drop (a.toNat + 1)⟩ true (fun q => (made_3 (x := ⟨p,bs,rs⟩) q3 hw hc).symm) (fun q => (by cases q))⟩
        repeat' ((conv => whnf); first | with_reducible exact True.intro | exact vW | with_reducible refine And.intro ?_ ?_)
        all_goals first | exact Chk.mk ⟨rfl, fun i _ => by dsimp only; rw [Nat.zero_add]⟩ | exact Chk.mk y4
      · rw [decide_eq_false hw]
        refine ⟨_, ?_, h ⟨p,bs,rs.take a.toNat ++ rs.drop (a.toNat + 1)⟩ false (fun q => (by cases q)) (fun q => (made_3n (x := ⟨p,bs,rs⟩) q3 fun g => hw g.1))⟩
        repeat' ((conv => whnf); first | with_reducible exact True.intro | exact vW | with_reducible refine And.intro ?_ ?_)
        all_goals first | exact Chk.mk ⟨rfl, fun i _ => by dsimp only; rw [Nat.zero_add]⟩ | exact Chk.mk y4
  · rename_i q0 q1 q2 q3
    refine ⟨_, ?_, h ⟨p,bs,rs⟩ false (fun q => (by cases q)) (fun q => (made_n q0 q1 q2 q3))⟩
    repeat' ((conv => whnf); first | with_reducible exact True.intro | exact vW | with_reducible refine And.intro ?_ ?_)
    all_goals first | exact Chk.mk ⟨rfl, fun i _ => by dsimp only; rw [Nat.zero_add]⟩ | exact Chk.mk y1
end Go.Proofs.YtjefkdhecccfpaaDoor.Vc
end
section
/- Part EH: results that are told anew by what they mean. -/
namespace Go.Proofs.YtjefkdhecccfpaaDoor.Vc
open Go.Proofs
set_option maxRecDepth 10000
/-- Whatever the one reads as, the other reads as too. -/
def semE (u v : AV) : Prop := ∀ (R : Nat → Prop) (w : World) (x : Value), PV R w u x → PV R w v x
def outS (K : AV → Prop) : AV → List Obj → Prop := out fun u => ∃ v, semE u v ∧ K v
theorem fitsS {P : Program} {TB : TypeId → TI} {Gl : List (Nat × Go.Obj)} {call : FuncId → List AV → List Obj → (AV → List Obj → Prop) → Prop} {X : Type} {args : X → List AV} {pre : X → Prop} {post : X → (AV → Prop) → Prop} (hT : TOk P TB) (hC : CallOk P Gl call) (hm : P.follows .mixedOrders = true) {f : FuncId} {fn : Func} (hf : FnOk P f fn) (hM : ∀ x (K K' : AV → Prop), (∀ r, K r → K' r) → post x K → post x K')
    (hb : ∀ x (K : AV → Prop), pre x → post x K → (args x).length ≤ fn.ntmps ∧ bodyP TB call (Dr TB call) 0 fn (args x) [] (outS K)) : Fits P Gl f (con args pre post) := by
  refine ⟨hf.has, fun us K K' hk ⟨x, h1, h2, h3⟩ => ⟨x, h1, h2, hM x K K' hk h3⟩, ?_⟩
  rintro us K ⟨x, h1, h2, h3⟩ R w xs hL ha0
  obtain ⟨e1, e2⟩ := exL_PV (R := R) (w := w) us (args x) h1
  have ha : ArgsV R w (args x) xs := ⟨ha0.1.trans e1, fun j hj => e2 j (e1 ▸ hj) _ (ha0.2 j (e1 ▸ hj))⟩
  obtain ⟨g1, g2⟩ := hb x K h2.h h3
  refine (body_sound hT hC hm hf g2 hL.hr ⟨ha.1, fun j hj => (ha.2 j hj).tr⟩ (Nat.zero_le _) g1).mono fun e w' he => ?_
  obtain ⟨r, y, o', ρ', R', rfl, hK, hh', hv, _, hx⟩ := he
  unfold outS out at hK
  split at hK
  · rename_i u b p ev
    obtain ⟨⟨hp⟩, v, hv1, hK⟩ := hK
    have hu := (view_VR hh' r u b p ev hp y hv).1
    refine ⟨v, y, Rall R' ρ', rfl, hK, hv1 _ _ y hu, ⟨fun b hb => ?_, fun b hb => .inl (hx.rmono b hb), fun b hb => ?_, hx.size, fun b hb => hx.same b hb fun _ q => (by cases q), hx.os, hx.tape, hx.output⟩⟩
    · rcases hb with hb | ⟨id, hb⟩
      · exact (hh'.ro b hb).1
      · exact hh'.lt id b hb
    · rcases hb with hb | ⟨id, hb⟩
      · rcases hx.rnew b hb with q | q | ⟨_, q⟩
        · exact .inl q
        · exact .inr q
        · cases q
      · rcases hx.pnew id b hb with q | ⟨_, q⟩
        · exact .inr q
        · cases q
  · exact hK.elim
theorem fitXS (E : Env) (hE : ∀ p, p ∈ E → FF p.1 p.2) (G : EnvG) (hG : ∀ p, p ∈ G → GG p.1 p.2) {X : Type} {args : X → List AV} {pre : X → Prop} {post : X → (AV → Prop) → Prop} {f : FuncId} (fn : Func) (hf : FnOk Tryd.prog f fn) (hM : ∀ x (K K' : AV → Prop), (∀ r, K r → K' r) → post x K → post x K')
    (hb : ∀ x (K : AV → Prop), pre x → post x K → (args x).length ≤ fn.ntmps ∧ bodyP (lookT TT) (callX E G) (Dr (lookT TT) (callX E G)) 0 fn (args x) [] (outS K)) : FF f (con args pre post) := fun Gl h => fitsS tOk (callX_ok (fun p hp => hE p hp Gl h) fun p hp => hG p hp Gl h) mixed hf hM hb
/-- Cells that read the same: nothing, or an empty slice. -/
def cellE (u v : AV) : Prop := u = v ∨ u = .nils ∧ ∃ s g, v = .sl s 0 g
theorem cellE_DR {R : Nat → Prop} {w : World} {u v : AV} {x : Value} (h : cellE u v) (hx : DR R w u x) : DR R w v x := by
  rcases h with rfl | ⟨rfl, s, g, rfl⟩
  · exact hx
  · cases hx
    exact .sl0 _ _ _ _
theorem sl_sem {s n : Nat} {f g : Nat → List AV} (hl : ∀ i, i < n → (g i).length = s) (h : ∀ i, i < n → ∀ j, j < s → cellE ((f i).getD j .undef) ((g i).getD j .undef)) : semE (.sl s n f) (.sl s n g) := by
  intro R w x hx
  cases hx with
  | data hd =>
    refine .data ?_
    cases hd with
    | sl0 => exact .sl0 _ _ _ _
    | sl _ _ _ ad cap G h1 h2 h3 h4 h5 => exact .sl s n g ad cap G h1 h2 hl h4 fun i hi j hj => cellE_DR (h i hi j hj) (h5 i hi j hj)
theorem semE_rfl (u : AV) : semE u u := fun _ _ _ h => h
theorem agg_sem {l m : List AV} (hl : l.length = m.length) (h : ∀ j, j < l.length → semE (l.getD j .undef) (m.getD j .undef)) : semE (.agg l) (.agg m) := by
  intro R w x hx
  cases hx with
  | data hd => cases hd
  | agg _ xs h1 h2 => exact .agg m xs (h1.trans hl) fun j hj => h j (hl ▸ hj) R w _ (h2 j (hl ▸ hj))
end Go.Proofs.YtjefkdhecccfpaaDoor.Vc
end
