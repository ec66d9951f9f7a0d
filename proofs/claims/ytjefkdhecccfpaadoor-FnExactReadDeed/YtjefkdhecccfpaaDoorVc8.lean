/- Part TO: deeds and desks that are drawn. -/
import Derived.Test.YtjefkdhecccfpaaDoorVc7
section
namespace Go.Proofs.YtjefkdhecccfpaaDoor.Vc
open Go.Proofs
set_option maxRecDepth 10000
set_option maxHeartbeats 4000000
structure drawnA (a : Dd) : Prop where
  k0 : i64r a.kind
  a0 : i64r a.a
  b0 : i64r a.b
  w0 : a.words.size ≤ 10000
def placeS (x : Place) : Prop := placeI x ∧ x.bs.length ≤ 4 ∧ x.rules.length ≤ 100000
structure Pr where
  r : Rd
  x : Place
theorem kt {k : Int} (h0 : 0 ≤ k) (h : k < 8) (z : List AV) : ∃ v, 0 ≤ v ∧ v ≤ 4 ∧ [[AV.int .i64 0], [.int .i64 1], [.int .i64 2], [.int .i64 2], [.int .i64 2], [.int .i64 2], [.int .i64 3], [.int .i64 4]].getD (0 + k.toNat) z = [.int .i64 v] := by
  rcases (show k = 0 ∨ k = 1 ∨ k = 2 ∨ k = 3 ∨ k = 4 ∨ k = 5 ∨ k = 6 ∨ k = 7 by omega) with rfl | rfl | rfl | rfl | rfl | rfl | rfl | rfl <;> exact ⟨_, by decide, by decide, rfl⟩
def C184 : GC := conG (X := Pr) (fun x => [.ptr 0 0, enPl x.x]) (fun x => [rdO x.r.b x.r.p]) (fun x => x.r.okn 450000000 ∧ placeS x.x) fun x K => ∀ (a : Dd) (p' : Int), x.r.p ≤ p' → p' ≤ x.r.p + 250 → drawnA a → K (ded a) [rdO x.r.b p']
theorem F184 : GG 42 C184 := by
  refine fitG [(72, C173)] (by simp only [List.mem_cons, List.not_mem_nil, or_false]; rintro _ rfl <;> first | exact F173) [(68, C52), (55, C53), (73, C60)] (by simp only [List.mem_cons, List.not_mem_nil, or_false]; rintro _ (rfl | rfl | rfl) <;> first | exact F52 | exact F53 | exact F60) Tryd.f42 ⟨rfl, by decide +kernel, by decide +kernel⟩ (by intro x K K2 hk h; (try dsimp only at h ⊢); intros; apply hk; first | exact h | (apply h <;> assumption)) ?_
  rintro ⟨⟨b, p⟩, ⟨q, bs, rs⟩⟩ K ⟨⟨h1, h2, h3, h4⟩, h5, h6, h7⟩ h
  refine ⟨Nat.le_of_ble_eq_true rfl, ?_⟩
  dsimp only [enPl, plC] at h h1 h2 h3 h4 h5 h6 h7 ⊢
  apply later
  · intro key1
    repeat' ((conv => whnf); first | refine vA ?_ | with_reducible first | refine v8 ?_ | refine Sp.mk ?_ ?_ | refine vS ?_ | refine vR ?_ | refine vB ?_ | refine br_nt ?_ | refine br_tt ?_ | refine br_ff ?_ | refine vP ?_ | refine vQ ?_ | refine vT ?_ | refine vF ?_ | refine br_and ?_ | refine br_or ?_ | refine br_d (fun _ => ?_) fun _ => ?_ | refine vM (fun _ => ?_) fun _ => ?_)
    refine Dr.mk ⟨(.rd 1 (.rd 5 (.ef 0 (.ef 2 (.rd 3 (.rd 4 (.ef 6 (.rd 7 (.rd 8 (.rd 9 (.rd 10 (.ef 11 (.ef 12 .dn .no) .no))))) (.ef 11 (.ef 6 (.rd 7 (.rd 8 (.rd 9 (.rd 10 (.ef 12 .dn .no))))) .no) .no)))) (.ef 11 (.ef 2 (.rd 3 (.rd 4 (.ef 6 (.rd 7 (.rd 8 (.rd 9 (.rd 10 (.ef 12 .dn .no))))) .no))) .no) .no)) (.ef 2 (.ef 0 (.rd 3 (.rd 4 (.ef 6 (.rd 7 (.rd 8 (.rd 9 (.rd 10 (.ef 11 (.ef 12 .dn .no) .no))))) (.ef 11 (.ef 6 (.rd 7 (.rd 8 (.rd 9 (.rd 10 (.ef 12 .dn .no))))) .no) .no)))) (.ef 6 (.rd 7 (.rd 8 (.ef 0 (.rd 3 (.rd 4 (.rd 9 (.rd 10 (.ef 11 (.ef 12 .dn .no) .no))))) (.ef 11 (.ef 0 (.rd 3 (.rd 4 (.rd 9 (.rd 10 (.ef 12 .dn .no))))) .no) .no)))) (.ef 11 (.ef 0 (.rd 3 (.rd 4 (.ef 6 (.rd 7 (.rd 8 (.rd 9 (.rd 10 (.ef 12 .dn .no))))) .no))) (.ef 6 (.rd 7 (.rd 8 (.ef 0 (.rd 3 (.rd 4 (.rd 9 (.rd 10 (.ef 12 .dn .no))))) .no))) .no)) .no))) (.ef 11 (.ef 0 (.ef 2 (.rd 3 (.rd 4 (.ef 6 (.rd 7 (.rd 8 (.rd 9 (.rd 10 (.ef 12 .dn .no))))) .no))) .no) (.ef 2 (.ef 0 (.rd 3 (.rd 4 (.ef 6 (.rd 7 (.rd 8 (.rd 9 (.rd 10 (.ef 12 .dn .no))))) .no))) (.ef 6 (.rd 7 (.rd 8 (.ef 0 (.rd 3 (.rd 4 (.rd 9 (.rd 10 (.ef 12 .dn .no))))) .no))) .no)) .no)) .no))))), by decide +kernel, ?_⟩
    repeat' ((conv => whnf); first | refine vA ?_ | with_reducible first | refine v8 ?_ | refine Sp.mk ?_ ?_ | refine vS ?_ | refine vR ?_ | refine vB ?_ | refine br_nt ?_ | refine br_tt ?_ | refine br_ff ?_ | refine vP ?_ | refine vQ ?_ | refine vT ?_ | refine vF ?_ | refine br_and ?_ | refine br_or ?_ | refine br_d (fun _ => ?_) fun _ => ?_ | refine vM (fun _ => ?_) fun _ => ?_)
    all_goals
      refine ⟨_, _, [0], [], rfl, ?_, ?_, (⟨b, p⟩, 8), rfl, rfl, ⟨⟨h1, h2, ?_, ?_⟩, ?_⟩, ?_⟩
      · repeat' ((conv => whnf); first | with_reducible exact True.intro | exact vW | with_reducible refine And.intro ?_ ?_)
        try exact Chk.mk (by rw [pw_sh (by assumption)])
      · repeat' ((conv => whnf); first | with_reducible exact True.intro | exact vW | with_reducible refine And.intro ?_ ?_)
      · dsimp only; omega
      · dsimp only; omega
      · unfold i64r; dsimp only; omega
      intro k1 p1 a0 a1 a2
      dsimp only at a0 a1 a2
      obtain ⟨v, v0, v1, hv⟩ := kt (a1 (by decide)).1 (a1 (by decide)).2 (lookT TT 3).z
      repeat' ((conv => whnf); first | refine vA ?_ | with_reducible first | refine v8 ?_ | refine Sp.mk ?_ ?_ | refine vS ?_ | refine vR ?_ | refine vB ?_ | refine br_nt ?_ | refine br_tt ?_ | refine br_ff ?_ | refine vP ?_ | refine vQ ?_ | refine vT ?_ | refine vF ?_ | refine br_and ?_ | refine br_or ?_ | refine br_d (fun _ => ?_) fun _ => ?_ | refine vM (fun _ => ?_) fun _ => ?_)
    all_goals try
      dsimp only [List.drop]
      rw [hv]
      repeat' ((conv => whnf); first | refine vA ?_ | with_reducible first | refine v8 ?_ | refine Sp.mk ?_ ?_ | refine vS ?_ | refine vR ?_ | refine vB ?_ | refine br_nt ?_ | refine br_tt ?_ | refine br_ff ?_ | refine vP ?_ | refine vQ ?_ | refine vT ?_ | refine vF ?_ | refine br_and ?_ | refine br_or ?_ | refine br_d (fun _ => ?_) fun _ => ?_ | refine vM (fun _ => ?_) fun _ => ?_)
    all_goals
      refine ⟨_, _, [0], [], rfl, ?_, ?_, (⟨b, p1⟩, 60), rfl, rfl, ⟨⟨h1, h2, ?_, ?_⟩, ?_⟩, ?_⟩
      · repeat' ((conv => whnf); first | with_reducible exact True.intro | exact vW | with_reducible refine And.intro ?_ ?_)
        try exact Chk.mk (by rw [pw_sh (by assumption)])
      · repeat' ((conv => whnf); first | with_reducible exact True.intro | exact vW | with_reducible refine And.intro ?_ ?_)
      · dsimp only; omega
      · dsimp only; omega
      · unfold i64r; dsimp only; omega
      intro k2 p2 c0 c1 c2
      dsimp only at c0 c1 c2
      have e59 := Int.tdiv_eq_ediv_of_nonneg (a := k2) (b := 59) (c1 (by decide)).1
      have c3 := c1 (by decide)
      repeat' ((conv => whnf); first | with_reducible refine wk_at 3 ?_ | with_reducible refine wk_at1 3 ?_ | with_reducible refine wk_at2 3 ?_ | refine vA ?_ | with_reducible first | refine v8 ?_ | refine Sp.mk ?_ ?_ | refine vS ?_ | refine vR ?_ | refine vB ?_ | refine br_nt ?_ | refine br_tt ?_ | refine br_ff ?_ | refine vP ?_ | refine vQ ?_ | refine vT ?_ | refine vF ?_ | refine br_and ?_ | refine br_or ?_ | refine br_d (fun _ => ?_) fun _ => ?_ | refine vM (fun _ => ?_) fun _ => ?_)
    all_goals try
      dsimp only [List.drop]
      rw [hv]
      repeat' ((conv => whnf); first | with_reducible refine wk_at 3 ?_ | with_reducible refine wk_at1 3 ?_ | with_reducible refine wk_at2 3 ?_ | refine vA ?_ | with_reducible first | refine v8 ?_ | refine Sp.mk ?_ ?_ | refine vS ?_ | refine vR ?_ | refine vB ?_ | refine br_nt ?_ | refine br_tt ?_ | refine br_ff ?_ | refine vP ?_ | refine vQ ?_ | refine vT ?_ | refine vF ?_ | refine br_and ?_ | refine br_or ?_ | refine br_d (fun _ => ?_) fun _ => ?_ | refine vM (fun _ => ?_) fun _ => ?_)
    all_goals
      obtain ⟨V, hV⟩ : ∃ V, (if 6 < if 1 > q then 1 else q then 6 else if 1 > q then 1 else q) = V := ⟨_, rfl⟩
      obtain ⟨k, hk⟩ : ∃ k, v + k2.tdiv 59 * 5 = k := ⟨_, rfl⟩
      have pV : people V := by unfold people; subst hV; (repeat' split) <;> omega
      have k0 : i64r k := by unfold i64r; omega
      try rw [hV]
      try rw [hk]
      refine ⟨Wk.go [(0, .ptr 0 0), (3, .ptr 1 0), (4, .ptr 2 0), (5, .ptr 3 0), (6, .int .i64 V)] [rdO b p2, .box [.int .i64 q, slI bs, slS rs], .box [.int .i64 0, .int .i64 0, .int .i64 0, .str ⟨#[]⟩], .box [.int .i64 k, .int .i64 0, .int .i64 0, .str ⟨#[]⟩]] ?_ ?_⟩
      · first | (refine ⟨⟨[some 0, some 1, some 2, some 4], [], rfl, rfl, ?_, ?_⟩⟩ <;> (repeat' ((conv => whnf); first | with_reducible exact True.intro | exact vW | with_reducible refine And.intro ?_ ?_)) <;> fail) | (refine ⟨⟨[some 0, some 1, some 2, some 3], [], rfl, rfl, ?_, ?_⟩⟩ <;> (repeat' ((conv => whnf); first | with_reducible exact True.intro | exact vW | with_reducible refine And.intro ?_ ?_)) <;> fail)
      have hp2 : p ≤ p2 ∧ p2 ≤ p + 2 := by omega
      clear hV hk e59 c3 c0 c1 c2
      revert V k p2
      exact key1.t
  · intro p2 V k pV k0 hp2
    have pw2 := pw_le pV
    have hI := h5.1.1
    apply later
    · intro key2
      repeat' ((conv => whnf); first | with_reducible refine wk_at 15 ?_ | with_reducible refine wk_at1 15 ?_ | with_reducible refine wk_at2 15 ?_ | refine vA ?_ | with_reducible first | refine v8 ?_ | refine Sp.mk ?_ ?_ | refine vS ?_ | refine vR ?_ | refine vB ?_ | refine br_nt ?_ | refine br_tt ?_ | refine br_ff ?_ | refine vP ?_ | refine vQ ?_ | refine vT ?_ | refine vF ?_ | refine br_and ?_ | refine br_or ?_ | refine br_d (fun _ => ?_) fun _ => ?_ | refine vM (fun _ => ?_) fun _ => ?_)
      · repeat' ((conv => whnf); first | with_reducible refine Wr.ex (wsh pV) ?_ | with_reducible refine Wr.ex (wi64 (by rw [pw_sh pV]; omega) (by rw [pw_sh pV]; omega)) ?_ | refine vA ?_ | with_reducible first | refine v8 ?_ | refine Sp.mk ?_ ?_ | refine vS ?_ | refine vR ?_ | refine vB ?_ | refine br_nt ?_ | refine br_tt ?_ | refine br_ff ?_ | refine vP ?_ | refine vQ ?_ | refine vT ?_ | refine vF ?_ | refine br_and ?_ | refine br_or ?_ | refine br_d (fun _ => ?_) fun _ => ?_ | refine vM (fun _ => ?_) fun _ => ?_)
        refine ⟨_, _, [0], [], rfl, ?_, ?_, (⟨b, p2⟩, (pw V - 1)), rfl, rfl, ⟨⟨h1, h2, ?_, ?_⟩, ?_⟩, ?_⟩
        · repeat' ((conv => whnf); first | with_reducible exact True.intro | exact vW | with_reducible refine And.intro ?_ ?_)
          try exact Chk.mk (by rw [pw_sh (by assumption)])
        · repeat' ((conv => whnf); first | with_reducible exact True.intro | exact vW | with_reducible refine And.intro ?_ ?_)
        · dsimp only; omega
        · dsimp only; omega
        · unfold i64r; dsimp only; omega
        intro j1 p3 c0 c1 c2
        dsimp only at c0 c1 c2
        repeat' ((conv => whnf); first | with_reducible refine wk_at 15 ?_ | with_reducible refine wk_at1 15 ?_ | with_reducible refine wk_at2 15 ?_ | refine vA ?_ | with_reducible first | refine v8 ?_ | refine Sp.mk ?_ ?_ | refine vS ?_ | refine vR ?_ | refine vB ?_ | refine br_nt ?_ | refine br_tt ?_ | refine br_ff ?_ | refine vP ?_ | refine vQ ?_ | refine vT ?_ | refine vF ?_ | refine br_and ?_ | refine br_or ?_ | refine br_d (fun _ => ?_) fun _ => ?_ | refine vM (fun _ => ?_) fun _ => ?_)
        obtain ⟨A, hA⟩ : ∃ A : Int, A = 1+j1 := ⟨_, rfl⟩
        obtain ⟨B, hB⟩ : ∃ B : Int, B = 0 := ⟨_, rfl⟩
        obtain ⟨W, hW⟩ : ∃ W : ByteArray, ⟨#[]⟩ = W := ⟨_, rfl⟩
        have A0 : i64r A := by rw [hA]; first | exact wi64r _ | (unfold i64r; omega)
        have B0 : i64r B := by rw [hB]; first | exact wi64r _ | (unfold i64r; omega)
        have W0 : W.size ≤ 10000 := by rw [← hW]; first | exact ttext_size _ _ | exact Nat.zero_le _
        obtain ⟨p9, hp9⟩ : ∃ p9 : Int, p9 = p3 := ⟨_, rfl⟩
        have p90 : p ≤ p9 ∧ p9 ≤ p + 200 := by omega
        refine ⟨Wk.go [(0, .ptr 0 0), (4, .ptr 1 0), (5, .ptr 2 0)] [rdO b p9, .box [.int .i64 0, .int .i64 0, .int .i64 0, .str ⟨#[]⟩], .box [.int .i64 k, .int .i64 A, .int .i64 B, .str W]] ⟨⟨[some 0, some 2, some 3], [], rfl, rfl, ?_, ?_⟩⟩ ?_⟩
        · repeat' ((conv => whnf); first | with_reducible exact True.intro | exact vW | with_reducible refine And.intro ?_ ?_)
        · subst hW
          repeat' ((conv => whnf); first | with_reducible exact True.intro | exact vW | with_reducible refine And.intro ?_ ?_)
        clear hA hB hW hp9
        revert A B W p9
        exact key2.t
      · refine Dr.mk ⟨(.rd 0 (.rd 1 (.rd 2 (.rd 3 (.rd 4 (.ef 5 (.ef 6 (.rd 7 (.ef 8 .dn .no)) .no) .no)))))), by decide +kernel, ?_⟩
        repeat' ((conv => whnf); first | refine vA ?_ | with_reducible first | refine v8 ?_ | refine Sp.mk ?_ ?_ | refine vS ?_ | refine vR ?_ | refine vB ?_ | refine br_nt ?_ | refine br_tt ?_ | refine br_ff ?_ | refine vP ?_ | refine vQ ?_ | refine vT ?_ | refine vF ?_ | refine br_and ?_ | refine br_or ?_ | refine br_d (fun _ => ?_) fun _ => ?_ | refine vM (fun _ => ?_) fun _ => ?_)
        refine ⟨_, _, [0], [], rfl, ?_, ?_, ⟨⟨b, p2⟩, ⟨q, bs⟩, 0⟩, rfl, rfl, ⟨⟨h1, h2, by dsimp only; omega, by dsimp only; omega⟩, hI, by dsimp only; omega, by unfold i64r; dsimp only; omega⟩, ?_⟩
        · repeat' ((conv => whnf); first | with_reducible exact True.intro | exact vW | with_reducible refine And.intro ?_ ?_)
        · repeat' ((conv => whnf); first | with_reducible exact True.intro | exact vW | with_reducible refine And.intro ?_ ?_)
        intro t p3 t1 t2 t3 t4
        dsimp only at t1 t2 t3 t4 ⊢
        repeat' ((conv => whnf); first | refine vA ?_ | with_reducible first | refine v8 ?_ | refine Sp.mk ?_ ?_ | refine vS ?_ | refine vR ?_ | refine vB ?_ | refine br_nt ?_ | refine br_tt ?_ | refine br_ff ?_ | refine vP ?_ | refine vQ ?_ | refine vT ?_ | refine vF ?_ | refine br_and ?_ | refine br_or ?_ | refine br_d (fun _ => ?_) fun _ => ?_ | refine vM (fun _ => ?_) fun _ => ?_)
        refine ⟨(⟨q, bs⟩, t), ?_, ⟨hI, by dsimp only; omega, t4, by dsimp only; omega⟩, ?_⟩
        · repeat' ((conv => whnf); first | with_reducible exact True.intro | exact vW | with_reducible refine And.intro ?_ ?_)
        repeat' ((conv => whnf); first | with_reducible refine wk_at 15 ?_ | with_reducible refine wk_at1 15 ?_ | with_reducible refine wk_at2 15 ?_ | refine vA ?_ | with_reducible first | refine v8 ?_ | refine Sp.mk ?_ ?_ | refine vS ?_ | refine vR ?_ | refine vB ?_ | refine br_nt ?_ | refine br_tt ?_ | refine br_ff ?_ | refine vP ?_ | refine vQ ?_ | refine vT ?_ | refine vF ?_ | refine br_and ?_ | refine br_or ?_ | refine br_d (fun _ => ?_) fun _ => ?_ | refine vM (fun _ => ?_) fun _ => ?_)
        obtain ⟨A, hA⟩ : ∃ A : Int, A = 0 := ⟨_, rfl⟩
        obtain ⟨B, hB⟩ : ∃ B : Int, B = 0 := ⟨_, rfl⟩
        obtain ⟨W, hW⟩ : ∃ W : ByteArray, ttext (⟨q,bs⟩,t) = W := ⟨_, rfl⟩
        have A0 : i64r A := by rw [hA]; first | exact wi64r _ | (unfold i64r; omega)
        have B0 : i64r B := by rw [hB]; first | exact wi64r _ | (unfold i64r; omega)
        have W0 : W.size ≤ 10000 := by rw [← hW]; first | exact ttext_size _ _ | exact Nat.zero_le _
        obtain ⟨p9, hp9⟩ : ∃ p9 : Int, p9 = p3 := ⟨_, rfl⟩
        have p90 : p ≤ p9 ∧ p9 ≤ p + 200 := by omega
        refine ⟨Wk.go [(0, .ptr 0 0), (4, .ptr 1 0), (5, .ptr 2 0)] [rdO b p9, .box [.int .i64 0, .int .i64 0, .int .i64 0, .str ⟨#[]⟩], .box [.int .i64 k, .int .i64 A, .int .i64 B, .str W]] ⟨⟨[some 0, some 2, some 3], [], rfl, rfl, ?_, ?_⟩⟩ ?_⟩
        · repeat' ((conv => whnf); first | with_reducible exact True.intro | exact vW | with_reducible refine And.intro ?_ ?_)
        · subst hW
          repeat' ((conv => whnf); first | with_reducible exact True.intro | exact vW | with_reducible refine And.intro ?_ ?_)
        clear hA hB hW hp9
        revert A B W p9
        exact key2.t
      · refine ⟨_, _, [0], [], rfl, ?_, ?_, (⟨b, p2⟩, (if 1 > (rs.length : Int) then 1 else (rs.length : Int))), rfl, rfl, ⟨⟨h1, h2, ?_, ?_⟩, ?_⟩, ?_⟩
        · repeat' ((conv => whnf); first | with_reducible exact True.intro | exact vW | with_reducible refine And.intro ?_ ?_)
          try exact Chk.mk (by rw [pw_sh (by assumption)])
        · repeat' ((conv => whnf); first | with_reducible exact True.intro | exact vW | with_reducible refine And.intro ?_ ?_)
        · dsimp only; omega
        · dsimp only; omega
        · unfold i64r; dsimp only; omega
        intro j1 p3 c0 c1 c2
        dsimp only at c0 c1 c2
        have c3 : i64r j1 := by unfold i64r; split at c1 <;> omega
        repeat' ((conv => whnf); first | refine vA ?_ | with_reducible first | refine v8 ?_ | refine Sp.mk ?_ ?_ | refine vS ?_ | refine vR ?_ | refine vB ?_ | refine br_nt ?_ | refine br_tt ?_ | refine br_ff ?_ | refine vP ?_ | refine vQ ?_ | refine vT ?_ | refine vF ?_ | refine br_and ?_ | refine br_or ?_ | refine br_d (fun _ => ?_) fun _ => ?_ | refine vM (fun _ => ?_) fun _ => ?_)
        refine Dr.mk ⟨(.rd 0 (.rd 1 (.rd 2 (.rd 4 (.rd 5 (.rd 6 (.ef 3 (.ef 7 (.rd 8 (.rd 9 (.ef 10 .dn .no))) .no) .no))))))), by decide +kernel, ?_⟩
        repeat' ((conv => whnf); first | with_reducible refine Wr.ex (wsh pV) ?_ | refine vA ?_ | with_reducible first | refine v8 ?_ | refine Sp.mk ?_ ?_ | refine vS ?_ | refine vR ?_ | refine vB ?_ | refine br_nt ?_ | refine br_tt ?_ | refine br_ff ?_ | refine vP ?_ | refine vQ ?_ | refine vT ?_ | refine vF ?_ | refine br_and ?_ | refine br_or ?_ | refine br_d (fun _ => ?_) fun _ => ?_ | refine vM (fun _ => ?_) fun _ => ?_)
        refine ⟨_, _, [0], [], rfl, ?_, ?_, (⟨b, p3⟩, (pw V)), rfl, rfl, ⟨⟨h1, h2, ?_, ?_⟩, ?_⟩, ?_⟩
        · repeat' ((conv => whnf); first | with_reducible exact True.intro | exact vW | with_reducible refine And.intro ?_ ?_)
          try exact Chk.mk (by rw [pw_sh (by assumption)])
        · repeat' ((conv => whnf); first | with_reducible exact True.intro | exact vW | with_reducible refine And.intro ?_ ?_)
        · dsimp only; omega
        · dsimp only; omega
        · unfold i64r; dsimp only; omega
        intro j2 p4 d0 d1 d2
        dsimp only at d0 d1 d2
        repeat' ((conv => whnf); first | refine vA ?_ | with_reducible first | refine v8 ?_ | refine Sp.mk ?_ ?_ | refine vS ?_ | refine vR ?_ | refine vB ?_ | refine br_nt ?_ | refine br_tt ?_ | refine br_ff ?_ | refine vP ?_ | refine vQ ?_ | refine vT ?_ | refine vF ?_ | refine br_and ?_ | refine br_or ?_ | refine br_d (fun _ => ?_) fun _ => ?_ | refine vM (fun _ => ?_) fun _ => ?_)
        refine ⟨_, _, [0], [], rfl, ?_, ?_, (⟨b, p4⟩, (pw V)), rfl, rfl, ⟨⟨h1, h2, ?_, ?_⟩, ?_⟩, ?_⟩
        · repeat' ((conv => whnf); first | with_reducible exact True.intro | exact vW | with_reducible refine And.intro ?_ ?_)
          try exact Chk.mk (by rw [pw_sh (by assumption)])
        · repeat' ((conv => whnf); first | with_reducible exact True.intro | exact vW | with_reducible refine And.intro ?_ ?_)
        · dsimp only; omega
        · dsimp only; omega
        · unfold i64r; dsimp only; omega
        intro j3 p5 e0 e1 e2
        dsimp only at e0 e1 e2
        repeat' ((conv => whnf); first | refine vA ?_ | with_reducible first | refine v8 ?_ | refine Sp.mk ?_ ?_ | refine vS ?_ | refine vR ?_ | refine vB ?_ | refine br_nt ?_ | refine br_tt ?_ | refine br_ff ?_ | refine vP ?_ | refine vQ ?_ | refine vT ?_ | refine vF ?_ | refine br_and ?_ | refine br_or ?_ | refine br_d (fun _ => ?_) fun _ => ?_ | refine vM (fun _ => ?_) fun _ => ?_)
        refine Dr.mk ⟨(.rd 0 (.rd 1 (.rd 2 (.rd 3 (.rd 4 (.ef 5 (.ef 6 (.rd 7 (.ef 8 .dn .no)) .no) .no)))))), by decide +kernel, ?_⟩
        repeat' ((conv => whnf); first | refine vA ?_ | with_reducible first | refine v8 ?_ | refine Sp.mk ?_ ?_ | refine vS ?_ | refine vR ?_ | refine vB ?_ | refine br_nt ?_ | refine br_tt ?_ | refine br_ff ?_ | refine vP ?_ | refine vQ ?_ | refine vT ?_ | refine vF ?_ | refine br_and ?_ | refine br_or ?_ | refine br_d (fun _ => ?_) fun _ => ?_ | refine vM (fun _ => ?_) fun _ => ?_)
        refine ⟨_, _, [0], [], rfl, ?_, ?_, ⟨⟨b, p5⟩, ⟨q, bs⟩, 0⟩, rfl, rfl, ⟨⟨h1, h2, by dsimp only; omega, by dsimp only; omega⟩, hI, by dsimp only; omega, by unfold i64r; dsimp only; omega⟩, ?_⟩
        · repeat' ((conv => whnf); first | with_reducible exact True.intro | exact vW | with_reducible refine And.intro ?_ ?_)
        · repeat' ((conv => whnf); first | with_reducible exact True.intro | exact vW | with_reducible refine And.intro ?_ ?_)
        intro t p6 t1 t2 t3 t4
        dsimp only at t1 t2 t3 t4 ⊢
        repeat' ((conv => whnf); first | refine vA ?_ | with_reducible first | refine v8 ?_ | refine Sp.mk ?_ ?_ | refine vS ?_ | refine vR ?_ | refine vB ?_ | refine br_nt ?_ | refine br_tt ?_ | refine br_ff ?_ | refine vP ?_ | refine vQ ?_ | refine vT ?_ | refine vF ?_ | refine br_and ?_ | refine br_or ?_ | refine br_d (fun _ => ?_) fun _ => ?_ | refine vM (fun _ => ?_) fun _ => ?_)
        refine ⟨(⟨q, bs⟩, t), ?_, ⟨hI, by dsimp only; omega, t4, by dsimp only; omega⟩, ?_⟩
        · repeat' ((conv => whnf); first | with_reducible exact True.intro | exact vW | with_reducible refine And.intro ?_ ?_)
        repeat' ((conv => whnf); first | with_reducible refine wk_at 15 ?_ | with_reducible refine wk_at1 15 ?_ | with_reducible refine wk_at2 15 ?_ | refine vA ?_ | with_reducible first | refine v8 ?_ | refine Sp.mk ?_ ?_ | refine vS ?_ | refine vR ?_ | refine vB ?_ | refine br_nt ?_ | refine br_tt ?_ | refine br_ff ?_ | refine vP ?_ | refine vQ ?_ | refine vT ?_ | refine vF ?_ | refine br_and ?_ | refine br_or ?_ | refine br_d (fun _ => ?_) fun _ => ?_ | refine vM (fun _ => ?_) fun _ => ?_)
        obtain ⟨A, hA⟩ : ∃ A : Int, A = j1 := ⟨_, rfl⟩
        obtain ⟨B, hB⟩ : ∃ B : Int, B = (bitop .i64 .or j2 j3) := ⟨_, rfl⟩
        obtain ⟨W, hW⟩ : ∃ W : ByteArray, ttext (⟨q,bs⟩,t) = W := ⟨_, rfl⟩
        have A0 : i64r A := by rw [hA]; first | exact wi64r _ | (unfold i64r; omega)
        have B0 : i64r B := by rw [hB]; first | exact wi64r _ | (unfold i64r; omega)
        have W0 : W.size ≤ 10000 := by rw [← hW]; first | exact ttext_size _ _ | exact Nat.zero_le _
        obtain ⟨p9, hp9⟩ : ∃ p9 : Int, p9 = p6 := ⟨_, rfl⟩
        have p90 : p ≤ p9 ∧ p9 ≤ p + 200 := by omega
        refine ⟨Wk.go [(0, .ptr 0 0), (4, .ptr 1 0), (5, .ptr 2 0)] [rdO b p9, .box [.int .i64 0, .int .i64 0, .int .i64 0, .str ⟨#[]⟩], .box [.int .i64 k, .int .i64 A, .int .i64 B, .str W]] ⟨⟨[some 0, some 2, some 3], [], rfl, rfl, ?_, ?_⟩⟩ ?_⟩
        · repeat' ((conv => whnf); first | with_reducible exact True.intro | exact vW | with_reducible refine And.intro ?_ ?_)
        · subst hW
          repeat' ((conv => whnf); first | with_reducible exact True.intro | exact vW | with_reducible refine And.intro ?_ ?_)
        clear hA hB hW hp9
        revert A B W p9
        exact key2.t
      · refine ⟨_, _, [0], [], rfl, ?_, ?_, (⟨b, p2⟩, (if 1 > (rs.length : Int) then 1 else (rs.length : Int))), rfl, rfl, ⟨⟨h1, h2, ?_, ?_⟩, ?_⟩, ?_⟩
        · repeat' ((conv => whnf); first | with_reducible exact True.intro | exact vW | with_reducible refine And.intro ?_ ?_)
          try exact Chk.mk (by rw [pw_sh (by assumption)])
        · repeat' ((conv => whnf); first | with_reducible exact True.intro | exact vW | with_reducible refine And.intro ?_ ?_)
        · dsimp only; omega
        · dsimp only; omega
        · unfold i64r; dsimp only; omega
        intro j1 p3 c0 c1 c2
        dsimp only at c0 c1 c2
        have c3 : i64r j1 := by unfold i64r; split at c1 <;> omega
        repeat' ((conv => whnf); first | refine vA ?_ | with_reducible first | refine v8 ?_ | refine Sp.mk ?_ ?_ | refine vS ?_ | refine vR ?_ | refine vB ?_ | refine br_nt ?_ | refine br_tt ?_ | refine br_ff ?_ | refine vP ?_ | refine vQ ?_ | refine vT ?_ | refine vF ?_ | refine br_and ?_ | refine br_or ?_ | refine br_d (fun _ => ?_) fun _ => ?_ | refine vM (fun _ => ?_) fun _ => ?_)
        refine Dr.mk ⟨(.rd 0 (.rd 1 (.rd 2 (.rd 4 (.rd 5 (.rd 6 (.ef 3 (.ef 7 (.rd 8 (.rd 9 (.ef 10 .dn .no))) .no) .no))))))), by decide +kernel, ?_⟩
        repeat' ((conv => whnf); first | with_reducible refine Wr.ex (wsh pV) ?_ | refine vA ?_ | with_reducible first | refine v8 ?_ | refine Sp.mk ?_ ?_ | refine vS ?_ | refine vR ?_ | refine vB ?_ | refine br_nt ?_ | refine br_tt ?_ | refine br_ff ?_ | refine vP ?_ | refine vQ ?_ | refine vT ?_ | refine vF ?_ | refine br_and ?_ | refine br_or ?_ | refine br_d (fun _ => ?_) fun _ => ?_ | refine vM (fun _ => ?_) fun _ => ?_)
        refine ⟨_, _, [0], [], rfl, ?_, ?_, (⟨b, p3⟩, (pw V)), rfl, rfl, ⟨⟨h1, h2, ?_, ?_⟩, ?_⟩, ?_⟩
        · repeat' ((conv => whnf); first | with_reducible exact True.intro | exact vW | with_reducible refine And.intro ?_ ?_)
          try exact Chk.mk (by rw [pw_sh (by assumption)])
        · repeat' ((conv => whnf); first | with_reducible exact True.intro | exact vW | with_reducible refine And.intro ?_ ?_)
        · dsimp only; omega
        · dsimp only; omega
        · unfold i64r; dsimp only; omega
        intro j2 p4 d0 d1 d2
        dsimp only at d0 d1 d2
        repeat' ((conv => whnf); first | refine vA ?_ | with_reducible first | refine v8 ?_ | refine Sp.mk ?_ ?_ | refine vS ?_ | refine vR ?_ | refine vB ?_ | refine br_nt ?_ | refine br_tt ?_ | refine br_ff ?_ | refine vP ?_ | refine vQ ?_ | refine vT ?_ | refine vF ?_ | refine br_and ?_ | refine br_or ?_ | refine br_d (fun _ => ?_) fun _ => ?_ | refine vM (fun _ => ?_) fun _ => ?_)
        refine ⟨_, _, [0], [], rfl, ?_, ?_, (⟨b, p4⟩, (pw V)), rfl, rfl, ⟨⟨h1, h2, ?_, ?_⟩, ?_⟩, ?_⟩
        · repeat' ((conv => whnf); first | with_reducible exact True.intro | exact vW | with_reducible refine And.intro ?_ ?_)
          try exact Chk.mk (by rw [pw_sh (by assumption)])
        · repeat' ((conv => whnf); first | with_reducible exact True.intro | exact vW | with_reducible refine And.intro ?_ ?_)
        · dsimp only; omega
        · dsimp only; omega
        · unfold i64r; dsimp only; omega
        intro j3 p5 e0 e1 e2
        dsimp only at e0 e1 e2
        repeat' ((conv => whnf); first | with_reducible refine wk_at 15 ?_ | with_reducible refine wk_at1 15 ?_ | with_reducible refine wk_at2 15 ?_ | refine vA ?_ | with_reducible first | refine v8 ?_ | refine Sp.mk ?_ ?_ | refine vS ?_ | refine vR ?_ | refine vB ?_ | refine br_nt ?_ | refine br_tt ?_ | refine br_ff ?_ | refine vP ?_ | refine vQ ?_ | refine vT ?_ | refine vF ?_ | refine br_and ?_ | refine br_or ?_ | refine br_d (fun _ => ?_) fun _ => ?_ | refine vM (fun _ => ?_) fun _ => ?_)
        obtain ⟨A, hA⟩ : ∃ A : Int, A = j1 := ⟨_, rfl⟩
        obtain ⟨B, hB⟩ : ∃ B : Int, B = (bitop .i64 .or j2 j3) := ⟨_, rfl⟩
        obtain ⟨W, hW⟩ : ∃ W : ByteArray, ⟨#[]⟩ = W := ⟨_, rfl⟩
        have A0 : i64r A := by rw [hA]; first | exact wi64r _ | (unfold i64r; omega)
        have B0 : i64r B := by rw [hB]; first | exact wi64r _ | (unfold i64r; omega)
        have W0 : W.size ≤ 10000 := by rw [← hW]; first | exact ttext_size _ _ | exact Nat.zero_le _
        obtain ⟨p9, hp9⟩ : ∃ p9 : Int, p9 = p5 := ⟨_, rfl⟩
        have p90 : p ≤ p9 ∧ p9 ≤ p + 200 := by omega
        refine ⟨Wk.go [(0, .ptr 0 0), (4, .ptr 1 0), (5, .ptr 2 0)] [rdO b p9, .box [.int .i64 0, .int .i64 0, .int .i64 0, .str ⟨#[]⟩], .box [.int .i64 k, .int .i64 A, .int .i64 B, .str W]] ⟨⟨[some 0, some 2, some 3], [], rfl, rfl, ?_, ?_⟩⟩ ?_⟩
        · repeat' ((conv => whnf); first | with_reducible exact True.intro | exact vW | with_reducible refine And.intro ?_ ?_)
        · subst hW
          repeat' ((conv => whnf); first | with_reducible exact True.intro | exact vW | with_reducible refine And.intro ?_ ?_)
        clear hA hB hW hp9
        revert A B W p9
        exact key2.t
      · obtain ⟨A, hA⟩ : ∃ A : Int, A = 0 := ⟨_, rfl⟩
        obtain ⟨B, hB⟩ : ∃ B : Int, B = 0 := ⟨_, rfl⟩
        obtain ⟨W, hW⟩ : ∃ W : ByteArray, ⟨#[]⟩ = W := ⟨_, rfl⟩
        have A0 : i64r A := by rw [hA]; first | exact wi64r _ | (unfold i64r; omega)
        have B0 : i64r B := by rw [hB]; first | exact wi64r _ | (unfold i64r; omega)
        have W0 : W.size ≤ 10000 := by rw [← hW]; first | exact ttext_size _ _ | exact Nat.zero_le _
        obtain ⟨p9, hp9⟩ : ∃ p9 : Int, p9 = p2 := ⟨_, rfl⟩
        have p90 : p ≤ p9 ∧ p9 ≤ p + 200 := by omega
        refine ⟨Wk.go [(0, .ptr 0 0), (4, .ptr 1 0), (5, .ptr 2 0)] [rdO b p9, .box [.int .i64 0, .int .i64 0, .int .i64 0, .str ⟨#[]⟩], .box [.int .i64 k, .int .i64 A, .int .i64 B, .str W]] ⟨⟨[some 0, some 2, some 3], [], rfl, rfl, ?_, ?_⟩⟩ ?_⟩
        · repeat' ((conv => whnf); first | with_reducible exact True.intro | exact vW | with_reducible refine And.intro ?_ ?_)
        · subst hW
          repeat' ((conv => whnf); first | with_reducible exact True.intro | exact vW | with_reducible refine And.intro ?_ ?_)
        clear hA hB hW hp9
        revert A B W p9
        exact key2.t
    · intro A B W A0 B0 W0 p9 p90
      repeat' ((conv => whnf); first | refine vA ?_ | with_reducible first | refine v8 ?_ | refine Sp.mk ?_ ?_ | refine vS ?_ | refine vR ?_ | refine vB ?_ | refine br_nt ?_ | refine br_tt ?_ | refine br_ff ?_ | refine vP ?_ | refine vQ ?_ | refine vT ?_ | refine vF ?_ | refine br_and ?_ | refine br_or ?_ | refine br_d (fun _ => ?_) fun _ => ?_ | refine vM (fun _ => ?_) fun _ => ?_)
      refine ⟨_, _, [0], [], rfl, ?_, ?_, (⟨b, p9⟩, 40), rfl, rfl, ⟨⟨h1, h2, by dsimp only; omega, by dsimp only; omega⟩, by unfold i64r; dsimp only; omega⟩, ?_⟩
      · repeat' ((conv => whnf); first | with_reducible exact True.intro | exact vW | with_reducible refine And.intro ?_ ?_)
      · repeat' ((conv => whnf); first | with_reducible exact True.intro | exact vW | with_reducible refine And.intro ?_ ?_)
      intro o p10 g1 g2
      dsimp only at g1 g2
      repeat' ((conv => whnf); first | refine vA ?_ | with_reducible first | refine v8 ?_ | refine Sp.mk ?_ ?_ | refine vS ?_ | refine vR ?_ | refine vB ?_ | refine br_nt ?_ | refine br_tt ?_ | refine br_ff ?_ | refine vP ?_ | refine vQ ?_ | refine vT ?_ | refine vF ?_ | refine br_and ?_ | refine br_or ?_ | refine br_d (fun _ => ?_) fun _ => ?_ | refine vM (fun _ => ?_) fun _ => ?_)
      · refine ⟨_, _, [0], [], rfl, ?_, ?_, (⟨b, p10⟩, 3), rfl, rfl, ⟨⟨h1, h2, ?_, ?_⟩, ?_⟩, ?_⟩
        · repeat' ((conv => whnf); first | with_reducible exact True.intro | exact vW | with_reducible refine And.intro ?_ ?_)
          try exact Chk.mk (by rw [pw_sh (by assumption)])
        · repeat' ((conv => whnf); first | with_reducible exact True.intro | exact vW | with_reducible refine And.intro ?_ ?_)
        · dsimp only; omega
        · dsimp only; omega
        · unfold i64r; dsimp only; omega
        intro r1 p11 f0 f1 f2
        dsimp only at f0 f1 f2
        repeat' ((conv => whnf); first | refine vA ?_ | with_reducible first | refine v8 ?_ | refine Sp.mk ?_ ?_ | refine vS ?_ | refine vR ?_ | refine vB ?_ | refine br_nt ?_ | refine br_tt ?_ | refine br_ff ?_ | refine vP ?_ | refine vQ ?_ | refine vT ?_ | refine vF ?_ | refine br_and ?_ | refine br_or ?_ | refine br_d (fun _ => ?_) fun _ => ?_ | refine vM (fun _ => ?_) fun _ => ?_)
        · refine ⟨_, _, [0], [], rfl, ?_, ?_, (⟨b, p11⟩, 2), rfl, rfl, ⟨⟨h1, h2, ?_, ?_⟩, ?_⟩, ?_⟩
          · repeat' ((conv => whnf); first | with_reducible exact True.intro | exact vW | with_reducible refine And.intro ?_ ?_)
            try exact Chk.mk (by rw [pw_sh (by assumption)])
          · repeat' ((conv => whnf); first | with_reducible exact True.intro | exact vW | with_reducible refine And.intro ?_ ?_)
          · dsimp only; omega
          · dsimp only; omega
          · unfold i64r; dsimp only; omega
          intro r2 p12 g0 g1 g2
          dsimp only at g0 g1 g2
          rcases (show r2 = 0 ∨ r2 = 1 by omega) with rfl | rfl
          · repeat' ((conv => whnf); first | refine vA ?_ | with_reducible first | refine v8 ?_ | refine Sp.mk ?_ ?_ | refine vS ?_ | refine vR ?_ | refine vB ?_ | refine br_nt ?_ | refine br_tt ?_ | refine br_ff ?_ | refine vP ?_ | refine vQ ?_ | refine vT ?_ | refine vF ?_ | refine br_and ?_ | refine br_or ?_ | refine br_d (fun _ => ?_) fun _ => ?_ | refine vM (fun _ => ?_) fun _ => ?_)
            refine ⟨_, _, [some 0], [], rfl, rfl, ?_, ?_, h ⟨k, (-1), B, W⟩ p12 (by omega) (by omega) ⟨k0, (show i64r (-1) from ⟨by decide,by decide⟩), B0, W0⟩⟩
            · repeat' ((conv => whnf); first | with_reducible exact True.intro | exact vW | with_reducible refine And.intro ?_ ?_)
            · repeat' ((conv => whnf); first | with_reducible exact True.intro | exact vW | with_reducible refine And.intro ?_ ?_)
          · repeat' ((conv => whnf); first | refine vA ?_ | with_reducible first | refine v8 ?_ | refine Sp.mk ?_ ?_ | refine vS ?_ | refine vR ?_ | refine vB ?_ | refine br_nt ?_ | refine br_tt ?_ | refine br_ff ?_ | refine vP ?_ | refine vQ ?_ | refine vT ?_ | refine vF ?_ | refine br_and ?_ | refine br_or ?_ | refine br_d (fun _ => ?_) fun _ => ?_ | refine vM (fun _ => ?_) fun _ => ?_)
            refine ⟨_, _, [some 0], [], rfl, rfl, ?_, ?_, h ⟨k, 100, B, W⟩ p12 (by omega) (by omega) ⟨k0, (show i64r 100 from ⟨by decide,by decide⟩), B0, W0⟩⟩
            · repeat' ((conv => whnf); first | with_reducible exact True.intro | exact vW | with_reducible refine And.intro ?_ ?_)
            · repeat' ((conv => whnf); first | with_reducible exact True.intro | exact vW | with_reducible refine And.intro ?_ ?_)
        · refine ⟨_, _, [0], [], rfl, ?_, ?_, (⟨b, p11⟩, 3), rfl, rfl, ⟨⟨h1, h2, ?_, ?_⟩, ?_⟩, ?_⟩
          · repeat' ((conv => whnf); first | with_reducible exact True.intro | exact vW | with_reducible refine And.intro ?_ ?_)
            try exact Chk.mk (by rw [pw_sh (by assumption)])
          · repeat' ((conv => whnf); first | with_reducible exact True.intro | exact vW | with_reducible refine And.intro ?_ ?_)
          · dsimp only; omega
          · dsimp only; omega
          · unfold i64r; dsimp only; omega
          intro r2 p12 g0 g1 g2
          dsimp only at g0 g1 g2
          rcases (show r2 = 0 ∨ r2 = 1 ∨ r2 = 2 by omega) with rfl | rfl | rfl
          · repeat' ((conv => whnf); first | refine vA ?_ | with_reducible first | refine v8 ?_ | refine Sp.mk ?_ ?_ | refine vS ?_ | refine vR ?_ | refine vB ?_ | refine br_nt ?_ | refine br_tt ?_ | refine br_ff ?_ | refine vP ?_ | refine vQ ?_ | refine vT ?_ | refine vF ?_ | refine br_and ?_ | refine br_or ?_ | refine br_d (fun _ => ?_) fun _ => ?_ | refine vM (fun _ => ?_) fun _ => ?_)
            refine ⟨_, _, [some 0], [], rfl, rfl, ?_, ?_, h ⟨k, A, B, ⟨#[40,65,49,41]⟩⟩ p12 (by omega) (by omega) ⟨k0, A0, B0, (show (4:Nat)≤10000 by decide)⟩⟩
            · repeat' ((conv => whnf); first | with_reducible exact True.intro | exact vW | with_reducible refine And.intro ?_ ?_)
            · repeat' ((conv => whnf); first | with_reducible exact True.intro | exact vW | with_reducible refine And.intro ?_ ?_)
          · repeat' ((conv => whnf); first | refine vA ?_ | with_reducible first | refine v8 ?_ | refine Sp.mk ?_ ?_ | refine vS ?_ | refine vR ?_ | refine vB ?_ | refine br_nt ?_ | refine br_tt ?_ | refine br_ff ?_ | refine vP ?_ | refine vQ ?_ | refine vT ?_ | refine vF ?_ | refine br_and ?_ | refine br_or ?_ | refine br_d (fun _ => ?_) fun _ => ?_ | refine vM (fun _ => ?_) fun _ => ?_)
            refine ⟨_, _, [some 0], [], rfl, rfl, ?_, ?_, h ⟨k, A, B, ⟨#[97,32,98]⟩⟩ p12 (by omega) (by omega) ⟨k0, A0, B0, (show (3:Nat)≤10000 by decide)⟩⟩
            · repeat' ((conv => whnf); first | with_reducible exact True.intro | exact vW | with_reducible refine And.intro ?_ ?_)
            · repeat' ((conv => whnf); first | with_reducible exact True.intro | exact vW | with_reducible refine And.intro ?_ ?_)
          · repeat' ((conv => whnf); first | refine vA ?_ | with_reducible first | refine v8 ?_ | refine Sp.mk ?_ ?_ | refine vS ?_ | refine vR ?_ | refine vB ?_ | refine br_nt ?_ | refine br_tt ?_ | refine br_ff ?_ | refine vP ?_ | refine vQ ?_ | refine vT ?_ | refine vF ?_ | refine br_and ?_ | refine br_or ?_ | refine br_d (fun _ => ?_) fun _ => ?_ | refine vM (fun _ => ?_) fun _ => ?_)
            refine ⟨_, _, [some 0], [], rfl, rfl, ?_, ?_, h ⟨k, A, B, ⟨#[]⟩⟩ p12 (by omega) (by omega) ⟨k0, A0, B0, (show (0:Nat)≤10000 by decide)⟩⟩
            · repeat' ((conv => whnf); first | with_reducible exact True.intro | exact vW | with_reducible refine And.intro ?_ ?_)
            · repeat' ((conv => whnf); first | with_reducible exact True.intro | exact vW | with_reducible refine And.intro ?_ ?_)
        · refine ⟨_, _, [some 0], [], rfl, rfl, ?_, ?_, h ⟨k, A, 99, W⟩ p11 (by omega) (by omega) ⟨k0, A0, (show i64r 99 from ⟨by decide,by decide⟩), W0⟩⟩
          · repeat' ((conv => whnf); first | with_reducible exact True.intro | exact vW | with_reducible refine And.intro ?_ ?_)
          · repeat' ((conv => whnf); first | with_reducible exact True.intro | exact vW | with_reducible refine And.intro ?_ ?_)
      · refine ⟨_, _, [some 0], [], rfl, rfl, ?_, ?_, h ⟨k, A, B, W⟩ p10 (by omega) (by omega) ⟨k0, A0, B0, W0⟩⟩
        · repeat' ((conv => whnf); first | with_reducible exact True.intro | exact vW | with_reducible refine And.intro ?_ ?_)
        · repeat' ((conv => whnf); first | with_reducible exact True.intro | exact vW | with_reducible refine And.intro ?_ ?_)
/-! ### Desks that are drawn -/
structure drawnQ (x : Place) : Prop where
  i : placeI x
  bl : x.bs.length ≤ 4
  rl : x.rules.length ≤ 4
  rr : ∀ r ∈ x.rules, r.size ≤ 10000
def drawnD (d : Desk) : Prop := drawnQ d.now ∧ d.past.length ≤ 9 ∧ ∀ p ∈ d.past, drawnQ p
def goodD (d : Desk) : Prop := drawnD d ∧ (deskOk d ∨ d = default)
theorem drawnQ0 : drawnQ default := ⟨placeI0, (by decide : 0 ≤ 4), (by decide : 0 ≤ 4), fun _ h => by cases h⟩
theorem drawnD0 : drawnD default := ⟨drawnQ0, (by decide : 0 ≤ 9), fun _ h => by cases h⟩
theorem drawnP.q {x : Place} (h : drawnP x) : drawnQ x := ⟨h.I, h.bl, h.rl, h.rr⟩
theorem drawnQ.s {x : Place} (h : drawnQ x) : shortP x := ⟨Nat.le_trans h.rl (by decide), Nat.le_trans h.bl (by decide)⟩
theorem drawnD.I {d : Desk} (h : drawnD d) : deskI d := ⟨h.1.i, Nat.lt_of_le_of_lt h.2.1 (by decide), fun p hp => (h.2.2 p hp).i⟩
theorem newDe_good {x : Place} (h : drawnP x) : goodD (newDe x) := by
  unfold newDe
  split
  · rename_i hO
    exact ⟨⟨h.q, (by decide : 0 ≤ 9), fun _ h => by cases h⟩, .inl ⟨hO, (by decide : 0 ≤ 8), fun _ h => by cases h⟩⟩
  · exact ⟨drawnD0, .inr rfl⟩
theorem madeP_mem {x : Place} {a : Dd} : ∀ r ∈ (madeP x a).rules, r ∈ x.rules ∨ r = a.words := by
  unfold madeP
  intro r hr
  split at hr
  · exact .inl hr
  · split at hr
    · exact (List.mem_append.1 hr).imp id fun h => List.mem_singleton.1 h
    · split at hr
      · exact (List.mem_or_eq_of_mem_set hr)
      · split at hr
        · exact .inl ((List.mem_append.1 hr).elim (fun h => List.mem_of_mem_take h) fun h => List.mem_of_mem_drop h)
        · cases hr
theorem drawnA.I {a : Dd} (h : drawnA a) : dedI a := ⟨h.k0, h.a0, h.b0, Nat.lt_of_le_of_lt h.w0 (by decide)⟩
theorem doD_good {d e : Desk} {a : Dd} (h : drawnD d) (hO : deskOk d) (ha : drawnA a) (he : doD d a = some e) : goodD e := by
  unfold doD at he
  split at he
  · rename_i g
    cases he
    have m : d.past.getD (d.past.length - 1) default ∈ d.past := getD_mem' (by omega)
    refine ⟨⟨h.2.2 _ m, ?_, fun p hp => h.2.2 p (List.mem_of_mem_take hp)⟩, .inl ⟨hO.2.2 _ m, ?_, fun p hp => hO.2.2 p (List.mem_of_mem_take hp)⟩⟩
    · have := h.2.1
      dsimp only
      rw [List.length_take]
      omega
    · have := hO.2.1
      dsimp only
      rw [List.length_take]
      omega
  · split at he
    · rename_i g
      cases he
      have M := madeP_I h.1.i h.1.s ha.I
      have P := g.1
      have L := hO.2.1
      have mem : ∀ p ∈ pushP d.past d.now, p ∈ d.past ∨ p = d.now := by
        unfold pushP
        intro p hp
        split at hp
        · exact (List.mem_append.1 (List.mem_of_mem_drop hp)).imp id fun h => List.mem_singleton.1 h
        · exact (List.mem_append.1 hp).imp id fun h => List.mem_singleton.1 h
      have len : (pushP d.past d.now).length ≤ 8 := by
        unfold pushP
        split
        · rw [List.length_drop, List.length_append]
          show d.past.length + 1 - 1 ≤ 8
          omega
        · omega
      have q : drawnQ (madeP d.now a) := ⟨M, P.1.2.1, P.2.1.2, fun r hr => (madeP_mem r hr).elim (fun k => h.1.rr r k) fun k => k ▸ ha.w0⟩
      exact ⟨⟨q, Nat.le_trans len (by decide), fun p hp => (mem p hp).elim (fun k => h.2.2 p k) fun k => k ▸ h.1⟩, .inl ⟨P, len, fun p hp => (mem p hp).elim (fun k => hO.2.2 p k) fun k => k ▸ hO.1⟩⟩
    · cases he
theorem canD_t {d : Desk} {a : Dd} (h : canD d a = true) : ∃ e, deskOk d ∧ doD d a = some e ∧ afterD d a = e := by
  unfold canD at h
  rw [Bool.and_eq_true, decide_eq_true_eq, Option.isSome_iff_exists] at h
  obtain ⟨e, he⟩ := h.2
  exact ⟨e, h.1, he, afterD_some h.1 he⟩
end Go.Proofs.YtjefkdhecccfpaaDoor.Vc
end
section
/- Part XE: the laws on texts of deeds that are read. -/
namespace Go.Proofs.YtjefkdhecccfpaaDoor.Vc
open Go.Proofs
set_option maxRecDepth 10000
set_option maxHeartbeats 4000000
def C245 := C258
theorem F245 : FF 25 C245 := by
  refine fitX [(61, C258)] (by simp only [List.mem_cons, List.not_mem_nil, or_false]; rintro _ rfl <;> first | exact F258) [] (by simp) Tryd.f25 ⟨rfl, by decide +kernel, by decide +kernel⟩ (fun _ _ _ hk h => h.mono hk) ?_
  rintro s K hs ⟨h, hno⟩
  refine ⟨Nat.le_of_ble_eq_true rfl, ?_⟩
  repeat' ((conv => whnf); first | refine vA ?_ | with_reducible first | refine v8 ?_ | refine Sp.mk ?_ ?_ | refine vS ?_ | refine vR ?_ | refine vB ?_ | refine br_nt ?_ | refine br_tt ?_ | refine br_ff ?_ | refine vP ?_ | refine vQ ?_ | refine vT ?_ | refine vF ?_ | refine br_and ?_ | refine br_or ?_ | refine br_d (fun _ => ?_) fun _ => ?_ | refine vM (fun _ => ?_) fun _ => ?_)
  refine ⟨s, ?_, ⟨hs⟩, ?_⟩
  · repeat' ((conv => whnf); first | with_reducible exact True.intro | exact vW | with_reducible refine And.intro ?_ ?_)
  refine ⟨fun x q => ?_, fun q => ?_⟩
  · have h := h x q
    obtain ⟨k, a, b, w⟩ := x
    dsimp only [ded, encD] at h ⊢
    repeat' ((conv => whnf); first | refine vA ?_ | with_reducible first | refine v8 ?_ | refine Sp.mk ?_ ?_ | refine vS ?_ | refine vR ?_ | refine vB ?_ | refine br_nt ?_ | refine br_tt ?_ | refine br_ff ?_ | refine vP ?_ | refine vQ ?_ | refine vT ?_ | refine vF ?_ | refine br_and ?_ | refine br_or ?_ | refine br_d (fun _ => ?_) fun _ => ?_ | refine vM (fun _ => ?_) fun _ => ?_)
    exact h
  · have h := hno q
    dsimp only [ded, encD] at h ⊢
    repeat' ((conv => whnf); first | refine vA ?_ | with_reducible first | refine v8 ?_ | refine Sp.mk ?_ ?_ | refine vS ?_ | refine vR ?_ | refine vB ?_ | refine br_nt ?_ | refine br_tt ?_ | refine br_ff ?_ | refine vP ?_ | refine vQ ?_ | refine vT ?_ | refine vF ?_ | refine br_and ?_ | refine br_or ?_ | refine br_d (fun _ => ?_) fun _ => ?_ | refine vM (fun _ => ?_) fun _ => ?_)
    exact h
def C233 : List AV → (AV → Prop) → Prop := con (X := ByteArray) (fun s => [.str s]) (fun s => s.size < 9223372036854775808) fun _ K => K (.bool true)
theorem F233 : FF 5 C233 := by
  refine fitE [(24, C244), (25, C245), (26, C116)] (by simp only [List.mem_cons, List.not_mem_nil, or_false]; rintro _ (rfl | rfl | rfl) <;> first | exact F244 | exact F245 | exact F116) Tryd.f5 ⟨rfl, by decide +kernel, by decide +kernel⟩ (fun _ _ _ hk h => hk _ h) ?_
  rintro s K hs h
  refine ⟨Nat.le_of_ble_eq_true rfl, ?_⟩
  have htt : (true == true) = true := rfl
  have hff : (false == false) = true := rfl
  repeat' ((conv => whnf); first | refine vA ?_ | with_reducible first | refine v8 ?_ | refine Sp.mk ?_ ?_ | refine vS ?_ | refine vR ?_ | refine vB ?_ | refine br_nt ?_ | refine br_tt ?_ | refine br_ff ?_ | refine vP ?_ | refine vQ ?_ | refine vT ?_ | refine vF ?_ | refine br_and ?_ | refine br_or ?_ | refine br_d (fun _ => ?_) fun _ => ?_ | refine vM (fun _ => ?_) fun _ => ?_)
  · exact h
  rename_i hl
  refine ⟨s, ?_, ⟨by omega⟩, ?_⟩
  · repeat' ((conv => whnf); first | with_reducible exact True.intro | exact vW | with_reducible refine And.intro ?_ ?_)
  by_cases hx : ∃ x, isDd s x
  · obtain ⟨y, hy⟩ := hx
    refine ⟨fun x q => ?_, fun q => (q ⟨_, hy⟩).elim⟩
    obtain rfl := isDd_one q hy
    obtain ⟨k, a, b, w⟩ := x
    dsimp only [ded, encD]
    repeat' ((conv => whnf); first | refine vA ?_ | with_reducible first | refine v8 ?_ | refine Sp.mk ?_ ?_ | refine vS ?_ | refine vR ?_ | refine vB ?_ | refine br_nt ?_ | refine br_tt ?_ | refine br_ff ?_ | refine vP ?_ | refine vQ ?_ | refine vT ?_ | refine vF ?_ | refine br_and ?_ | refine br_or ?_ | refine br_d (fun _ => ?_) fun _ => ?_ | refine vM (fun _ => ?_) fun _ => ?_)
    refine ⟨s, ?_, ⟨by omega⟩, ?_⟩
    · repeat' ((conv => whnf); first | with_reducible exact True.intro | exact vW | with_reducible refine And.intro ?_ ?_)
    refine ⟨fun x q => ?_, fun q => (q ⟨_, hy⟩).elim⟩
    obtain rfl := isDd_one q hy
    dsimp only [ded, encD]
    repeat' ((conv => whnf); first | refine vA ?_ | with_reducible first | refine v8 ?_ | refine Sp.mk ?_ ?_ | refine vS ?_ | refine vR ?_ | refine vB ?_ | refine br_nt ?_ | refine br_tt ?_ | refine br_ff ?_ | refine vP ?_ | refine vQ ?_ | refine vT ?_ | refine vF ?_ | refine br_and ?_ | refine br_or ?_ | refine br_d (fun _ => ?_) fun _ => ?_ | refine vM (fun _ => ?_) fun _ => ?_)
    refine ⟨⟨k, a, b, w⟩, ?_, ⟨trivial⟩, ?_⟩
    · repeat' ((conv => whnf); first | with_reducible exact True.intro | exact vW | with_reducible refine And.intro ?_ ?_)
    repeat' ((conv => whnf); first | refine vA ?_ | with_reducible first | refine v8 ?_ | refine Sp.mk ?_ ?_ | refine vS ?_ | refine vR ?_ | refine vB ?_ | refine br_nt ?_ | refine br_tt ?_ | refine br_ff ?_ | refine vP ?_ | refine vQ ?_ | refine vT ?_ | refine vF ?_ | refine br_and ?_ | refine br_or ?_ | refine br_d (fun _ => ?_) fun _ => ?_ | refine vM (fun _ => ?_) fun _ => ?_)
    exact h
  · refine ⟨fun x q => (hx ⟨_, q⟩).elim, fun _ => ?_⟩
    dsimp only [ded, encD]
    repeat' ((conv => whnf); first | refine vA ?_ | with_reducible first | refine v8 ?_ | refine Sp.mk ?_ ?_ | refine vS ?_ | refine vR ?_ | refine vB ?_ | refine br_nt ?_ | refine br_tt ?_ | refine br_ff ?_ | refine vP ?_ | refine vQ ?_ | refine vT ?_ | refine vF ?_ | refine br_and ?_ | refine br_or ?_ | refine br_d (fun _ => ?_) fun _ => ?_ | refine vM (fun _ => ?_) fun _ => ?_)
    refine ⟨s, ?_, ⟨by omega⟩, ?_⟩
    · repeat' ((conv => whnf); first | with_reducible exact True.intro | exact vW | with_reducible refine And.intro ?_ ?_)
    refine ⟨fun x q => (hx ⟨_, q⟩).elim, fun _ => ?_⟩
    dsimp only [ded, encD]
    repeat' ((conv => whnf); first | refine vA ?_ | with_reducible first | refine v8 ?_ | refine Sp.mk ?_ ?_ | refine vS ?_ | refine vR ?_ | refine vB ?_ | refine br_nt ?_ | refine br_tt ?_ | refine br_ff ?_ | refine vP ?_ | refine vQ ?_ | refine vT ?_ | refine vF ?_ | refine br_and ?_ | refine br_or ?_ | refine br_d (fun _ => ?_) fun _ => ?_ | refine vM (fun _ => ?_) fun _ => ?_)
    refine ⟨default, ?_, ⟨trivial⟩, ?_⟩
    · repeat' ((conv => whnf); first | with_reducible exact True.intro | exact vW | with_reducible refine And.intro ?_ ?_)
    repeat' ((conv => whnf); first | refine vA ?_ | with_reducible first | refine v8 ?_ | refine Sp.mk ?_ ?_ | refine vS ?_ | refine vR ?_ | refine vB ?_ | refine br_nt ?_ | refine br_tt ?_ | refine br_ff ?_ | refine vP ?_ | refine vQ ?_ | refine vT ?_ | refine vF ?_ | refine br_and ?_ | refine br_or ?_ | refine br_d (fun _ => ?_) fun _ => ?_ | refine vM (fun _ => ?_) fun _ => ?_)
    exact h
theorem drawnP.S {x : Place} (h : drawnP x) : placeS x := ⟨h.I, h.bl, Nat.le_trans h.rl (by decide)⟩
def C250 : List AV → (AV → Prop) → Prop := con (X := List Int) (fun l => [slB l]) bytesI fun _ K => ∀ a, drawnA a → K (ded a)
theorem F250 : FF 32 C250 := by
  refine fitX [] (by simp) [(40, C42), (64, C151), (42, C184)] (by simp only [List.mem_cons, List.not_mem_nil, or_false]; rintro _ (rfl | rfl | rfl) <;> first | exact F42 | exact F151 | exact F184) Tryd.f32 ⟨rfl, by decide +kernel, by decide +kernel⟩ (fun _ _ _ hk h a ha => hk _ (h a ha)) ?_
  rintro l K hl h
  refine ⟨Nat.le_of_ble_eq_true rfl, ?_⟩
  repeat' ((conv => whnf); first | refine vA ?_ | with_reducible first | refine v8 ?_ | refine Sp.mk ?_ ?_ | refine vS ?_ | refine vR ?_ | refine vB ?_ | refine br_nt ?_ | refine br_tt ?_ | refine br_ff ?_ | refine vP ?_ | refine vQ ?_ | refine vT ?_ | refine vF ?_ | refine br_and ?_ | refine br_or ?_ | refine br_d (fun _ => ?_) fun _ => ?_ | refine vM (fun _ => ?_) fun _ => ?_)
  refine ⟨_, _, [], [], rfl, ?_, ?_, l, rfl, rfl, ⟨hl⟩, ?_⟩
  · repeat' ((conv => whnf); first | with_reducible exact True.intro | exact vW | with_reducible refine And.intro ?_ ?_)
  · repeat' ((conv => whnf); first | with_reducible exact True.intro | exact vW | with_reducible refine And.intro ?_ ?_)
  rintro b ⟨h1, h2, h3, h4⟩
  dsimp only
  repeat' ((conv => whnf); first | refine vA ?_ | with_reducible first | refine v8 ?_ | refine Sp.mk ?_ ?_ | refine vS ?_ | refine vR ?_ | refine vB ?_ | refine br_nt ?_ | refine br_tt ?_ | refine br_ff ?_ | refine vP ?_ | refine vQ ?_ | refine vT ?_ | refine vF ?_ | refine br_and ?_ | refine br_or ?_ | refine br_d (fun _ => ?_) fun _ => ?_ | refine vM (fun _ => ?_) fun _ => ?_)
  refine ⟨_, _, [1], [], rfl, ?_, ?_, (⟨b, 0⟩, 0), rfl, rfl, ⟨⟨h1, h2, by dsimp only; omega, by dsimp only; omega⟩, by unfold i64r; dsimp only; omega⟩, ?_⟩
  · repeat' ((conv => whnf); first | with_reducible exact True.intro | exact vW | with_reducible refine And.intro ?_ ?_)
  · repeat' ((conv => whnf); first | with_reducible exact True.intro | exact vW | with_reducible refine And.intro ?_ ?_)
  rintro ⟨p, bs, rs⟩ p1 y1 y2 hy
  dsimp only [enPl, plC] at y1 y2 ⊢
  repeat' ((conv => whnf); first | refine vA ?_ | with_reducible first | refine v8 ?_ | refine Sp.mk ?_ ?_ | refine vS ?_ | refine vR ?_ | refine vB ?_ | refine br_nt ?_ | refine br_tt ?_ | refine br_ff ?_ | refine vP ?_ | refine vQ ?_ | refine vT ?_ | refine vF ?_ | refine br_and ?_ | refine br_or ?_ | refine br_d (fun _ => ?_) fun _ => ?_ | refine vM (fun _ => ?_) fun _ => ?_)
  refine ⟨_, _, [1], [], rfl, ?_, ?_, ⟨⟨b, p1⟩, ⟨p, bs, rs⟩⟩, rfl, rfl, ⟨⟨h1, h2, by dsimp only; omega, by dsimp only; omega⟩, hy.S⟩, ?_⟩
  · repeat' ((conv => whnf); first | with_reducible exact True.intro | exact vW | with_reducible refine And.intro ?_ ?_)
  · repeat' ((conv => whnf); first | with_reducible exact True.intro | exact vW | with_reducible refine And.intro ?_ ?_)
  rintro ⟨k, a, b', w⟩ p2 a1 a2 ha
  dsimp only [ded, encD] at a1 a2 ⊢
  repeat' ((conv => whnf); first | refine vA ?_ | with_reducible first | refine v8 ?_ | refine Sp.mk ?_ ?_ | refine vS ?_ | refine vR ?_ | refine vB ?_ | refine br_nt ?_ | refine br_tt ?_ | refine br_ff ?_ | refine vP ?_ | refine vQ ?_ | refine vT ?_ | refine vF ?_ | refine br_and ?_ | refine br_or ?_ | refine br_d (fun _ => ?_) fun _ => ?_ | refine vM (fun _ => ?_) fun _ => ?_)
  exact h _ ha
def C235 : List AV → (AV → Prop) → Prop := con (X := List Int) (fun l => [slB l]) bytesI fun _ K => K (.bool true)
theorem F235 : FF 7 C235 := by
  refine fitE [(32, C250), (33, C104), (34, C105), (25, C245), (15, C22)] (by simp only [List.mem_cons, List.not_mem_nil, or_false]; rintro _ (rfl | rfl | rfl | rfl | rfl) <;> first | exact F250 | exact F104 | exact F105 | exact F245 | exact F22) Tryd.f7 ⟨rfl, by decide +kernel, by decide +kernel⟩ (fun _ _ _ hk h => hk _ h) ?_
  rintro l K hl h
  refine ⟨Nat.le_of_ble_eq_true rfl, ?_⟩
  have hll := hl.2
  repeat' ((conv => whnf); first | refine vA ?_ | with_reducible first | refine v8 ?_ | refine Sp.mk ?_ ?_ | refine vS ?_ | refine vR ?_ | refine vB ?_ | refine br_nt ?_ | refine br_tt ?_ | refine br_ff ?_ | refine vP ?_ | refine vQ ?_ | refine vT ?_ | refine vF ?_ | refine br_and ?_ | refine br_or ?_ | refine br_d (fun _ => ?_) fun _ => ?_ | refine vM (fun _ => ?_) fun _ => ?_)
  · exact h
  refine ⟨l, ?_, ⟨hl⟩, ?_⟩
  · repeat' ((conv => whnf); first | with_reducible exact True.intro | exact vW | with_reducible refine And.intro ?_ ?_)
  rintro x hx
  have hw := hx.w0
  have hsz := deedT_size x
  obtain ⟨k, a, b, w⟩ := x
  dsimp only [ded, encD] at hw hsz ⊢
  repeat' ((conv => whnf); first | refine vA ?_ | with_reducible first | refine v8 ?_ | refine Sp.mk ?_ ?_ | refine vS ?_ | refine vR ?_ | refine vB ?_ | refine br_nt ?_ | refine br_tt ?_ | refine br_ff ?_ | refine vP ?_ | refine vQ ?_ | refine vT ?_ | refine vF ?_ | refine br_and ?_ | refine br_or ?_ | refine br_d (fun _ => ?_) fun _ => ?_ | refine vM (fun _ => ?_) fun _ => ?_)
  refine ⟨⟨k, a, b, w⟩, ?_, ⟨by dsimp only; omega⟩, ?_⟩
  · repeat' ((conv => whnf); first | with_reducible exact True.intro | exact vW | with_reducible refine And.intro ?_ ?_)
  repeat' ((conv => whnf); first | refine vA ?_ | with_reducible first | refine v8 ?_ | refine Sp.mk ?_ ?_ | refine vS ?_ | refine vR ?_ | refine vB ?_ | refine br_nt ?_ | refine br_tt ?_ | refine br_ff ?_ | refine vP ?_ | refine vQ ?_ | refine vT ?_ | refine vF ?_ | refine br_and ?_ | refine br_or ?_ | refine br_d (fun _ => ?_) fun _ => ?_ | refine vM (fun _ => ?_) fun _ => ?_)
  refine ⟨⟨k, a, b, w⟩, ?_, ⟨by dsimp only; omega⟩, ?_⟩
  · repeat' ((conv => whnf); first | with_reducible exact True.intro | exact vW | with_reducible refine And.intro ?_ ?_)
  by_cases hO : okDd ⟨k, a, b, w⟩
  · have hne := okDd_ne hO
    have hself : deedT ⟨k, a, b, w⟩ = deedT ⟨k, a, b, w⟩ := rfl
    repeat' ((conv => whnf); first | refine vA ?_ | with_reducible first | refine v8 ?_ | refine Sp.mk ?_ ?_ | refine vS ?_ | refine vR ?_ | refine vB ?_ | refine br_nt ?_ | refine br_tt ?_ | refine br_ff ?_ | refine vP ?_ | refine vQ ?_ | refine vT ?_ | refine vF ?_ | refine br_and ?_ | refine br_or ?_ | refine br_d (fun _ => ?_) fun _ => ?_ | refine vM (fun _ => ?_) fun _ => ?_)
    refine ⟨deedT ⟨k, a, b, w⟩, ?_, ⟨by omega⟩, ?_⟩
    · repeat' ((conv => whnf); first | with_reducible exact True.intro | exact vW | with_reducible refine And.intro ?_ ?_)
    have hd : isDd (deedT ⟨k, a, b, w⟩) ⟨k, a, b, w⟩ := ⟨hO, rfl⟩
    refine ⟨fun x q => ?_, fun q => (q ⟨_, hd⟩).elim⟩
    obtain rfl := isDd_one q hd
    dsimp only [ded, encD]
    repeat' ((conv => whnf); first | refine vA ?_ | with_reducible first | refine v8 ?_ | refine Sp.mk ?_ ?_ | refine vS ?_ | refine vR ?_ | refine vB ?_ | refine br_nt ?_ | refine br_tt ?_ | refine br_ff ?_ | refine vP ?_ | refine vQ ?_ | refine vT ?_ | refine vF ?_ | refine br_and ?_ | refine br_or ?_ | refine br_d (fun _ => ?_) fun _ => ?_ | refine vM (fun _ => ?_) fun _ => ?_)
    simpa using h
  · dsimp only
    rw [deedT_no hO]
    have hee : (⟨#[]⟩ : ByteArray) = ⟨#[]⟩ := rfl
    repeat' ((conv => whnf); first | refine vA ?_ | with_reducible first | refine v8 ?_ | refine Sp.mk ?_ ?_ | refine vS ?_ | refine vR ?_ | refine vB ?_ | refine br_nt ?_ | refine br_tt ?_ | refine br_ff ?_ | refine vP ?_ | refine vQ ?_ | refine vT ?_ | refine vF ?_ | refine br_and ?_ | refine br_or ?_ | refine br_d (fun _ => ?_) fun _ => ?_ | refine vM (fun _ => ?_) fun _ => ?_)
    refine ⟨(), ?_, ⟨trivial⟩, ?_⟩
    · repeat' ((conv => whnf); first | with_reducible exact True.intro | exact vW | with_reducible refine And.intro ?_ ?_)
    repeat' ((conv => whnf); first | refine vA ?_ | with_reducible first | refine v8 ?_ | refine Sp.mk ?_ ?_ | refine vS ?_ | refine vR ?_ | refine vB ?_ | refine br_nt ?_ | refine br_tt ?_ | refine br_ff ?_ | refine vP ?_ | refine vQ ?_ | refine vT ?_ | refine vF ?_ | refine br_and ?_ | refine br_or ?_ | refine br_d (fun _ => ?_) fun _ => ?_ | refine vM (fun _ => ?_) fun _ => ?_)
    exact h
def C251 : List AV → (AV → Prop) → Prop := con (X := List Int) (fun l => [slB l]) bytesI fun _ K => ∀ s : ByteArray, s.size ≤ 20004 → K (.str s)
theorem F251 : FF 35 C251 := by
  refine fitX [(34, C105)] (by simp only [List.mem_cons, List.not_mem_nil, or_false]; rintro _ rfl <;> first | exact F105) [(40, C42), (68, C52), (64, C151), (42, C184), (69, C217)] (by simp only [List.mem_cons, List.not_mem_nil, or_false]; rintro _ (rfl | rfl | rfl | rfl | rfl) <;> first | exact F42 | exact F52 | exact F151 | exact F184 | exact F217) Tryd.f35 ⟨rfl, by decide +kernel, by decide +kernel⟩ (fun _ _ _ hk h a ha => hk _ (h a ha)) ?_
  rintro l K hl h
  refine ⟨Nat.le_of_ble_eq_true rfl, ?_⟩
  repeat' ((conv => whnf); first | refine vA ?_ | with_reducible first | refine v8 ?_ | refine Sp.mk ?_ ?_ | refine vS ?_ | refine vR ?_ | refine vB ?_ | refine br_nt ?_ | refine br_tt ?_ | refine br_ff ?_ | refine vP ?_ | refine vQ ?_ | refine vT ?_ | refine vF ?_ | refine br_and ?_ | refine br_or ?_ | refine br_d (fun _ => ?_) fun _ => ?_ | refine vM (fun _ => ?_) fun _ => ?_)
  refine ⟨_, _, [], [], rfl, ?_, ?_, l, rfl, rfl, ⟨hl⟩, ?_⟩
  · repeat' ((conv => whnf); first | with_reducible exact True.intro | exact vW | with_reducible refine And.intro ?_ ?_)
  · repeat' ((conv => whnf); first | with_reducible exact True.intro | exact vW | with_reducible refine And.intro ?_ ?_)
  rintro b ⟨h1, h2, h3, h4⟩
  dsimp only
  repeat' ((conv => whnf); first | refine vA ?_ | with_reducible first | refine v8 ?_ | refine Sp.mk ?_ ?_ | refine vS ?_ | refine vR ?_ | refine vB ?_ | refine br_nt ?_ | refine br_tt ?_ | refine br_ff ?_ | refine vP ?_ | refine vQ ?_ | refine vT ?_ | refine vF ?_ | refine br_and ?_ | refine br_or ?_ | refine br_d (fun _ => ?_) fun _ => ?_ | refine vM (fun _ => ?_) fun _ => ?_)
  refine ⟨_, _, [0], [], rfl, ?_, ?_, (⟨b, 0⟩, 0), rfl, rfl, ⟨⟨h1, h2, by dsimp only; omega, by dsimp only; omega⟩, by unfold i64r; dsimp only; omega⟩, ?_⟩
  · repeat' ((conv => whnf); first | with_reducible exact True.intro | exact vW | with_reducible refine And.intro ?_ ?_)
  · repeat' ((conv => whnf); first | with_reducible exact True.intro | exact vW | with_reducible refine And.intro ?_ ?_)
  rintro ⟨p, bs, rs⟩ p1 y1 y2 hy
  dsimp only [enPl, plC] at y1 y2 ⊢
  repeat' ((conv => whnf); first | refine vA ?_ | with_reducible first | refine v8 ?_ | refine Sp.mk ?_ ?_ | refine vS ?_ | refine vR ?_ | refine vB ?_ | refine br_nt ?_ | refine br_tt ?_ | refine br_ff ?_ | refine vP ?_ | refine vQ ?_ | refine vT ?_ | refine vF ?_ | refine br_and ?_ | refine br_or ?_ | refine br_d (fun _ => ?_) fun _ => ?_ | refine vM (fun _ => ?_) fun _ => ?_)
  refine ⟨_, _, [0], [], rfl, ?_, ?_, ⟨⟨b, p1⟩, ⟨p, bs, rs⟩⟩, rfl, rfl, ⟨⟨h1, h2, by dsimp only; omega, by dsimp only; omega⟩, hy.S⟩, ?_⟩
  · repeat' ((conv => whnf); first | with_reducible exact True.intro | exact vW | with_reducible refine And.intro ?_ ?_)
  · repeat' ((conv => whnf); first | with_reducible exact True.intro | exact vW | with_reducible refine And.intro ?_ ?_)
  rintro ⟨k, a, b', w⟩ p2 a1 a2 ha
  dsimp only [ded, encD] at a1 a2 ⊢
  have hw := ha.w0
  have hsz := deedT_size ⟨k, a, b', w⟩
  dsimp only at hw hsz
  repeat' ((conv => whnf); first | refine vA ?_ | with_reducible first | refine v8 ?_ | refine Sp.mk ?_ ?_ | refine vS ?_ | refine vR ?_ | refine vB ?_ | refine br_nt ?_ | refine br_tt ?_ | refine br_ff ?_ | refine vP ?_ | refine vQ ?_ | refine vT ?_ | refine vF ?_ | refine br_and ?_ | refine br_or ?_ | refine br_d (fun _ => ?_) fun _ => ?_ | refine vM (fun _ => ?_) fun _ => ?_)
  refine ⟨⟨k, a, b', w⟩, ?_, ⟨by dsimp only; omega⟩, ?_⟩
  · repeat' ((conv => whnf); first | with_reducible exact True.intro | exact vW | with_reducible refine And.intro ?_ ?_)
  dsimp only
  generalize deedT ⟨k, a, b', w⟩ = t at hsz ⊢
  repeat' ((conv => whnf); first | refine vA ?_ | with_reducible first | refine v8 ?_ | refine Sp.mk ?_ ?_ | refine vS ?_ | refine vR ?_ | refine vB ?_ | refine br_nt ?_ | refine br_tt ?_ | refine br_ff ?_ | refine vP ?_ | refine vQ ?_ | refine vT ?_ | refine vF ?_ | refine br_and ?_ | refine br_or ?_ | refine br_d (fun _ => ?_) fun _ => ?_ | refine vM (fun _ => ?_) fun _ => ?_)
  refine ⟨_, _, [0], [], rfl, ?_, ?_, (⟨b, p2⟩, 3), rfl, rfl, ⟨⟨h1, h2, ?_, ?_⟩, ?_⟩, ?_⟩
  · repeat' ((conv => whnf); first | with_reducible exact True.intro | exact vW | with_reducible refine And.intro ?_ ?_)
    try exact Chk.mk (by rw [pw_sh (by assumption)])
  · repeat' ((conv => whnf); first | with_reducible exact True.intro | exact vW | with_reducible refine And.intro ?_ ?_)
  · dsimp only; omega
  · dsimp only; omega
  · unfold i64r; dsimp only; omega
  intro k3 p3 c0 c1 c2
  dsimp only at c0 c1 c2
  repeat' ((conv => whnf); first | refine vA ?_ | with_reducible first | refine v8 ?_ | refine Sp.mk ?_ ?_ | refine vS ?_ | refine vR ?_ | refine vB ?_ | refine br_nt ?_ | refine br_tt ?_ | refine br_ff ?_ | refine vP ?_ | refine vQ ?_ | refine vT ?_ | refine vF ?_ | refine br_and ?_ | refine br_or ?_ | refine br_d (fun _ => ?_) fun _ => ?_ | refine vM (fun _ => ?_) fun _ => ?_)
  · refine ⟨_, _, [0], [], rfl, ?_, ?_, ⟨⟨b, p3⟩, t⟩, rfl, rfl, ⟨⟨h1, h2, by dsimp only; omega, by dsimp only; omega⟩, by dsimp only; omega⟩, ?_⟩
    · repeat' ((conv => whnf); first | with_reducible exact True.intro | exact vW | with_reducible refine And.intro ?_ ?_)
    · repeat' ((conv => whnf); first | with_reducible exact True.intro | exact vW | with_reducible refine And.intro ?_ ?_)
    intro u p4 u1 u2 u3
    dsimp only at u3
    repeat' ((conv => whnf); first | refine vA ?_ | with_reducible first | refine v8 ?_ | refine Sp.mk ?_ ?_ | refine vS ?_ | refine vR ?_ | refine vB ?_ | refine br_nt ?_ | refine br_tt ?_ | refine br_ff ?_ | refine vP ?_ | refine vQ ?_ | refine vT ?_ | refine vF ?_ | refine br_and ?_ | refine br_or ?_ | refine br_d (fun _ => ?_) fun _ => ?_ | refine vM (fun _ => ?_) fun _ => ?_)
    exact h u (by omega)
  · exact h t (by omega)
theorem parts_ne {x : Dd} (h : okDd x) : ∀ y ∈ kindB x.kind :: ((numsOf x).map num ++ wordsOf x), y ≠ ⟨#[]⟩ := by
  intro y hy
  rcases List.mem_cons.1 hy with rfl | hy
  · exact fun e => (kindB_no x.kind).2.2 (by rw [e]; rfl)
  · rcases List.mem_append.1 hy with hy | hy
    · obtain ⟨n, hn, rfl⟩ := List.mem_map.1 hy
      obtain ⟨m, m1, m2, _⟩ := num_nat (numsOf_mem h n hn)
      intro e
      have := (num_len m1).1
      rw [← m2, e] at this
      exact absurd this (by decide)
    · rcases wordsOf_kind h with ⟨q, _⟩ | ⟨q, q2, _⟩
      · rw [q] at hy; cases hy
      · rw [q] at hy
        rw [List.mem_singleton.1 hy]
        exact q2
theorem isDd_sp {s : ByteArray} {x : Dd} (h : isDd (s ++ ⟨#[32]⟩) x) : False := by
  have e : cutB (s ++ ⟨#[32]⟩) 32 = cutB s 32 ++ [⟨#[]⟩] := by
    unfold cutB
    rw [show (s ++ ⟨#[32]⟩).data.toList = s.data.toList ++ [32] by rw [ByteArray.data_append, Array.toList_append], cutL_snoc, List.map_append]
    rfl
  rw [isDd_cut h] at e
  exact parts_ne h.1 ⟨#[]⟩ (by rw [e]; exact List.mem_append_right _ List.mem_cons_self) rfl
def C236 : List AV → (AV → Prop) → Prop := con (X := List Int) (fun l => [slB l]) bytesI fun _ K => K (.bool true)
theorem F236 : FF 8 C236 := by
  refine fitE [(35, C251), (25, C245), (24, C244), (33, C104), (15, C22)] (by simp only [List.mem_cons, List.not_mem_nil, or_false]; rintro _ (rfl | rfl | rfl | rfl | rfl) <;> first | exact F251 | exact F245 | exact F244 | exact F104 | exact F22) Tryd.f8 ⟨rfl, by decide +kernel, by decide +kernel⟩ (fun _ _ _ hk h => hk _ h) ?_
  rintro l K hl h
  refine ⟨Nat.le_of_ble_eq_true rfl, ?_⟩
  have hll := hl.2
  have htt : (true == true) = true := rfl
  have hff : (false == false) = true := rfl
  have hee : (⟨#[]⟩ : ByteArray) = ⟨#[]⟩ := rfl
  repeat' ((conv => whnf); first | refine vA ?_ | with_reducible first | refine v8 ?_ | refine Sp.mk ?_ ?_ | refine vS ?_ | refine vR ?_ | refine vB ?_ | refine br_nt ?_ | refine br_tt ?_ | refine br_ff ?_ | refine vP ?_ | refine vQ ?_ | refine vT ?_ | refine vF ?_ | refine br_and ?_ | refine br_or ?_ | refine br_d (fun _ => ?_) fun _ => ?_ | refine vM (fun _ => ?_) fun _ => ?_)
  · exact h
  refine ⟨l, ?_, ⟨hl⟩, ?_⟩
  · repeat' ((conv => whnf); first | with_reducible exact True.intro | exact vW | with_reducible refine And.intro ?_ ?_)
  intro s hs
  repeat' ((conv => whnf); first | refine vA ?_ | with_reducible first | refine v8 ?_ | refine Sp.mk ?_ ?_ | refine vS ?_ | refine vR ?_ | refine vB ?_ | refine br_nt ?_ | refine br_tt ?_ | refine br_ff ?_ | refine vP ?_ | refine vQ ?_ | refine vT ?_ | refine vF ?_ | refine br_and ?_ | refine br_or ?_ | refine br_d (fun _ => ?_) fun _ => ?_ | refine vM (fun _ => ?_) fun _ => ?_)
  refine ⟨s, ?_, ⟨by omega⟩, ?_⟩
  · repeat' ((conv => whnf); first | with_reducible exact True.intro | exact vW | with_reducible refine And.intro ?_ ?_)
  by_cases hx : ∃ x, isDd s x
  · obtain ⟨y, hy⟩ := hx
    refine ⟨fun x q => ?_, fun q => (q ⟨_, hy⟩).elim⟩
    obtain rfl := isDd_one q hy
    have hws := words_le hy.1
    obtain ⟨k, a, b, w⟩ := x
    have hw : w = w := rfl
    have hd : deedT ⟨k, a, b, w⟩ = s := hy.2
    rw [hd] at hws
    dsimp only [ded, encD] at hws ⊢
    repeat' ((conv => whnf); first | refine vA ?_ | with_reducible first | refine v8 ?_ | refine Sp.mk ?_ ?_ | refine vS ?_ | refine vR ?_ | refine vB ?_ | refine br_nt ?_ | refine br_tt ?_ | refine br_ff ?_ | refine vP ?_ | refine vQ ?_ | refine vT ?_ | refine vF ?_ | refine br_and ?_ | refine br_or ?_ | refine br_d (fun _ => ?_) fun _ => ?_ | refine vM (fun _ => ?_) fun _ => ?_)
    refine ⟨s, ?_, ⟨by omega⟩, ?_⟩
    · repeat' ((conv => whnf); first | with_reducible exact True.intro | exact vW | with_reducible refine And.intro ?_ ?_)
    refine ⟨fun x q => ?_, fun q => (q ⟨_, hy⟩).elim⟩
    obtain rfl := isDd_one q hy
    dsimp only [ded, encD]
    repeat' ((conv => whnf); first | refine vA ?_ | with_reducible first | refine v8 ?_ | refine Sp.mk ?_ ?_ | refine vS ?_ | refine vR ?_ | refine vB ?_ | refine br_nt ?_ | refine br_tt ?_ | refine br_ff ?_ | refine vP ?_ | refine vQ ?_ | refine vT ?_ | refine vF ?_ | refine br_and ?_ | refine br_or ?_ | refine br_d (fun _ => ?_) fun _ => ?_ | refine vM (fun _ => ?_) fun _ => ?_)
    have hs2 : (s ++ ⟨#[32]⟩ : ByteArray).size ≤ 20005 := by rw [ByteArray.size_append]; show s.size + 1 ≤ _; omega
    refine ⟨⟨by show s.size + 1 ≤ _; omega⟩, ?_⟩
    repeat' ((conv => whnf); first | refine vA ?_ | with_reducible first | refine v8 ?_ | refine Sp.mk ?_ ?_ | refine vS ?_ | refine vR ?_ | refine vB ?_ | refine br_nt ?_ | refine br_tt ?_ | refine br_ff ?_ | refine vP ?_ | refine vQ ?_ | refine vT ?_ | refine vF ?_ | refine br_and ?_ | refine br_or ?_ | refine br_d (fun _ => ?_) fun _ => ?_ | refine vM (fun _ => ?_) fun _ => ?_)
    refine ⟨s ++ ⟨#[32]⟩, ?_, ⟨by omega⟩, ?_⟩
    · repeat' ((conv => whnf); first | with_reducible exact True.intro | exact vW | with_reducible refine And.intro ?_ ?_)
    refine ⟨fun y q => (isDd_sp q).elim, fun _ => ?_⟩
    dsimp only [ded, encD]
    repeat' ((conv => whnf); first | refine vA ?_ | with_reducible first | refine v8 ?_ | refine Sp.mk ?_ ?_ | refine vS ?_ | refine vR ?_ | refine vB ?_ | refine br_nt ?_ | refine br_tt ?_ | refine br_ff ?_ | refine vP ?_ | refine vQ ?_ | refine vT ?_ | refine vF ?_ | refine br_and ?_ | refine br_or ?_ | refine br_d (fun _ => ?_) fun _ => ?_ | refine vM (fun _ => ?_) fun _ => ?_)
    refine ⟨⟨k, a, b, w⟩, ?_, ⟨by dsimp only; omega⟩, ?_⟩
    · repeat' ((conv => whnf); first | with_reducible exact True.intro | exact vW | with_reducible refine And.intro ?_ ?_)
    dsimp only
    rw [hd]
    repeat' ((conv => whnf); first | refine vA ?_ | with_reducible first | refine v8 ?_ | refine Sp.mk ?_ ?_ | refine vS ?_ | refine vR ?_ | refine vB ?_ | refine br_nt ?_ | refine br_tt ?_ | refine br_ff ?_ | refine vP ?_ | refine vQ ?_ | refine vT ?_ | refine vF ?_ | refine br_and ?_ | refine br_or ?_ | refine br_d (fun _ => ?_) fun _ => ?_ | refine vM (fun _ => ?_) fun _ => ?_)
    · exact h
    · rename_i q
      exact absurd rfl q
  · have d0 : (default : Dd).kind = 0 := rfl
    have d1 : (default : Dd).a = 0 := rfl
    have d2 : (default : Dd).b = 0 := rfl
    have d3 : (default : Dd).words = ⟨#[]⟩ := rfl
    have d4 : (default : Dd).words = (default : Dd).words := rfl
    refine ⟨fun x q => (hx ⟨_, q⟩).elim, fun _ => ?_⟩
    dsimp only [ded, encD]
    repeat' ((conv => whnf); first | refine vA ?_ | with_reducible first | refine v8 ?_ | refine Sp.mk ?_ ?_ | refine vS ?_ | refine vR ?_ | refine vB ?_ | refine br_nt ?_ | refine br_tt ?_ | refine br_ff ?_ | refine vP ?_ | refine vQ ?_ | refine vT ?_ | refine vF ?_ | refine br_and ?_ | refine br_or ?_ | refine br_d (fun _ => ?_) fun _ => ?_ | refine vM (fun _ => ?_) fun _ => ?_)
    refine ⟨s, ?_, ⟨by omega⟩, ?_⟩
    · repeat' ((conv => whnf); first | with_reducible exact True.intro | exact vW | with_reducible refine And.intro ?_ ?_)
    refine ⟨fun x q => (hx ⟨_, q⟩).elim, fun _ => ?_⟩
    dsimp only [ded, encD]
    repeat' ((conv => whnf); first | refine vA ?_ | with_reducible first | refine v8 ?_ | refine Sp.mk ?_ ?_ | refine vS ?_ | refine vR ?_ | refine vB ?_ | refine br_nt ?_ | refine br_tt ?_ | refine br_ff ?_ | refine vP ?_ | refine vQ ?_ | refine vT ?_ | refine vF ?_ | refine br_and ?_ | refine br_or ?_ | refine br_d (fun _ => ?_) fun _ => ?_ | refine vM (fun _ => ?_) fun _ => ?_)
    refine ⟨(), ?_, ⟨trivial⟩, ?_⟩
    · repeat' ((conv => whnf); first | with_reducible exact True.intro | exact vW | with_reducible refine And.intro ?_ ?_)
    repeat' ((conv => whnf); first | refine vA ?_ | with_reducible first | refine v8 ?_ | refine Sp.mk ?_ ?_ | refine vS ?_ | refine vR ?_ | refine vB ?_ | refine br_nt ?_ | refine br_tt ?_ | refine br_ff ?_ | refine vP ?_ | refine vQ ?_ | refine vT ?_ | refine vF ?_ | refine br_and ?_ | refine br_or ?_ | refine br_d (fun _ => ?_) fun _ => ?_ | refine vM (fun _ => ?_) fun _ => ?_)
    exact h
end Go.Proofs.YtjefkdhecccfpaaDoor.Vc
end
section
/- The row of FnExactReadDeed: for every input it returns true. -/
namespace Go.Proofs.YtjefkdhecccfpaaDoor.Vc
open Go.Proofs Go.ChangeShapes Go.WideShapes Go.ChangeAt Go.RowKit
open Go.Proofs.YtjefkdhecccfpaaDoor
set_option maxRecDepth 100000
theorem metFnExactReadDeed (os : Os) (args : Array Value) : laidMet Tryd.prog Rows.fnExactReadDeedRow.laid ((World.laidAll Tryd.prog os Rows.fnExactReadDeedRow.laid).forCall (fun _ _ => 0) ⟨#[], args, []⟩).memory :=
  laidMet_laidAll args (by kernel_rfl) (by kernel_rfl)
theorem goodFnExactReadDeed {W : World} (h : laidMet Tryd.prog Rows.fnExactReadDeedRow.laid W) (hs : W.ShapedOpen Tryd.prog) : Good W :=
  ⟨Lib.tabIs_of_head (rest := []) rfl rfl rfl rfl (by kernel_rfl) (by kernel_rfl) (h.filter fun x => x.1 == "internal/strconv.uint64pow10"),
  hold_len (g := 0) (zero := #[.int .i64 0]) (t := 3) hs (by kernel_rfl) (of_decide_eq_true (by kernel_rfl)) (by kernel_rfl) rfl (by kernel_rfl) (by kernel_rfl) Tryd.underlying3,
  (hold_err (g := 1) (r := []) (ti := 130) (tp := 182) (te := 184) (ts := 9) (h.filter fun x => x.1 == "strconv.ErrSyntax") (by kernel_rfl) (by kernel_rfl) Tryd.underlying130 (by rw [star]; kernel_rfl) (by kernel_rfl) Tryd.underlying182 Tryd.underlying184 rfl rfl Tryd.underlying9 (by kernel_rfl) (by kernel_rfl)),
  (hold_err (g := 2) (r := []) (ti := 130) (tp := 182) (te := 184) (ts := 9) (h.filter fun x => x.1 == "strconv.ErrRange") (by kernel_rfl) (by kernel_rfl) Tryd.underlying130 (by rw [star]; kernel_rfl) (by kernel_rfl) Tryd.underlying182 Tryd.underlying184 rfl rfl Tryd.underlying9 (by kernel_rfl) (by kernel_rfl))⟩
theorem liftedFnExactReadDeed (os : Os) (started : os.Started) (H : Type) (enc : TypeId × Value → H) :
    ReturnsInHanded {} Tryd.checked os 5 .any (fun w args => (Rows.fnExactReadDeedSpec.pre enc Tryd.prog Tryd.f5 [] false w args ∧ laidMet Tryd.prog Rows.fnExactReadDeedRow.laid w) ∧ sizedMet enc Tryd.prog Tryd.f5 (OpenSpec.ofChange Rows.fnExactReadDeedSpec) false w args)
      (Rows.fnExactReadDeedSpec.post enc Tryd.prog Tryd.f5 false true false false) := by
  refine returns_and_shaped (C := Tryd.checked) (X := fun w _ => laidMet Tryd.prog Rows.fnExactReadDeedRow.laid w) (fun _ _ _ hh h => h.of_heap hh) own started (by kernel_rfl) Tryd.func5
    (ChangeSpec.witness_at (enc := enc) (C := Tryd.checked) (os := os) (X := fun w _ => laidMet Tryd.prog Rows.fnExactReadDeedRow.laid w) false (World.laidAll Tryd.prog os Rows.fnExactReadDeedRow.laid) #[.string ⟨#[]⟩] 8 (World.laidAll_os _ _ _) (by kernel_rfl) (by kernel_rfl) (by kernel_rfl) (by kernel_rfl) (by kernel_rfl) (metFnExactReadDeed os _)) ?_
  intro W base args ds gs before hval0 hW hsh hL
  have hval : ∀ (j : Nat) t v, Tryd.f5.params[j]? = some t → args[j]? = some v → Value.okWide Tryd.prog W .any base t v := hval0
  have hW' := hW
  obtain ⟨p, q, hA0, hV, rfl, hfz, hnd⟩ := hW
  have hA : DataW.TrodAll enc Tryd.prog W 0 (fun _ => true) true Tryd.f5.params.toList args.toList ds p := hA0
  rw [Tryd.params5] at hA hval
  obtain ⟨v0, vs0, d0, ds0, p0, q0, hargs, rfl, rfl, h0, r0⟩ := trodAll_cons hA
  obtain ⟨rfl, rfl, rfl⟩ := trodAll_nil r0
  obtain rfl : args = #[v0] := by cases args; simp_all
  obtain ⟨rfl, rfl⟩ := trodVars_none hV
  have lt0 : ∀ x ∈ p0, x.block < W.heap.size := by obtain ⟨m, hm⟩ := h0; exact DataW.trod_lt m _ _ _ hm
  obtain ⟨x0, rfl, b0⟩ := op_str Tryd.underlying9 (hval 0 9 v0 rfl rfl) h0
  refine (FF.below F233 (us := [.str x0]) (b := true) ⟨x0, ?_, ⟨b0⟩, rfl⟩ (goodFnExactReadDeed hL hsh) ⟨rfl, fun j hj => ?_⟩).mono fun e W' ⟨he, bel⟩ => ?_
  · repeat' ((conv => whnf); first | with_reducible exact True.intro | exact vW | with_reducible refine And.intro ?_ ?_)
  · match j, hj with
    | 0, _ => exact .data (.str _)
  subst he
  exact ⟨_, rfl, _, _, _, [], _, [], hW', trodAll_mk1 (shut_bool Tryd.underlying4 _), (trodAll_cons_mk (Below.trod laidOut (by kernel_rfl) (of_decide_eq_true (by kernel_rfl)) h0 bel lt0) trodAll_mk0), rfl, bel.frame _, fun h => by cases h⟩
theorem FnExactReadDeed_holds : Rows.FnExactReadDeedSaid :=
  OpenClaim.holds_of_wide 5 Tryd.f5 rfl rfl rfl rfl rfl rfl rfl ⟨rfl, rfl, rfl, rfl, rfl⟩ rfl rfl rfl rfl rfl (by kernel_rfl) Tryd.func5 (by kernel_rfl)
    (of_decide_eq_true (by kernel_rfl)) (by unfold Func.isWrapper; first | (rw [if_pos (by decide +kernel)]; kernel_rfl) | (rw [if_neg (by decide +kernel)]; exact ⟨rfl, rfl⟩))
    (fun os started H enc _ => liftedFnExactReadDeed os started H enc)
end Go.Proofs.YtjefkdhecccfpaaDoor.Vc
end
