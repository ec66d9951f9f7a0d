/- Part S of the engine: code; a function's body. -/
import Derived.Test.YtbbgojaloebknaaDoorVcR
import Derived.Deep.LoopGhost
namespace Go.Proofs.YtbbgojaloebknaaDoor.Vc
/-- Every operation writes a slot that is there. -/
def dstOk (n : Nat) : Code → Bool
  | .region _ ops _ => ops.toList.all fun x => match x.dst with
    | some d => Nat.blt d n
    | none => true
  | .seq a b => dstOk n a && dstOk n b
  | .cond _ a b => dstOk n a && dstOk n b
  | .block _ c => dstOk n c
  | .loop c => dstOk n c
  | _ => true
section
variable {P : Program} {TB : TypeId → TI} {ρ : Nat → Option Nat} {o : List Obj} {R : Nat → Prop} {w : World} {t : Fr} {a : Act} {Gl : List (Nat × Go.Obj)} {call : FuncId → List AV → List Obj → (AV → List Obj → Prop) → Prop} {n m : Nat}

theorem ops_dst {ops : Array Oper} {id : Nat} {d : Bool} (h : dstOk n (.region id ops d) = true) : ∀ x ∈ ops.toList, ∀ d, x.dst = some d → d < n := by
  intro x hx d hd
  have := List.all_eq_true.1 h x hx
  simp only [hd, Nat.blt] at this
  exact Nat.le_of_ble_eq_true this
theorem EK.refl (m : Nat) (hm : m ≤ o.length) : EK m o ρ R w o ρ R w := (EX.refl o ρ R w).ek hm
theorem wkM_len : ∀ {m k : Nat} {p : List (Option Nat)}, wkM m p k = true → m ≤ p.length
  | 0, _, _, _ => Nat.zero_le _
  | m + 1, _, [], h => by simp [wkM] at h
  | m + 1, _, none :: p, h => by simp [wkM] at h
  | m + 1, _, some j :: p, h => by
    simp only [wkM, Bool.and_eq_true] at h
    simpa using wkM_len h.2
theorem WkTo.len {L : List (Nat × AV)} {o' : List Obj} (h : WkTo m t o L o') : m ≤ o'.length := by
  obtain ⟨π, fz, hM, _, _, hO⟩ := h.ex
  rw [← wkO_len hO]
  exact wkM_len hM
/-- CODE. -/
theorem code_sound (hT : TOk P TB) (hC : CallOk P Gl call) (hm : P.follows .mixedOrders = true) : ∀ (c : Code) {ρ : Nat → Option Nat} {o : List Obj} {R : Nat → Prop} {w : World} {t : Fr} {a : Act} {Q : Exit → Fr → List Obj → Prop} {Q' : Exit → Act → World → Prop}, dstOk n c = true →
    pwp TB call (Dr TB call) m c t o Q → SR Gl ρ o R w t a n → m ≤ o.length → (∀ e t' o' ρ' R' w' a', Q e t' o' → SR Gl ρ' o' R' w' t' a' n → m ≤ o'.length → EK m o ρ R w o' ρ' R' w' → Q' e a' w') → c.wp P Q' a w := by
  intro c
  induction c with
  | skip =>
    intro ρ o R w t a Q Q' _ h hs hl hq
    exact wp_skip (hq _ _ _ _ _ _ _ h hs hl (EK.refl m hl))
  | region id ops d =>
    intro ρ o R w t a Q Q' hd h hs hl hq
    have hd' := ops_dst hd
    cases d with
    | false =>
      exact wp_region_list (ops_sound hT hC ops.toList hs hd' h fun t' o' ρ' R' w' a' hK hs' hx => hq _ _ _ _ _ _ _ hK hs' (Nat.le_trans hl hx.len) (hx.ek hl))
    | true =>
      exact dr_sound hT hC hm (fun x hx => hd' x (Array.mem_toList_iff.2 hx)) hs h (fun t' o' ρ' R' w' a' hK hs' hx => hq _ _ _ _ _ _ _ hK hs' (Nat.le_trans hl hx.len) (hx.ek hl)) id
  | seq x y ihx ihy =>
    intro ρ o R w t a Q Q' hd h hs hl hq
    simp only [dstOk, Bool.and_eq_true] at hd
    refine wp_seq ?_
    have h' : Sq m (fun Q => pwp TB call (Dr TB call) m x t o Q) (fun t o => pwp TB call (Dr TB call) m y t o Q) Q := h
    cases h' with
    | d h =>
      refine ihx hd.1 h hs hl fun e t' o' ρ' R' w' a' hQ hs' hl' hx => ?_
      cases e with
      | normal =>
        cases hQ with
        | rf h1 => exact ihy hd.2 h1 hs' hl' fun e t2 o2 ρ2 R2 w2 a2 hQ2 hs2 hl2 hx2 => hq _ _ _ _ _ _ _ hQ2 hs2 hl2 (hx.trans hx2)
        | go L o1 hw h1 =>
          obtain ⟨ρ1, R1, hs1, hx1⟩ := wk_sound hs' hw
          exact ihy hd.2 h1 hs1 hw.len fun e t2 o2 ρ2 R2 w2 a2 hQ2 hs2 hl2 hx2 => hq _ _ _ _ _ _ _ hQ2 hs2 hl2 ((hx.trans hx1).trans hx2)
      | _ => exact hq _ _ _ _ _ _ _ hQ hs' hl' hx
    | j X L g inv h k =>
      refine ihx hd.1 h hs hl fun e t' o' ρ' R' w' a' hQ hs' hl' hx => ?_
      cases e with
      | normal =>
        obtain ⟨x1, hi, hw⟩ := hQ
        obtain ⟨ρ1, R1, hs1, hx1⟩ := wk_sound hs' hw
        exact ihy hd.2 (k x1 hi) hs1 hw.len fun e t2 o2 ρ2 R2 w2 a2 hQ2 hs2 hl2 hx2 => hq _ _ _ _ _ _ _ hQ2 hs2 hl2 ((hx.trans hx1).trans hx2)
      | _ => exact hq _ _ _ _ _ _ _ hQ hs' hl' hx
  | cond c x y ihx ihy =>
    intro ρ o R w t a Q Q' hd h hs hl hq
    simp only [dstOk, Bool.and_eq_true] at hd
    simp only [pwp] at h
    split at h
    · rename_i b e
      refine wp_cond_split (hs.hf.at e).bool (fun hb => ihx hd.1 (h.t hb) hs hl hq) fun hb => ihy hd.2 (h.f hb) hs hl hq
    · exact h.elim
  | block id c ih =>
    intro ρ o R w t a Q Q' hd h hs hl hq
    refine wp_block (ih hd h hs hl fun e t' o' ρ' R' w' a' hQ hs' hl' hx => ?_)
    cases e with
    | exit j =>
      simp only [Exit.inBlock]
      cases hj : Nat.beq j id with
      | true =>
        rw [if_pos (Nat.eq_of_beq_eq_true hj)]
        simp only [hj, cond_true] at hQ
        exact hq _ _ _ _ _ _ _ hQ hs' hl' hx
      | false =>
        rw [if_neg (Nat.ne_of_beq_eq_false hj)]
        simp only [hj, cond_false] at hQ
        exact hq _ _ _ _ _ _ _ hQ hs' hl' hx
    | _ => exact hq _ _ _ _ _ _ _ hQ hs' hl' hx
  | loop c ih =>
    intro ρ o R w t a Q Q' hd h hs hl hq
    have h' : Lp m t o fun t o K => pwp TB call (Dr TB call) m c t o fun e t o => match e with
      | .normal => K t o
      | e => Q e t o := h
    obtain ⟨X, L, g, inv, μ, ⟨x0, hi0, hw0⟩, hr⟩ := h'.ex
    obtain ⟨ρ0, R0, hs0, hx0⟩ := wk_sound hs hw0
    refine wp_loop_ghost (fun k a' w' => ∃ x ρ' R', μ x = k ∧ inv x ∧ SR Gl ρ' (g x) R' w' (ofL (L x)) a' n ∧ m ≤ (g x).length ∧ EK m o ρ R w (g x) ρ' R' w') (μ x0) ⟨x0, ρ0, R0, rfl, hi0, hs0, hw0.len, hx0⟩ ?_
    rintro k a' w' ⟨x, ρ', R', rfl, hi, hs', hl', hx⟩
    refine ih hd (hr x hi) hs' hl' fun e t2 o2 ρ2 R2 w2 a2 hQ hs2 hl2 hx2 => ?_
    cases e with
    | normal =>
      obtain ⟨x', hi', hlt, hw⟩ := hQ
      obtain ⟨ρ3, R3, hs3, hx3⟩ := wk_sound hs2 hw
      exact ⟨μ x', hlt, x', ρ3, R3, rfl, hi', hs3, hw.len, (hx.trans hx2).trans hx3⟩
    | _ => exact hq _ _ _ _ _ _ _ hQ hs2 hl2 (hx.trans hx2)
  | exit id =>
    intro ρ o R w t a Q Q' _ h hs hl hq
    exact wp_exit (hq _ _ _ _ _ _ _ h hs hl (EK.refl m hl))
  | ret =>
    intro ρ o R w t a Q Q' _ h hs hl hq
    exact wp_ret (hq _ _ _ _ _ _ _ h hs hl (EK.refl m hl))
  | _ =>
    intro ρ o R w t a Q Q' _ h
    exact h.elim

/-! ### Results -/
theorem retL_run (hT : TOk P TB) (hs : SR Gl ρ o R w t a n) : ∀ (l : List ResultVar) {K : List AV → Prop}, retL TB t o l K →
    ∃ vs ys, K vs ∧ (∀ f : ResultVar → Sem Value, (∀ u, f (.tmp u) = pure (a.tmps.getD u Go.undef)) → (∀ x ty, f (.cell x ty) = (do loadVar ty (← asAddr (a.tmps.getD x Go.undef)))) → (l.mapM f).run P w = .ok ys w) ∧ ys.length = vs.length ∧ ∀ j, j < vs.length → TR ρ o R w (vs.getD j .undef) (ys.getD j Go.undef)
  | [], K, h => ⟨[], [], h, fun f _ _ => by simp, rfl, fun j hj => absurd hj (Nat.not_lt_zero _)⟩
  | .tmp x :: r, K, h => by
    obtain ⟨vs, ys, h1, h2, h3, h4⟩ := retL_run hT hs r h
    refine ⟨t x :: vs, a.tmps.getD x Go.undef :: ys, h1, fun f hf hc => by simp [List.mapM_cons, hf, h2 f hf hc], by simp [h3], fun j hj => ?_⟩
    cases j with
    | zero => simpa using hs.hf x
    | succ j => simpa using h4 j (by simpa using hj)
  | .cell x ty :: r, K, h => by
    simp only [retL] at h
    split at h
    · rename_i cs e
      obtain ⟨ad, g, e1, e2, e3⟩ := cellsAt_mem hs.hh (hs.hf x) e
      obtain ⟨v, y, hK, hv, hr⟩ := loadV_run hT e2 e3 h
      obtain ⟨vs, ys, h1, h2, h3, h4⟩ := retL_run hT hs r hK
      refine ⟨v :: vs, y :: ys, h1, fun f hf hc => by rw [List.mapM_cons, hc, e1]; simp [asAddr, hr, h2 f hf hc], by simp [h3], fun j hj => ?_⟩
      cases j with
      | zero => simpa using hv
      | succ j => simpa using h4 j (by simpa using hj)
    · exact h.elim
theorem ret_run (hT : TOk P TB) (hs : SR Gl ρ o R w t a n) {fn : Func} {K : AV → List Obj → Prop} (h : retP TB fn t o K) : ∃ r x, K r o ∧ (results fn a.tmps).run P w = .ok x w ∧ TR ρ o R w r x := by
  unfold retP at h
  obtain ⟨vs, ys, h1, h2, h3, h4⟩ := retL_run hT hs fn.results.toList h
  rw [forceL_eq] at h1
  have hr : (results fn a.tmps).run P w = .ok (if h : ys.toArray.size = 1 then ys.toArray[0] else .tuple ys.toArray) w := by
    unfold results
    rw [show fn.results = fn.results.toList.toArray by simp, List.mapM_toArray]
    simp only [Sem.run_bind, Sem.run_map]
    rw [h2]
    · simp
    · intro u; rfl
    · intro x ty; rfl
  have tup : ys.length ≠ 1 → K (.tup vs) o → ∃ r x, K r o ∧ (results fn a.tmps).run P w = .ok x w ∧ TR ρ o R w r x := by
    intro hl hK
    refine ⟨.tup vs, .tuple ys.toArray, hK, by rw [hr, dif_neg (by simpa using hl)], ?_, fun hlv => ?_⟩
    · simp only [beneath, beneathL_iff]
      intro v hv
      obtain ⟨j, hj, rfl⟩ := List.mem_iff_getElem.1 hv
      have := (h4 j hj).be
      rwa [List.getD_eq_getElem?_getD, List.getElem?_eq_getElem hj] at this
    · simp only [live, liveL_iff] at hlv
      exact .tup vs ys.toArray (by simp [h3]) fun j hj => by
        have := (h4 j hj).vr (hlv _ (getD_mem hj))
        simpa [List.getD_eq_getElem?_getD, Array.getD_eq_getD_getElem?] using this
  split at h1
  · rename_i v
    cases ys with
    | nil => simp at h3
    | cons y r =>
      cases r with
      | nil =>
        have := h4 0 (by simp)
        exact ⟨v, y, h1, by rw [hr]; simp, by simpa using this⟩
      | cons _ _ => simp at h3
  · rename_i hne
    refine tup (fun hl => ?_) h1
    rw [h3] at hl
    obtain ⟨v, hv⟩ := List.length_eq_one_iff.1 hl
    exact hne v hv
/-! ### A function's body -/
theorem argF_at : ∀ (vs : List AV) (i x : Nat), argF vs i x = if i ≤ x then vs.getD (x - i) .undef else .undef
  | [], i, x => by unfold argF; split <;> simp
  | v :: r, i, x => by
    unfold argF upd
    cases e : Nat.beq x i with
    | true => rw [Nat.eq_of_beq_eq_true e]; simp
    | false =>
      have hne := Nat.ne_of_beq_eq_false e
      rw [cond_false, argF_at r (i + 1) x]
      by_cases h : i + 1 ≤ x
      · rw [if_pos h, if_pos (by omega), show x - i = (x - (i + 1)) + 1 by omega, List.getD_cons_succ]
      · rw [if_neg h, if_neg (by omega)]
/-- What is known of a function: it is there, it is Go, its slots. -/
structure FnOk (P : Program) (f : FuncId) (fn : Func) : Prop where
  at_ : P.funcs[f]? = some fn
  name : (fn.name == "runtime.NumGoroutine") = false
  dst : (match fn.body with
    | some c => dstOk fn.ntmps c
    | none => false) = true
theorem FnOk.has {f : FuncId} {fn : Func} (h : FnOk P f fn) : HasBody P f := by
  cases hb : fn.body with
  | none => have := h.dst; rw [hb] at this; cases this
  | some c => exact ⟨fn, c, h.at_, h.name, hb⟩
theorem body_sound (hT : TOk P TB) (hC : CallOk P Gl call) (hm : P.follows .mixedOrders = true) {f : FuncId} {fn : Func} (hf : FnOk P f fn) {vs : List AV} {xs : Array Value} {K : AV → List Obj → Prop} (h : bodyP TB call (Dr TB call) m fn vs o K) (hh : HR Gl o ρ R w) (ha : ArgsR ρ o R w vs xs)
    (hl : m ≤ o.length) (hn : vs.length ≤ fn.ntmps) :
    Calls P f xs w fun e w' => ∃ r x o' ρ' R', e = .returned x ∧ K r o' ∧ HR Gl o' ρ' R' w' ∧ TR ρ' o' R' w' r x ∧ m ≤ o'.length ∧ EK m o ρ R w o' ρ' R' w' := by
  unfold bodyP at h
  have hd := hf.dst
  cases hb : fn.body with
  | none => rw [hb] at h; exact h.elim
  | some c =>
    rw [hb] at h hd
    simp only at h hd
    refine calls_of_wp hf.at_ hb ?_
    have hs : SR Gl ρ o R w (argF vs 0) { tmps := xs ++ Array.replicate (fn.ntmps - xs.size) Go.undef, defers := [] } fn.ntmps := by
      refine ⟨hh, fun x => ?_, by simp [ha.1]; omega, rfl⟩
      rw [argF_at, if_pos (Nat.zero_le _), Nat.sub_zero]
      by_cases hx : x < vs.length
      · have h1 : (xs ++ Array.replicate (fn.ntmps - xs.size) Go.undef).getD x Go.undef = xs.getD x Go.undef := by
          simp only [Array.getD_eq_getD_getElem?]
          rw [Array.getElem?_append_left (by rw [ha.1]; exact hx)]
        show TR ρ o R w _ ((xs ++ Array.replicate (fn.ntmps - xs.size) Go.undef).getD x Go.undef)
        rw [h1]
        exact ha.2 x hx
      · rw [List.getD_eq_getElem?_getD, List.getElem?_eq_none (by omega)]
        exact .undef
    refine code_sound hT hC hm c hd h hs hl fun e t' o' ρ' R' w' a' hQ hs' hl' hx => ?_
    have fin : Wk m t' o' (fun t o => retP TB fn t o K) → a'.defers = [] ∧ ∃ v, (results fn a'.tmps).run P w' = .ok v w' ∧ ∃ r x o2 ρ' R', Ending.returned v = .returned x ∧ K r o2 ∧ HR Gl o2 ρ' R' w' ∧ TR ρ' o2 R' w' r x ∧ m ≤ o2.length ∧ EK m o ρ R w o2 ρ' R' w' := by
      intro hW
      cases hW with
      | rf h1 =>
        obtain ⟨r, x, g1, g2, g3⟩ := ret_run hT hs' h1
        exact ⟨hs'.df, x, g2, r, x, o', ρ', R', rfl, g1, hs'.hh, g3, hl', hx⟩
      | go L o1 hw h1 =>
        obtain ⟨ρ1, R1, hs1, hx1⟩ := wk_sound hs' hw
        obtain ⟨r, x, g1, g2, g3⟩ := ret_run hT hs1 h1
        exact ⟨hs'.df, x, g2, r, x, o1, ρ1, R1, rfl, g1, hs1.hh, g3, hw.len, hx.trans hx1⟩
    cases e with
    | normal => exact fin hQ
    | ret => exact fin hQ
    | _ => exact hQ.elim
end
end Go.Proofs.YtbbgojaloebknaaDoor.Vc
