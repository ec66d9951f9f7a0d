/- Part M of the engine: one operation of a region; a region whose order is given. -/
import Derived.Test.YtbbgojaloebknaaDoorVcL
import Derived.Tactics
namespace Go.Proofs.YtbbgojaloebknaaDoor.Vc
section
variable {P : Program} {TB : TypeId → TI} {ρ : Nat → Option Nat} {o : List Obj} {R : Nat → Prop} {w : World} {t : Fr} {a : Act} {Gl : List (Nat × Go.Obj)} {call : FuncId → List AV → List Obj → (AV → List Obj → Prop) → Prop} {n : Nat}

structure SR (Gl : List (Nat × Go.Obj)) (ρ : Nat → Option Nat) (o : List Obj) (R : Nat → Prop) (w : World) (t : Fr) (a : Act) (n : Nat) : Prop where
  hh : HR Gl o ρ R w
  hf : FR ρ o R w t a
  sz : a.tmps.size = n
  df : a.defers = []
def putF (t : Fr) (d : Option Tmp) (v : AV) : Fr := match d with
  | some d => upd t d v
  | none => t
theorem put_getD {d : Tmp} {y : Value} (hd : d < a.tmps.size) (x : Nat) : (a.put (some d) y).tmps.getD x Go.undef = if x = d then y else a.tmps.getD x Go.undef := by
  simp only [Act.put, Array.getD_eq_getD_getElem?]
  by_cases h : x = d
  · subst h; simp [hd]
  · rw [if_neg h, Array.getElem?_setIfInBounds_ne (Ne.symm h)]
theorem FR.go {o' : List Obj} {ρ' : Nat → Option Nat} {R' : Nat → Prop} {w' : World} (hf : FR ρ o R w t a) (hx : EX o ρ R w o' ρ' R' w') (hh : HR Gl o ρ R w) : FR ρ' o' R' w' t a := fun x => (hf x).go hx hh.ro
theorem FR.put (hf : FR ρ o R w t a) {dst : Option Tmp} {v : AV} {y : Value} (hd : ∀ d, dst = some d → d < a.tmps.size) (hv : TR ρ o R w v y) : FR ρ o R w (putF t dst v) (a.put dst y) := by
  cases dst with
  | none => exact hf
  | some d =>
    intro x
    rw [put_getD (hd d rfl)]
    show TR ρ o R w (upd t d v x) _
    unfold upd
    cases h : Nat.beq x d with
    | true => rw [if_pos (Nat.eq_of_beq_eq_true h)]; exact hv
    | false => rw [if_neg (Nat.ne_of_beq_eq_false h)]; exact hf x
theorem SR.put (hs : SR Gl ρ o R w t a n) {dst : Option Tmp} {v : AV} {y : Value} (hd : ∀ d, dst = some d → d < n) {o' : List Obj} {ρ' : Nat → Option Nat} {R' : Nat → Prop} {w' : World} (hh : HR Gl o' ρ' R' w') (hx : EX o ρ R w o' ρ' R' w') (hv : TR ρ' o' R' w' v y) :
    SR Gl ρ' o' R' w' (putF t dst v) (a.put dst y) n := by
  refine ⟨hh, (hs.hf.go hx hs.hh).put (by rw [hs.sz]; exact hd) hv, ?_, ?_⟩
  · cases dst <;> simp [Act.put, hs.sz]
  · cases dst <;> simp [Act.put, hs.df]

/-- What an operation does when it is wanted. -/
def runP (TB : TypeId → TI) (call : FuncId → List AV → List Obj → (AV → List Obj → Prop) → Prop) (op : Op) (t : Fr) (o : List Obj) (K : AV → List Obj → Prop) : Prop := match isRd op with
  | true => rdP TB op t o fun v => K v o
  | false => efP TB call op t o K
theorem opP_eq (full : Array Oper) (x : Oper) (t : Fr) (o : List Obj) (K : Fr → List Obj → Prop) : opP TB call full x t o K = match x.guard with
    | none => runP TB call x.op t o fun v o' => K (putF t x.dst v) o'
    | some (j, want) => match (((full[j]?).bind (·.dst)).map t).getD .undef with
      | .bool b => Br b (cond want (runP TB call x.op t o fun v o' => K (putF t x.dst v) o') (K (putF t x.dst (.tup [])) o)) (cond want (K (putF t x.dst (.tup [])) o) (runP TB call x.op t o fun v o' => K (putF t x.dst v) o'))
      | .tup [] => K (putF t x.dst (.tup [])) o
      | _ => False := by
  obtain ⟨dst, op, ty, pos, af, g⟩ := x
  cases dst <;> simp only [opP, runP, force_eq, forceO_eq, putF] <;> rfl
theorem run_sound (hT : TOk P TB) (hC : CallOk P Gl call) (hs : SR Gl ρ o R w t a n) {op : Op} {K : AV → List Obj → Prop} (h : runP TB call op t o K) : Goes P Gl ρ o R w a op K := by
  unfold runP at h
  cases hr : isRd op with
  | true =>
    rw [hr] at h
    obtain ⟨v, y, hK, hv, hx⟩ := rd_sound hT hs.hh hs.hf hr h
    exact goes_value hx hK hs.hh hv (EX.refl _ _ _ _)
  | false =>
    rw [hr] at h
    exact ef_sound hT hC hs.hh hs.hf h
theorem yielded_of (hs : SR Gl ρ o R w t a n) {full : Array Oper} {j : Nat} {b : Bool} (h : (((full[j]?).bind (·.dst)).map t).getD .undef = .bool b) : yielded full a.tmps j = some b := by
  unfold yielded
  cases hd : (full[j]?).bind (·.dst) with
  | none => rw [hd] at h; simp at h
  | some d =>
    rw [hd] at h
    simp only [Option.map_some, Option.getD_some] at h
    have h1 : a.tmps.getD d Go.undef = .bool b := by
      have := hs.hf d
      rw [h] at this
      exact this.bool
    simp only [Option.bind_some]
    cases h3 : a.tmps[d]? with
    | none => rw [Array.getD_eq_getD_getElem?, h3] at h1; simp [undef] at h1
    | some u =>
      rw [Array.getD_eq_getD_getElem?, h3] at h1
      simp only [Option.getD_some] at h1
      subst h1
      rfl
theorem yielded_not (hs : SR Gl ρ o R w t a n) {full : Array Oper} {j : Nat} (h : (((full[j]?).bind (·.dst)).map t).getD .undef = .tup []) : yielded full a.tmps j = none := by
  unfold yielded
  cases hd : (full[j]?).bind (·.dst) with
  | none => rfl
  | some d =>
    rw [hd] at h
    simp only [Option.map_some, Option.getD_some] at h
    have h1 : ∃ xs, a.tmps.getD d Go.undef = .tuple xs := by
      have := hs.hf d
      rw [h] at this
      obtain ⟨xs, e, _⟩ := this.tup rfl
      exact ⟨xs, e⟩
    obtain ⟨xs, h1⟩ := h1
    simp only [Option.bind_some]
    cases h3 : a.tmps[d]? with
    | none => rfl
    | some u =>
      rw [Array.getD_eq_getD_getElem?, h3] at h1
      simp only [Option.getD_some] at h1
      subst h1
      rfl
/-- ONE OPERATION OF A REGION. -/
theorem op_sound (hT : TOk P TB) (hC : CallOk P Gl call) (hs : SR Gl ρ o R w t a n) {full : Array Oper} {x : Oper} {K : Fr → List Obj → Prop} (hd : ∀ d, x.dst = some d → d < n) (h : opP TB call full x t o K) {next : Act → World → Prop} {Q : Exit → Act → World → Prop}
    (hn : ∀ t' o' ρ' R' w' a', K t' o' → SR Gl ρ' o' R' w' t' a' n → EX o ρ R w o' ρ' R' w' → next a' w') :
    if Region.wanted x (yielded full a.tmps) then x.wp P a w next Q ∨ (x.asks P a w ∧ LetsOut Q) else next (a.put x.dst Go.undef) w := by
  rw [opP_eq] at h
  have go : runP TB call x.op t o (fun v o' => K (putF t x.dst v) o') → x.wp P a w next Q := by
    intro h
    obtain ⟨dst, op, ty, pos, af, g⟩ := x
    exact run_sound hT hC hs h dst ty pos af g next Q fun v y o' ρ' R' w' hK hh hv hx => hn _ o' ρ' R' w' _ hK (hs.put hd hh hx hv) hx
  have skip : K (putF t x.dst (.tup [])) o → next (a.put x.dst Go.undef) w := fun h => hn _ o ρ R w _ h (hs.put hd hs.hh (EX.refl _ _ _ _) ⟨rfl, fun _ => .tup [] #[] rfl fun j hj => absurd hj (Nat.not_lt_zero _)⟩) (EX.refl _ _ _ _)
  split at h
  · rename_i hg
    have : Region.wanted x (yielded full a.tmps) = true := by simp [Region.wanted, hg]
    rw [if_pos this]
    exact .inl (go h)
  · rename_i j want hg
    split at h
    · rename_i b hb
      have hy := yielded_of hs hb
      have hw : Region.wanted x (yielded full a.tmps) = (b == want) := by
        unfold Region.wanted
        simp only [hg, hy]
        cases b <;> cases want <;> rfl
      cases b <;> cases want
      · rw [hw, if_pos (by rfl)]; exact .inl (go (h.f rfl))
      · rw [hw, if_neg (by simp)]; exact skip (h.f rfl)
      · rw [hw, if_neg (by simp)]; exact skip (h.t rfl)
      · rw [hw, if_pos (by rfl)]; exact .inl (go (h.t rfl))
    · rename_i hb
      have hy := yielded_not hs hb
      have hw : Region.wanted x (yielded full a.tmps) = false := by
        unfold Region.wanted
        simp only [hg, hy]
        rfl
      rw [hw, if_neg (by simp)]
      exact skip h
    · exact h.elim
/-- A REGION WHOSE ORDER IS GIVEN. -/
theorem ops_sound (hT : TOk P TB) (hC : CallOk P Gl call) {full : Array Oper} {Q : Exit → Act → World → Prop} : ∀ (l : List Oper) {ρ : Nat → Option Nat} {o : List Obj} {R : Nat → Prop} {w : World} {t : Fr} {a : Act} {K : Fr → List Obj → Prop}, SR Gl ρ o R w t a n →
    (∀ x ∈ l, ∀ d, x.dst = some d → d < n) → opsP TB call full l t o K → (∀ t' o' ρ' R' w' a', K t' o' → SR Gl ρ' o' R' w' t' a' n → EX o ρ R w o' ρ' R' w' → Q .normal a' w') → wpList P full Q l a w
  | [], ρ, o, R, w, t, a, _K, hs, _, h, hn => hn t o ρ R w a h hs (EX.refl _ _ _ _)
  | x :: r, _ρ, _o, _R, _w, _t, _a, _K, hs, hd, h, hn => op_sound hT hC hs (hd x List.mem_cons_self) h fun _t' _o' _ρ' _R' _w' _a' hK hs' hx => ops_sound hT hC r hs' (fun y hy => hd y (List.mem_cons_of_mem _ hy)) hK fun t2 o2 ρ2 R2 w2 a2 hK2 hs2 hx2 => hn t2 o2 ρ2 R2 w2 a2 hK2 hs2 (hx.trans hx2)
end
end Go.Proofs.YtbbgojaloebknaaDoor.Vc
