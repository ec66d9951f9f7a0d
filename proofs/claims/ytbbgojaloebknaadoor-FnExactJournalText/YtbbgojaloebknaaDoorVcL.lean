/- Part L of the engine: calls; one operation; a region's operations, one after the other. -/
import Derived.Test.YtbbgojaloebknaaDoorVcK
namespace Go.Proofs.YtbbgojaloebknaaDoor.Vc
theorem forceL_eq : ∀ (l : List AV) (K : List AV → Prop), forceL l K = K l
  | [], K => rfl
  | v :: r, K => by
    unfold forceL
    rw [forceL_eq r]
    cases v <;> rfl
theorem forceN_eq : ∀ (n : Nat) (K : Nat → Prop), forceN n K = K n
  | 0, _ => rfl
  | 1, _ => rfl
  | 2, _ => rfl
  | 3, _ => rfl
  | 4, _ => rfl
  | 5, _ => rfl
  | 6, _ => rfl
  | 7, _ => rfl
  | 8, _ => rfl
  | 9, _ => rfl
  | 10, _ => rfl
  | 11, _ => rfl
  | 12, _ => rfl
  | 13, _ => rfl
  | 14, _ => rfl
  | 15, _ => rfl
  | _ + 16, _ => rfl
theorem force_eq (v : AV) (K : AV → Prop) : force v K = K v := by
  cases v <;> simp only [force, forceN_eq, forceL_eq]
theorem forceO_eq : ∀ (o : List Obj) (K : List Obj → Prop), forceO o K = K o
  | [], K => rfl
  | x :: r, K => by
    unfold forceO
    rw [forceO_eq r]
    cases x with
    | box cs => exact forceL_eq cs _
    | row s n f => rfl
    | dead => rfl
section
variable {P : Program} {TB : TypeId → TI} {ρ : Nat → Option Nat} {o : List Obj} {R : Nat → Prop} {w : World} {t : Fr} {a : Act} {Gl : List (Nat × Go.Obj)} {call : FuncId → List AV → List Obj → (AV → List Obj → Prop) → Prop}

/-- The call returns, and what it leaves K takes. -/
def Rets (P : Program) (Gl : List (Nat × Go.Obj)) (ρ : Nat → Option Nat) (o : List Obj) (R : Nat → Prop) (w : World) (f : FuncId) (xs : Array Value) (K : AV → List Obj → Prop) : Prop :=
  Calls P f xs w fun e w' => ∃ r x o' ρ' R', e = .returned x ∧ K r o' ∧ HR Gl o' ρ' R' w' ∧ TR ρ' o' R' w' r x ∧ EX o ρ R w o' ρ' R' w'
def ArgsR (ρ : Nat → Option Nat) (o : List Obj) (R : Nat → Prop) (w : World) (vs : List AV) (xs : Array Value) : Prop := xs.size = vs.length ∧ ∀ j, j < vs.length → TR ρ o R w (vs.getD j .undef) (xs.getD j Go.undef)
/-- There is such a function, and it is Go. -/
def HasBody (P : Program) (f : FuncId) : Prop := ∃ fn c, P.funcs[f]? = some fn ∧ (fn.name == "runtime.NumGoroutine") = false ∧ fn.body = some c
/-- What is said of calls holds. -/
structure CallOk (P : Program) (Gl : List (Nat × Go.Obj)) (call : FuncId → List AV → List Obj → (AV → List Obj → Prop) → Prop) : Prop where
  has : ∀ f vs o K, call f vs o K → HasBody P f
  ok : ∀ f vs o K, call f vs o K → ∀ ρ R w xs, HR Gl o ρ R w → ArgsR ρ o R w vs xs → Rets P Gl ρ o R w f xs K
  mono : ∀ f vs o (K K' : AV → List Obj → Prop), (∀ r o', K r o' → K' r o') → call f vs o K → call f vs o K'

theorem FR.args (hf : FR ρ o R w t a) (as : Array Operand) : ArgsR ρ o R w (as.toList.map (ev t)) (as.map a.eval) := by
  refine ⟨by simp, fun j hj => ?_⟩
  simp only [List.length_map, Array.length_toList] at hj
  have := hf.evv (as[j]'hj)
  simpa [List.getD_eq_getElem?_getD, Array.getD_eq_getD_getElem?, hj] using this
theorem ArgsR.app {vs us : List AV} {xs ys : Array Value} (h : ArgsR ρ o R w vs xs) (k : ArgsR ρ o R w us ys) : ArgsR ρ o R w (vs ++ us) (xs ++ ys) := by
  refine ⟨by simp [h.1, k.1], fun j hj => ?_⟩
  rw [List.length_append] at hj
  by_cases hjv : j < vs.length
  · have h1 : (vs ++ us).getD j .undef = vs.getD j .undef := by simp [List.getD_eq_getElem?_getD, List.getElem?_append_left hjv]
    have h2 : (xs ++ ys).getD j Go.undef = xs.getD j Go.undef := by simp only [Array.getD_eq_getD_getElem?]; rw [Array.getElem?_append_left (by rw [h.1]; exact hjv)]
    rw [h1, h2]
    exact h.2 j hjv
  · have h1 : (vs ++ us).getD j .undef = us.getD (j - vs.length) .undef := by simp [List.getD_eq_getElem?_getD, List.getElem?_append_right (Nat.le_of_not_lt hjv)]
    have h2 : (xs ++ ys).getD j Go.undef = ys.getD (j - vs.length) Go.undef := by simp only [Array.getD_eq_getD_getElem?]; rw [Array.getElem?_append_right (by rw [h.1]; omega), h.1]
    rw [h1, h2]
    exact k.2 _ (by omega)
theorem run_enter {f : FuncId} (h : HasBody P f) (args : Array Value) (w : World) : (callFunc f args).run P w = .ok (.enter f args) w := by
  obtain ⟨fn, c, h1, h2, h3⟩ := h
  have h2' : fn.name ≠ "runtime.NumGoroutine" := by simpa using h2
  simp [callFunc, h1, h2', h3]
theorem goes_enter {op : Op} {f : FuncId} {xs : Array Value} {K : AV → List Obj → Prop} (hr : ∀ (dst : Option Tmp) (ty : TypeId) (pos : String) (af : Array Edge) (g : Option (Nat × Bool)), (execOp a.eval ⟨dst, op, ty, pos, af, g⟩).run P w = .ok (.enter f xs) w)
    (h : Rets P Gl ρ o R w f xs K) : Goes P Gl ρ o R w a op K := by
  intro dst ty pos af g next Q hn
  unfold Oper.wp
  rw [hr, Oper.upon_enter]
  refine Calls.mono h fun e w' he => ?_
  obtain ⟨r, x, o', ρ', R', rfl, h1, h2, h3, h4⟩ := he
  exact hn r x o' ρ' R' w' h1 h2 h3 h4
theorem TR.fnv {f : FuncId} {first cap : List AV} {y : Value} (h : TR ρ o R w (.fn f first cap) y) (hl : (liveL o first && liveL o cap) = true) : ∃ xs ys, y = .func (.func f) xs ys ∧ ArgsR ρ o R w first xs ∧ ArgsR ρ o R w cap ys := by
  have hl' : live o (.fn f first cap) = true := by simpa [live] using hl
  rw [Bool.and_eq_true] at hl
  have hv := h.vr hl'
  cases hv with
  | data h => cases h
  | fn f l m xs ys h1 h2 h3 h4 => exact ⟨xs, ys, rfl, ⟨h1, fun j hj => .of (liveL_iff.1 hl.1 _ (getD_mem hj)) (h2 j hj)⟩, ⟨h3, fun j hj => .of (liveL_iff.1 hl.2 _ (getD_mem hj)) (h4 j hj)⟩⟩
/-- EVERY OPERATION THAT MAKES OR WRITES MEMORY, AND EVERY CALL. -/
theorem ef_sound (hT : TOk P TB) (hC : CallOk P Gl call) (hh : HR Gl o ρ R w) (hf : FR ρ o R w t a) {op : Op} {K : AV → List Obj → Prop} (h : efP TB call op t o K) : Goes P Gl ρ o R w a op K := by
  cases op with
  | box ty x => exact g_box hT hh hf h
  | alloc ty => exact g_alloc hT hh h
  | store ty x y => exact g_store hT hh hf h
  | buildSlice ty n ps => exact g_buildSlice hT hh hf h
  | makeSlice ty l c => exact g_makeSlice hT hh hf h
  | call c =>
    obtain ⟨callee, args, ats⟩ := c
    cases callee with
    | builtin b =>
      cases b with
      | append => exact g_append hT hh hf h
      | _ => simp [efP] at h
    | value x =>
      cases x with
      | func f =>
        simp only [efP, forceL_eq] at h
        refine goes_enter (f := f) (xs := args.map a.eval) (fun _ _ _ _ _ => ?_) (hC.ok _ _ _ _ h ρ R w _ hh (hf.args args))
        have := run_enter (hC.has _ _ _ _ h) (args.map a.eval) w
        simp only [execOp, resolve, Deferred.ofValue, Act.eval, invoke]
        simpa using this
      | tmp x =>
        simp only [efP] at h
        split at h
        · rename_i f first cap hx
          obtain ⟨hl, h⟩ := of_cond_true h
          rw [forceL_eq] at h
          obtain ⟨xs, ys, hy, h1, h2⟩ := ((hx ▸ hf x : TR ρ o R w (.fn f first cap) _)).fnv hl
          refine goes_enter (f := f) (xs := xs ++ args.map a.eval ++ ys) (fun _ _ _ _ _ => ?_) (hC.ok _ _ _ _ h ρ R w _ hh ((h1.app (hf.args args)).app h2))
          have := run_enter (hC.has _ _ _ _ h) (xs ++ args.map a.eval ++ ys) w
          have he : a.eval (.tmp x) = .func (.func f) xs ys := hy
          simp only [execOp, resolve, he, Deferred.ofValue, invoke]
          simpa using this
        · exact h.elim
      | const v => simp [efP] at h
      | global g => simp [efP] at h
    | invoke r n => simp [efP] at h
  | _ => simp [efP] at h
end
end Go.Proofs.YtbbgojaloebknaaDoor.Vc
