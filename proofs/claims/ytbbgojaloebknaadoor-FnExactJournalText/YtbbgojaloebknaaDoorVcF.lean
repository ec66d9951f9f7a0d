/- Part F of the engine: structs built, fields of values, arithmetic; and all reading operations together. -/
import Derived.Test.YtbbgojaloebknaaDoorVcE
import Derived.Laws.Tables
import Derived.DataBytes
namespace Go.Proofs.YtbbgojaloebknaaDoor.Vc
section
variable {P : Program} {TB : TypeId → TI} {ρ : Nat → Option Nat} {o : List Obj} {R : Nat → Prop} {w : World} {t : Fr} {a : Act} {Gl : List (Nat × Go.Obj)}

theorem cellsOf_tb (hT : TOk P TB) {ty : TypeId} (hb : (TB ty).k ≠ .bad) : ∃ i, P.info? ty = some i ∧ i.size = (TB ty).n := by
  obtain ⟨i, z, h1, h2, _⟩ := hT.info hb
  exact ⟨i, h1, h2⟩
theorem fill_CR (hf : FR ρ o R w t a) {fs : List (Nat × TypeId)} {place : Nat → Option (Nat × Nat)} (hp : ∀ i off ft, fs[i]? = some (off, ft) → place i = some (off, (TB ft).n)) :
    ∀ (ps : List (Nat × Operand)) (cs : List AV) (xs : Array Value) (ds : List AV), buildCells TB o fs t cs ps = some ds → CR ρ o R w cs xs →
      ∃ ys, Instr.fill place xs (ps.map fun p => (p.1, a.eval p.2)) = some ys ∧ CR ρ o R w ds ys
  | [], cs, xs, ds, h, hc => by
    simp only [buildCells, Option.some.injEq] at h
    subst h
    exact ⟨xs, rfl, hc⟩
  | (i, x) :: r, cs, xs, ds, h, hc => by
    simp only [buildCells] at h
    split at h
    · rename_i off ft e
      have hb : (Nat.beq (ev t x).cells.length (TB ft).n && Nat.ble (off + (TB ft).n) cs.length && cellOk o (ev t x)) = true := by
        cases hb : (Nat.beq (ev t x).cells.length (TB ft).n && Nat.ble (off + (TB ft).n) cs.length && cellOk o (ev t x)) with
        | true => rfl
        | false => rw [hb] at h; cases h
      rw [hb] at h
      simp only [cond_true] at h
      rw [Bool.and_eq_true, Bool.and_eq_true] at hb
      have h1 := Nat.eq_of_beq_eq_true hb.1.1
      have h2 := Nat.le_of_ble_eq_true hb.1.2
      have hv := cells_CR hb.2 (hf.evv x)
      obtain ⟨ys, h3, h4⟩ := fill_CR hf hp r _ _ ds h (hc.set hv (by omega))
      refine ⟨ys, ?_, h4⟩
      simp only [List.map_cons, Instr.fill, hp i off ft e]
      rw [if_neg (by rw [hv.1, hc.1]; simp [h1]; omega)]
      rw [← Array.foldl_toList, Array.toList_zipIdx]
      exact h3
    · cases h
theorem agg_TR {cs : List AV} {xs : Array Value} (h : CR ρ o R w cs xs) : TR ρ o R w (.agg cs) (.agg xs) :=
  ⟨by simp only [beneath]; exact beneathL_of fun j hj => (h.2 j hj).be, fun hl => .agg _ _ h.1 fun j hj => (h.2 j hj).vr (liveL_iff.1 (by simpa [live] using hl) _ (getD_mem hj))⟩
theorem y_build (hT : TOk P TB) (hf : FR ρ o R w t a) {ty : TypeId} {ps : Array (Nat × Operand)} {K : AV → Prop} (h : rdP TB (.build ty ps) t o K) : Yields P ρ o R w a (.build ty ps) K := by
  simp only [rdP] at h
  split at h
  · rename_i fs hk
    split at h
    · rename_i ds e
      obtain ⟨F, hu, hF, hb⟩ := hT.struct hk
      obtain ⟨i, z, h1, h2, _, h3, h4, _⟩ := hT.info (nb_struct hk)
      have hm : F.toList.mapM (fun f => (P.info? f.type).map fun i => (f.offset, i.size)) = some (F.toList.map fun f => (f.offset, (TB f.type).n)) :=
        mapM_some_of_forall _ fun f hf' => by
          obtain ⟨j, e1, e2⟩ := cellsOf_tb hT (hb (f.offset, f.type) (by rw [← hF]; exact List.mem_map_of_mem hf'))
          simp [e1, e2]
      obtain ⟨ys, h5, h6⟩ := fill_CR (a := a) hf (place := fun i => (F.toList.map fun f => (f.offset, (TB f.type).n)).toArray[i]?) (fun i off ft e => by
        rw [← hF, List.getElem?_map] at e
        cases e' : F.toList[i]? with
        | none => rw [e'] at e; cases e
        | some f =>
          rw [e'] at e
          simp only [Option.map_some, Option.some.injEq, Prod.mk.injEq] at e
          obtain ⟨rfl, rfl⟩ := e
          simp [e']) ps.toList _ _ ds e (zero_CR h4)
      refine ⟨_, .agg ys, h, agg_TR h6, fun _ _ _ _ _ => ?_⟩
      have hbt : P.built ty (ps.map fun p => (p.1, a.eval p.2)).toList = some ys := by
        simp only [Program.built, h1, hu, h3, hm]
        rw [Array.toList_map]
        exact h5
      have := run_build (P := P) w ty (ps.map fun p => (p.1, a.eval p.2)) ys hbt
      simp [execOp, this]
    · exact h.elim
  · exact h.elim
theorem sameK_eq {j k : IntKind} (h : sameK j k = true) : j = k := of_decide_eq_true h
theorem bytes_eq (x y : ByteArray) : (x.toList == y.toList) = decide (x = y) := by
  rw [ByteArray.toList_eq, ByteArray.toList_eq]
  by_cases h : x = y
  · subst h; simp
  · have : ¬ x.data.toList = y.data.toList := fun e => h (by
      obtain ⟨⟨l⟩⟩ := x
      obtain ⟨⟨m⟩⟩ := y
      simp only at e
      rw [e])
    rw [decide_eq_false h]
    exact beq_eq_false_iff_ne.2 this
theorem eqGuard_str (op : BinOp) (t : TypeId) (x y : Operand) (s : ByteArray) (v : Value) : eqGuard op t x y (.string s) v = pure () := by cases op <;> rfl
theorem decide_beq_int (m n : Int) : (m == n) = decide (m = n) := by
  by_cases h : m = n <;> simp [h]
theorem eqCells_cons {fs : List (Nat × TypeId)} {p : Nat × TypeId} {a b : AV} {l m : List AV} {r : Bool} (h : eqCells TB (p :: fs) (a :: l) (b :: m) = some r) :
    ∃ z, eqCells TB fs l m = some z ∧ ((∃ k j x y, (TB p.2).k = .int j ∧ a = .int k x ∧ b = .int k y ∧ r = (decide (x = y) && z)) ∨ (∃ x y, (TB p.2).k = .bool ∧ a = .bool x ∧ b = .bool y ∧ r = ((x == y) && z)) ∨
      ∃ x y, (TB p.2).k = .str ∧ a = .str x ∧ b = .str y ∧ r = (decide (x = y) && z)) := by
  simp only [eqCells] at h
  split at h
  · rename_i k0 k x j y hk
    cases hs : sameK k j with
    | false => rw [hs] at h; cases h
    | true =>
      rw [hs] at h
      simp only [cond_true, Option.map_eq_some_iff] at h
      obtain ⟨z, hz, rfl⟩ := h
      have := sameK_eq hs
      subst this
      exact ⟨z, hz, .inl ⟨_, _, _, _, hk, rfl, rfl, rfl⟩⟩
  · rename_i x y hk
    simp only [Option.map_eq_some_iff] at h
    obtain ⟨z, hz, rfl⟩ := h
    exact ⟨z, hz, .inr (.inl ⟨_, _, hk, rfl, rfl, rfl⟩)⟩
  · rename_i x y hk
    simp only [Option.map_eq_some_iff] at h
    obtain ⟨z, hz, rfl⟩ := h
    exact ⟨z, hz, .inr (.inr ⟨_, _, hk, rfl, rfl, rfl⟩)⟩
  · cases h
theorem eqCells_live {o : List Obj} : ∀ (fs : List (Nat × TypeId)) (l m : List AV) (r : Bool), eqCells TB fs l m = some r → liveL o l = true ∧ liveL o m = true ∧ l.length = fs.length ∧ m.length = fs.length
  | [], [], [], _, _ => ⟨rfl, rfl, rfl, rfl⟩
  | [], [], _ :: _, _, h => by simp [eqCells] at h
  | [], _ :: _, _, _, h => by simp [eqCells] at h
  | _ :: _, [], _, _, h => by simp [eqCells] at h
  | _ :: _, _ :: _, [], _, h => by simp [eqCells] at h
  | p :: fs, a :: l, b :: m, r, h => by
    obtain ⟨z, hz, hc⟩ := eqCells_cons h
    obtain ⟨h1, h2, h3, h4⟩ := eqCells_live (o := o) fs l m z hz
    refine ⟨?_, ?_, by simp [h3], by simp [h4]⟩ <;> rcases hc with ⟨_, _, _, _, _, rfl, rfl, _⟩ | ⟨_, _, _, rfl, rfl, _⟩ | ⟨_, _, _, rfl, rfl, _⟩ <;> simp [liveL, live, h1, h2]
theorem part_run (hT : TOk P TB) {ty : TypeId} {us : Array Value} {k : Nat} {v : Value} (hk : (match (TB ty).k with | .int _ | .bool | .str => true | _ => false) = true) (h : us[k]? = some v) : (part ty us k).run P w = .ok v w := by
  have hb : (TB ty).k ≠ .bad := fun e => by rw [e] at hk; cases hk
  have hs : ∀ fs, (TB ty).k ≠ .struct fs := fun fs e => by rw [e] at hk; cases hk
  simp only [part, Sem.run_bind, isAgg_other hT hb hs, Result.andThen_ok, Bool.false_eq_true, if_false, h, Sem.run_pure]
theorem eqFields_run (hT : TOk P TB) {us vs : Array Value} (d : Nat) : ∀ (fs : List Field) (k : Nat) (l m : List AV) (r : Bool),
    ((fs.zipIdx k).all fun p => !(p.1.name == "_") && decide (p.1.offset = p.2) && (match (TB p.1.type).k with | .int _ | .bool | .str => true | _ => false)) = true →
    eqCells TB (fs.map fun f => (f.offset, f.type)) l m = some r → (∀ j, j < l.length → us[k + j]? = some (us.getD (k + j) Go.undef) ∧ VR ρ R w (l.getD j .undef) (us.getD (k + j) Go.undef)) → (∀ j, j < m.length → vs[k + j]? = some (vs.getD (k + j) Go.undef) ∧ VR ρ R w (m.getD j .undef) (vs.getD (k + j) Go.undef)) →
    (Op.eqFields (d + 1) us vs fs).run P w = .ok r w
  | [], k, l, m, r, _, he, _, _ => by
    cases l with
    | cons => cases m <;> simp [eqCells] at he
    | nil => cases m with
      | nil => simp only [List.map_nil, eqCells, Option.some.injEq] at he; subst he; rfl
      | cons b s => simp [eqCells] at he
  | f :: fs, k, [], m, r, _, he, _, _ => by simp [eqCells] at he
  | f :: fs, k, a :: l, [], r, _, he, _, _ => by simp [eqCells] at he
  | f :: fs, k, a :: l, b :: m, r, hf, he, hu, hv => by
    rw [List.zipIdx_cons, List.all_cons] at hf
    simp only [Bool.and_eq_true, Bool.not_eq_true', decide_eq_true_eq] at hf
    obtain ⟨⟨⟨h1, h2⟩, h3⟩, h4⟩ := hf
    obtain ⟨u1, u2⟩ := hu 0 (by simp)
    obtain ⟨v1, v2⟩ := hv 0 (by simp)
    simp only [Nat.add_zero, List.getD_cons_zero] at u1 u2 v1 v2
    have hn : f.name ≠ "_" := by simpa using h1
    have tail : ∀ r', eqCells TB (fs.map fun f => (f.offset, f.type)) l m = some r' → (Op.eqFields (d + 1) us vs fs).run P w = .ok r' w := fun r' hr' => eqFields_run hT d fs (k + 1) l m r' h4 hr'
      (fun j hj => by have := hu (j + 1) (by simpa using hj); rw [show k + 1 + j = k + (j + 1) by omega]; simpa using this)
      (fun j hj => by have := hv (j + 1) (by simpa using hj); rw [show k + 1 + j = k + (j + 1) by omega]; simpa using this)
    have step : ∀ (x r' : Bool), (Op.equalIn (d + 1) f.type (us.getD k Go.undef) (vs.getD k Go.undef)).run P w = .ok x w → eqCells TB (fs.map fun f => (f.offset, f.type)) l m = some r' → (Op.eqFields (d + 1) us vs (f :: fs)).run P w = .ok (x && r') w := by
      intro x r' hx hr'
      simp only [Op.eqFields, ne_eq, hn, not_false_eq_true, if_true, Sem.run_bind, h2, part_run hT h3 u1, part_run hT h3 v1, Result.andThen_ok, hx]
      cases x with
      | false => simp
      | true => simpa using tail r' hr'
    obtain ⟨z, hz, hc⟩ := eqCells_cons he
    rcases hc with ⟨k1, j1, x, y, hk, rfl, rfl, rfl⟩ | ⟨x, y, hk, rfl, rfl, rfl⟩ | ⟨x, y, hk, rfl, rfl, rfl⟩
    · refine step _ _ ?_ hz
      rw [(TR.of (o := []) rfl u2).int, (TR.of (o := []) rfl v2).int, ← decide_beq_int]
      exact run_equalIn_int w d f.type k1 j1 x y (hT.int hk)
    · refine step _ _ ?_ hz
      rw [(TR.of (o := []) rfl u2).bool, (TR.of (o := []) rfl v2).bool]
      exact run_equalIn_bool w d f.type x y (hT.bool hk)
    · refine step _ _ ?_ hz
      rw [(TR.of (o := []) rfl u2).str, (TR.of (o := []) rfl v2).str, ← bytes_eq]
      exact run_equalIn_string w d f.type x y (hT.str hk)
theorem y_binOp (hT : TOk P TB) (hf : FR ρ o R w t a) {b : BinOp} {ty tz : TypeId} {x y : Operand} {K : AV → Prop} (h : rdP TB (.binOp b ty x y tz) t o K) : Yields P ρ o R w a (.binOp b ty x y tz) K := by
  simp only [rdP] at h
  split at h
  · rename_i xs ys e1 e2
    have key : (TB ty).eq = true → ∀ fs, (TB ty).k = .struct fs → ∀ r, eqCells TB fs xs ys = some r → ∃ us vs, a.eval x = .agg us ∧ a.eval y = .agg vs ∧ (eqGuard b ty x y (.agg us) (.agg vs)).run P w = .ok () w ∧ (Op.equalIn 10000 ty (.agg us) (.agg vs)).run P w = .ok r w := by
      intro he fs hk r hr
      obtain ⟨l1, l2, _, _⟩ := eqCells_live (o := o) _ _ _ _ hr
      obtain ⟨g1, g2, F, hu, hF⟩ := hT.eq he (nb_struct hk)
      obtain ⟨F', hu', hF', _⟩ := hT.struct hk
      rw [hu] at hu'
      injection hu' with hu'
      injection hu' with hu'
      subst hu'
      have g3 := (hf.at e1).vr (by simpa [live] using l1)
      have g4 := (hf.at e2).vr (by simpa [live] using l2)
      generalize a.eval x = ux at g3
      generalize a.eval y = uy at g4
      cases g3 with
      | data h => cases h
      | agg _ us s1 s2 => cases g4 with
        | data h => cases h
        | agg _ vs s3 s4 =>
          have hfo : P.fieldsOf ty = F := by simp [Program.fieldsOf, hu]
          refine ⟨us, vs, rfl, rfl, run_eqGuard_agg w b ty x y us vs g2, ?_⟩
          rw [run_equalIn_agg w 9999 ty us vs (by rw [hfo]; exact hu) g1, hfo]
          have get : ∀ (us : Array Value) (j : Nat), j < us.size → us[j]? = some (us.getD j Go.undef) := fun us j hj => by
            rw [Array.getD_eq_getD_getElem?, Array.getElem?_eq_getElem hj]; rfl
          exact eqFields_run hT 9998 F.toList 0 xs ys r hF (by rw [hF']; exact hr) (fun j hj => by rw [Nat.zero_add]; exact ⟨get us j (by omega), s2 j hj⟩) (fun j hj => by rw [Nat.zero_add]; exact ⟨get vs j (by omega), s4 j hj⟩)
    split at h
    · rename_i fs he1 he
      split at h
      · rename_i r hr
        obtain ⟨us, vs, f1, f2, f3, f4⟩ := key he fs he1 r hr
        exact ⟨_, _, h, .dat (.bool _), fun _ _ _ _ _ => by simp [execOp, f1, f2, f3, run_eql_struct, f4]⟩
      · exact h.elim
    · rename_i fs he1 he
      split at h
      · rename_i r hr
        obtain ⟨us, vs, f1, f2, f3, f4⟩ := key he fs he1 r hr
        exact ⟨_, _, h, .dat (.bool _), fun _ _ _ _ _ => by simp [execOp, f1, f2, f3, run_neq_struct, f4]⟩
      · exact h.elim
    · exact h.elim
  · rename_i p q e1 e2
    have f1 := (hf.at e1).bool
    have f2 := (hf.at e2).bool
    split at h
    · rename_i hk
      exact ⟨_, _, h, .dat (.bool _), fun _ _ _ _ _ => by simp [execOp, f1, f2, eqGuard_at_bool, binOp, Op.equal, Op.maxDepth, run_equalIn_bool w 9999 ty p q (hT.bool hk)]⟩
    · rename_i hk
      exact ⟨_, _, h, .dat (.bool _), fun _ _ _ _ _ => by simp [execOp, f1, f2, eqGuard_at_bool, binOp, Op.equal, Op.maxDepth, run_equalIn_bool w 9999 ty p q (hT.bool hk)]⟩
    · exact h.elim
  · unfold binP at h
    split at h
    · rename_i k m j n e1 e2
      have f1 := (hf.at e1).int
      have f2 := (hf.at e2).int
      cases b
      case shl => exact ⟨_, _, h.2.el, .dat (.int _ _), fun _ _ _ _ _ => by simp [execOp, f1, f2, eqGuard_at_int, binOp, Op.shift, Int.not_lt.2 h.1.h]⟩
      case shr => exact ⟨_, _, h.2, .dat (.int _ _), fun _ _ _ _ _ => by simp [execOp, f1, f2, eqGuard_at_int, binOp, Op.shift, shrv, Int.not_lt.2 h.1.h]⟩
      all_goals
        obtain ⟨hk, hq⟩ := of_cond_true h
        clear h
        have hk := sameK_eq hk
        subst hk
      case add => exact ⟨_, _, hq.el, .dat (.int _ _), fun _ _ _ _ _ => by simp [execOp, f1, f2, eqGuard_at_int, binOp, Op.intArith]⟩
      case sub => exact ⟨_, _, hq.el, .dat (.int _ _), fun _ _ _ _ _ => by simp [execOp, f1, f2, eqGuard_at_int, binOp, Op.intArith]⟩
      case mul => exact ⟨_, _, hq.el, .dat (.int _ _), fun _ _ _ _ _ => by simp [execOp, f1, f2, eqGuard_at_int, binOp, Op.intArith]⟩
      case quo => exact ⟨_, _, hq.2.el, .dat (.int _ _), fun _ _ _ _ _ => by simp [execOp, f1, f2, eqGuard_at_int, binOp, Op.intDiv, hq.1.h]⟩
      case rem => exact ⟨_, _, hq.2, .dat (.int _ _), fun _ _ _ _ _ => by simp [execOp, f1, f2, eqGuard_at_int, binOp, Op.intDiv, hq.1.h]⟩
      case and => exact ⟨_, _, hq, .dat (.int _ _), fun _ _ _ _ _ => by simp [execOp, f1, f2, eqGuard_at_int, binOp, Op.intBits, bitop]⟩
      case or => exact ⟨_, _, hq, .dat (.int _ _), fun _ _ _ _ _ => by simp [execOp, f1, f2, eqGuard_at_int, binOp, Op.intBits, bitop]⟩
      case xor => exact ⟨_, _, hq, .dat (.int _ _), fun _ _ _ _ _ => by simp [execOp, f1, f2, eqGuard_at_int, binOp, Op.intBits, bitop]⟩
      case andNot => exact ⟨_, _, hq, .dat (.int _ _), fun _ _ _ _ _ => by simp [execOp, f1, f2, eqGuard_at_int, binOp, Op.intBits, bitop]⟩
      case eql => exact ⟨_, _, hq, .dat (.bool _), fun _ _ _ _ _ => by simp [execOp, f1, f2, eqGuard_at_int, binOp, Op.intCmp, decide_beq_int]⟩
      case neq => exact ⟨_, _, hq, .dat (.bool _), fun _ _ _ _ _ => by simp [execOp, f1, f2, eqGuard_at_int, binOp, Op.intCmp, bne, decide_beq_int]⟩
      all_goals exact ⟨_, _, hq, .dat (.bool _), fun _ _ _ _ _ => by simp [execOp, f1, f2, eqGuard_at_int, binOp, Op.intCmp]⟩
    · rename_i s u e1 e2
      have f1 := (hf.at e1).str
      have f2 := (hf.at e2).str
      cases b
      case add => exact ⟨_, _, h.2, .dat (.str _), fun _ _ _ _ _ => by
        have hn : ¬ (((s.size + u.size : Nat) : Int) > IntKind.i64.max) := by
          have := h.1.h
          show ¬ _ > (9223372036854775807 : Int)
          omega
        simp only [execOp, f1, f2, eqGuard_str, binOp, Op.stringOp, if_neg hn]
        rfl⟩
      case eql => exact ⟨_, _, h, .dat (.bool _), fun _ _ _ _ _ => by simp [execOp, f1, f2, eqGuard_str, binOp, Op.stringOp, bytes_eq]⟩
      case neq => exact ⟨_, _, h, .dat (.bool _), fun _ _ _ _ _ => by simp [execOp, f1, f2, eqGuard_str, binOp, Op.stringOp, bytes_eq]⟩
      all_goals exact h.elim
    · exact h.elim
/-- EVERY READING OPERATION. -/
theorem rd_sound (hT : TOk P TB) (hh : HR Gl o ρ R w) (hf : FR ρ o R w t a) {op : Op} {K : AV → Prop} (hr : isRd op = true) (h : rdP TB op t o K) : Yields P ρ o R w a op K := by
  cases op with
  | move x => exact y_move hf h
  | assign x => exact y_assign hf h
  | pick c x y => exact y_pick hf h
  | build ty ps => exact y_build hT hf h
  | load ty x => exact y_load hT hh hf h
  | nilCheck x => exact y_nilCheck hf h
  | binOp b ty x y tz => exact y_binOp hT hf h
  | unOp u ty x => exact y_unOp hf h
  | convert s d x => exact y_convert hT hh hf h
  | fieldAddr ty x f => exact y_fieldAddr hT hf h
  | indexAddr ty x i => exact y_indexAddr hT hf h
  | index ty x i => exact y_index hT hf h
  | slice ty x lo hi mx => exact y_slice hT hf h
  | extract x i => exact y_extract hf h
  | makeFunc fn fs cs => exact y_makeFunc hf h
  | call c =>
    obtain ⟨callee, as, ts⟩ := c
    cases callee with
    | builtin b => cases b with
      | len => exact y_len hT hf h
      | max => exact y_max hf h
      | min => exact y_min hf h
      | _ => cases hr
    | _ => cases hr
  | _ => cases hr
end
end Go.Proofs.YtbbgojaloebknaaDoor.Vc
