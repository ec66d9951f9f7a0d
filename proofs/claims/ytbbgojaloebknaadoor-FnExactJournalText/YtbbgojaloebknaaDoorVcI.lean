/- Part I of the engine: operations that make or write memory. -/
import Derived.Test.YtbbgojaloebknaaDoorVcH
import Derived.Laws.MakeOwn
namespace Go.Proofs.YtbbgojaloebknaaDoor.Vc
section
variable {P : Program} {TB : TypeId → TI} {ρ : Nat → Option Nat} {o : List Obj} {R : Nat → Prop} {w : World} {t : Fr} {a : Act} {Gl : List (Nat × Go.Obj)}

/-- The operation goes on with a state that K takes. -/
def Goes (P : Program) (Gl : List (Nat × Go.Obj)) (ρ : Nat → Option Nat) (o : List Obj) (R : Nat → Prop) (w : World) (a : Act) (op : Op) (K : AV → List Obj → Prop) : Prop :=
  ∀ (dst : Option Tmp) (ty : TypeId) (pos : String) (af : Array Edge) (g : Option (Nat × Bool)) (next : Act → World → Prop) (Q : Exit → Act → World → Prop),
    (∀ v y o' ρ' R' w', K v o' → HR Gl o' ρ' R' w' → TR ρ' o' R' w' v y → EX o ρ R w o' ρ' R' w' → next (a.put dst y) w') → Oper.wp P ⟨dst, op, ty, pos, af, g⟩ a w next Q

theorem goes_value {op : Op} {K : AV → List Obj → Prop} {y : Value} {w' : World} (hr : ∀ (dst : Option Tmp) (ty : TypeId) (pos : String) (af : Array Edge) (g : Option (Nat × Bool)), (execOp a.eval ⟨dst, op, ty, pos, af, g⟩).run P w = .ok (.value y) w')
    {v : AV} {o' : List Obj} {ρ' : Nat → Option Nat} {R' : Nat → Prop} (hK : K v o') (hh : HR Gl o' ρ' R' w') (hv : TR ρ' o' R' w' v y) (hx : EX o ρ R w o' ρ' R' w') : Goes P Gl ρ o R w a op K := by
  intro dst ty pos af g next Q hn
  unfold Oper.wp
  rw [hr, Oper.upon_value]
  exact hn v y o' ρ' R' w' hK hh hv hx
theorem goes_skip {op : Op} {K : AV → List Obj → Prop} {w' : World} (hr : ∀ (dst : Option Tmp) (ty : TypeId) (pos : String) (af : Array Edge) (g : Option (Nat × Bool)), (execOp a.eval ⟨dst, op, ty, pos, af, g⟩).run P w = .ok .skip w')
    {o' : List Obj} {ρ' : Nat → Option Nat} {R' : Nat → Prop} (hK : K .undef o') (hh : HR Gl o' ρ' R' w') (hx : EX o ρ R w o' ρ' R' w') : Goes P Gl ρ o R w a op K := by
  intro dst ty pos af g next Q hn
  unfold Oper.wp
  rw [hr, Oper.upon_skip]
  exact hn .undef Go.undef o' ρ' R' w' hK hh .undef hx
/-- A new box. -/
theorem box_new (hh : HR Gl o ρ R w) {cs : List AV} {xs : Array Value} (hc : CR ρ o R w cs xs) (ty : TypeId) {w' : World} (hw : w' = { w with heap := w.heap.push (.cells xs ty) }) :
    ∃ ρ', HR Gl (o ++ [.box cs]) ρ' R w' ∧ EX o ρ R w (o ++ [.box cs]) ρ' R w' ∧ TR ρ' (o ++ [.box cs]) R w' (.ptr o.length 0) (.pointer (some ⟨w.heap.size, 0, none⟩)) := by
  subst hw
  have hx := EX.new (w' := { w with heap := w.heap.push (.cells xs ty) }) hh (.box cs) xs ty rfl rfl rfl rfl
  refine ⟨_, HR.new hh (.box cs) xs ty rfl rfl rfl rfl fun hx => ⟨w.heap.size, xs, ty, by simp [ρnew], by simp, hc.1, fun j hj => (hc.2 j hj).go hx hh.ro⟩, hx, .of (by simp [live]) (.ptr (by simp [ρnew]))⟩
theorem g_box (_hT : TOk P TB) (hh : HR Gl o ρ R w) (hf : FR ρ o R w t a) {ty : TypeId} {x : Operand} {call} {K : AV → List Obj → Prop} (h : efP TB call (.box ty x) t o K) : Goes P Gl ρ o R w a (.box ty x) K := by
  simp only [efP] at h
  obtain ⟨hb, hK⟩ := of_cond_true h
  simp only [Bool.and_eq_true] at hb
  obtain ⟨ρ', h1, h2, h3⟩ := box_new hh (cells_CR hb.1.2 (hf.evv x)) ty rfl
  exact goes_value (y := .pointer (some ⟨w.heap.size, 0, none⟩)) (fun _ _ _ _ _ => by simp [execOp, Instr.box, newVar, newRow, newObj, Sem.run]) hK h1 h3 h2
theorem g_alloc (hT : TOk P TB) (hh : HR Gl o ρ R w) {ty : TypeId} {call} {K : AV → List Obj → Prop} (h : efP TB call (.alloc ty) t o K) : Goes P Gl ρ o R w a (.alloc ty) K := by
  simp only [efP] at h
  split at h
  · exact h.elim
  · rename_i hb
    obtain ⟨i, z, h1, h2, _, h3, h4, _⟩ := hT.info hb
    obtain ⟨ρ', g1, g2, g3⟩ := box_new hh (zero_CR h4) ty rfl
    exact goes_value (y := .pointer (some ⟨w.heap.size, 0, none⟩)) (fun _ _ _ _ _ => by simp [execOp, Instr.alloc, zeroValue, typeInfo, h1, h3, newVar, newRow, newObj, Sem.run]) h g1 g3 g2
theorem scal_one {v : AV} {y : Value} (hs : v.scal = true) (h : VR ρ R w v y) : y.oneCell' = true := by
  cases h with
  | data h => cases h <;> first | rfl | cases hs | assumption
  | undef => cases hs
  | agg => cases hs
  | tup => cases hs
  | _ => rfl
theorem DR_one {v : AV} {y : Value} (h : DR R w v y) : y.oneCell' = true := by cases h <;> first | rfl | assumption
theorem one_cell {v : AV} (hs : v.scal = true) : v.cells = [v] := by cases v <;> first | rfl | cases hs
theorem storeVar_run (hT : TOk P TB) {ty : TypeId} {b off : Nat} {y : Value} {xs : Array Value} {tz : TypeId} (hb : (TB ty).k ≠ .bad) (hw : w.heap[b]? = some (.cells xs tz (0, 0))) (hy : y.cells.size = (TB ty).n) (ho : off + (TB ty).n ≤ xs.size)
    (h1 : ∀ v ∈ y.cells.toList, v.oneCell' = true) : (storeVar ty ⟨b, off, none⟩ y).run P w = .ok () (w.setCells b off y.cells.toList) := by
  have hst := run_storeCells_cells (P := P) b off y.cells.toList 0 w (fun j hj => by
    rw [Array.length_toList] at hj
    rw [Nat.add_zero, cell_block hw (by omega)]; rfl) (fun j hj => by simp [World.frozen?, hw]) h1
  simp only [Nat.add_zero] at hst
  simp [storeVar, sizeOf_run hT hb, hy, hst]
theorem good_nb {ti : TI} (h : ti.good = true) : ti.k ≠ .bad := fun e => by simp [TI.good, e] at h
theorem storeAt_run (hT : TOk P TB) {ty : TypeId} {b off : Nat} {y : Value} {xs : Array Value} {tz : TypeId} (hb : (TB ty).k ≠ .bad) (hw : w.heap[b]? = some (.cells xs tz (0, 0))) (hy : y.cells.size = (TB ty).n) (ho : off + (TB ty).n ≤ xs.size)
    (h1 : ∀ v ∈ y.cells.toList, v.oneCell' = true) : (Instr.storeAt ty (.pointer (some ⟨b, off, none⟩)) y).run P w = .ok () (w.setCells b off y.cells.toList) := by
  simp [Instr.storeAt, Instr.sureAddr, storeVar_run hT hb hw hy ho h1]
theorem toList_getD (xs : Array Value) (j : Nat) : xs.toList.getD j Go.undef = xs.getD j Go.undef := by
  rw [Array.getD_eq_getD_getElem?, List.getD_eq_getElem?_getD, Array.getElem?_toList]
theorem mem_getD {xs : Array Value} {v : Value} (h : v ∈ xs.toList) : ∃ j, j < xs.size ∧ v = xs.getD j Go.undef := by
  obtain ⟨j, hj, e⟩ := List.getElem_of_mem h
  refine ⟨j, by simpa using hj, ?_⟩
  rw [← toList_getD, List.getD_eq_getElem?_getD, List.getElem?_eq_getElem hj, ← e]
  rfl
theorem g_store (hT : TOk P TB) (hh : HR Gl o ρ R w) (hf : FR ρ o R w t a) {ty : TypeId} {x z : Operand} {call} {K : AV → List Obj → Prop} (h : efP TB call (.store ty x z) t o K) : Goes P Gl ρ o R w a (.store ty x z) K := by
  simp only [efP] at h
  split at h
  · rename_i id off e
    split at h
    · rename_i cs eo
      obtain ⟨hb, hK⟩ := of_cond_true h
      simp only [Bool.and_eq_true] at hb
      obtain ⟨⟨⟨⟨q1, q2⟩, q3⟩, q4⟩, q5⟩ := hb
      have q1 := Nat.eq_of_beq_eq_true q1
      have q2 := Nat.le_of_ble_eq_true q2
      obtain ⟨b, e1, e2⟩ := (hf.at e).ptr eo
      obtain ⟨b', xs, tz, r1, r2, r3, r4⟩ := hh.obj id _ eo
      rw [e2] at r1
      injection r1 with r1
      subst r1
      have hc := cells_CR q3 (hf.evv z)
      have hlen : (a.eval z).cells.toList.length = (TB ty).n := by rw [Array.length_toList, hc.1, q1]
      obtain ⟨ys, s1, s2, s3, s4, s5, s6, s7, s8⟩ := setCells_facts (a.eval z).cells.toList off r2 (by rw [hlen]; omega)
      have hw : WR w (w.setCells b off (a.eval z).cells.toList) b xs ys tz := ⟨r2, s1, s2, s4, s5, s6, s7, s8⟩
      have hk : ∃ ds, Obj.box cs = .box ds := ⟨_, rfl⟩
      have hob : EX o ρ R w (o.set id (.box (setCells cs off (ev t z).cells))) ρ R (w.setCells b off (a.eval z).cells.toList) → OB ρ (o.set id (.box (setCells cs off (ev t z).cells))) R (w.setCells b off (a.eval z).cells.toList) id (.box (setCells cs off (ev t z).cells)) := by
        intro hx
        refine ⟨b, ys, tz, e2, s1, by rw [s2, setCells_length]; exact r3, fun j hj => ?_⟩
        rw [setCells_length] at hj
        rw [setCells_getD _ _ _ _ (by omega), s3 j, hlen]
        by_cases g : off ≤ j ∧ j < off + (TB ty).n
        · rw [if_pos (by omega), if_pos g, toList_getD]
          exact (hc.2 (j - off) (by omega)).go hx hh.ro
        · rw [if_neg (by omega), if_neg g]
          exact (r4 j hj).go hx hh.ro
      have hrun := storeAt_run (P := P) hT (ty := ty) (b := b) (off := off) (y := a.eval z) (good_nb q5) r2 (by rw [hc.1, q1]) (by omega) (fun v hv => by
        obtain ⟨j, hj, rfl⟩ := mem_getD hv
        have hj' : j < (ev t z).cells.length := by rw [← hc.1]; exact hj
        exact scal_one (List.all_eq_true.1 q4 _ (getD_mem hj')) ((hc.2 j hj').vr (cells_live (cellOk_live q3) _ (getD_mem hj'))))
      exact goes_skip (fun _ _ _ _ _ => by simp [execOp, e1, hrun]) hK (HR.wr hh hw e2 eo hk hob) (EX.wr hw e2 eo hk)
    · exact h.elim
  · rename_i id sz i off e
    split at h
    · rename_i s n f eo
      split at h
      · rename_i cs ks p ek
        obtain ⟨⟨hi, hp⟩, h⟩ := h
        obtain ⟨hb, hK⟩ := of_cond_true h
        simp only [Bool.and_eq_true, Bool.not_eq_true'] at hb
        obtain ⟨⟨⟨⟨⟨q1, q2⟩, q3⟩, q4⟩, q6⟩, q5⟩ := hb
        have q2 := Nat.eq_of_beq_eq_true q2
        have q3 := Nat.le_of_ble_eq_true q3
        obtain ⟨b, e1, e2⟩ := (hf.at e).eptr eo q1
        have q1 := Nat.eq_of_beq_eq_true q1
        subst q1
        rcases hh.obj id _ eo with ⟨h0, _⟩ | ⟨b', xs, tz, r1, r2, r3, r4, r5⟩
        · omega
        · rw [e2] at r1
          injection r1 with r1
          subst r1
          have hc := cells_CR q4 (hf.evv z)
          obtain ⟨ρ', R', h1, h2, h3⟩ := kill_HR ks hh
          have eo' : (kill o ks)[id]? = some (.row s n f) := by rw [kill_other ks o id q6]; exact eo
          have hid : id < o.length := (List.getElem?_eq_some_iff.1 eo).1
          have e2' : ρ' id = some b := by
            have := h2.keep id hid
            rw [eo'] at this
            exact this.2.trans e2
          obtain ⟨d1, d2⟩ := frzL_DR hh h2.rmono ek hp hc.2 h3
          have hlen : (a.eval z).cells.toList.length = (TB ty).n := by rw [Array.length_toList, hc.1, ← d1, q2]
          have hin : (i + 1) * s ≤ n * s := Nat.mul_le_mul_right _ hi
          rw [Nat.add_mul, Nat.one_mul] at hin
          obtain ⟨ys, s1, s2, s3, s4, s5, s6, s7, s8⟩ := setCells_facts (a.eval z).cells.toList (i * s + off) r2 (by rw [hlen]; omega)
          have hw : WR w (w.setCells b (i * s + off) (a.eval z).cells.toList) b xs ys tz := ⟨r2, s1, s2, s4, s5, s6, s7, s8⟩
          have hk : ∃ m g, Obj.row s n f = .row s m g := ⟨_, _, rfl⟩
          have hfi : (f i).length = s := r4 i hi
          have hob : EX (kill o ks) ρ' R' w ((kill o ks).set id (.row s n (setF f i (setCells (f i) off cs)))) ρ' R' (w.setCells b (i * s + off) (a.eval z).cells.toList) →
              OB ρ' ((kill o ks).set id (.row s n (setF f i (setCells (f i) off cs)))) R' (w.setCells b (i * s + off) (a.eval z).cells.toList) id (.row s n (setF f i (setCells (f i) off cs))) := by
            intro hx
            have hne : ∀ c, R' c → (w.setCells b (i * s + off) (a.eval z).cells.toList).heap[c]? = w.heap[c]? := fun c hc' => s4 c fun e => (h1.ro c hc').2 id (by rw [e]; exact e2')
            refine .inr ⟨b, ys, tz, e2', s1, by rw [s2]; exact r3, fun j hj => ?_, fun j hj l hl => ?_⟩
            · unfold setF
              cases hji : Nat.beq j i with
              | true => simp only [cond_true, setCells_length]; exact hfi
              | false => simp only [cond_false]; exact r4 j hj
            · rw [s3, hlen]
              unfold setF
              cases hji : Nat.beq j i with
              | true =>
                have hji := Nat.eq_of_beq_eq_true hji
                subst hji
                simp only [cond_true]
                rw [setCells_getD _ _ _ _ (by rw [d1, ← hc.1, ← Array.length_toList, hlen]; omega)]
                have hdl : cs.length = (TB ty).n := q2
                rw [hdl]
                by_cases g : off ≤ l ∧ l < off + (TB ty).n
                · rw [if_pos g, if_pos (by omega), toList_getD, show j * s + l - (j * s + off) = l - off by omega]
                  exact (d2 (l - off) (by omega)).go (fun _ h => h) hne
                · rw [if_neg g, if_neg (by omega)]
                  exact (r5 j hj l hl).go h2.rmono (fun c hc' => hne c (h2.rmono c hc'))
              | false =>
                simp only [cond_false]
                have hji' : j ≠ i := fun e => by subst e; rw [Nat.beq_refl] at hji; cases hji
                rw [if_neg (by
                  intro hg
                  rcases Nat.lt_or_ge j i with hlt | hge
                  · have : (j + 1) * s ≤ i * s := Nat.mul_le_mul_right _ hlt
                    rw [Nat.add_mul, Nat.one_mul] at this
                    omega
                  · have : (i + 1) * s ≤ j * s := Nat.mul_le_mul_right _ (by omega)
                    rw [Nat.add_mul, Nat.one_mul] at this
                    omega)]
                exact (r5 j hj l hl).go h2.rmono (fun c hc' => hne c (h2.rmono c hc'))
          have hrun := storeAt_run (P := P) hT (ty := ty) (b := b) (off := i * s + off) (y := a.eval z) (good_nb q5) r2 (by rw [← Array.length_toList, hlen]) (by omega) (fun v hv => by
            obtain ⟨j, hj, rfl⟩ := mem_getD hv
            exact DR_one (d2 j (by rw [← hc.1]; exact hj)))
          exact goes_skip (fun _ _ _ _ _ => by simp [execOp, e1, hrun]) hK (HR.wr h1 hw e2' eo' hk hob) (h2.trans (EX.wr hw e2' eo' hk))
      · exact h.elim
    · exact h.elim
  · exact h.elim
theorem fill_elems (hh : HR Gl o ρ R w) (hf : FR ρ o R w t a) {n : Nat} {z0 : List AV} {R' : Nat → Prop} (hR : ∀ b, R b → R' b) : ∀ (ps : List (Nat × Operand)) (j : Nat) {es : List (List AV)} {ks : List Nat} {p : Prop} (xs : Array Value),
    elemsOf o n t ps j = some (es, ks, p) → p → (∀ k ∈ ks, ∀ b, ρ k = some b → R' b) → (j + ps.length) * n ≤ xs.size →
    es.length = ps.length ∧ ∃ ys, Instr.fill (fun i => some (i * n, n)) xs (ps.map fun p => (p.1, a.eval p.2)) = some ys ∧ ys.size = xs.size ∧ (∀ k, k < j * n → ys.getD k Go.undef = xs.getD k Go.undef) ∧
      ∀ i, i < es.length → (es.getD i z0).length = n ∧ ∀ l, l < n → DR R' w ((es.getD i z0).getD l .undef) (ys.getD ((j + i) * n + l) Go.undef)
  | [], j, es, ks, p, xs, h, _, _, _ => by
    simp only [elemsOf, Option.some.injEq, Prod.mk.injEq] at h
    obtain ⟨rfl, rfl, rfl⟩ := h
    exact ⟨rfl, xs, rfl, rfl, fun _ _ => rfl, fun i hi => by simp at hi⟩
  | (i, x) :: r, j, es, ks, p, xs, h, hp, hk, hs => by
    simp only [elemsOf] at h
    cases hb : (Nat.beq i j && Nat.beq (ev t x).cells.length n && cellOk o (ev t x)) with
    | false => rw [hb] at h; cases h
    | true =>
      rw [hb] at h
      simp only [cond_true] at h
      simp only [Bool.and_eq_true] at hb
      obtain ⟨⟨b1, b2⟩, b3⟩ := hb
      have b1 := Nat.eq_of_beq_eq_true b1
      have b2 := Nat.eq_of_beq_eq_true b2
      subst b1
      split at h
      · rename_i cs ks1 p1 es1 ls q e1 e2
        simp only [Option.some.injEq, Prod.mk.injEq] at h
        obtain ⟨rfl, rfl, rfl⟩ := h
        simp only [List.length_cons] at hs
        have hc := cells_CR b3 (hf.evv x)
        obtain ⟨d1, d2⟩ := frzL_DR hh hR e1 hp.1 hc.2 fun k hk' => hk k (List.mem_append_left _ hk')
        have hsz : (i + (r.length + 1)) * n = (i + 1 + r.length) * n := by congr 1; omega
        obtain ⟨f1, f2⟩ := fold_set (a.eval x).cells.toList 0 xs (i * n)
        have hy : (a.eval x).cells.toList.length = n := by rw [Array.length_toList, hc.1, b2]
        have hin : (i + 1) * n ≤ xs.size := Nat.le_trans (Nat.mul_le_mul_right _ (by omega)) hs
        rw [Nat.add_mul, Nat.one_mul] at hin
        obtain ⟨g1, ys, g2, g3, g4, g5⟩ := fill_elems hh hf hR r (i + 1) (((a.eval x).cells.toList.zipIdx).foldl (fun cs (p : Value × Nat) => cs.setIfInBounds (i * n + p.2) p.1) xs) e2 hp.2 (fun k hk' => hk k (List.mem_append_right _ hk')) (by rw [f1, ← hsz]; exact hs)
        refine ⟨by simp [g1], ys, ?_, g3.trans f1, fun k hk' => ?_, fun m hm => ?_⟩
        · simp only [List.map_cons, Instr.fill]
          have hy' : (a.eval x).cells.size = n := by rw [hc.1, b2]
          rw [if_neg (by rw [Bool.or_eq_true, decide_eq_true_eq, decide_eq_true_eq]; omega)]
          rw [← Array.foldl_toList, Array.toList_zipIdx]
          exact g2
        · rw [g4 k (by rw [Nat.add_mul]; omega), f2 k (by rw [hy]; omega), if_neg (by omega)]
        · cases m with
          | zero =>
            simp only [List.getD_cons_zero, Nat.add_zero]
            refine ⟨by rw [d1, b2], fun l hl => ?_⟩
            rw [g4 _ (by rw [Nat.add_mul]; omega), f2 _ (by rw [hy]; omega), hy, if_pos (by omega), toList_getD, show i * n + l - (i * n + 0) = l by omega]
            exact d2 l (by omega)
          | succ m =>
            have := g5 m (by simpa using hm)
            simp only [List.getD_cons_succ]
            rw [show i + (m + 1) = i + 1 + m by omega]
            exact this
      · cases h
theorem g_buildSlice (hT : TOk P TB) (hh : HR Gl o ρ R w) (hf : FR ρ o R w t a) {ty : TypeId} {len : Nat} {ps : Array (Nat × Operand)} {call} {K : AV → List Obj → Prop} (h : efP TB call (.buildSlice ty len ps) t o K) : Goes P Gl ρ o R w a (.buildSlice ty len ps) K := by
  simp only [efP] at h
  split at h
  · rename_i e he
    obtain ⟨hu, hb⟩ := hT.slice he
    obtain ⟨ie, ze, i1, i2, _, i3, i4, _⟩ := hT.info hb
    have hsz := sizeOf_run hT hb w
    cases h0 : Nat.beq len 0 with
    | true =>
      rw [h0] at h
      simp only [cond_true] at h
      obtain ⟨hp, hK⟩ := of_cond_true h
      have h0 := Nat.eq_of_beq_eq_true h0
      subst h0
      have hp : ps = #[] := by simpa using hp
      subst hp
      refine goes_value (y := .slice (some ⟨w.heap.size, 0, none⟩) 0 0) (w' := { w with heap := w.heap.push (.cells #[] e) }) (fun _ _ _ _ _ => ?_) hK (hh.grows ?_) (.dat (.nils _)) (EX.grows ?_)
      · simp [execOp, Instr.buildSlice, run_underlying hu, hsz, Instr.fill, newRow, newObj, Sem.run]
        rw [show (Array.map (fun _ => default) (Array.range 0) : Array Value) = #[] from Array.eq_empty_of_size_eq_zero (by simp)]
      all_goals exact ⟨by simp, fun b hb => by rw [Array.getElem?_push_lt (by omega), Array.getElem?_eq_getElem hb], rfl, rfl, rfl⟩
    | false =>
      rw [h0] at h
      simp only [cond_false] at h
      obtain ⟨hq, h⟩ := of_cond_true h
      simp only [Bool.and_eq_true] at hq
      have q1 := Nat.eq_of_beq_eq_true hq.1.1
      have q2 := Nat.le_of_ble_eq_true hq.1.2
      have q3 := Nat.le_of_ble_eq_true hq.2
      split at h
      · rename_i es ks p ek
        obtain ⟨⟨hp⟩, hK⟩ := h
        obtain ⟨ρ', R', h1, h2, h3⟩ := kill_HR ks hh
        have hlen : ps.toList.length = len := by rw [Array.length_toList, q1]
        have hpos : 0 < len := Nat.pos_of_ne_zero fun e => by rw [e] at h0; cases h0
        obtain ⟨g1, ys, g2, g3, g4, g5⟩ := fill_elems hh hf h2.rmono ps.toList 0 ((Array.range (len * (TB e).n)).map (ze.cells[· % ze.cells.size]!)) ek hp h3 (by simp [hlen])
        have hys : ys.size = len * (TB e).n := by rw [g3]; simp
        have hrun : ∀ (dst : Option Tmp) (tz : TypeId) (pos : String) (af : Array Edge) (g : Option (Nat × Bool)), (execOp a.eval ⟨dst, .buildSlice ty len ps, tz, pos, af, g⟩).run P w = .ok (.value (.slice (some ⟨w.heap.size, 0, none⟩) len len)) { w with heap := w.heap.push (.cells ys e) } := by
          intro dst tz pos af g
          have h24 : ¬ len * (TB e).n > 2 ^ 24 := by omega
          have hn0 : ¬ len * (TB e).n = 0 := by
            have : 1 * 1 ≤ len * (TB e).n := Nat.mul_le_mul hpos q3
            omega
          have g2' : Instr.fill (fun i => some (i * (TB e).n, (TB e).n)) ((Array.range (len * (TB e).n)).map fun x => ze.cells[x % ze.cells.size]!) (List.map (fun x => (x.1, a.eval x.2)) ps.toList) = some ys := g2
          simp only [execOp, Instr.buildSlice, Sem.run_bind, run_underlying hu, Result.andThen_ok, hsz, if_neg h24, if_neg hn0, Sem.run_pure, zeroValue, typeInfo, run_program, i1, i3]
          simp [g2', newRow, newObj, Sem.run]
        have hob : EX (kill o ks) ρ' R' w (kill o ks ++ [.row (TB e).n len fun i => es.getD i (TB e).z]) (ρnew ρ' (kill o ks).length w.heap.size) R' { w with heap := w.heap.push (.cells ys e) } →
            OB (ρnew ρ' (kill o ks).length w.heap.size) (kill o ks ++ [.row (TB e).n len fun i => es.getD i (TB e).z]) R' { w with heap := w.heap.push (.cells ys e) } (kill o ks).length (.row (TB e).n len fun i => es.getD i (TB e).z) := by
          intro hx
          have hne : ∀ c, R' c → ({ w with heap := w.heap.push (.cells ys e) } : World).heap[c]? = w.heap[c]? := fun c hc => hx.same c (h1.ro c hc).1 (h1.ro c hc).2
          refine .inr ⟨w.heap.size, ys, e, by simp [ρnew], by simp, by omega, fun m hm => (g5 m (by omega)).1, fun m hm l hl => ?_⟩
          have := (g5 m (by omega)).2 l hl
          rw [Nat.zero_add] at this
          exact this.go (fun _ h => h) hne
        have hlk := kill_length ks o
        refine goes_value hrun hK (HR.new h1 _ ys e rfl rfl rfl rfl hob) (.of ?_ ?_) (h2.trans (EX.new h1 _ ys e rfl rfl rfl rfl))
        · simp [live, ← hlk]
        · have := VR.row (ρ := ρnew ρ' (kill o ks).length w.heap.size) (R := R') (w := { w with heap := w.heap.push (.cells ys e) }) (id := (kill o ks).length) (sz := (TB e).n) (off := 0) (len := len) (b := w.heap.size) (cs := ys) (ty := e) (cap := len) (by simp [ρnew]) (by simp) (Nat.le_refl _) (by rw [hys, Nat.zero_add]; exact Nat.le_refl _)
          rw [Nat.zero_mul, show AV.row (kill o ks).length (TB e).n 0 len = AV.row o.length (TB e).n 0 len by rw [hlk]] at this
          exact this
      · exact h.elim
  · exact h.elim
theorem g_makeSlice (hT : TOk P TB) (hh : HR Gl o ρ R w) (hf : FR ρ o R w t a) {ty : TypeId} {x y : Operand} {call} {K : AV → List Obj → Prop} (h : efP TB call (.makeSlice ty x y) t o K) : Goes P Gl ρ o R w a (.makeSlice ty x y) K := by
  simp only [efP] at h
  split at h
  · rename_i e n m he e1 e2
    obtain ⟨⟨rfl, h0, h63, hby⟩, hK⟩ := h
    obtain ⟨hu, hb⟩ := hT.slice he
    obtain ⟨ie, ze, i1, i2, i5, i3, i4, _⟩ := hT.info hb
    obtain ⟨z1, z2⟩ := zOk_CR (R := R) (w := w) _ _ i4
    have hn : (TB e).n = (TB e).z.length := (hT.zlen hb).symm
    have hrun := run_make (P := P) w ty e ie ze hu i1 i3 .i64 .i64 n n h0 (Int.le_refl _) (by rw [i5]; exact hby) h63
    have hxs : (madeCells ze.cells (n.toNat * ie.size)).size = n.toNat * (TB e).n := by simp [madeCells, i2]
    have hob : EX o ρ R w (o ++ [.row (TB e).n n.toNat fun _ => (TB e).z]) (ρnew ρ o.length w.heap.size) R { w with heap := w.heap.push (.cells (madeCells ze.cells (n.toNat * ie.size)) e) } →
        OB (ρnew ρ o.length w.heap.size) (o ++ [.row (TB e).n n.toNat fun _ => (TB e).z]) R { w with heap := w.heap.push (.cells (madeCells ze.cells (n.toNat * ie.size)) e) } o.length (.row (TB e).n n.toNat fun _ => (TB e).z) := by
      intro hx
      have hne : ∀ c, R c → ({ w with heap := w.heap.push (.cells (madeCells ze.cells (n.toNat * ie.size)) e) } : World).heap[c]? = w.heap[c]? := fun c hc => hx.same c (hh.ro c hc).1 (hh.ro c hc).2
      refine .inr ⟨w.heap.size, madeCells ze.cells (n.toNat * ie.size), e, by simp [ρnew], by simp, by rw [hxs]; exact Nat.le_refl _, fun _ _ => hn.symm, fun i hi j hj => ?_⟩
      have hin : (i + 1) * (TB e).n ≤ n.toNat * (TB e).n := Nat.mul_le_mul_right _ hi
      rw [Nat.add_mul, Nat.one_mul] at hin
      have hze : ze.cells.size = (TB e).n := by rw [hn, ← z1, Array.length_toList]
      have hg : (madeCells ze.cells (n.toNat * ie.size)).getD (i * (TB e).n + j) Go.undef = ze.cells.getD j Go.undef := by
        rw [Array.getD_eq_getD_getElem?, Array.getD_eq_getD_getElem?]
        simp only [madeCells, i2]
        rw [Array.getElem?_map, Array.getElem?_range, if_pos (by omega)]
        simp only [Option.map_some, Option.getD_some, hze]
        rw [Nat.mul_comm i, Nat.mul_add_mod, Nat.mod_eq_of_lt hj]
        rw [getElem!_pos ze.cells j (by omega), Array.getElem?_eq_getElem (by omega)]
        rfl
      rw [hg]
      have := z2 j (by omega)
      rw [toList_getD] at this
      exact this.go (fun _ h => h) hne
    refine goes_value (y := .slice (some ⟨w.heap.size, 0, none⟩) n.toNat n.toNat) (w' := { w with heap := w.heap.push (.cells (madeCells ze.cells (n.toNat * ie.size)) e) }) (fun dst tz pos af g => ?_) hK (HR.new hh _ (madeCells ze.cells (n.toNat * ie.size)) e rfl rfl rfl rfl hob) (.of ?_ ?_) (EX.new hh _ (madeCells ze.cells (n.toNat * ie.size)) e rfl rfl rfl rfl)
    · simp only [execOp, (hf.at e1).int, (hf.at e2).int, Sem.run_bind, hrun]
      rfl
    · simp [live]
    · have := VR.row (ρ := ρnew ρ o.length w.heap.size) (R := R) (w := { w with heap := w.heap.push (.cells (madeCells ze.cells (n.toNat * ie.size)) e) }) (id := o.length) (sz := (TB e).n) (off := 0) (len := n.toNat) (b := w.heap.size) (cs := madeCells ze.cells (n.toNat * ie.size)) (ty := e) (cap := n.toNat) (by simp [ρnew]) (by simp) (Nat.le_refl _) (by rw [hxs, Nat.zero_add]; exact Nat.le_refl _)
      rw [Nat.zero_mul] at this
      exact this
  · exact h.elim
end
end Go.Proofs.YtbbgojaloebknaaDoor.Vc
