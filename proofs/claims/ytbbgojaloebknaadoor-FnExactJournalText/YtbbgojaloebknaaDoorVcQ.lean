/- Part Q of the engine: a region whose order is drawn. -/
import Derived.Test.YtbbgojaloebknaaDoorVcO
namespace Go.Proofs.YtbbgojaloebknaaDoor.Vc
/-- It comes after the j-th one in whatever order. -/
def aft (x : Oper) (j : Nat) : Bool := x.after.toList.any fun e => Region.binds .any e && Nat.beq e.on j
def keepX (x : Oper) (fl : List (Nat × Nat)) (o o' : List Obj) : Prop := ∀ j i, (j, i) ∈ fl → aft x j = false → o'[i]? = o[i]?
theorem keepX.mono {x : Oper} {fl gl : List (Nat × Nat)} {o o' : List Obj} (h : keepX x fl o o') (k : ∀ i, i ∈ gl → i ∈ fl) : keepX x gl o o' := fun j i hi => h j i (k _ hi)
theorem keepX.refl (x : Oper) (fl : List (Nat × Nat)) (o : List Obj) : keepX x fl o o := fun _ _ _ _ => rfl
def keepP (x : Oper) : List (Nat × Nat) → List Obj → List Obj → Prop → Prop
  | [], _, _, K => K
  | (j, i) :: r, o, o', K => cond (aft x j) (keepP x r o o' K) (Chk (o'[i]? = o[i]?) ∧ keepP x r o o' K)
theorem keepP_spec {x : Oper} : ∀ {l : List (Nat × Nat)} {o o' : List Obj} {K : Prop}, keepP x l o o' K → keepX x l o o' ∧ K
  | [], o, o', K, h => ⟨fun j i hi => (by cases hi), h⟩
  | (j, i) :: r, o, o', K, h => by
    unfold keepP at h
    cases e : aft x j with
    | true =>
      rw [e] at h
      obtain ⟨h1, h2⟩ := keepP_spec (l := r) h
      refine ⟨fun j' i' hi ha => ?_, h2⟩
      rcases List.mem_cons.1 hi with hi | hi
      · cases hi; rw [e] at ha; cases ha
      · exact h1 j' i' hi ha
    | false =>
      rw [e] at h
      obtain ⟨h1, h2⟩ := keepP_spec (l := r) h.2
      refine ⟨fun j' i' hi ha => ?_, h2⟩
      rcases List.mem_cons.1 hi with hi | hi
      · cases hi; exact h.1.h
      · exact h1 j' i' hi ha
def addQ (j : Nat) : List Nat → List (Nat × Nat) → (List (Nat × Nat) → Prop) → Prop
  | [], fl, K => K fl
  | i :: r, fl, K => forceN i fun i => addQ j r ((j, i) :: fl) K
theorem addQ_spec {j : Nat} : ∀ {l : List Nat} {m : List (Nat × Nat)} {K : List (Nat × Nat) → Prop}, addQ j l m K → ∃ s, K s ∧ (∀ i, i ∈ l → (j, i) ∈ s) ∧ ∀ i, i ∈ m → i ∈ s
  | [], m, K, h => ⟨m, h, fun i hi => (by cases hi), fun _ hi => hi⟩
  | i :: r, m, K, h => by
    unfold addQ at h
    rw [forceN_eq] at h
    obtain ⟨s, h1, h2, h3⟩ := addQ_spec (l := r) h
    refine ⟨s, h1, fun k hk => ?_, fun k hk => h3 k (List.mem_cons_of_mem _ hk)⟩
    rcases List.mem_cons.1 hk with rfl | hk
    · exact h3 _ List.mem_cons_self
    · exact h2 k hk
/-- An order of a drawn region: 'rd': a reading operation, as early as it may; 'ef': a writing one, or else the others that may come up. -/
inductive OT where
  | dn
  | rd (i : Nat) (r : OT)
  | ef (i : Nat) (r s : OT)
  | no
structure Sp (A B : Prop) : Prop where
  l : A
  r : B
/-- In this order, each reading operation as early as it may: what it looked at must stand at each later writing one. -/
def drP (TB : TypeId → TI) (call : FuncId → List AV → List Obj → (AV → List Obj → Prop) → Prop) (ops : Array Oper) : OT → List (Nat × Nat) → Fr → List Obj → (Fr → List Obj → Prop) → Prop
  | .dn, _, t, o, K => K t o
  | .no, _, _, _, _ => True
  | .rd i r, fl, t, o, K => match ops[i]? with
    | none => False
    | some x => match isRd x.op with
      | true => opP TB call ops x t o fun t' o' => addQ i (opIds x.op t) fl fun fl => drP TB call ops r fl t' o' K
      | false => False
  | .ef i r .no, fl, t, o, K => match ops[i]? with
    | none => False
    | some x => opP TB call ops x t o fun t' o' => keepP x fl o o' (drP TB call ops r fl t' o' K)
  | .ef i r s, fl, t, o, K => match ops[i]? with
    | none => False
    | some x => Sp (opP TB call ops x t o fun t' o' => keepP x fl o o' (drP TB call ops r fl t' o' K)) (drP TB call ops s fl t o K)
def heads : OT → List Nat
  | .ef i _ s => i :: heads s
  | _ => []
def okB (ops : Array Oper) : OT → Bool → Nat → Array Bool → Bool
  | .dn, c, n, listed => !c && Nat.beq n 0 && (Region.ready .any ops listed).isEmpty
  | .rd i r, c, n, listed => !c && Nat.ble 1 n && (match ops[i]? with
    | none => false
    | some x => isRd x.op && (Region.ready .any ops listed).contains i && Region.free .any ops listed i) && okB ops r false (n - 1) (listed.setIfInBounds i true)
  | .ef i r s, c, n, listed => (c || decide (heads (.ef i r s) = Region.ready .any ops listed)) && Nat.ble 1 n && okB ops r false (n - 1) (listed.setIfInBounds i true) && okB ops s true n listed
  | .no, c, _, _ => c
def okR (ops : Array Oper) (l : OT) : Bool := okB ops l false ops.size (Array.replicate ops.size false)
structure Dr (TB : TypeId → TI) (call : FuncId → List AV → List Obj → (AV → List Obj → Prop) → Prop) (ops : Array Oper) (t : Fr) (o : List Obj) (K : Fr → List Obj → Prop) : Prop where
  ex : ∃ l, okR ops l = true ∧ drP TB call ops l [] t o K
section
variable {P : Program} {TB : TypeId → TI} {ρ : Nat → Option Nat} {o : List Obj} {R : Nat → Prop} {w : World} {t : Fr} {a : Act} {Gl : List (Nat × Go.Obj)} {call : FuncId → List AV → List Obj → (AV → List Obj → Prop) → Prop} {n : Nat} {ops : Array Oper}

def CallMono (call : FuncId → List AV → List Obj → (AV → List Obj → Prop) → Prop) : Prop := ∀ f vs o (K K' : AV → List Obj → Prop), (∀ r o', K r o' → K' r o') → call f vs o K → call f vs o K'
theorem ef_mono (hM : CallMono call) {op : Op} {K K' : AV → List Obj → Prop} (hk : ∀ v o', K v o' → K' v o') (h : efP TB call op t o K) : efP TB call op t o K' := by
  cases op with
  | box ty x =>
    simp only [efP] at h ⊢
    obtain ⟨hb, h⟩ := of_cond_true h
    rw [hb]; exact hk _ _ h
  | alloc ty =>
    simp only [efP] at h ⊢
    split at h
    · exact h
    · exact hk _ _ h
  | store ty x y =>
    simp only [efP] at h ⊢
    split at h
    · split at h
      · obtain ⟨hb, h⟩ := of_cond_true h
        rw [hb]; exact hk _ _ h
      · exact h
    · split at h
      · split at h
        · obtain ⟨h0, h⟩ := h
          obtain ⟨hb, h⟩ := of_cond_true h
          rw [hb]; exact ⟨h0, hk _ _ h⟩
        · exact h
      · exact h
    · exact h
  | buildSlice ty m ps =>
    simp only [efP] at h ⊢
    split at h
    · cases hb : Nat.beq m 0 with
      | true =>
        rw [hb] at h
        simp only [cond_true] at h ⊢
        obtain ⟨hb, h⟩ := of_cond_true h
        rw [hb]; exact hk _ _ h
      | false =>
        rw [hb] at h
        simp only [cond_false] at h ⊢
        obtain ⟨hb, h⟩ := of_cond_true h
        rw [hb]
        simp only [cond_true]
        split at h
        · exact ⟨h.1, hk _ _ h.2⟩
        · exact h
    · exact h
  | makeSlice ty x y =>
    simp only [efP] at h ⊢
    split at h
    · exact ⟨h.1, hk _ _ h.2⟩
    · exact h
  | call c =>
    obtain ⟨callee, args, ats⟩ := c
    cases callee with
    | builtin b =>
      cases b with
      | append =>
        simp only [efP] at h ⊢
        split at h
        · split at h
          · split at h
            · obtain ⟨hb, h⟩ := of_cond_true h
              rw [hb]
              simp only [cond_true]
              split at h
              · exact ⟨h.1, hk _ _ h.2⟩
              · split at h
                · obtain ⟨hb, h⟩ := of_cond_true h
                  rw [hb]
                  exact ⟨h.1, hk _ _ h.2⟩
                · exact h
              · exact h
            · exact h
          · exact h
        · exact h
      | _ => exact h
    | value x =>
      cases x with
      | func f =>
        simp only [efP, forceL_eq] at h ⊢
        exact hM _ _ _ _ _ hk h
      | tmp x =>
        simp only [efP] at h ⊢
        split at h
        · obtain ⟨hb, h⟩ := of_cond_true h
          rw [forceL_eq] at h
          rw [hb]
          simp only [cond_true, forceL_eq]
          exact hM _ _ _ _ _ hk h
        · exact h
      | _ => exact h
    | _ => exact h
  | _ => exact h
theorem rd_mono {op : Op} {K K' : AV → Prop} (hk : ∀ v, K v → K' v) (h : rdP TB op t o K) : rdP TB op t o K' := by
  obtain ⟨v, h1, h2⟩ := rd_det h
  exact h2 K' (hk v h1)
theorem run_mono (hM : CallMono call) {op : Op} {K K' : AV → List Obj → Prop} (hk : ∀ v o', K v o' → K' v o') (h : runP TB call op t o K) : runP TB call op t o K' := by
  unfold runP at h ⊢
  split at h
  · exact rd_mono (fun v hv => hk v o hv) h
  · exact ef_mono hM hk h
theorem run_ev {t' : Fr} {op : Op} (h : agree t t' op.operands.toList) (K : AV → List Obj → Prop) : runP TB call op t' o K = runP TB call op t o K := by
  unfold runP
  rw [rd_ev h, ef_ev h]
/-- The slots that an operation looks at are alike. -/
def looks (ops : Array Oper) (x : Oper) (t t' : Fr) : Prop := ∀ d, d ∈ x.looksAt ops → t' d = t d
theorem looks.agree {x : Oper} {t' : Fr} (h : looks ops x t t') : Vc.agree t t' x.op.operands.toList := by
  intro y hy
  cases y with
  | tmp d => exact h d (List.mem_append_left _ (List.mem_filterMap.2 ⟨.tmp d, hy, rfl⟩))
  | _ => rfl
theorem looks.guard {x : Oper} {t' : Fr} (h : looks ops x t t') {j : Nat} {b : Bool} (hg : x.guard = some (j, b)) : (((ops[j]?).bind (·.dst)).map t').getD .undef = (((ops[j]?).bind (·.dst)).map t).getD AV.undef := by
  cases hd : (ops[j]?).bind (·.dst) with
  | none => rfl
  | some d =>
    have := h d (List.mem_append_right _ (by simp [hg, hd]))
    simp [this]
theorem op_swap (hM : CallMono call) {x : Oper} {t1 t2 : Fr} {K K2 : Fr → List Obj → Prop} (h : opP TB call ops x t1 o K) (hl : looks ops x t1 t2) (hk : ∀ v o', K (putF t1 x.dst v) o' → K2 (putF t2 x.dst v) o') : opP TB call ops x t2 o K2 := by
  rw [opP_eq] at h ⊢
  have go : runP TB call x.op t1 o (fun v o' => K (putF t1 x.dst v) o') → runP TB call x.op t2 o fun v o' => K2 (putF t2 x.dst v) o' := by
    intro h
    rw [run_ev hl.agree]
    exact run_mono hM (fun v o' hv => hk v o' hv) h
  split at h
  · exact go h
  · rename_i j want hg
    rw [hl.guard hg]
    split at h
    · refine h.mono ?_ ?_ <;> cases want <;> first | exact go | exact hk _ _
    · exact hk _ _ h
    · exact h
theorem op_mono (hM : CallMono call) {x : Oper} {K K2 : Fr → List Obj → Prop} (h : opP TB call ops x t o K) (hk : ∀ t' o', K t' o' → K2 t' o') : opP TB call ops x t o K2 := op_swap hM h (fun _ _ => rfl) fun _v o' => hk _ o'
/-- A reading operation yields v here, and wherever what it looks at is the same. -/
def Yst (TB : TypeId → TI) (call : FuncId → List AV → List Obj → (AV → List Obj → Prop) → Prop) (ops : Array Oper) (x : Oper) (v : AV) (g : List Nat) (t : Fr) (o : List Obj) : Prop :=
  ∀ t' o', looks ops x t t' → keep g o o' → ∀ K : Fr → List Obj → Prop, K (putF t' x.dst v) o' → opP TB call ops x t' o' K
theorem Yst.go {x : Oper} {v : AV} {g : List Nat} (h : Yst TB call ops x v g t o) {t' : Fr} {o' : List Obj} (hl : looks ops x t t') (hk : keep g o o') : Yst TB call ops x v g t' o' :=
  fun t2 o2 h1 h2 K hK => h t2 o2 (fun d hd => (h1 d hd).trans (hl d hd)) (fun i hi => (h2 i hi).trans (hk i hi)) K hK
theorem op_det {x : Oper} (hr : isRd x.op = true) {K : Fr → List Obj → Prop} (h : opP TB call ops x t o K) : ∃ v, K (putF t x.dst v) o ∧ Yst TB call ops x v (opIds x.op t) t o := by
  rw [opP_eq] at h
  have go : runP TB call x.op t o (fun v o' => K (putF t x.dst v) o') → ∃ v, K (putF t x.dst v) o ∧ ∀ t' o', looks ops x t t' → keep (opIds x.op t) o o' → ∀ K : Fr → List Obj → Prop, K (putF t' x.dst v) o' → runP TB call x.op t' o' fun v o'' => K (putF t' x.dst v) o'' := by
    intro h
    unfold runP at h
    rw [hr] at h
    obtain ⟨v, h1, h2⟩ := rd_det h
    refine ⟨v, h1, fun t' o' hl hk K hK => ?_⟩
    unfold runP
    rw [hr]
    simp only
    rw [rd_ev hl.agree, rd_keep hk]
    exact h2 _ hK
  split at h
  · rename_i hg
    obtain ⟨v, h1, h2⟩ := go h
    refine ⟨v, h1, fun t' o' hl hk K hK => ?_⟩
    rw [opP_eq]
    simp only [hg]
    exact h2 t' o' hl hk K hK
  · rename_i j want hg
    split at h
    · rename_i b hb
      have wantd : b = want → ∃ v, K (putF t x.dst v) o ∧ Yst TB call ops x v (opIds x.op t) t o := by
        intro hbw
        obtain ⟨v, h1, h2⟩ := go (by subst hbw; cases b <;> first | exact h.t rfl | exact h.f rfl)
        refine ⟨v, h1, fun t' o' hl hk K hK => ?_⟩
        rw [opP_eq]
        simp only [hg]
        rw [hl.guard hg, hb]
        subst hbw
        cases b <;> first | exact ⟨fun _ => h2 t' o' hl hk K hK, fun q => (by cases q)⟩ | exact ⟨fun q => (by cases q), fun _ => h2 t' o' hl hk K hK⟩
      have unwantd : b ≠ want → ∃ v, K (putF t x.dst v) o ∧ Yst TB call ops x v (opIds x.op t) t o := by
        intro hbw
        refine ⟨.tup [], ?_, fun t' o' hl hk K hK => ?_⟩
        · cases b <;> cases want <;> first | exact absurd rfl hbw | exact h.t rfl | exact h.f rfl
        · rw [opP_eq]
          simp only [hg]
          rw [hl.guard hg, hb]
          cases b <;> cases want <;> first | exact absurd rfl hbw | exact ⟨fun _ => hK, fun q => (by cases q)⟩ | exact ⟨fun q => (by cases q), fun _ => hK⟩
      by_cases hbw : b = want
      · exact wantd hbw
      · exact unwantd hbw
    · rename_i hb
      refine ⟨.tup [], h, fun t' o' hl hk K hK => ?_⟩
      rw [opP_eq]
      simp only [hg]
      rw [hl.guard hg, hb]
      exact hK
    · exact h.elim
theorem putF_comm {d e : Option Tmp} {v u : AV} (h : ∀ x, d = some x → e ≠ some x) : putF (putF t d v) e u = putF (putF t e u) d v := by
  cases d with
  | none => rfl
  | some d => cases e with
    | none => rfl
    | some e =>
      have hne : d ≠ e := fun q => h d rfl (by rw [q])
      funext x
      simp only [putF, upd]
      cases h1 : Nat.beq x d <;> cases h2 : Nat.beq x e <;> simp
      exact absurd ((Nat.eq_of_beq_eq_true h1).symm.trans (Nat.eq_of_beq_eq_true h2)) hne
theorem putF_looks {x : Oper} {d : Option Tmp} {v : AV} (h : ∀ e, d = some e → e ∉ x.looksAt ops) : looks ops x t (putF t d v) := by
  intro y hy
  cases d with
  | none => rfl
  | some d =>
    simp only [putF, upd]
    cases h1 : Nat.beq y d with
    | false => rfl
    | true => exact absurd (Nat.eq_of_beq_eq_true h1 ▸ hy) (h d rfl)
theorem looks.symm {x : Oper} {t' : Fr} (h : looks ops x t t') : looks ops x t' t := fun d hd => (h d hd).symm

/-- All orders. -/
def anyP (TB : TypeId → TI) (call : FuncId → List AV → List Obj → (AV → List Obj → Prop) → Prop) (ops : Array Oper) (fl : List (Nat × Nat)) : Nat → Array Bool → Fr → List Obj → (Fr → List Obj → Prop) → Prop
  | 0, listed, t, o, K => Region.ready .any ops listed = [] ∧ K t o
  | f + 1, listed, t, o, K => (Region.ready .any ops listed = [] → K t o) ∧ ∀ i ∈ Region.ready .any ops listed, ∀ x, ops[i]? = some x →
      opP TB call ops x t o fun t' o' => keepX x fl o o' ∧ anyP TB call ops fl f (listed.setIfInBounds i true) t' o' K
theorem anyP_less (hM : CallMono call) {fl gl : List (Nat × Nat)} (hs : ∀ i, i ∈ fl → i ∈ gl) {K : Fr → List Obj → Prop} : ∀ {f : Nat} {listed : Array Bool} {t : Fr} {o : List Obj}, anyP TB call ops gl f listed t o K → anyP TB call ops fl f listed t o K
  | 0, _, _, _, h => h
  | _f + 1, _, _, _, h => ⟨h.1, fun i hi x hx => op_mono hM (h.2 i hi x hx) fun _t' _o' hk => ⟨hk.1.mono hs, anyP_less hM hs hk.2⟩⟩
theorem anyP_first (hM : CallMono call) {i : Nat} {oi : Oper} {v : AV} {fl gl : List (Nat × Nat)} {g : List Nat} (hi : ops[i]? = some oi) (hs : ∀ i, i ∈ fl → i ∈ gl) (hg : ∀ k, k ∈ g → (i, k) ∈ gl) {K : Fr → List Obj → Prop} : ∀ (f : Nat) (listed : Array Bool) (t : Fr) (o : List Obj),
    (∀ j oj, ops[j]? = some oj → j ≠ i → listed.getD j true = false → (∀ e ∈ oj.after, Region.binds .any e = true → e.on ≠ i) → oi.apart ops oj = true) →
    i ∈ Region.ready .any ops listed → Yst TB call ops oi v g t o → anyP TB call ops gl f (listed.setIfInBounds i true) (putF t oi.dst v) o K → anyP TB call ops fl (f + 1) listed t o K := by
  intro f
  induction f with
  | zero =>
    intro listed t o _ hr hy H
    refine ⟨fun h => (by rw [h] at hr; cases hr), fun j hj x hx => ?_⟩
    by_cases hji : j = i
    · subst hji
      have : x = oi := Option.some.inj (hx.symm.trans hi)
      subst this
      exact hy t o (fun _ _ => rfl) (keep.refl _ _) _ ⟨keepX.refl _ _ _, anyP_less hM hs H⟩
    · have := ready_mono hj hji
      rw [H.1] at this
      cases this
  | succ f ih =>
    intro listed t o hfree hr hy H
    refine ⟨fun h => (by rw [h] at hr; cases hr), fun j hj x hx => ?_⟩
    by_cases hji : j = i
    · subst hji
      have : x = oi := Option.some.inj (hx.symm.trans hi)
      subst this
      exact hy t o (fun _ _ => rfl) (keep.refl _ _) _ ⟨keepX.refl _ _ _, anyP_less hM hs H⟩
    · obtain ⟨hjun, oj, hoj, hall⟩ := mem_ready.1 hj
      have hxo : x = oj := Option.some.inj (hx.symm.trans hoj)
      subst hxo
      have hnot : ∀ e ∈ x.after, Region.binds .any e = true → e.on ≠ i := fun e he hb heq => by
        have h1 := hall e he hb
        have h0 := (mem_ready.1 hr).1
        rw [heq] at h1
        rcases Nat.lt_or_ge i listed.size with h' | h'
        · simp [h'] at h0 h1; rw [h0] at h1; cases h1
        · simp [Array.getElem?_eq_none h'] at h1
      have haft : aft x i = false := by
        unfold aft
        rw [List.any_eq_false]
        intro q hq hh
        rw [Bool.and_eq_true] at hh
        exact hnot q (by simpa using hq) hh.1 (Nat.eq_of_beq_eq_true hh.2)
      obtain ⟨a1, a2, a3⟩ := Oper.apart_spec (hfree j x hoj hji hjun hnot)
      have hfree' : ∀ k ok, ops[k]? = some ok → k ≠ i → (listed.setIfInBounds j true).getD k true = false →
          (∀ e ∈ ok.after, Region.binds .any e = true → e.on ≠ i) → oi.apart ops ok = true := fun k ok hk hki hun hno => by
        refine hfree k ok hk hki ?_ hno
        by_cases hjk : j = k
        · subst hjk; exact hjun
        · rw [getD_set_ne true hjk] at hun; exact hun
      refine op_swap hM (H.2 j (ready_mono hj hji) x hx) (putF_looks a1).symm fun u o' hk => ?_
      refine ⟨hk.1.mono hs, ih (listed.setIfInBounds j true) (putF t x.dst u) o' hfree' (ready_mono hr (Ne.symm hji)) (hy.go (putF_looks a3) fun k hgk => hk.1 i k (hg k hgk) haft) ?_⟩
      have h3 := hk.2
      rw [Array.setIfInBounds_comm _ _ (Ne.symm hji), putF_comm a2] at h3
      exact h3
theorem drP_ef {K : Fr → List Obj → Prop} {i : Nat} {r s : OT} {fl : List (Nat × Nat)} {t : Fr} {o : List Obj} (h : drP TB call ops (.ef i r s) fl t o K) :
    (∃ x, ops[i]? = some x ∧ opP TB call ops x t o fun t' o' => keepP x fl o o' (drP TB call ops r fl t' o' K)) ∧ drP TB call ops s fl t o K := by
  cases s <;> simp only [drP] at h <;> split at h <;> first | exact h.elim | skip
  all_goals rename_i x hx
  · exact ⟨⟨x, hx, h.l⟩, h.r⟩
  · exact ⟨⟨x, hx, h.l⟩, h.r⟩
  · exact ⟨⟨x, hx, h.l⟩, h.r⟩
  · exact ⟨⟨x, hx, h⟩, trivial⟩
theorem dr_any2 (hM : CallMono call) {K : Fr → List Obj → Prop} : ∀ (l : OT) (n : Nat) (fl : List (Nat × Nat)) (listed : Array Bool) (t : Fr) (o : List Obj), drP TB call ops l fl t o K →
    (okB ops l false n listed = true → anyP TB call ops fl n listed t o K) ∧ (okB ops l true (n + 1) listed = true → ∀ j, j ∈ heads l → ∀ y, ops[j]? = some y →
      opP TB call ops y t o fun t' o' => keepX y fl o o' ∧ anyP TB call ops fl n (listed.setIfInBounds j true) t' o' K)
  | .dn, n, fl, listed, t, o, h => by
    refine ⟨fun hB => ?_, fun hB => by simp [okB] at hB⟩
    simp only [okB, Bool.not_false, Bool.true_and, Bool.and_eq_true] at hB
    obtain rfl := Nat.eq_of_beq_eq_true hB.1
    exact ⟨by simpa using hB.2, h⟩
  | .no, n, fl, listed, t, o, h => ⟨fun hB => by simp [okB] at hB, fun _ j hj => by simp [heads] at hj⟩
  | .rd i r, n, fl, listed, t, o, h => by
    refine ⟨fun hB => ?_, fun hB => by simp [okB] at hB⟩
    simp only [okB, Bool.not_false, Bool.true_and, Bool.and_eq_true] at hB
    obtain ⟨⟨hn, h1⟩, h2⟩ := hB
    obtain ⟨n, rfl⟩ : ∃ m, n = m + 1 := ⟨n - 1, by have := Nat.le_of_ble_eq_true hn; omega⟩
    simp only [drP] at h
    split at h
    · exact h.elim
    · rename_i x hx
      simp only [hx] at h1
      split at h
      · rename_i hr
        simp only [hr, Bool.and_eq_true, true_and] at h1
        obtain ⟨v, g1, g2⟩ := op_det hr h
        obtain ⟨s, g3, g4, g5⟩ := addQ_spec g1
        exact anyP_first hM hx g5 g4 n listed t o (Region.free_spec hx h1.2) (by simpa using h1.1) g2 ((dr_any2 hM r n _ _ _ _ g3).1 h2)
      · exact h.elim
  | .ef i r s, n, fl, listed, t, o, h => by
    have key : ∀ n, okB ops r false n (listed.setIfInBounds i true) = true → okB ops s true (n + 1) listed = true → ∀ j, j ∈ heads (.ef i r s) → ∀ y, ops[j]? = some y →
        opP TB call ops y t o fun t' o' => keepX y fl o o' ∧ anyP TB call ops fl n (listed.setIfInBounds j true) t' o' K := by
      intro n hr hs j hj y hy
      obtain ⟨⟨x, hx, g1⟩, g2⟩ := drP_ef h
      rcases List.mem_cons.1 hj with rfl | hj
      · have : y = x := Option.some.inj (hy.symm.trans hx)
        subst this
        exact op_mono hM g1 fun t' o' hk => ⟨(keepP_spec hk).1, (dr_any2 hM r n fl _ t' o' (keepP_spec hk).2).1 hr⟩
      · exact (dr_any2 hM s n fl listed t o g2).2 hs j hj y hy
    refine ⟨fun hB => ?_, fun hB => ?_⟩
    · simp only [okB, Bool.false_or, Bool.and_eq_true, decide_eq_true_eq] at hB
      obtain ⟨⟨⟨h1, hn⟩, h2⟩, h3⟩ := hB
      obtain ⟨n, rfl⟩ : ∃ m, n = m + 1 := ⟨n - 1, by have := Nat.le_of_ble_eq_true hn; omega⟩
      refine ⟨fun h0 => (by rw [← h1] at h0; cases h0), fun j hj y hy => ?_⟩
      rw [← h1] at hj
      exact key n h2 h3 j hj y hy
    · simp only [okB, Bool.true_or, Bool.true_and, Bool.and_eq_true] at hB
      exact key n hB.1.2 hB.2
theorem dr_any (hM : CallMono call) {K : Fr → List Obj → Prop} (l : OT) (n : Nat) (fl : List (Nat × Nat)) (listed : Array Bool) (t : Fr) (o : List Obj) (hB : okB ops l false n listed = true) (h : drP TB call ops l fl t o K) : anyP TB call ops fl n listed t o K :=
  (dr_any2 hM l n fl listed t o h).1 hB
theorem any_sound (hT : TOk P TB) (hC : CallOk P Gl call) (hd : ∀ x ∈ ops, ∀ d, x.dst = some d → d < n) {Q : Exit → Act → World → Prop} {fl : List (Nat × Nat)} {K : Fr → List Obj → Prop} : ∀ (f : Nat) (listed : Array Bool) (t : Fr) (o : List Obj) (ρ : Nat → Option Nat) (R : Nat → Prop) (w : World) (a : Act),
    SR Gl ρ o R w t a n → anyP TB call ops fl f listed t o K → (∀ t' o' ρ' R' w' a', K t' o' → SR Gl ρ' o' R' w' t' a' n → EX o ρ R w o' ρ' R' w' → Q .normal a' w') → wpAny P .any ops Q f listed a w
  | 0, listed, t, o, ρ, R, w, a, hs, h, hn => ⟨h.1, hn t o ρ R w a h.2 hs (EX.refl _ _ _ _)⟩
  | f + 1, listed, t, o, ρ, R, w, a, hs, h, hn => by
    refine ⟨fun h0 => hn t o ρ R w a (h.1 h0) hs (EX.refl _ _ _ _), fun i hi => ?_⟩
    obtain ⟨_, x, hx, _⟩ := mem_ready.1 hi
    unfold wpOp
    simp only [hx]
    exact op_sound hT hC hs (hd x (Array.mem_of_getElem? hx)) (h.2 i hi x hx) fun t' o' ρ' R' w' a' hK hs' hx' => any_sound hT hC hd f _ t' o' ρ' R' w' a' hs' hK.2 fun t2 o2 ρ2 R2 w2 a2 hK2 hs2 hx2 => hn t2 o2 ρ2 R2 w2 a2 hK2 hs2 (hx'.trans hx2)
theorem EX.drawn (k : Nat) : EX o ρ R w o ρ R { w with drawn := k } where
  len := Nat.le_refl _
  keep := (EX.refl o ρ R w).keep
  rmono _ h := h
  rnew _ h := .inl h
  pnew id _b h := .inr ⟨id, h⟩
  size := Nat.le_refl _
  same _ _ _ := rfl
  shape _ xs _ h := ⟨xs, h, rfl⟩
  os := rfl
  tape := rfl
  output := rfl
theorem SR.drawn (hs : SR Gl ρ o R w t a n) (k : Nat) : SR Gl ρ o R { w with drawn := k } t a n :=
  ⟨⟨hs.hh.dom, hs.hh.lt, hs.hh.inj, hs.hh.ro, fun j ob h => (hs.hh.obj j ob h).go (EX.drawn k) hs.hh.ro rfl fun _ _ => rfl, hs.hh.gl⟩, hs.hf.go (EX.drawn k) hs.hh, hs.sz, hs.df⟩
/-- A REGION WHOSE ORDER IS DRAWN. -/
theorem dr_sound (hT : TOk P TB) (hC : CallOk P Gl call) (hm : P.follows .mixedOrders = true) (hd : ∀ x ∈ ops, ∀ d, x.dst = some d → d < n) {Q : Exit → Act → World → Prop} {K : Fr → List Obj → Prop} (hs : SR Gl ρ o R w t a n) (h : Dr TB call ops t o K)
    (hn : ∀ t' o' ρ' R' w' a', K t' o' → SR Gl ρ' o' R' w' t' a' n → EX o ρ R w o' ρ' R' w' → Q .normal a' w') (id : Nat) : (Code.region id ops true).wp P Q a w := by
  obtain ⟨l, h1, h2⟩ := h.ex
  refine wp_region_any hm ?_
  have := dr_any hC.mono l _ [] _ t o h1 h2
  exact any_sound hT hC hd _ _ t o ρ R _ a (hs.drawn _) this fun t' o' ρ' R' w' a' hK hs' hx => hn t' o' ρ' R' w' a' hK hs' ((EX.drawn _).trans hx)
end
end Go.Proofs.YtbbgojaloebknaaDoor.Vc
