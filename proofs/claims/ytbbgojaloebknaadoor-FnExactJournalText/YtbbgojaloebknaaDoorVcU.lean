/- Part U of the engine: calls by contracts; a contract out of a body. -/
import Derived.Test.YtbbgojaloebknaaDoorVcT
namespace Go.Proofs.YtbbgojaloebknaaDoor.Vc
section
variable {P : Program} {TB : TypeId → TI} {ρ : Nat → Option Nat} {o : List Obj} {R R' : Nat → Prop} {w w' : World} {Gl : List (Nat × Go.Obj)} {call : FuncId → List AV → List Obj → (AV → List Obj → Prop) → Prop} {n m : Nat}
theorem PV.vr {v : AV} {x : Value} (h : PV R w v x) : VR ρ R w v x := by
  induction h with
  | data h => exact .data h
  | undef x => exact .undef x
  | agg l xs h1 _ ih => exact .agg l xs h1 ih
  | tup l xs h1 _ ih => exact .tup l xs h1 ih
  | fn f l m xs ys h1 _ h3 _ ih1 ih2 => exact .fn f l m xs ys h1 ih1 h3 ih2
theorem getD_of_mem {v : AV} {l : List AV} (h : v ∈ l) : ∃ j, j < l.length ∧ l.getD j .undef = v := by
  obtain ⟨j, hj, rfl⟩ := List.mem_iff_getElem.1 h
  exact ⟨j, hj, by rw [List.getD_eq_getElem?_getD, List.getElem?_eq_getElem hj]; rfl⟩
theorem PV.live {v : AV} {x : Value} (h : PV R w v x) (o : List Obj) : Vc.live o v = true := by
  induction h with
  | data h => exact DR_live h
  | undef x => rfl
  | agg l xs h1 _ ih =>
    simp only [Vc.live, liveL_iff]
    intro v hv
    obtain ⟨j, hj, rfl⟩ := getD_of_mem hv
    exact ih j hj
  | tup l xs h1 _ ih =>
    simp only [Vc.live, liveL_iff]
    intro v hv
    obtain ⟨j, hj, rfl⟩ := getD_of_mem hv
    exact ih j hj
  | fn f l m xs ys h1 _ h3 _ ih1 ih2 =>
    simp only [Vc.live, Bool.and_eq_true, liveL_iff]
    refine ⟨fun v hv => ?_, fun v hv => ?_⟩
    · obtain ⟨j, hj, rfl⟩ := getD_of_mem hv
      exact ih1 j hj
    · obtain ⟨j, hj, rfl⟩ := getD_of_mem hv
      exact ih2 j hj
theorem PV.tr {v : AV} {x : Value} (h : PV R w v x) : TR ρ o R w v x := .of (h.live o) h.vr
theorem PV.go {v : AV} {x : Value} (hR : ∀ b, R b → R' b) (hw : ∀ b, R b → w'.heap[b]? = w.heap[b]?) (h : PV R w v x) : PV R' w' v x := by
  induction h with
  | data h => exact .data (h.go hR hw)
  | undef x => exact .undef x
  | agg l xs h1 _ ih => exact .agg l xs h1 ih
  | tup l xs h1 _ ih => exact .tup l xs h1 ih
  | fn f l m xs ys h1 _ h3 _ ih1 ih2 => exact .fn f l m xs ys h1 ih1 h3 ih2
theorem PV.scal {v : AV} {x : Value} (h : PV R w v x) : scalV v = true → PV R' w' v x := by
  induction h with
  | data h =>
    intro hs
    cases h with
    | sl0 => cases hs
    | sl => cases hs
    | ro => cases hs
    | undef _ _ => exact .undef _
    | int => exact .data (.int _ _)
    | bool => exact .data (.bool _)
    | str => exact .data (.str _)
    | nils => exact .data (.nils _)
    | nilp => exact .data .nilp
    | nilf => exact .data .nilf
    | nili => exact .data .nili
  | undef x => exact fun _ => .undef x
  | agg l xs h1 _ ih =>
    intro hs
    exact .agg l xs h1 fun j hj => ih j hj (scalL_iff.1 (by simpa only [scalV] using hs) _ (getD_mem hj))
  | tup l xs h1 _ ih =>
    intro hs
    exact .tup l xs h1 fun j hj => ih j hj (scalL_iff.1 (by simpa only [scalV] using hs) _ (getD_mem hj))
  | fn f l m xs ys h1 _ h3 _ ih1 ih2 =>
    intro hs
    simp only [scalV, Bool.and_eq_true] at hs
    exact .fn f l m xs ys h1 (fun j hj => ih1 j hj (scalL_iff.1 hs.1 _ (getD_mem hj))) h3 fun j hj => ih2 j hj (scalL_iff.1 hs.2 _ (getD_mem hj))

def ArgsV (R : Nat → Prop) (w : World) (us : List AV) (xs : Array Value) : Prop := xs.size = us.length ∧ ∀ j, j < us.length → PV R w (us.getD j .undef) (xs.getD j Go.undef)
/-- What a call of ours leaves: all that was there stands. -/
structure After (Gl : List (Nat × Go.Obj)) (R : Nat → Prop) (w : World) (R' : Nat → Prop) (w' : World) : Prop where
  lt : ∀ b, R' b → b < w'.heap.size
  rmono : ∀ b, R b → R' b
  rnew : ∀ b, R' b → R b ∨ w.heap.size ≤ b
  size : w.heap.size ≤ w'.heap.size
  same : ∀ b, b < w.heap.size → w'.heap[b]? = w.heap[b]?
  os : w'.os = w.os
  tape : w'.tape = w.tape
  output : w'.output = w.output
/-- A world in which nothing is ours. -/
structure Lone (Gl : List (Nat × Go.Obj)) (R : Nat → Prop) (w : World) : Prop where
  lt : ∀ b, R b → b < w.heap.size
  gl : ∀ p, p ∈ Gl → R p.1 ∧ w.heap[p.1]? = some p.2
theorem Lone.hr (h : Lone Gl R w) : HR Gl [] nor R w := ⟨fun _ _ h => (by cases h), fun _ _ h => (by cases h), fun _ _ _ h => (by cases h), fun b hb => ⟨h.lt b hb, fun _ h => (by cases h)⟩, fun id ob h => (by simp at h), h.gl⟩
/-- A contract: what it takes as data, and what it hands back. -/
structure Fits (P : Program) (Gl : List (Nat × Go.Obj)) (f : FuncId) (C : List AV → (AV → Prop) → Prop) : Prop where
  has : HasBody P f
  mono : ∀ us (K K' : AV → Prop), (∀ r, K r → K' r) → C us K → C us K'
  ok : ∀ us K, C us K → ∀ R w xs, Lone Gl R w → ArgsV R w us xs → Calls P f xs w fun e w' => ∃ r x R', e = .returned x ∧ K r ∧ PV R' w' r x ∧ After Gl R w R' w'
abbrev Env := List (FuncId × (List AV → (AV → Prop) → Prop))
def callE : Env → FuncId → List AV → List Obj → (AV → List Obj → Prop) → Prop
  | [], _, _, _, _ => False
  | (g, C) :: r, f, vs, o, K => cond (Nat.beq f g) (match viewL o vs with
    | some (us, lent, p) => Chk p ∧ C us fun u => cond (!lent || scalV u) (K u o) False
    | none => False) (callE r f vs o K)
theorem After.ex (hh : HR Gl o ρ R w) {R0 R1 : Nat → Prop} (h : After Gl R0 w R1 w') {R2 : Nat → Prop} (h1 : ∀ b, R b → R2 b) (h2 : ∀ b, R2 b → b < w'.heap.size ∧ (R b ∨ w.heap.size ≤ b)) : EX o ρ R w o ρ R2 w' ∧ HR Gl o ρ R2 w' := by
  have hx : EX o ρ R w o ρ R2 w' := by
    refine ⟨Nat.le_refl _, (EX.refl o ρ R w).keep, h1, fun b hb => ?_, fun id b hb => .inr ⟨id, hb⟩, h.size, fun b hb _ => h.same b hb, fun b xs ty hb => ⟨xs, ?_, rfl⟩, h.os, h.tape, h.output⟩
    · rcases (h2 b hb).2 with q | q
      · exact .inl q
      · exact .inr (.inl q)
    · rw [h.same b (by exact (Array.getElem?_eq_some_iff.1 hb).1)]
      exact hb
  refine ⟨hx, hh.dom, fun id b hb => Nat.lt_of_lt_of_le (hh.lt id b hb) h.size, hh.inj, fun b hb => ⟨(h2 b hb).1, fun id hid => ?_⟩, fun j ob ho => (hh.obj j ob ho).go hx hh.ro rfl fun b hb => h.same b (hh.lt j b hb), fun p hp => ⟨h1 _ (hh.gl p hp).1, ?_⟩⟩
  · rcases (h2 b hb).2 with q | q
    · exact (hh.ro b q).2 id hid
    · have := hh.lt id b hid; omega
  · rw [h.same _ (hh.ro _ (hh.gl p hp).1).1]
    exact (hh.gl p hp).2
theorem callE_ok {E : Env} (hE : ∀ p, p ∈ E → Fits P Gl p.1 p.2) : CallOk P Gl (callE E) := by
  induction E with
  | nil => exact ⟨fun _ _ _ _ h => h.elim, fun _ _ _ _ h => h.elim, fun _ _ _ _ _ _ h => h.elim⟩
  | cons q r ih =>
    obtain ⟨g, C⟩ := q
    have ih := ih fun p hp => hE p (List.mem_cons_of_mem _ hp)
    have hF := hE (g, C) List.mem_cons_self
    refine ⟨fun f vs o K h => ?_, fun f vs o K h ρ R w xs hh ha => ?_, fun f vs o K K' hk h => ?_⟩
    · unfold callE at h
      cases e : Nat.beq f g with
      | true => rw [Nat.eq_of_beq_eq_true e]; exact hF.has
      | false => rw [e] at h; exact ih.has _ _ _ _ h
    · unfold callE at h
      cases e : Nat.beq f g with
      | false => rw [e] at h; exact ih.ok _ _ _ _ h ρ R w xs hh ha
      | true =>
        rw [e] at h
        obtain rfl := Nat.eq_of_beq_eq_true e
        simp only [cond_true] at h
        split at h
        · rename_i us lent p ev
          obtain ⟨⟨hp⟩, hC⟩ := h
          obtain ⟨g1, g2, _⟩ := viewL_VR hh vs us lent p ev hp
          cases lent with
          | false =>
            refine (hF.ok us _ hC R w xs ⟨fun b hb => (hh.ro b hb).1, hh.gl⟩ ⟨ha.1.trans g1.symm, fun j hj => (g2 j (g1 ▸ hj) _ (ha.2 j (g1 ▸ hj))).2 rfl⟩).mono fun e w' he => ?_
            obtain ⟨r, x, R1, rfl, hK, hv, hA⟩ := he
            obtain ⟨k1, k2⟩ := hA.ex hh hA.rmono fun b hb => ⟨hA.lt b hb, hA.rnew b hb⟩
            exact ⟨r, x, o, ρ, R1, rfl, by simpa using hK, k2, hv.tr, k1⟩
          | true =>
            refine (hF.ok us _ hC (Rall R ρ) w xs ⟨fun b hb => ?_, fun p hp => ⟨.inl (hh.gl p hp).1, (hh.gl p hp).2⟩⟩ ⟨ha.1.trans g1.symm, fun j hj => (g2 j (g1 ▸ hj) _ (ha.2 j (g1 ▸ hj))).1⟩).mono fun e w' he => ?_
            · rcases hb with hb | ⟨id, hb⟩
              · exact (hh.ro b hb).1
              · exact hh.lt id b hb
            · obtain ⟨r, x, R1, rfl, hK, hv, hA⟩ := he
              simp only [Bool.not_true, Bool.false_or] at hK
              obtain ⟨hs, hK⟩ := of_cond_true hK
              obtain ⟨k1, k2⟩ := hA.ex hh (R2 := R) (fun _ hb => hb) fun b hb => ⟨Nat.lt_of_lt_of_le (hh.ro b hb).1 hA.size, .inl hb⟩
              exact ⟨r, x, o, ρ, R, rfl, hK, k2, (hv.scal hs).tr, k1⟩
        · exact h.elim
    · unfold callE at h ⊢
      cases e : Nat.beq f g with
      | false => rw [e] at h; exact ih.mono _ _ _ _ _ hk h
      | true =>
        rw [e] at h
        simp only [cond_true] at h ⊢
        split at h
        · refine ⟨h.1, hF.mono _ _ _ (fun r hr => ?_) h.2⟩
          obtain ⟨h1, h2⟩ := of_cond_true hr
          rw [h1]
          exact hk _ _ h2
        · exact h
/-- What a body hands back, as data. -/
def out (K : AV → Prop) : AV → List Obj → Prop := fun r o => match viewV o r with
  | some (u, _, p) => Chk p ∧ K u
  | none => False
theorem fits_of_body (hT : TOk P TB) (hC : CallOk P Gl call) (hm : P.follows .mixedOrders = true) {f : FuncId} {fn : Func} (hf : FnOk P f fn) {C : List AV → (AV → Prop) → Prop} (hM : ∀ us (K K' : AV → Prop), (∀ r, K r → K' r) → C us K → C us K')
    (hb : ∀ us K, C us K → us.length ≤ fn.ntmps ∧ bodyP TB call (Dr TB call) 0 fn us [] (out K)) : Fits P Gl f C := by
  refine ⟨hf.has, hM, fun us K h R w xs hL ha => ?_⟩
  obtain ⟨h1, h2⟩ := hb us K h
  refine (body_sound hT hC hm hf h2 hL.hr ⟨ha.1, fun j hj => (ha.2 j hj).tr⟩ (Nat.zero_le _) h1).mono fun e w' he => ?_
  obtain ⟨r, x, o', ρ', R', rfl, hK, hh', hv, _, hx⟩ := he
  unfold out at hK
  split at hK
  · rename_i u b p ev
    obtain ⟨⟨hp⟩, hK⟩ := hK
    have hu := (view_VR hh' r u b p ev hp x hv).1
    refine ⟨u, x, Rall R' ρ', rfl, hK, hu, ⟨fun b hb => ?_, fun b hb => .inl (hx.rmono b hb), fun b hb => ?_, hx.size, fun b hb => hx.same b hb fun _ q => (by cases q), hx.os, hx.tape, hx.output⟩⟩
    · rcases hb with hb | ⟨id, hb⟩
      · exact (hh'.ro b hb).1
      · exact hh'.lt id b hb
    · rcases hb with hb | ⟨id, hb⟩
      · rcases hx.rnew b hb with q | q | ⟨_, q⟩
        · exact .inl q
        · exact .inr q
        · cases q
      · rcases hx.pnew id b hb with q | ⟨_, q⟩
        · exact .inr q
        · cases q
  · exact hK.elim
end
end Go.Proofs.YtbbgojaloebknaaDoor.Vc
