/- Part C of the engine: operations that only read do on the machine what the engine says. -/
import Derived.Test.YtbbgojaloebknaaDoorVcB
import Derived.Tactics
import Derived.Laws.Entries
import Derived.Laws.Strings
import Derived.Laws.Slices
import Derived.Laws.Cells
import Derived.Laws.StructEq
import Derived.Deep.MidRow
namespace Go.Proofs.YtbbgojaloebknaaDoor.Vc

/-! ### The types' table -/
def zOk : List AV → List Value → Bool
  | [], [] => true
  | .int k n :: r, .int j m :: s => decide (k = j ∧ n = m) && zOk r s
  | .bool a :: r, .bool b :: s => decide (a = b) && zOk r s
  | .str a :: r, .string b :: s => decide (a = b) && zOk r s
  | .nils :: r, .slice none 0 0 :: s => zOk r s
  | .nilp :: r, .pointer none :: s => zOk r s
  | .nilf :: r, .nilFunc :: s => zOk r s
  | .nili :: r, .nilIface :: s => zOk r s
  | _, _ => false
def kOk (P : Program) (TB : TypeId → TI) (t : TypeId) (ti : TI) : Bool := match ti.k, P.underlying t with
  | .int k, some (.int j) => decide (j = k)
  | .bool, some .bool => true
  | .str, some .string => true
  | .slice e, some (.slice e') => decide (e = e') && !((TB e).k matches .bad)
  | .struct fs, some (.struct F) => decide (F.toList.map (fun f => (f.offset, f.type)) = fs) && fs.all (fun p => !((TB p.2).k matches .bad))
  | .ptr, some (.pointer _) => true
  | _, _ => false
/-- '==' at a struct type: its fields are plain cells, one behind the other. -/
def eqOk (P : Program) (TB : TypeId → TI) (t : TypeId) : Bool := !(TB t).eq || (!P.stoodInHeld t && !P.eqGuardType P.depth t && (match P.underlying t with
  | some (.struct F) => F.toList.zipIdx.all fun p => !(p.1.name == "_") && decide (p.1.offset = p.2) && (match (TB p.1.type).k with | .int _ | .bool | .str => true | _ => false)
  | _ => false))
def tiOk (P : Program) (TB : TypeId → TI) (t : TypeId) : Bool := match P.info? t with
  | some i => decide (i.size = (TB t).n) && decide (i.bytes = (TB t).bytes) && kOk P TB t (TB t) && (match i.zero with | some z => zOk (TB t).z z.cells.toList | none => false) && (eqOk P TB t && decide ((TB t).z.length = (TB t).n))
  | none => false
/-- The table tells the program's types. -/
structure TOk (P : Program) (TB : TypeId → TI) : Prop where
  ok : ∀ t, (TB t).k ≠ .bad → tiOk P TB t = true
def lookT : List (TypeId × TI) → TypeId → TI
  | [], _ => default
  | (j, v) :: r, i => cond (Nat.beq i j) v (lookT r i)
theorem lookT_mem {L : List (TypeId × TI)} {t : TypeId} : (lookT L t).k ≠ .bad → t ∈ L.map (·.1) := by
  induction L with
  | nil => intro h; exact absurd rfl h
  | cons p r ih =>
    obtain ⟨j, v⟩ := p
    intro h
    unfold lookT at h
    cases e : Nat.beq t j with
    | true => rw [Nat.eq_of_beq_eq_true e]; simp
    | false => rw [e] at h; simp only [cond_false] at h; exact List.mem_cons_of_mem _ (ih h)
theorem TOk.of {P : Program} {L : List (TypeId × TI)} (h : (L.all fun p => tiOk P (lookT L) p.1) = true) : TOk P (lookT L) := ⟨fun t ht => by
  obtain ⟨p, hp, rfl⟩ := List.mem_map.1 (lookT_mem ht)
  exact List.all_eq_true.1 h p hp⟩

section
variable {P : Program} {TB : TypeId → TI}
theorem TOk.info (h : TOk P TB) {t : TypeId} (hb : (TB t).k ≠ .bad) : ∃ i z, P.info? t = some i ∧ i.size = (TB t).n ∧ i.bytes = (TB t).bytes ∧ i.zero = some z ∧ zOk (TB t).z z.cells.toList = true ∧ kOk P TB t (TB t) = true := by
  have := h.ok t hb
  unfold tiOk at this
  split at this
  · rename_i i hi
    simp only [Bool.and_eq_true, decide_eq_true_eq] at this
    obtain ⟨⟨⟨⟨h1, h2⟩, h3⟩, h4⟩, _⟩ := this
    split at h4
    · rename_i z hz
      exact ⟨i, z, hi, h1, h2, hz, h4, h3⟩
    · cases h4
  · cases this
theorem TOk.int (h : TOk P TB) {t : TypeId} {k : IntKind} (hk : (TB t).k = .int k) : P.underlying t = some (.int k) := by
  obtain ⟨_, _, _, _, _, _, _, h1⟩ := h.info (t := t) (by rw [hk]; simp)
  unfold kOk at h1
  rw [hk] at h1
  split at h1 <;> simp_all
theorem TOk.bool (h : TOk P TB) {t : TypeId} (hk : (TB t).k = .bool) : P.underlying t = some .bool := by
  obtain ⟨_, _, _, _, _, _, _, h1⟩ := h.info (t := t) (by rw [hk]; simp)
  unfold kOk at h1
  rw [hk] at h1
  split at h1 <;> simp_all
theorem TOk.str (h : TOk P TB) {t : TypeId} (hk : (TB t).k = .str) : P.underlying t = some .string := by
  obtain ⟨_, _, _, _, _, _, _, h1⟩ := h.info (t := t) (by rw [hk]; simp)
  unfold kOk at h1
  rw [hk] at h1
  split at h1 <;> simp_all
theorem TOk.slice (h : TOk P TB) {t e : TypeId} (hk : (TB t).k = .slice e) : P.underlying t = some (.slice e) ∧ (TB e).k ≠ .bad := by
  obtain ⟨_, _, _, _, _, _, _, h1⟩ := h.info (t := t) (by rw [hk]; simp)
  unfold kOk at h1
  rw [hk] at h1
  split at h1 <;> simp_all
  rename_i e1 e2 _ _
  obtain ⟨rfl, h2⟩ := h1
  refine fun hb => ?_
  rw [hb] at h2
  simp at h2
theorem TOk.struct (h : TOk P TB) {t : TypeId} {fs : List (Nat × TypeId)} (hk : (TB t).k = .struct fs) : ∃ F : Array Field, P.underlying t = some (.struct F) ∧ F.toList.map (fun f => (f.offset, f.type)) = fs ∧ ∀ p ∈ fs, (TB p.2).k ≠ .bad := by
  obtain ⟨_, _, _, _, _, _, _, h1⟩ := h.info (t := t) (by rw [hk]; simp)
  unfold kOk at h1
  rw [hk] at h1
  split at h1
  case h_5 fs' F e1 e2 =>
    injection e1 with e1
    subst e1
    rw [Bool.and_eq_true, decide_eq_true_eq, List.all_eq_true] at h1
    refine ⟨F, e2, h1.1, fun p hp hb => ?_⟩
    have := h1.2 p hp
    rw [hb] at this
    simp at this
  all_goals simp_all
theorem TOk.zlen (h : TOk P TB) {t : TypeId} (hb : (TB t).k ≠ .bad) : (TB t).z.length = (TB t).n := by
  have := h.ok t hb
  unfold tiOk at this
  split at this
  · simp only [Bool.and_eq_true] at this
    exact of_decide_eq_true this.2.2
  · cases this
theorem TOk.eq (h : TOk P TB) {t : TypeId} (he : (TB t).eq = true) (hb : (TB t).k ≠ .bad) : P.stoodInHeld t = false ∧ P.eqGuardType P.depth t = false ∧ ∃ F : Array Field, P.underlying t = some (.struct F) ∧
    (F.toList.zipIdx.all fun p => !(p.1.name == "_") && decide (p.1.offset = p.2) && (match (TB p.1.type).k with | .int _ | .bool | .str => true | _ => false)) = true := by
  have := h.ok t hb
  unfold tiOk at this
  split at this
  · simp only [Bool.and_eq_true] at this
    have h5 := this.2.1
    unfold eqOk at h5
    rw [he] at h5
    simp only [Bool.not_true, Bool.false_or, Bool.and_eq_true, Bool.not_eq_true'] at h5
    obtain ⟨⟨h1, h2⟩, h3⟩ := h5
    split at h3
    · rename_i F hF
      exact ⟨h1, h2, F, hF, h3⟩
    · cases h3
  · cases this
end

/-! ### What an abstract value says of a machine's value -/
section
variable {ρ : Nat → Option Nat} {o : List Obj} {R : Nat → Prop} {w : World} {y : Value}
theorem TR.int {k n} (h : TR ρ o R w (.int k n) y) : y = .int k n := by
  have := h.vr rfl
  cases this with | data h => cases h; rfl
theorem TR.bool {b} (h : TR ρ o R w (.bool b) y) : y = .bool b := by
  have := h.vr rfl
  cases this with | data h => cases h; rfl
theorem TR.str {s} (h : TR ρ o R w (.str s) y) : y = .string s := by
  have := h.vr rfl
  cases this with | data h => cases h; rfl
theorem TR.nils (h : TR ρ o R w .nils y) : ∃ a, y = .slice a 0 0 := by
  have := h.vr rfl
  cases this with | data h => cases h; exact ⟨_, rfl⟩
theorem TR.sl {s n f} (h : TR ρ o R w (.sl s n f) y) : ∃ a c, y = .slice a n c ∧ DR R w (.sl s n f) y := by
  have := h.vr rfl
  cases this with | data h => cases h with
    | sl0 s f a cap => exact ⟨_, _, rfl, .sl0 s f a cap⟩
    | sl sz len f ad cap g h1 h2 h3 h4 h5 => exact ⟨_, _, rfl, .sl _ _ f ad cap g h1 h2 h3 h4 h5⟩
theorem TR.dat {v : AV} (h : DR R w v y) (hb : beneath o.length v = true := by rfl) : TR ρ o R w v y := ⟨hb, fun _ => .data h⟩
theorem TR.undef : TR ρ o R w .undef y := ⟨rfl, fun _ => .undef y⟩
theorem live_row {id sz off len s n f} (he : o[id]? = some (.row s n f)) (hs : Nat.beq s sz = true) : live o (.row id sz off len) = true := by simp [live, he, hs]
theorem TR.row {id sz off len s n f} (h : TR ρ o R w (.row id sz off len) y) (he : o[id]? = some (.row s n f)) (hs : Nat.beq s sz = true) :
    (len = 0 ∧ ∃ a, y = .slice a 0 0) ∨ ∃ b cs ty cap, y = .slice (some ⟨b, off * sz, none⟩) len cap ∧ ρ id = some b ∧ w.heap[b]? = some (.cells cs ty (0, 0)) ∧ len ≤ cap ∧ (off + cap) * sz ≤ cs.size := by
  have := h.vr (live_row he hs)
  cases this with
  | data h => cases h
  | row h1 h2 h3 h4 => exact .inr ⟨_, _, _, _, rfl, h1, h2, h3, h4⟩
  | row0 => exact .inl ⟨rfl, _, rfl⟩
theorem TR.ptr {id off cs} (h : TR ρ o R w (.ptr id off) y) (he : o[id]? = some (.box cs)) : ∃ b, y = .pointer (some ⟨b, off, none⟩) ∧ ρ id = some b := by
  have := h.vr (by simp [live, he])
  cases this with
  | data h => cases h
  | ptr h1 => exact ⟨_, rfl, h1⟩
theorem TR.eptr {id sz i off s n f} (h : TR ρ o R w (.eptr id sz i off) y) (he : o[id]? = some (.row s n f)) (hs : Nat.beq s sz = true) : ∃ b, y = .pointer (some ⟨b, i * sz + off, none⟩) ∧ ρ id = some b := by
  have := h.vr (by simp [live, he, hs])
  cases this with
  | data h => cases h
  | eptr h1 => exact ⟨_, rfl, h1⟩
theorem TR.ro {cs} (h : TR ρ o R w (.ro cs) y) : ∃ (ad : Addr) (g : Nat → Value), y = .pointer (some ad) ∧ R ad.block ∧ (∀ j, j < cs.length → w.cell? (ad.add j) = some (g j)) ∧ ∀ j, j < cs.length → DR R w (cs.getD j .undef) (g j) := by
  have := h.vr rfl
  cases this with | data h => cases h with
    | ro cs ad g h2 h4 h5 => exact ⟨ad, g, rfl, h2, h4, h5⟩
theorem TR.tup {l} (h : TR ρ o R w (.tup l) y) (hl : live o (.tup l) = true) : ∃ xs, y = .tuple xs ∧ xs.size = l.length ∧ ∀ j, j < l.length → VR ρ R w (l.getD j .undef) (xs.getD j Go.undef) := by
  have := h.vr hl
  cases this with
  | data h => cases h
  | tup l xs h1 h2 => exact ⟨xs, rfl, h1, h2⟩
theorem ofConst_VR (v : Value) : VR ρ R w (ofConst v) v := by
  unfold ofConst
  split
  · exact .data (.int _ _)
  · exact .data (.bool _)
  · exact .data (.str _)
  · exact .data (.nils _)
  · exact .data .nilp
  · exact .data .nilf
  · exact .data .nili
  · exact .undef _
theorem ofConst_beneath (v : Value) (n : Nat) : beneath n (ofConst v) = true := by unfold ofConst; split <;> rfl

/-- Slots. -/
def FR (ρ : Nat → Option Nat) (o : List Obj) (R : Nat → Prop) (w : World) (t : Fr) (a : Act) : Prop := ∀ x, TR ρ o R w (t x) (a.tmps.getD x Go.undef)
theorem FR.evv {t : Fr} {a : Act} (h : FR ρ o R w t a) (x : Operand) : TR ρ o R w (ev t x) (a.eval x) := by
  cases x with
  | tmp x => exact h x
  | const v => exact ⟨ofConst_beneath v _, fun _ => ofConst_VR v⟩
  | global g => exact .undef
  | func f => exact ⟨rfl, fun _ => .fn f [] [] #[] #[] rfl (fun j hj => by simp at hj) rfl (fun j hj => by simp at hj)⟩
end
end Go.Proofs.YtbbgojaloebknaaDoor.Vc
