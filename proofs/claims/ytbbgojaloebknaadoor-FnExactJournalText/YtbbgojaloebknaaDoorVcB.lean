/- Part B of the engine: what abstract values and local objects say of the machine's memory, and what keeps it true. -/
import Derived.Test.YtbbgojaloebknaaDoorVcA
import Derived.Below
import Derived.Laws.Rows
namespace Go.Proofs.YtbbgojaloebknaaDoor.Vc

/-- Data that is only read: its cells lie in R's blocks. -/
inductive DR (R : Nat → Prop) (w : World) : AV → Value → Prop
  | undef (x) (h : x.oneCell' = true) : DR R w .undef x
  | int (k n) : DR R w (.int k n) (.int k n)
  | bool (b) : DR R w (.bool b) (.bool b)
  | str (s) : DR R w (.str s) (.string s)
  | nils (a) : DR R w .nils (.slice a 0 0)
  | nilp : DR R w .nilp (.pointer none)
  | nilf : DR R w .nilf .nilFunc
  | nili : DR R w .nili .nilIface
  | sl0 (s f a cap) : DR R w (.sl s 0 f) (.slice a 0 cap)
  | sl (sz len f) (ad : Addr) (cap) (g : Nat → Nat → Value) (h1 : len ≤ cap) (h2 : R ad.block) (h3 : ∀ i, i < len → (f i).length = sz)
      (h4 : ∀ i, i < len → ∀ j, j < sz → w.cell? (ad.add (i * sz + j)) = some (g i j)) (h5 : ∀ i, i < len → ∀ j, j < sz → DR R w ((f i).getD j .undef) (g i j)) : DR R w (.sl sz len f) (.slice (some ad) len cap)
  | ro (cs) (ad : Addr) (g : Nat → Value) (h2 : R ad.block) (h4 : ∀ j, j < cs.length → w.cell? (ad.add j) = some (g j)) (h5 : ∀ j, j < cs.length → DR R w (cs.getD j .undef) (g j)) : DR R w (.ro cs) (.pointer (some ad))

inductive VR (ρ : Nat → Option Nat) (R : Nat → Prop) (w : World) : AV → Value → Prop
  | data {v x} (h : DR R w v x) : VR ρ R w v x
  | undef (x) : VR ρ R w .undef x
  | row {id sz off len b cs ty cap} (h1 : ρ id = some b) (h2 : w.heap[b]? = some (.cells cs ty (0, 0))) (h3 : len ≤ cap) (h4 : (off + cap) * sz ≤ cs.size) : VR ρ R w (.row id sz off len) (.slice (some ⟨b, off * sz, none⟩) len cap)
  | row0 (id sz off a) : VR ρ R w (.row id sz off 0) (.slice a 0 0)
  | ptr {id off b} (h1 : ρ id = some b) : VR ρ R w (.ptr id off) (.pointer (some ⟨b, off, none⟩))
  | eptr {id sz i off b} (h1 : ρ id = some b) : VR ρ R w (.eptr id sz i off) (.pointer (some ⟨b, i * sz + off, none⟩))
  | agg (l : List AV) (xs : Array Value) (h1 : xs.size = l.length) (h2 : ∀ j, j < l.length → VR ρ R w (l.getD j .undef) (xs.getD j undef)) : VR ρ R w (.agg l) (.agg xs)
  | tup (l : List AV) (xs : Array Value) (h1 : xs.size = l.length) (h2 : ∀ j, j < l.length → VR ρ R w (l.getD j .undef) (xs.getD j undef)) : VR ρ R w (.tup l) (.tuple xs)
  | fn (f : FuncId) (l m : List AV) (xs ys : Array Value) (h1 : xs.size = l.length) (h2 : ∀ j, j < l.length → VR ρ R w (l.getD j .undef) (xs.getD j undef))
      (h3 : ys.size = m.length) (h4 : ∀ j, j < m.length → VR ρ R w (m.getD j .undef) (ys.getD j undef)) : VR ρ R w (.fn f l m) (.func (.func f) xs ys)

mutual
def beneath (n : Nat) : AV → Bool
  | .row id _ _ _ => decide (id < n)
  | .ptr id _ => decide (id < n)
  | .eptr id _ _ _ => decide (id < n)
  | .agg l => beneathL n l
  | .tup l => beneathL n l
  | .fn _ l m => beneathL n l && beneathL n m
  | _ => true
def beneathL (n : Nat) : List AV → Bool
  | [] => true
  | v :: r => beneath n v && beneathL n r
end
theorem liveL_iff {o : List Obj} : ∀ {l : List AV}, liveL o l = true ↔ ∀ v ∈ l, live o v = true
  | [] => by simp [liveL]
  | v :: r => by simp [liveL, liveL_iff (l := r)]
theorem beneathL_iff {n : Nat} : ∀ {l : List AV}, beneathL n l = true ↔ ∀ v ∈ l, beneath n v = true
  | [] => by simp [beneathL]
  | v :: r => by simp [beneathL, beneathL_iff (l := r)]

/-- What a slot or a cell holds. -/
structure TR (ρ : Nat → Option Nat) (o : List Obj) (R : Nat → Prop) (w : World) (v : AV) (x : Value) : Prop where
  be : beneath o.length v = true
  vr : live o v = true → VR ρ R w v x

def OB (ρ : Nat → Option Nat) (o : List Obj) (R : Nat → Prop) (w : World) (id : Nat) : Obj → Prop
  | .box cs => ∃ b xs ty, ρ id = some b ∧ w.heap[b]? = some (.cells xs ty (0, 0)) ∧ xs.size = cs.length ∧ ∀ j, j < cs.length → TR ρ o R w (cs.getD j .undef) (xs.getD j undef)
  | .row sz n f => (n = 0 ∧ ρ id = none) ∨ ∃ b xs ty, ρ id = some b ∧ w.heap[b]? = some (.cells xs ty (0, 0)) ∧ n * sz ≤ xs.size ∧ (∀ i, i < n → (f i).length = sz) ∧
      ∀ i, i < n → ∀ j, j < sz → DR R w ((f i).getD j .undef) (xs.getD (i * sz + j) undef)
  | .dead => ρ id = none

structure HR (Gl : List (Nat × Go.Obj)) (o : List Obj) (ρ : Nat → Option Nat) (R : Nat → Prop) (w : World) : Prop where
  dom : ∀ id b, ρ id = some b → id < o.length
  lt : ∀ id b, ρ id = some b → b < w.heap.size
  inj : ∀ i j b, ρ i = some b → ρ j = some b → i = j
  ro : ∀ b, R b → b < w.heap.size ∧ ∀ id, ρ id ≠ some b
  obj : ∀ id ob, o[id]? = some ob → OB ρ o R w id ob
  gl : ∀ p, p ∈ Gl → R p.1 ∧ w.heap[p.1]? = some p.2

/-- How the world may go on: writable are the local objects' blocks; all else that was there stands. -/
structure EX (o : List Obj) (ρ : Nat → Option Nat) (R : Nat → Prop) (w : World) (o' : List Obj) (ρ' : Nat → Option Nat) (R' : Nat → Prop) (w' : World) : Prop where
  len : o.length ≤ o'.length
  keep : ∀ id, id < o.length → match o'[id]? with
    | some (.box _) => (∃ cs, o[id]? = some (.box cs)) ∧ ρ' id = ρ id
    | some (.row sz _ _) => (∃ n f, o[id]? = some (.row sz n f)) ∧ ρ' id = ρ id
    | _ => True
  rmono : ∀ b, R b → R' b
  rnew : ∀ b, R' b → R b ∨ w.heap.size ≤ b ∨ ∃ id, ρ id = some b
  pnew : ∀ id b, ρ' id = some b → w.heap.size ≤ b ∨ ∃ j, ρ j = some b
  size : w.heap.size ≤ w'.heap.size
  same : ∀ b, b < w.heap.size → (∀ id, ρ id ≠ some b) → w'.heap[b]? = w.heap[b]?
  shape : ∀ (b : Nat) (xs : Array Value) (ty : TypeId), w.heap[b]? = some (.cells xs ty (0, 0)) → ∃ xs' : Array Value, w'.heap[b]? = some (.cells xs' ty (0, 0)) ∧ xs'.size = xs.size
  os : w'.os = w.os
  tape : w'.tape = w.tape
  output : w'.output = w.output

theorem EX.refl (o ρ R w) : EX o ρ R w o ρ R w where
  len := Nat.le_refl _
  keep id _ := by
    split
    · rename_i h; exact ⟨⟨_, h⟩, rfl⟩
    · rename_i h; exact ⟨⟨_, _, h⟩, rfl⟩
    · trivial
  rmono _ h := h
  rnew _ h := .inl h
  pnew id b h := .inr ⟨id, h⟩
  size := Nat.le_refl _
  same _ _ _ := rfl
  shape _ xs _ h := ⟨xs, h, rfl⟩
  os := rfl
  tape := rfl
  output := rfl

theorem EX.trans {o ρ R w o1 ρ1 R1 w1 o2 ρ2 R2 w2} (h : EX o ρ R w o1 ρ1 R1 w1) (k : EX o1 ρ1 R1 w1 o2 ρ2 R2 w2) : EX o ρ R w o2 ρ2 R2 w2 where
  len := Nat.le_trans h.len k.len
  keep id hid := by
    have h1 := h.keep id hid
    have h2 := k.keep id (Nat.lt_of_lt_of_le hid h.len)
    split
    · rename_i cs e
      rw [e] at h2
      obtain ⟨⟨cs', e'⟩, hr⟩ := h2
      rw [e'] at h1
      exact ⟨h1.1, hr.trans h1.2⟩
    · rename_i sz n f e
      rw [e] at h2
      obtain ⟨⟨n', f', e'⟩, hr⟩ := h2
      rw [e'] at h1
      exact ⟨h1.1, hr.trans h1.2⟩
    · trivial
  rmono b hb := k.rmono b (h.rmono b hb)
  rnew b hb := by
    rcases k.rnew b hb with h1 | h1 | ⟨id, h1⟩
    · exact h.rnew b h1
    · exact .inr (.inl (Nat.le_trans h.size h1))
    · rcases h.pnew id b h1 with h2 | h2
      · exact .inr (.inl h2)
      · exact .inr (.inr h2)
  pnew id b hb := by
    rcases k.pnew id b hb with h1 | ⟨j, h1⟩
    · exact .inl (Nat.le_trans h.size h1)
    · exact h.pnew j b h1
  size := Nat.le_trans h.size k.size
  same b hb hn := by
    refine (k.same b (Nat.lt_of_lt_of_le hb h.size) fun id hid => ?_).trans (h.same b hb hn)
    rcases h.pnew id b hid with h2 | ⟨j, h2⟩
    · omega
    · exact hn j h2
  shape b xs ty hb := by
    obtain ⟨x1, e1, s1⟩ := h.shape b xs ty hb
    obtain ⟨x2, e2, s2⟩ := k.shape b x1 ty e1
    exact ⟨x2, e2, s2.trans s1⟩
  os := k.os.trans h.os
  tape := k.tape.trans h.tape
  output := k.output.trans h.output

theorem cell_of_block {w w' : World} {a : Addr} (h : w'.heap[a.block]? = w.heap[a.block]?) : w'.cell? a = w.cell? a := by simp [World.cell?, h]
theorem add_block (a : Addr) (n : Nat) : (a.add n).block = a.block := by unfold Addr.add; split <;> rfl

theorem DR.go {R R' : Nat → Prop} {w w' : World} (hR : ∀ b, R b → R' b) (hw : ∀ b, R b → w'.heap[b]? = w.heap[b]?) {v : AV} {x : Value} (h : DR R w v x) : DR R' w' v x := by
  induction h with
  | undef x h => exact .undef x h
  | int k n => exact .int k n
  | bool b => exact .bool b
  | str s => exact .str s
  | nils a => exact .nils a
  | nilp => exact .nilp
  | nilf => exact .nilf
  | nili => exact .nili
  | sl0 s f a cap => exact .sl0 s f a cap
  | sl sz len f ad cap g h1 h2 h3 h4 _ ih => exact .sl sz len f ad cap g h1 (hR _ h2) h3 (fun i hi j hj => (cell_of_block (by rw [add_block]; exact hw _ h2)).trans (h4 i hi j hj)) ih
  | ro cs ad g h2 h4 _ ih => exact .ro cs ad g (hR _ h2) (fun j hj => (cell_of_block (by rw [add_block]; exact hw _ h2)).trans (h4 j hj)) ih

theorem getD_mem {l : List AV} {j : Nat} (h : j < l.length) : l.getD j .undef ∈ l := by
  rw [List.getD_eq_getElem?_getD, List.getElem?_eq_getElem h]
  exact List.getElem_mem h

theorem VR.go {o : List Obj} {ρ R w o' ρ' R' w'} (hx : EX o ρ R w o' ρ' R' w') (hro : ∀ b, R b → b < w.heap.size ∧ ∀ id, ρ id ≠ some b) {v : AV} {x : Value} (h : VR ρ R w v x) :
    beneath o.length v = true → live o' v = true → VR ρ' R' w' v x := by
  have hw : ∀ b, R b → w'.heap[b]? = w.heap[b]? := fun b hb => hx.same b (hro b hb).1 (hro b hb).2
  induction h with
  | data h => exact fun _ _ => .data (h.go hx.rmono hw)
  | undef x => exact fun _ _ => .undef x
  | @row id sz off len b cs ty cap h1 h2 h3 h4 =>
    intro hb hl
    have hk := hx.keep id (by simpa [beneath] using hb)
    simp only [live] at hl
    split at hl
    · rename_i s n f e
      rw [e] at hk
      obtain ⟨cs', e', hs⟩ := hx.shape b cs ty h2
      exact .row (hk.2.trans h1) e' h3 (by omega)
    · cases hl
  | row0 id sz off a => exact fun _ _ => .row0 id sz off a
  | @ptr id off b h1 =>
    intro hb hl
    have hk := hx.keep id (by simpa [beneath] using hb)
    simp only [live] at hl
    split at hl
    · rename_i cs e
      rw [e] at hk
      exact .ptr (hk.2.trans h1)
    · cases hl
  | @eptr id sz i off b h1 =>
    intro hb hl
    have hk := hx.keep id (by simpa [beneath] using hb)
    simp only [live] at hl
    split at hl
    · rename_i s n f e
      rw [e] at hk
      exact .eptr (hk.2.trans h1)
    · cases hl
  | agg l xs h1 h2 ih =>
    intro hb hl
    simp only [beneath] at hb
    simp only [live] at hl
    exact .agg l xs h1 fun j hj => ih j hj (beneathL_iff.1 hb _ (getD_mem hj)) (liveL_iff.1 hl _ (getD_mem hj))
  | tup l xs h1 h2 ih =>
    intro hb hl
    simp only [beneath] at hb
    simp only [live] at hl
    exact .tup l xs h1 fun j hj => ih j hj (beneathL_iff.1 hb _ (getD_mem hj)) (liveL_iff.1 hl _ (getD_mem hj))
  | fn f l m xs ys h1 h2 h3 h4 ih1 ih2 =>
    intro hb hl
    simp only [beneath, Bool.and_eq_true] at hb
    simp only [live, Bool.and_eq_true] at hl
    exact .fn f l m xs ys h1 (fun j hj => ih1 j hj (beneathL_iff.1 hb.1 _ (getD_mem hj)) (liveL_iff.1 hl.1 _ (getD_mem hj)))
      h3 (fun j hj => ih2 j hj (beneathL_iff.1 hb.2 _ (getD_mem hj)) (liveL_iff.1 hl.2 _ (getD_mem hj)))

mutual
theorem beneath_mono {m n : Nat} (hmn : m ≤ n) : ∀ v : AV, beneath m v = true → beneath n v = true
  | .row id _ _ _, h => by simp only [beneath, decide_eq_true_eq] at h ⊢; omega
  | .ptr id _, h => by simp only [beneath, decide_eq_true_eq] at h ⊢; omega
  | .eptr id _ _ _, h => by simp only [beneath, decide_eq_true_eq] at h ⊢; omega
  | .agg l, h => by simp only [beneath] at h ⊢; exact beneathL_mono hmn l h
  | .tup l, h => by simp only [beneath] at h ⊢; exact beneathL_mono hmn l h
  | .fn _ l k, h => by
    simp only [beneath, Bool.and_eq_true] at h ⊢
    exact ⟨beneathL_mono hmn l h.1, beneathL_mono hmn k h.2⟩
  | .undef, _ => rfl | .int .., _ => rfl | .bool _, _ => rfl | .str _, _ => rfl | .sl .., _ => rfl | .ro _, _ => rfl | .nils, _ => rfl | .nilp, _ => rfl | .nilf, _ => rfl | .nili, _ => rfl
theorem beneathL_mono {m n : Nat} (hmn : m ≤ n) : ∀ l : List AV, beneathL m l = true → beneathL n l = true
  | [], _ => rfl
  | v :: r, h => by
    simp only [beneathL, Bool.and_eq_true] at h ⊢
    exact ⟨beneath_mono hmn v h.1, beneathL_mono hmn r h.2⟩
end

mutual
theorem live_back {o : List Obj} {ρ R w o' ρ' R' w'} (hx : EX o ρ R w o' ρ' R' w') : ∀ v : AV, beneath o.length v = true → live o' v = true → live o v = true
  | .row id sz off len, hb, hl => by
    have hk := hx.keep id (by simpa [beneath] using hb)
    simp only [live] at hl ⊢
    split at hl
    · rename_i s n f e
      rw [e] at hk
      obtain ⟨⟨n', f', e'⟩, _⟩ := hk
      rw [e']
      exact hl
    · cases hl
  | .ptr id off, hb, hl => by
    have hk := hx.keep id (by simpa [beneath] using hb)
    simp only [live] at hl ⊢
    split at hl
    · rename_i cs e
      rw [e] at hk
      obtain ⟨⟨cs', e'⟩, _⟩ := hk
      rw [e']
    · cases hl
  | .eptr id sz i off, hb, hl => by
    have hk := hx.keep id (by simpa [beneath] using hb)
    simp only [live] at hl ⊢
    split at hl
    · rename_i s n f e
      rw [e] at hk
      obtain ⟨⟨n', f', e'⟩, _⟩ := hk
      rw [e']
      exact hl
    · cases hl
  | .agg l, hb, hl => by simp only [beneath, live] at hb hl ⊢; exact liveL_back hx l hb hl
  | .tup l, hb, hl => by simp only [beneath, live] at hb hl ⊢; exact liveL_back hx l hb hl
  | .fn _ l k, hb, hl => by
    simp only [beneath, live, Bool.and_eq_true] at hb hl ⊢
    exact ⟨liveL_back hx l hb.1 hl.1, liveL_back hx k hb.2 hl.2⟩
  | .undef, _, _ => rfl | .int .., _, _ => rfl | .bool _, _, _ => rfl | .str _, _, _ => rfl | .sl .., _, _ => rfl | .ro _, _, _ => rfl | .nils, _, _ => rfl | .nilp, _, _ => rfl | .nilf, _, _ => rfl | .nili, _, _ => rfl
theorem liveL_back {o : List Obj} {ρ R w o' ρ' R' w'} (hx : EX o ρ R w o' ρ' R' w') : ∀ l : List AV, beneathL o.length l = true → liveL o' l = true → liveL o l = true
  | [], _, _ => rfl
  | v :: r, hb, hl => by
    simp only [beneathL, liveL, Bool.and_eq_true] at hb hl ⊢
    exact ⟨live_back hx v hb.1 hl.1, liveL_back hx r hb.2 hl.2⟩
end

theorem TR.go {o : List Obj} {ρ R w o' ρ' R' w'} (hx : EX o ρ R w o' ρ' R' w') (hro : ∀ b, R b → b < w.heap.size ∧ ∀ id, ρ id ≠ some b) {v : AV} {x : Value} (h : TR ρ o R w v x) : TR ρ' o' R' w' v x :=
  ⟨beneath_mono hx.len v h.be, fun hl => (h.vr (live_back hx v h.be hl)).go hx hro h.be hl⟩

end Go.Proofs.YtbbgojaloebknaaDoor.Vc
