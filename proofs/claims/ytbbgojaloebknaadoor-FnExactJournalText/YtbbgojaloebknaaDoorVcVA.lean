/- Part VA of the engine: contracts of functions that are handed local objects, and leave some. -/
import Derived.Test.YtbbgojaloebknaaDoorVcV
namespace Go.Proofs.YtbbgojaloebknaaDoor.Vc
mutual
def rnV (ν : Nat → Nat) : AV → AV
  | .row id s p n => .row (ν id) s p n
  | .ptr id p => .ptr (ν id) p
  | .eptr id s i p => .eptr (ν id) s i p
  | .agg l => .agg (rnL ν l)
  | .tup l => .tup (rnL ν l)
  | .fn f l m => .fn f (rnL ν l) (rnL ν m)
  | .undef => .undef
  | .int k n => .int k n
  | .bool b => .bool b
  | .str s => .str s
  | .sl s n f => .sl s n f
  | .ro cs => .ro cs
  | .nils => .nils
  | .nilp => .nilp
  | .nilf => .nilf
  | .nili => .nili
def rnL (ν : Nat → Nat) : List AV → List AV
  | [] => []
  | v :: r => rnV ν v :: rnL ν r
end
def rnO (ν : Nat → Nat) : Obj → Obj
  | .box cs => .box (rnL ν cs)
  | .row s n f => .row s n f
  | .dead => .dead
theorem rnL_map (ν : Nat → Nat) : ∀ l, rnL ν l = l.map (rnV ν)
  | [] => rfl
  | v :: r => by rw [rnL, rnL_map ν r]; rfl
mutual
/-- Nothing is named that is only read. -/
def scaR : AV → Bool
  | .sl .. | .ro .. => false
  | .agg l => scaL l
  | .tup l => scaL l
  | .fn _ c d => scaL c && scaL d
  | _ => true
def scaL : List AV → Bool
  | [] => true
  | v :: r => scaR v && scaL r
end
theorem scaL_iff : ∀ {l : List AV}, scaL l = true ↔ ∀ v ∈ l, scaR v = true
  | [] => by simp [scaL]
  | v :: r => by simp [scaL, scaL_iff (l := r)]
def scaO : List Obj → Prop
  | [] => True
  | .box cs :: r => scaL cs = true ∧ scaO r
  | .row _ n f :: r => (∀ i, i < n → scaL (f i) = true) ∧ scaO r
  | .dead :: r => scaO r
/-- The callee's numbers, by the caller. -/
def outN (s : List Nat) (n : Nat) : Nat → Nat := fun j => match s[j]? with
  | some id => id
  | none => n + (j - s.length)
def putO (ν : Nat → Nat) (o : List Obj) : List Nat → List Obj → List Obj
  | id :: s, x :: p => putO ν (o.set id (rnO ν x)) s p
  | _, _ => o
def newO (ν : Nat → Nat) : List Nat → List Obj → List Obj
  | _ :: s, _ :: p => newO ν s p
  | _, p => p.map (rnO ν)
def mrg (s : List Nat) (o p : List Obj) : List Obj := putO (outN s o.length) o s p ++ newO (outN s o.length) s p
def back (o : List Obj) (s fz : List Nat) (K : AV → List Obj → Prop) : AV → List Obj → Prop := fun r p =>
  cond fz.isEmpty (K (rnV (outN s o.length) r) (mrg s o p)) (Chk (scaR r = true ∧ scaO p) ∧ K (rnV (outN s o.length) r) (mrg s o p))
abbrev GC := List AV → List Obj → (AV → List Obj → Prop) → Prop
/-- A call of a function that is handed the local objects s, and looks at the rows fz. -/
def asG (C : GC) (vs : List AV) (o : List Obj) (K : AV → List Obj → Prop) : Prop :=
  ∃ us og s fz, wkN fz (s.map some) = true ∧ rvL (s.map some) fz o us vs ∧ wkO (s.map some) fz o (s.map some) og ∧ C us og (back o s fz K)
section
variable {P : Program} {TB : TypeId → TI} {ρ : Nat → Option Nat} {o og p : List Obj} {R R' : Nat → Prop} {w w' : World} {Gl : List (Nat × Go.Obj)} {call : FuncId → List AV → List Obj → (AV → List Obj → Prop) → Prop} {n m : Nat}
structure FitsG (P : Program) (Gl : List (Nat × Go.Obj)) (f : FuncId) (C : GC) : Prop where
  has : HasBody P f
  mono : ∀ us og (K K' : AV → List Obj → Prop), (∀ r o', K r o' → K' r o') → C us og K → C us og K'
  ok : ∀ us og K, C us og K → ∀ ρ R w xs, HR Gl og ρ R w → ArgsR ρ og R w us xs →
    Calls P f xs w fun e w' => ∃ r x o' ρ' R', e = .returned x ∧ K r o' ∧ HR Gl o' ρ' R' w' ∧ TR ρ' o' R' w' r x ∧ og.length ≤ o'.length ∧ EK og.length og ρ R w o' ρ' R' w'
theorem fitsG_of_body (hT : TOk P TB) (hC : CallOk P Gl call) (hm : P.follows .mixedOrders = true) {f : FuncId} {fn : Func} (hf : FnOk P f fn) {C : GC} (hM : ∀ us og (K K' : AV → List Obj → Prop), (∀ r o', K r o' → K' r o') → C us og K → C us og K')
    (hb : ∀ us og K, C us og K → us.length ≤ fn.ntmps ∧ bodyP TB call (Dr TB call) og.length fn us og K) : FitsG P Gl f C :=
  ⟨hf.has, hM, fun us og K h _ρ _R _w _xs hh ha => body_sound hT hC hm hf (hb us og K h).2 hh ha (Nat.le_refl _) (hb us og K h).1⟩

theorem wk_HR {π : List (Option Nat)} {fz : List Nat} (hh : HR Gl o ρ R w) (hN : wkN fz π = true) (hO : wkO π fz o π og) : HR Gl og (ρw ρ π) (Rw R ρ fz) w := by
  have hl := wkO_len hO
  have inv : ∀ {j b}, ρw ρ π j = some b → ∃ id, π[j]? = some (some id) ∧ ρ id = some b := by
    intro j b h
    unfold ρw at h
    split at h
    · rename_i id e; exact ⟨id, e, h⟩
    · cases h
  refine ⟨?_, ?_, ?_, ?_, ?_, ?_⟩
  · intro j b h
    obtain ⟨id, e, _⟩ := inv h
    rw [← hl]
    exact lt_of_get e
  · intro j b h
    obtain ⟨id, _, h⟩ := inv h
    exact hh.lt id b h
  · intro i j b h1 h2
    obtain ⟨id1, e1, h1⟩ := inv h1
    obtain ⟨id2, e2, h2⟩ := inv h2
    have := hh.inj id1 id2 b h1 h2
    subst this
    exact wkN_once hN e1 e2
  · intro b hb
    rcases hb with hb | ⟨k, hk, hb⟩
    · refine ⟨(hh.ro b hb).1, fun j h => ?_⟩
      obtain ⟨id, _, h⟩ := inv h
      exact (hh.ro b hb).2 id h
    · refine ⟨hh.lt k b hb, fun j h => ?_⟩
      obtain ⟨id, e, h⟩ := inv h
      have := hh.inj id k b h hb
      subst this
      rw [wkN_fz hN e] at hk
      cases hk
  · intro j ob h
    have hj : j < π.length := by rw [hl]; exact lt_of_get h
    have hk := wkO_get hO (List.getElem?_eq_getElem hj) h
    cases hp : π[j] with
    | none =>
      rw [hp] at hk
      obtain ⟨s, f, rfl⟩ := hk
      refine .inl ⟨rfl, ?_⟩
      unfold ρw
      rw [List.getElem?_eq_getElem hj, hp]
    | some id =>
      rw [hp] at hk
      have hr : ρw ρ π j = ρ id := ρw_is (by rw [List.getElem?_eq_getElem hj, hp])
      unfold wk1 at hk
      simp only at hk
      split at hk
      · rename_i cs ds e
        obtain ⟨b, xs, ty, h1, h2, h3, h4⟩ := hh.obj id _ e
        obtain ⟨g1, g2, g3⟩ := rvL_VR hh hl cs ds hk
        exact ⟨b, xs, ty, hr.trans h1, h2, h3.trans g1.symm, fun i hi => ⟨beneathL_iff.1 g3 _ (getD_mem hi), fun _ => g2 i hi _ (h4 i (g1 ▸ hi))⟩⟩
      · rename_i s m f sz k g e
        obtain ⟨rfl, rfl, he⟩ := hk
        rcases hh.obj id _ e with ⟨h1, h2⟩ | ⟨b, xs, ty, h1, h2, h3, h4, h5⟩
        · exact .inl ⟨h1, hr.trans h2⟩
        · exact .inr ⟨b, xs, ty, hr.trans h1, h2, h3, fun i hi => by rw [he i hi]; exact h4 i hi, fun i hi q hq => by rw [he i hi]; exact (h5 i hi q hq).rw⟩
      · exact hk.elim
  · exact fun p hp => ⟨.inl (hh.gl p hp).1, (hh.gl p hp).2⟩

theorem scaR_DR {v : AV} {x : Value} (h : DR R w v x) (hs : scaR v = true) {Q : Nat → Prop} {w2 : World} : DR Q w2 v x := by
  cases h with
  | sl0 => cases hs
  | sl => cases hs
  | ro => cases hs
  | undef _ h => exact .undef _ h
  | int => exact .int _ _
  | bool => exact .bool _
  | str => exact .str _
  | nils => exact .nils _
  | nilp => exact .nilp
  | nilf => exact .nilf
  | nili => exact .nili

/-! ### The numbers -/
variable {s : List Nat}
theorem putO_len (ν : Nat → Nat) : ∀ (s : List Nat) (o p : List Obj), (putO ν o s p).length = o.length
  | [], o, p => by cases p <;> rfl
  | id :: s, o, [] => rfl
  | id :: s, o, x :: p => by rw [putO, putO_len ν s]; simp
theorem putO_other (ν : Nat → Nat) : ∀ (s : List Nat) (o p : List Obj) (id : Nat), id ∉ s → (putO ν o s p)[id]? = o[id]?
  | [], o, p, id, _ => by cases p <;> rfl
  | k :: s, o, [], id, _ => rfl
  | k :: s, o, x :: p, id, h => by
    simp only [List.mem_cons, not_or] at h
    rw [putO, putO_other ν s _ p id h.2, List.getElem?_set_ne (Ne.symm h.1)]
theorem putO_at (ν : Nat → Nat) : ∀ (s : List Nat) (o p : List Obj) (j id : Nat), s.Nodup → (∀ i ∈ s, i < o.length) → s[j]? = some id → s.length ≤ p.length → (putO ν o s p)[id]? = p[j]?.map (rnO ν)
  | [], o, p, j, id, _, _, h, _ => by simp at h
  | k :: s, o, [], j, id, _, _, _, h => by simp at h
  | k :: s, o, x :: p, j, id, hn, hlt, hj, hl => by
    rw [List.nodup_cons] at hn
    rw [putO]
    cases j with
    | zero =>
      simp at hj
      subst hj
      rw [putO_other ν s _ p _ hn.1]
      have := hlt k List.mem_cons_self
      simp [this]
    | succ j =>
      rw [putO_at ν s _ p j id hn.2 (fun i hi => by rw [List.length_set]; exact hlt i (List.mem_cons_of_mem _ hi)) (by simpa using hj) (by simpa using hl)]
      simp
theorem newO_eq (ν : Nat → Nat) : ∀ (s : List Nat) (p : List Obj), newO ν s p = (p.drop s.length).map (rnO ν)
  | [], p => by cases p <;> rfl
  | k :: s, [] => by simp [newO]
  | k :: s, x :: p => by rw [newO, newO_eq ν s p]; simp
structure Num (s : List Nat) (o p : List Obj) : Prop where
  nd : s.Nodup
  lt : ∀ i ∈ s, i < o.length
  le : s.length ≤ p.length
theorem Num.len (_h : Num s o p) : (mrg s o p).length = o.length + (p.length - s.length) := by
  unfold mrg
  rw [List.length_append, putO_len, newO_eq, List.length_map, List.length_drop]
theorem Num.other (_h : Num s o p) {id : Nat} (h1 : id < o.length) (h2 : id ∉ s) : (mrg s o p)[id]? = o[id]? := by
  unfold mrg
  rw [List.getElem?_append_left (by rw [putO_len]; exact h1), putO_other _ _ _ _ _ h2]
theorem Num.at (h : Num s o p) (j : Nat) : (mrg s o p)[outN s o.length j]? = p[j]?.map (rnO (outN s o.length)) := by
  unfold outN mrg
  cases e : s[j]? with
  | some id =>
    have hid := h.lt id (List.mem_of_getElem? e)
    simp only
    rw [List.getElem?_append_left (by rw [putO_len]; exact hid)]
    exact putO_at _ _ _ _ _ _ h.nd h.lt e h.le
  | none =>
    have hj : s.length ≤ j := List.getElem?_eq_none_iff.1 e
    simp only
    rw [List.getElem?_append_right (by rw [putO_len]; omega), putO_len, newO_eq, List.getElem?_map, List.getElem?_drop]
    rw [show s.length + (o.length + (j - s.length) - o.length) = j by omega]
    rfl
/-- The inverse. -/
def ρout (s : List Nat) (n : Nat) (ρ ρ' : Nat → Option Nat) : Nat → Option Nat := fun id => if id ∈ s then ρ' (s.idxOf id) else if id < n then ρ id else ρ' (id - n + s.length)
theorem Num.ρat (h : Num s o p) {ρ' : Nat → Option Nat} (j : Nat) : ρout s o.length ρ ρ' (outN s o.length j) = ρ' j := by
  unfold outN
  cases e : s[j]? with
  | some id =>
    simp only
    have hm : id ∈ s := List.mem_of_getElem? e
    unfold ρout
    rw [if_pos hm]
    obtain ⟨hj, rfl⟩ := List.getElem?_eq_some_iff.1 e
    rw [h.nd.idxOf_getElem]
  | none =>
    simp only
    have hj : s.length ≤ j := List.getElem?_eq_none_iff.1 e
    unfold ρout
    rw [if_neg (fun q => by have := h.lt _ q; omega), if_neg (by omega), show o.length + (j - s.length) - o.length + s.length = j by omega]
theorem Num.ρother {ρ' : Nat → Option Nat} {id n : Nat} (h1 : id < n) (h2 : id ∉ s) : ρout s n ρ ρ' id = ρ id := by
  unfold ρout
  rw [if_neg h2, if_pos h1]
theorem Num.cases (_h : Num s o p) (id : Nat) : (∃ j, id = outN s o.length j ∧ (id < o.length → s[j]? = some id)) ∨ (id < o.length ∧ id ∉ s) := by
  by_cases hm : id ∈ s
  · obtain ⟨j, hj, e⟩ := List.mem_iff_getElem.1 hm
    have e2 : s[j]? = some id := by rw [List.getElem?_eq_getElem hj, e]
    exact .inl ⟨j, by unfold outN; rw [e2], fun _ => e2⟩
  · by_cases hl : id < o.length
    · exact .inr ⟨hl, hm⟩
    · refine .inl ⟨id - o.length + s.length, ?_, fun q => absurd q hl⟩
      unfold outN
      rw [List.getElem?_eq_none (by omega)]
      simp only
      omega
mutual
theorem rn_live (h : Num s o p) : ∀ v : AV, live (mrg s o p) (rnV (outN s o.length) v) = live p v
  | .row id z a b => by
    simp only [rnV, live, h.at]
    cases p[id]? with
    | none => rfl
    | some ob => cases ob <;> rfl
  | .ptr id a => by
    simp only [rnV, live, h.at]
    cases p[id]? with
    | none => rfl
    | some ob => cases ob <;> rfl
  | .eptr id z a b => by
    simp only [rnV, live, h.at]
    cases p[id]? with
    | none => rfl
    | some ob => cases ob <;> rfl
  | .agg l => by simp only [rnV, live, rn_liveL h l]
  | .tup l => by simp only [rnV, live, rn_liveL h l]
  | .fn f l m => by simp only [rnV, live, rn_liveL h l, rn_liveL h m]
  | .undef | .int _ _ | .bool _ | .str _ | .sl _ _ _ | .ro _ | .nils | .nilp | .nilf | .nili => rfl
theorem rn_liveL (h : Num s o p) : ∀ l : List AV, liveL (mrg s o p) (rnL (outN s o.length) l) = liveL p l
  | [] => rfl
  | v :: r => by simp only [rnL, liveL, rn_live h v, rn_liveL h r]
end
theorem Num.lt' (h : Num s o p) {id : Nat} (hid : id < p.length) : outN s o.length id < (mrg s o p).length := by
  rw [h.len]
  unfold outN
  cases e : s[id]? with
  | some k => have := h.lt k (List.mem_of_getElem? e); simp only; omega
  | none => have := List.getElem?_eq_none_iff.1 e; have := h.le; simp only; omega
mutual
theorem rn_be (h : Num s o p) : ∀ v : AV, beneath p.length v = true → beneath (mrg s o p).length (rnV (outN s o.length) v) = true
  | .row id z a b, hb => by simp only [rnV, beneath, decide_eq_true_eq] at hb ⊢; exact h.lt' hb
  | .ptr id a, hb => by simp only [rnV, beneath, decide_eq_true_eq] at hb ⊢; exact h.lt' hb
  | .eptr id z a b, hb => by simp only [rnV, beneath, decide_eq_true_eq] at hb ⊢; exact h.lt' hb
  | .agg l, hb => by simp only [rnV, beneath] at hb ⊢; exact rn_beL h l hb
  | .tup l, hb => by simp only [rnV, beneath] at hb ⊢; exact rn_beL h l hb
  | .fn f l m, hb => by
    simp only [rnV, beneath, Bool.and_eq_true] at hb ⊢
    exact ⟨rn_beL h l hb.1, rn_beL h m hb.2⟩
  | .undef, _ | .int _ _, _ | .bool _, _ | .str _, _ | .sl _ _ _, _ | .ro _, _ | .nils, _ | .nilp, _ | .nilf, _ | .nili, _ => rfl
theorem rn_beL (h : Num s o p) : ∀ l : List AV, beneathL p.length l = true → beneathL (mrg s o p).length (rnL (outN s o.length) l) = true
  | [], _ => rfl
  | v :: r, hb => by
    simp only [rnL, beneathL, Bool.and_eq_true] at hb ⊢
    exact ⟨rn_be h v hb.1, rn_beL h r hb.2⟩
end
theorem rnV_scal {v : AV} {x : Value} {ν : Nat → Nat} (h : DR R w v x) : rnV ν v = v := by cases h <;> rfl
theorem rnL_getD {ν : Nat → Nat} {l : List AV} {j : Nat} : (rnL ν l).getD j .undef = rnV ν (l.getD j .undef) := by
  rw [rnL_map]
  simp only [List.getD_eq_getElem?_getD, List.getElem?_map]
  cases l[j]? <;> rfl
theorem scaR_getD {l : List AV} (h : scaL l = true) (j : Nat) : scaR (l.getD j .undef) = true := by
  by_cases hj : j < l.length
  · exact scaL_iff.1 h _ (getD_mem hj)
  · rw [List.getD_eq_getElem?_getD, List.getElem?_eq_none (by omega)]; rfl
/-- A value, by other numbers. -/
theorem rn_VR {ρ1 ρ2 : Nat → Option Nat} {ν : Nat → Nat} {R1 R2 : Nat → Prop} (hρ : ∀ j, ρ2 (ν j) = ρ1 j) {v : AV} {x : Value} (h : VR ρ1 R1 w v x) : ((∀ b, R1 b → R2 b) ∨ scaR v = true) → VR ρ2 R2 w (rnV ν v) x := by
  induction h with
  | data h =>
    intro hs
    rw [rnV_scal h]
    rcases hs with hs | hs
    · exact .data (h.go hs fun _ _ => rfl)
    · exact .data (scaR_DR h hs)
  | undef x => exact fun _ => .undef x
  | row h1 h2 h3 h4 => exact fun _ => .row ((hρ _).trans h1) h2 h3 h4
  | row0 id sz off a => exact fun _ => .row0 _ _ _ _
  | ptr h1 => exact fun _ => .ptr ((hρ _).trans h1)
  | eptr h1 => exact fun _ => .eptr ((hρ _).trans h1)
  | agg l xs h1 _ ih =>
    intro hs
    refine .agg _ xs (by rw [rnL_map, List.length_map]; exact h1) fun j hj => ?_
    rw [rnL_getD]
    exact ih j (by rwa [rnL_map, List.length_map] at hj) (hs.imp id fun h => scaR_getD (by simpa only [scaR] using h) j)
  | tup l xs h1 _ ih =>
    intro hs
    refine .tup _ xs (by rw [rnL_map, List.length_map]; exact h1) fun j hj => ?_
    rw [rnL_getD]
    exact ih j (by rwa [rnL_map, List.length_map] at hj) (hs.imp id fun h => scaR_getD (by simpa only [scaR] using h) j)
  | fn f l m xs ys h1 _ h3 _ ih1 ih2 =>
    intro hs
    have hs1 : (∀ b, R1 b → R2 b) ∨ (scaL l = true ∧ scaL m = true) := hs.imp id fun h => by simpa only [scaR, Bool.and_eq_true] using h
    refine .fn f _ _ xs ys (by rw [rnL_map, List.length_map]; exact h1) (fun j hj => ?_) (by rw [rnL_map, List.length_map]; exact h3) fun j hj => ?_
    · rw [rnL_getD]
      exact ih1 j (by rwa [rnL_map, List.length_map] at hj) (hs1.imp id fun h => scaR_getD h.1 j)
    · rw [rnL_getD]
      exact ih2 j (by rwa [rnL_map, List.length_map] at hj) (hs1.imp id fun h => scaR_getD h.2 j)
def sca1 : Obj → Prop
  | .box cs => scaL cs = true
  | .row _ n f => ∀ i, i < n → scaL (f i) = true
  | .dead => True
theorem scaO_get : ∀ {p : List Obj}, scaO p → ∀ {j : Nat} {ob : Obj}, p[j]? = some ob → sca1 ob
  | [], _, j, ob, h => by simp at h
  | x :: r, hs, 0, ob, h => by
    simp at h
    subst h
    cases x with
    | box cs => exact hs.1
    | row s n f => exact hs.1
    | dead => trivial
  | x :: r, hs, j + 1, ob, h => by
    have hr : scaO r := by cases x <;> first | exact hs.2 | exact hs
    exact scaO_get hr (by simpa using h)
/-- WHAT A CALL DID WITH THE OBJECTS THAT IT WAS HANDED, IN THE CALLER'S NUMBERS. -/
theorem call_back {fz : List Nat} (hh : HR Gl o ρ R w) (hN : wkN fz (s.map some) = true) (hO : wkO (s.map some) fz o (s.map some) og) {ρ' : Nat → Option Nat} {r : AV} {x : Value} (hp : HR Gl p ρ' R' w') (hr : TR ρ' p R' w' r x) (hle : og.length ≤ p.length)
    (hx : EK og.length og (ρw ρ (s.map some)) (Rw R ρ fz) w p ρ' R' w') (hz : fz = [] ∨ (scaR r = true ∧ scaO p)) : ∃ ρf Rf, HR Gl (mrg s o p) ρf Rf w' ∧ TR ρf (mrg s o p) Rf w' (rnV (outN s o.length) r) x ∧ EX o ρ R w (mrg s o p) ρf Rf w' := by
  have hl : s.length = og.length := by have := wkO_len hO; rwa [List.length_map] at this
  have sget : ∀ {j id : Nat}, s[j]? = some id → (s.map some)[j]? = some (some id) := fun h => by rw [List.getElem?_map, h]; rfl
  have num : Num s o p := by
    refine ⟨?_, fun i hi => ?_, by rw [hl]; exact hle⟩
    · refine List.pairwise_iff_getElem.2 fun i j hi hj hij e => ?_
      have h1 : s[i]? = some s[i] := List.getElem?_eq_getElem hi
      have h2 : s[j]? = some s[i] := by rw [List.getElem?_eq_getElem hj, e]
      have := wkN_once hN (sget h1) (sget h2)
      omega
    · obtain ⟨j, hj, rfl⟩ := List.mem_iff_getElem.1 hi
      have h1 : s[j]? = some s[j] := List.getElem?_eq_getElem hj
      obtain ⟨x, hx⟩ : ∃ x, og[j]? = some x := ⟨_, List.getElem?_eq_getElem (by omega)⟩
      have hk := wkO_get hO (sget h1) hx
      unfold wk1 at hk
      simp only at hk
      split at hk
      · rename_i e; exact lt_of_get e
      · rename_i e; exact lt_of_get e
      · exact hk.elim
  have sub : ∀ {j b : Nat}, ρw ρ (s.map some) j = some b → ∃ id, s[j]? = some id ∧ ρ id = some b := by
    intro j b h
    unfold ρw at h
    split at h
    · rename_i id e
      rw [List.getElem?_map] at e
      cases e2 : s[j]? with
      | none => rw [e2] at e; simp at e
      | some k =>
        rw [e2] at e
        simp at e
        subst e
        exact ⟨k, rfl, h⟩
    · cases h
  have keep : ∀ {b : Nat}, b < w.heap.size → (∀ id ∈ s, ρ id ≠ some b) → w'.heap[b]? = w.heap[b]? := fun hb hn => hx.same _ hb fun j hj => by
    obtain ⟨id, h1, h2⟩ := sub hj
    exact hn id (List.mem_of_getElem? h1) h2
  obtain ⟨Rf, hRf, hR1, hR2, hR3⟩ : ∃ Rf : Nat → Prop, ((∀ b, R' b → Rf b) ∨ (scaR r = true ∧ scaO p)) ∧ (∀ b, R b → Rf b) ∧ (∀ b, Rf b → R b ∨ (R' b ∧ (w.heap.size ≤ b ∨ ∃ id ∈ s, ρ id = some b))) ∧ (∀ b, Rf b → R' b) := by
    rcases hz with rfl | hz
    · refine ⟨R', .inl fun _ h => h, fun b hb => hx.rmono b (.inl hb), fun b hb => ?_, fun _ h => h⟩
      rcases hx.rnew b hb with (h | ⟨id, h, _⟩) | h | ⟨j, h⟩
      · exact .inl h
      · simp at h
      · exact .inr ⟨hb, .inl h⟩
      · obtain ⟨id, h1, h2⟩ := sub h
        exact .inr ⟨hb, .inr ⟨id, List.mem_of_getElem? h1, h2⟩⟩
    · exact ⟨R, .inr hz, fun _ h => h, fun b hb => .inl hb, fun b hb => hx.rmono b (.inl hb)⟩
  have hρ : ∀ j, ρout s o.length ρ ρ' (outN s o.length j) = ρ' j := num.ρat
  have old : ∀ {j b : Nat}, ρ' j = some b → w.heap.size ≤ b ∨ ∃ id ∈ s, ρ id = some b := fun h => by
    rcases hx.pnew _ _ h with h | ⟨j, h⟩
    · exact .inl h
    · obtain ⟨id, h1, h2⟩ := sub h
      exact .inr ⟨id, List.mem_of_getElem? h1, h2⟩
  have toTR : ∀ {v : AV} {y : Value}, TR ρ' p R' w' v y → ((∀ b, R' b → Rf b) ∨ scaR v = true) → TR (ρout s o.length ρ ρ') (mrg s o p) Rf w' (rnV (outN s o.length) v) y := fun h hs =>
    ⟨rn_be num _ h.be, fun hv => rn_VR hρ (h.vr (by rwa [rn_live num] at hv)) hs⟩
  have ex : EX o ρ R w (mrg s o p) (ρout s o.length ρ ρ') Rf w' := by
    refine ⟨by rw [num.len]; omega, fun id hid => ?_, hR1, fun b hb => ?_, fun id b hb => ?_, hx.size, fun b hb hn => keep hb fun id _ => hn id, hx.shape, hx.os, hx.tape, hx.output⟩
    · rcases num.cases id with ⟨j, e, hj⟩ | ⟨_, hn⟩
      · have hsj := hj hid
        have hjl : j < og.length := by rw [← hl]; exact lt_of_get hsj
        have hk := hx.keep j hjl
        have e1 : (mrg s o p)[id]? = p[j]?.map (rnO (outN s o.length)) := by rw [e]; exact num.at j
        have e2 : ρout s o.length ρ ρ' id = ρ' j := by rw [e]; exact hρ j
        have e3 : ρw ρ (s.map some) j = ρ id := ρw_is (sget hsj)
        obtain ⟨ob, hob⟩ : ∃ x, og[j]? = some x := ⟨_, List.getElem?_eq_getElem hjl⟩
        have hw := wkO_get hO (sget hsj) hob
        rw [e1, e2]
        cases hpj : p[j]? with
        | none => trivial
        | some q =>
          rw [hpj] at hk
          cases q with
          | box cs =>
            obtain ⟨⟨ds, hd⟩, hk⟩ := hk
            rw [hd] at hob
            cases hob
            unfold wk1 at hw
            simp only at hw
            split at hw
            · rename_i e4; exact ⟨⟨_, e4⟩, hk.trans e3⟩
            · rename_i e5 _; cases e5
            · exact hw.elim
          | row sz k f =>
            obtain ⟨⟨n', f', hd⟩, hk⟩ := hk
            rw [hd] at hob
            cases hob
            unfold wk1 at hw
            simp only at hw
            split at hw
            · rename_i e5 _; cases e5
            · rename_i e5 e4
              cases e5
              obtain ⟨rfl, _⟩ := hw
              exact ⟨⟨_, _, e4⟩, hk.trans e3⟩
            · exact hw.elim
          | dead => trivial
      · rw [num.other hid hn, Num.ρother hid hn]
        split
        · rename_i e; exact ⟨⟨_, e⟩, rfl⟩
        · rename_i e; exact ⟨⟨_, _, e⟩, rfl⟩
        · trivial
    · rcases hR2 b hb with h | ⟨_, h | ⟨id, _, h⟩⟩
      · exact .inl h
      · exact .inr (.inl h)
      · exact .inr (.inr ⟨id, h⟩)
    · rcases num.cases id with ⟨j, e, _⟩ | ⟨h1, hn⟩
      · rw [e, hρ j] at hb
        rcases old hb with h | ⟨i, _, h⟩
        · exact .inl h
        · exact .inr ⟨i, h⟩
      · rw [Num.ρother h1 hn] at hb
        exact .inr ⟨id, hb⟩
  refine ⟨ρout s o.length ρ ρ', Rf, ⟨fun id b hb => ?_, fun id b hb => ?_, fun i j b h1 h2 => ?_, fun b hb => ⟨?_, fun id hid => ?_⟩, fun id ob hob => ?_, fun q hq => ⟨hR1 _ (hh.gl q hq).1, ?_⟩⟩, toTR hr (hRf.imp id And.left), ex⟩
  · rcases num.cases id with ⟨j, e, _⟩ | ⟨h1, hn⟩
    · rw [e, hρ j] at hb
      rw [e]
      exact num.lt' (hp.dom j b hb)
    · rw [num.len]; omega
  · rcases num.cases id with ⟨j, e, _⟩ | ⟨h1, hn⟩
    · rw [e, hρ j] at hb
      exact hp.lt j b hb
    · rw [Num.ρother h1 hn] at hb
      exact Nat.lt_of_lt_of_le (hh.lt id b hb) hx.size
  · have mix : ∀ {j i : Nat}, ρ' j = some b → i < o.length → i ∉ s → ρ i = some b → False := fun h h1 h2 h3 => by
      rcases old h with h | ⟨k, hk, h⟩
      · have := hh.lt _ _ h3; omega
      · exact h2 (hh.inj _ _ _ h h3 ▸ hk)
    rcases num.cases i with ⟨a, ea, _⟩ | ⟨a1, a2⟩ <;> rcases num.cases j with ⟨c, ec, _⟩ | ⟨c1, c2⟩
    · rw [ea, hρ] at h1
      rw [ec, hρ] at h2
      rw [ea, ec, hp.inj a c b h1 h2]
    · rw [ea, hρ] at h1
      rw [Num.ρother c1 c2] at h2
      exact (mix h1 c1 c2 h2).elim
    · rw [ec, hρ] at h2
      rw [Num.ρother a1 a2] at h1
      exact (mix h2 a1 a2 h1).elim
    · rw [Num.ρother a1 a2] at h1
      rw [Num.ρother c1 c2] at h2
      exact hh.inj i j b h1 h2
  · exact (hp.ro b (hR3 b hb)).1
  · rcases num.cases id with ⟨j, e, _⟩ | ⟨h1, hn⟩
    · rw [e, hρ j] at hid
      exact (hp.ro b (hR3 b hb)).2 j hid
    · rw [Num.ρother h1 hn] at hid
      rcases hR2 b hb with h | ⟨_, h | ⟨i, hi, h⟩⟩
      · exact (hh.ro b h).2 id hid
      · have := hh.lt id b hid; omega
      · exact hn (hh.inj i id b h hid ▸ hi)
  · rcases num.cases id with ⟨j, e, _⟩ | ⟨h1, hn⟩
    · rw [e, num.at j] at hob
      cases hpj : p[j]? with
      | none => rw [hpj] at hob; cases hob
      | some q =>
        rw [hpj] at hob
        simp only [Option.map_some, Option.some.injEq] at hob
        subst hob
        have hq := hp.obj j q hpj
        have hsc : (∀ b, R' b → Rf b) ∨ sca1 q := hRf.imp (fun h => h) fun h => scaO_get h.2 hpj
        cases q with
        | box cs =>
          obtain ⟨b, xs, ty, g1, g2, g3, g4⟩ := hq
          refine ⟨b, xs, ty, by rw [e, hρ]; exact g1, g2, by rw [rnL_map, List.length_map]; exact g3, fun i hi => ?_⟩
          rw [rnL_getD]
          exact toTR (g4 i (by rwa [rnL_map, List.length_map] at hi)) (hsc.imp (fun h => h) fun h => scaR_getD h i)
        | row z k f =>
          rcases hq with ⟨g1, g2⟩ | ⟨b, xs, ty, g1, g2, g3, g4, g5⟩
          · exact .inl ⟨g1, by rw [e, hρ]; exact g2⟩
          · refine .inr ⟨b, xs, ty, by rw [e, hρ]; exact g1, g2, g3, g4, fun i hi a ha => ?_⟩
            rcases hsc with h | h
            · exact (g5 i hi a ha).go h fun _ _ => rfl
            · exact scaR_DR (g5 i hi a ha) (scaR_getD (h i hi) a)
        | dead => exact (by rw [e, hρ]; exact hq : ρout s o.length ρ ρ' id = none)
    · rw [num.other h1 hn] at hob
      refine (hh.obj id ob hob).go ex hh.ro (Num.ρother h1 hn) fun b hb => keep (hh.lt id b hb) fun i hi h => hn (hh.inj i id b h hb ▸ hi)
  · have hb := (hh.gl q hq).1
    rw [keep (hh.ro _ hb).1 fun i _ => (hh.ro _ hb).2 i]
    exact (hh.gl q hq).2
structure CK (P : Program) (Gl : List (Nat × Go.Obj)) (f : FuncId) (c : List AV → List Obj → (AV → List Obj → Prop) → Prop) : Prop where
  has : ∀ vs o K, c vs o K → HasBody P f
  ok : ∀ vs o K, c vs o K → ∀ ρ R w xs, HR Gl o ρ R w → ArgsR ρ o R w vs xs → Rets P Gl ρ o R w f xs K
  mono : ∀ vs o (K K' : AV → List Obj → Prop), (∀ r o', K r o' → K' r o') → c vs o K → c vs o K'
theorem asG_ok {f : FuncId} {C : GC} (hF : FitsG P Gl f C) : CK P Gl f (asG C) := by
  refine ⟨fun _ _ _ _ => hF.has, fun vs o K ⟨us, og, s, fz, hN, hA, hO, hC⟩ ρ R w xs hh ha => ?_, fun vs o K K' hk ⟨us, og, s, fz, hN, hA, hO, hC⟩ => ⟨us, og, s, fz, hN, hA, hO, hF.mono us og _ _ (fun r p h => ?_) hC⟩⟩
  · obtain ⟨g1, g2, g3⟩ := rvL_VR hh (wkO_len hO) us vs hA
    refine (hF.ok us og _ hC (ρw ρ (s.map some)) (Rw R ρ fz) w xs (wk_HR hh hN hO) ⟨ha.1.trans g1.symm, fun j hj => ⟨beneathL_iff.1 g3 _ (getD_mem hj), fun _ => g2 j hj _ (ha.2 j (g1 ▸ hj))⟩⟩).mono fun e w' he => ?_
    obtain ⟨r, x, p, ρ', R', rfl, hK, hp, hr, hle, hx⟩ := he
    unfold back at hK
    obtain ⟨hz, hK⟩ : (fz = [] ∨ (scaR r = true ∧ scaO p)) ∧ K (rnV (outN s o.length) r) (mrg s o p) := by
      cases fz with
      | nil => exact ⟨.inl rfl, hK⟩
      | cons a l => exact ⟨.inr hK.1.h, hK.2⟩
    obtain ⟨ρf, Rf, k1, k2, k3⟩ := call_back hh hN hO hp hr hle hx hz
    exact ⟨_, x, _, ρf, Rf, rfl, hK, k1, k2, k3⟩
  · unfold back at h ⊢
    cases fz with
    | nil => exact hk _ _ h
    | cons a l => exact ⟨h.1, hk _ _ h.2⟩
abbrev EnvG := List (FuncId × GC)
/-- Calls: by contracts of data; by contracts of local objects. -/
def callX (E : Env) : EnvG → FuncId → List AV → List Obj → (AV → List Obj → Prop) → Prop
  | [], f, vs, o, K => callE E f vs o K
  | (g, C) :: r, f, vs, o, K => cond (Nat.beq f g) (asG C vs o K) (callX E r f vs o K)
theorem callX_ok {E : Env} (hE : ∀ p, p ∈ E → Fits P Gl p.1 p.2) : ∀ {G : EnvG}, (∀ p, p ∈ G → FitsG P Gl p.1 p.2) → CallOk P Gl (callX E G)
  | [], _ => callE_ok hE
  | (g, C) :: r, hG => by
    have ih := callX_ok hE fun p hp => hG p (List.mem_cons_of_mem _ hp)
    have hF := asG_ok (hG (g, C) List.mem_cons_self)
    refine ⟨fun f vs o K h => ?_, fun f vs o K h => ?_, fun f vs o K K' hk h => ?_⟩
    · unfold callX at h
      cases e : Nat.beq f g with
      | true => rw [e] at h; rw [Nat.eq_of_beq_eq_true e]; exact hF.has vs o K h
      | false => rw [e] at h; exact ih.has _ _ _ _ h
    · unfold callX at h
      cases e : Nat.beq f g with
      | true => rw [e] at h; rw [Nat.eq_of_beq_eq_true e]; exact hF.ok vs o K h
      | false => rw [e] at h; exact ih.ok _ _ _ _ h
    · unfold callX at h ⊢
      cases e : Nat.beq f g with
      | true => rw [e] at h; exact hF.mono vs o K K' hk h
      | false => rw [e] at h; exact ih.mono _ _ _ _ _ hk h
/-- A contract: for each ghost, what it is handed, when, and what it leaves. -/
def conG {X : Type} (args : X → List AV) (objs : X → List Obj) (pre : X → Prop) (post : X → (AV → List Obj → Prop) → Prop) : GC := fun us og K => ∃ x, us = args x ∧ og = objs x ∧ Chk (pre x) ∧ post x K
/-- Ahead of a region: what is known may be told anew here. -/
structure WkS (m : Nat) (t : Fr) (o : List Obj) (F : Fr → List Obj → Prop) : Prop where
  h : Wk m t o F
theorem wk_at (id : Nat) {m k : Nat} {t : Fr} {o : List Obj} {reg : Array Oper → Fr → List Obj → (Fr → List Obj → Prop) → Prop} {ops : Array Oper} {d : Bool} {Q : Exit → Fr → List Obj → Prop} (h : WkS m t o (fun t o => pwp TB call reg k (.region id ops d) t o Q)) : Wk m t o (fun t o => pwp TB call reg k (.region id ops d) t o Q) := h.h
theorem wk_at1 (id : Nat) {m k : Nat} {t : Fr} {o : List Obj} {reg : Array Oper → Fr → List Obj → (Fr → List Obj → Prop) → Prop} {ops : Array Oper} {d : Bool} {c : Code} {Q : Exit → Fr → List Obj → Prop} (h : WkS m t o (fun t o => pwp TB call reg k (.seq (.region id ops d) c) t o Q)) : Wk m t o (fun t o => pwp TB call reg k (.seq (.region id ops d) c) t o Q) := h.h
theorem wk_at2 (id : Nat) {m k : Nat} {t : Fr} {o : List Obj} {reg : Array Oper → Fr → List Obj → (Fr → List Obj → Prop) → Prop} {ops : Array Oper} {d : Bool} {c c' : Code} {Q : Exit → Fr → List Obj → Prop} (h : WkS m t o (fun t o => pwp TB call reg k (.seq (.seq (.region id ops d) c) c') t o Q)) : Wk m t o (fun t o => pwp TB call reg k (.seq (.seq (.region id ops d) c) c') t o Q) := h.h
/-- What a body leaves, told anew. -/
def outG (m : Nat) (K : AV → List Obj → Prop) : AV → List Obj → Prop := fun r o => ∃ r2 o2 π fz, wkM m π 0 = true ∧ wkN fz π = true ∧ rv π fz o r2 r ∧ wkO π fz o π o2 ∧ K r2 o2
theorem fitsG {X : Type} {args : X → List AV} {objs : X → List Obj} {pre : X → Prop} {post : X → (AV → List Obj → Prop) → Prop} (hT : TOk P TB) (hC : CallOk P Gl call) (hm : P.follows .mixedOrders = true) {f : FuncId} {fn : Func} (hf : FnOk P f fn)
    (hM : ∀ x (K K' : AV → List Obj → Prop), (∀ r o', K r o' → K' r o') → post x K → post x K')
    (hb : ∀ x (K : AV → List Obj → Prop), pre x → post x K → (args x).length ≤ fn.ntmps ∧ bodyP TB call (Dr TB call) (objs x).length fn (args x) (objs x) (outG (objs x).length K)) : FitsG P Gl f (conG args objs pre post) := by
  refine ⟨hf.has, fun us og K K' hk ⟨x, h1, h2, h3, h4⟩ => ⟨x, h1, h2, h3, hM x K K' hk h4⟩, fun us og K ⟨x, h1, h2, h3, h4⟩ ρ R w xs hh ha => ?_⟩
  subst h1 h2
  obtain ⟨g1, g2⟩ := hb x K h3.h h4
  refine (body_sound hT hC hm hf g2 hh ha (Nat.le_refl _) g1).mono fun e w' he => ?_
  obtain ⟨r, v, o', ρ', R', rfl, ⟨r2, o2, π, fz, k1, k2, k3, k4, hK⟩, hh', hv, hl, hx⟩ := he
  have hs : SR Gl ρ' o' R' w' (upd (fun _ => .undef) 0 r) { tmps := #[v], defers := [] } 1 := by
    refine ⟨hh', fun j => ?_, rfl, rfl⟩
    cases j with
    | zero => exact hv
    | succ j => exact .undef
  have hW : WkTo (objs x).length (upd (fun _ => .undef) 0 r) o' [(0, r2)] o2 := ⟨π, fz, k1, k2, ⟨k3, trivial⟩, k4⟩
  obtain ⟨ρ2, R2, hs2, hx2⟩ := wk_sound hs hW
  exact ⟨r2, v, o2, ρ2, R2, rfl, hK, hs2.hh, hs2.hf 0, hW.len, hx.trans hx2⟩
end
end Go.Proofs.YtbbgojaloebknaaDoor.Vc
