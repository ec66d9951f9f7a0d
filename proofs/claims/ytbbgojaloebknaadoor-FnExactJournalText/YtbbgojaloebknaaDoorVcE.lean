/- Part E of the engine: loads, fields, structs built, arithmetic; and all reading operations together. -/
import Derived.Test.YtbbgojaloebknaaDoorVcD
namespace Go.Proofs.YtbbgojaloebknaaDoor.Vc
section
variable {P : Program} {TB : TypeId → TI} {ρ : Nat → Option Nat} {o : List Obj} {R : Nat → Prop} {w : World} {t : Fr} {a : Act} {Gl : List (Nat × Go.Obj)}

theorem add_zero (ad : Addr) : ad.add 0 = ad := by simp [Addr.add]
theorem take_getD {l : List AV} {n j : Nat} (h : j < n) : (l.take n).getD j .undef = l.getD j .undef := by
  rw [List.getD_eq_getElem?_getD, List.getD_eq_getElem?_getD, List.getElem?_take_of_lt h]
theorem beneathL_of {n : Nat} {l : List AV} (h : ∀ j, j < l.length → beneath n (l.getD j .undef) = true) : beneathL n l = true :=
  beneathL_iff.2 fun v hv => by
    obtain ⟨j, hj, e⟩ := List.getElem_of_mem hv
    have := h j hj
    rw [List.getD_eq_getElem?_getD, List.getElem?_eq_getElem hj] at this
    simpa [e] using this
theorem isAgg_struct (hT : TOk P TB) {ty : TypeId} {fs} (hk : (TB ty).k = .struct fs) (w : World) : (isAgg ty).run P w = .ok true w := by
  obtain ⟨F, hu, _⟩ := hT.struct hk
  simp [isAgg, run_underlying hu]
theorem isAgg_other (hT : TOk P TB) {ty : TypeId} (hb : (TB ty).k ≠ .bad) (hk : ∀ fs, (TB ty).k ≠ .struct fs) (w : World) : (isAgg ty).run P w = .ok false w := by
  obtain ⟨_, _, _, _, _, _, _, h1⟩ := hT.info hb
  unfold kOk at h1
  split at h1 <;> first | (rename_i e1 e2; simp [isAgg, run_underlying e2]; done) | skip
  · rename_i e1 _; exact absurd e1 (hk _)
  · cases h1
/-- A value of a type out of the cells at an address. -/
theorem loadV_run (hT : TOk P TB) {ty : TypeId} {cs : List AV} {ad : Addr} {g : Nat → Value} {K : AV → Prop} (hc : ∀ j, j < cs.length → w.cell? (ad.add j) = some (g j))
    (ht : ∀ j, j < cs.length → TR ρ o R w (cs.getD j .undef) (g j)) (h : loadV (TB ty) cs K) : ∃ v y, K v ∧ TR ρ o R w v y ∧ (loadVar ty ad).run P w = .ok y w := by
  unfold loadV at h
  have other : (TB ty).k ≠ .bad → (∀ fs, (TB ty).k ≠ .struct fs) → (∃ v r, cs = v :: r ∧ K v) → ∃ v y, K v ∧ TR ρ o R w v y ∧ (loadVar ty ad).run P w = .ok y w := by
    rintro hb hs ⟨v, r, rfl, hk⟩
    have h0 := hc 0 (by simp)
    rw [add_zero] at h0
    exact ⟨v, g 0, hk, ht 0 (by simp), by simp [loadVar, isAgg_other hT hb hs, load, Sem.run, h0]⟩
  split at h
  · rename_i fs hk
    obtain ⟨hn, h⟩ := of_cond_true h
    have hn := Nat.le_of_ble_eq_true hn
    have hl : (cs.take (TB ty).n).length = (TB ty).n := by rw [List.length_take]; omega
    refine ⟨_, .agg ((List.range (TB ty).n).map g).toArray, h, ⟨?_, fun hlv => .agg _ _ (by simp [hn]) fun j hj => ?_⟩, ?_⟩
    · simp only [beneath]
      exact beneathL_of fun j hj => by rw [hl] at hj; rw [take_getD hj]; exact (ht j (by omega)).be
    · have hm := getD_mem hj
      rw [hl] at hj
      rw [take_getD hj] at hm ⊢
      have e : (((List.range (TB ty).n).map g).toArray).getD j Go.undef = g j := by simp [Array.getD_eq_getD_getElem?, hj]
      rw [e]
      exact (ht j (by omega)).vr (liveL_iff.1 (by simpa [live] using hlv) _ hm)
    · have hl := run_loadCells_list (P := P) w ad ((List.range (TB ty).n).map g) (fun j v hv => by
        rw [List.getElem?_map] at hv
        by_cases hj : j < (TB ty).n
        · rw [List.getElem?_range hj] at hv
          simp at hv
          subst hv
          exact hc j (by omega)
        · rw [List.getElem?_eq_none (by simpa using hj)] at hv; simp at hv)
      rw [List.length_map, List.length_range] at hl
      simp [loadVar, isAgg_struct hT hk, sizeOf_run hT (nb_struct hk), hl]
  · exact h.elim
  · rename_i h1 h2
    refine other h2 (fun fs e => h1 fs e) ?_
    split at h
    · exact ⟨_, _, rfl, h⟩
    · exact h.elim
theorem cell_block {b off : Nat} {xs : Array Value} {ty : TypeId} (h : w.heap[b]? = some (.cells xs ty (0, 0))) (ho : off < xs.size) : w.cell? ⟨b, off, none⟩ = some (xs.getD off Go.undef) := by
  simp [World.cell?, h, Array.getD_eq_getD_getElem?, ho]
/-- The cells at an address: where they lie. -/
theorem cellsAt_mem (hh : HR Gl o ρ R w) {v : AV} {y : Value} (hv : TR ρ o R w v y) {cs : List AV} (h : cellsAt o v = some cs) :
    ∃ (ad : Addr) (g : Nat → Value), y = .pointer (some ad) ∧ (∀ j, j < cs.length → w.cell? (ad.add j) = some (g j)) ∧ ∀ j, j < cs.length → TR ρ o R w (cs.getD j .undef) (g j) := by
  unfold cellsAt at h
  split at h
  · rename_i ds
    injection h with h
    subst h
    obtain ⟨ad, g, e, _, h1, h2⟩ := hv.ro
    refine ⟨ad, g, e, h1, fun j hj => ⟨?_, fun _ => .data (h2 j hj)⟩⟩
    have := h2 j hj
    generalize ds.getD j .undef = u at this ⊢
    generalize g j = z at this
    cases this <;> rfl
  · rename_i id off
    split at h
    · rename_i ds e
      injection h with h
      subst h
      obtain ⟨b, e1, e2⟩ := hv.ptr e
      obtain ⟨b', xs, ty, e3, e4, e5, e6⟩ := hh.obj id _ e
      rw [e2] at e3
      injection e3 with e3
      subst e3
      refine ⟨⟨b, off, none⟩, fun j => xs.getD (off + j) Go.undef, e1, fun j hj => ?_, fun j hj => ?_⟩
      · rw [List.length_drop] at hj
        rw [Addr.add_mid]
        exact cell_block e4 (by omega)
      · rw [List.length_drop] at hj
        have := e6 (off + j) (by omega)
        rw [List.getD_eq_getElem?_getD, List.getElem?_drop, ← List.getD_eq_getElem?_getD]
        exact this
    · cases h
  · cases h
theorem DR_beneath {u : AV} {z : Value} (h : DR R w u z) (n : Nat) : beneath n u = true := by cases h <;> rfl
theorem DR_live {u : AV} {z : Value} (h : DR R w u z) : live o u = true := by cases h <;> rfl
theorem DR.tr {u : AV} {z : Value} (h : DR R w u z) : TR ρ o R w u z := ⟨DR_beneath h _, fun _ => .data h⟩
theorem y_load (hT : TOk P TB) (hh : HR Gl o ρ R w) (hf : FR ρ o R w t a) {ty : TypeId} {x : Operand} {K : AV → Prop} (h : rdP TB (.load ty x) t o K) : Yields P ρ o R w a (.load ty x) K := by
  simp only [rdP] at h
  split at h
  · rename_i id sz i off e
    split at h
    · rename_i s n f eo
      obtain ⟨⟨hi⟩, h⟩ := h
      obtain ⟨hb, hL⟩ := of_cond_true h
      clear h
      have hs := Nat.eq_of_beq_eq_true hb
      subst hs
      obtain ⟨b, e1, e2⟩ := (hf.at e).eptr eo (Nat.beq_refl _)
      rcases hh.obj id _ eo with ⟨h0, _⟩ | ⟨b', xs, tz, e3, e4, e5, e6, e7⟩
      · omega
      · rw [e2] at e3
        injection e3 with e3
        subst e3
        have hl := e6 i hi
        obtain ⟨v, y, hK, hv, hr⟩ := loadV_run (cs := (f i).drop off) (ad := ⟨b, i * sz + off, none⟩) (w := w) (g := fun j => xs.getD (i * sz + (off + j)) Go.undef) (ρ := ρ) (o := o) (R := R) hT (fun j hj => by
            rw [List.length_drop] at hj
            rw [Addr.add_mid, Nat.add_assoc]
            refine cell_block e4 ?_
            have : (i + 1) * sz ≤ n * sz := Nat.mul_le_mul_right _ hi
            rw [Nat.add_mul] at this
            omega) (fun j hj => by
            rw [List.length_drop] at hj
            rw [List.getD_eq_getElem?_getD, List.getElem?_drop, ← List.getD_eq_getElem?_getD]
            exact (e7 i hi (off + j) (by omega)).tr) hL
        exact ⟨v, y, hK, hv, fun _ _ _ _ _ => by simp [execOp, e1, Instr.loadAt, Instr.sureAddr, hr]⟩
    · exact h.elim
  · split at h
    · rename_i cs ec
      obtain ⟨ad, g, e1, e2, e3⟩ := cellsAt_mem hh (hf.evv x) ec
      obtain ⟨v, y, hK, hv, hr⟩ := loadV_run hT e2 e3 h
      exact ⟨v, y, hK, hv, fun _ _ _ _ _ => by simp [execOp, e1, Instr.loadAt, Instr.sureAddr, hr]⟩
    · exact h.elim
theorem cells_VR {v : AV} {y : Value} (hk : cellOk o v = true) (h : VR ρ R w v y) : y.cells.size = v.cells.length ∧ ∀ j, j < v.cells.length → VR ρ R w (v.cells.getD j .undef) (y.cells.getD j Go.undef) := by
  have one : ∀ {v : AV} {y : Value}, v.cells = [v] → y.cells = #[y] → VR ρ R w v y → y.cells.size = v.cells.length ∧ ∀ j, j < v.cells.length → VR ρ R w (v.cells.getD j .undef) (y.cells.getD j Go.undef) := by
    intro v y e1 e2 h
    rw [e1, e2]
    refine ⟨rfl, fun j hj => ?_⟩
    have : j = 0 := by simpa using hj
    subst this
    exact h
  cases h with
  | data h => cases h with
    | undef => cases hk
    | _ => exact one rfl rfl (.data (by constructor <;> assumption))
  | undef => cases hk
  | row h1 h2 h3 h4 => exact one rfl rfl (.row h1 h2 h3 h4)
  | row0 => exact one rfl rfl (.row0 _ _ _ _)
  | ptr h1 => exact one rfl rfl (.ptr h1)
  | eptr h1 => exact one rfl rfl (.eptr h1)
  | agg l xs h1 h2 => exact ⟨h1, h2⟩
  | tup => cases hk
  | fn f l m xs ys h1 h2 h3 h4 => exact one rfl rfl (.fn f l m xs ys h1 h2 h3 h4)
theorem cellOk_live {v : AV} (hk : cellOk o v = true) : live o v = true := by
  unfold cellOk at hk
  split at hk
  · cases hk
  · cases hk
  · exact hk
/-- Cells, one by one. -/
def CR (ρ : Nat → Option Nat) (o : List Obj) (R : Nat → Prop) (w : World) (cs : List AV) (xs : Array Value) : Prop := xs.size = cs.length ∧ ∀ j, j < cs.length → TR ρ o R w (cs.getD j .undef) (xs.getD j Go.undef)
theorem cells_live {v : AV} (hk : live o v = true) : ∀ u ∈ v.cells, live o u = true := by
  unfold AV.cells
  split
  · exact liveL_iff.1 (by simpa [live] using hk)
  · intro u hu
    simp at hu
    subst hu
    exact hk
theorem cells_CR {v : AV} {y : Value} (hk : cellOk o v = true) (h : TR ρ o R w v y) : CR ρ o R w v.cells y.cells := by
  have hl := cellOk_live hk
  obtain ⟨h1, h2⟩ := cells_VR hk (h.vr hl)
  exact ⟨h1, fun j hj => .of (cells_live hl _ (getD_mem hj)) (h2 j hj)⟩
theorem setCells_length : ∀ (vs l : List AV) (off : Nat), (setCells l off vs).length = l.length
  | [], _, _ => rfl
  | v :: r, l, off => by simp [setCells, setCells_length r]
theorem setCells_getD : ∀ (vs l : List AV) (off j : Nat), off + vs.length ≤ l.length → (setCells l off vs).getD j .undef = if off ≤ j ∧ j < off + vs.length then vs.getD (j - off) .undef else l.getD j .undef
  | [], l, off, j, _ => by rw [if_neg (by simp only [List.length_nil]; omega)]; rfl
  | v :: r, l, off, j, h => by
    simp only [List.length_cons] at h
    rw [setCells, setCells_getD r _ _ _ (by rw [List.length_set]; omega)]
    simp only [List.length_cons]
    by_cases h1 : off + 1 ≤ j ∧ j < off + 1 + r.length
    · rw [if_pos h1, if_pos (by omega)]
      rw [show j - off = (j - (off + 1)) + 1 by omega, List.getD_cons_succ]
    · rw [if_neg h1]
      by_cases h2 : j = off
      · subst h2
        rw [if_pos (by omega), Nat.sub_self, List.getD_cons_zero, List.getD_eq_getElem?_getD, List.getElem?_set_self (by omega)]
        rfl
      · rw [if_neg (by omega), List.getD_eq_getElem?_getD, List.getElem?_set_ne (Ne.symm h2), ← List.getD_eq_getElem?_getD]
theorem fold_set : ∀ (vs : List Value) (k : Nat) (xs : Array Value) (off : Nat), ((vs.zipIdx k).foldl (fun cs (p : Value × Nat) => cs.setIfInBounds (off + p.2) p.1) xs).size = xs.size ∧
    ∀ j, off + k + vs.length ≤ xs.size → ((vs.zipIdx k).foldl (fun cs (p : Value × Nat) => cs.setIfInBounds (off + p.2) p.1) xs).getD j Go.undef = if off + k ≤ j ∧ j < off + k + vs.length then vs.getD (j - (off + k)) Go.undef else xs.getD j Go.undef
  | [], k, xs, off => ⟨rfl, fun j _ => by rw [if_neg (by simp only [List.length_nil]; omega)]; rfl⟩
  | v :: r, k, xs, off => by
    obtain ⟨h1, h2⟩ := fold_set r (k + 1) (xs.setIfInBounds (off + k) v) off
    rw [List.zipIdx_cons, List.foldl_cons]
    refine ⟨by rw [h1]; simp, fun j hj => ?_⟩
    simp only [List.length_cons] at hj
    rw [h2 j (by rw [Array.size_setIfInBounds]; omega)]
    simp only [List.length_cons]
    by_cases g1 : off + (k + 1) ≤ j ∧ j < off + (k + 1) + r.length
    · rw [if_pos g1, if_pos (by omega), show j - (off + k) = (j - (off + (k + 1))) + 1 by omega, List.getD_cons_succ]
    · rw [if_neg g1]
      by_cases g2 : j = off + k
      · subst g2
        rw [if_pos (by omega), Nat.sub_self, List.getD_cons_zero, Array.getD_eq_getD_getElem?, Array.getElem?_setIfInBounds_self_of_lt (by omega)]
        rfl
      · rw [if_neg (by omega), Array.getD_eq_getD_getElem?, Array.getElem?_setIfInBounds_ne (Ne.symm g2), ← Array.getD_eq_getD_getElem?]
theorem CR.set {cs vs : List AV} {xs ys : Array Value} {off : Nat} (h : CR ρ o R w cs xs) (k : CR ρ o R w vs ys) (hb : off + vs.length ≤ cs.length) :
    CR ρ o R w (setCells cs off vs) ((ys.toList.zipIdx).foldl (fun cs (p : Value × Nat) => cs.setIfInBounds (off + p.2) p.1) xs) := by
  have hy : ys.toList.length = vs.length := by rw [Array.length_toList]; exact k.1
  obtain ⟨h1, h2⟩ := fold_set ys.toList 0 xs off
  refine ⟨by rw [h1, setCells_length]; exact h.1, fun j hj => ?_⟩
  rw [setCells_length] at hj
  rw [setCells_getD _ _ _ _ hb, h2 j (by rw [h.1]; omega), hy]
  simp only [Nat.add_zero]
  by_cases g : off ≤ j ∧ j < off + vs.length
  · rw [if_pos g, if_pos g]
    have := k.2 (j - off) (by omega)
    have e : ys.toList.getD (j - off) Go.undef = ys.getD (j - off) Go.undef := by rw [Array.getD_eq_getD_getElem?, List.getD_eq_getElem?_getD, Array.getElem?_toList]
    rw [e]
    exact this
  · rw [if_neg g, if_neg g]
    exact h.2 j hj
theorem zOk_cons {c : AV} {r : List AV} {v : Value} {s : List Value} (h : DR R w c v) (k : s.length = r.length ∧ ∀ j, j < r.length → DR R w (r.getD j .undef) (s.getD j Go.undef)) :
    (v :: s).length = (c :: r).length ∧ ∀ j, j < (c :: r).length → DR R w ((c :: r).getD j .undef) ((v :: s).getD j Go.undef) :=
  ⟨by simp [k.1], fun j hj => by
    cases j with
    | zero => exact h
    | succ j => simpa using k.2 j (by simpa using hj)⟩
theorem zOk_CR : ∀ (cs : List AV) (vs : List Value), zOk cs vs = true → vs.length = cs.length ∧ ∀ j, j < cs.length → DR R w (cs.getD j .undef) (vs.getD j Go.undef) := by
  intro cs vs
  fun_induction zOk cs vs with
  | case1 => exact fun _ => ⟨rfl, fun j hj => by simp at hj⟩
  | case2 k n r j m s ih =>
    intro h
    rw [Bool.and_eq_true, decide_eq_true_eq] at h
    obtain ⟨⟨rfl, rfl⟩, h⟩ := h
    exact zOk_cons (.int _ _) (ih h)
  | case3 a r b s ih =>
    intro h
    rw [Bool.and_eq_true, decide_eq_true_eq] at h
    obtain ⟨rfl, h⟩ := h
    exact zOk_cons (.bool _) (ih h)
  | case4 a r b s ih =>
    intro h
    rw [Bool.and_eq_true, decide_eq_true_eq] at h
    obtain ⟨rfl, h⟩ := h
    exact zOk_cons (.str _) (ih h)
  | case5 r s ih => exact fun h => zOk_cons (.nils _) (ih h)
  | case6 r s ih => exact fun h => zOk_cons .nilp (ih h)
  | case7 r s ih => exact fun h => zOk_cons .nilf (ih h)
  | case8 r s ih => exact fun h => zOk_cons .nili (ih h)
  | case9 => exact fun h => by cases h
theorem zero_CR {cs : List AV} {z : Value} (h : zOk cs z.cells.toList = true) : CR ρ o R w cs z.cells := by
  obtain ⟨h1, h2⟩ := zOk_CR (R := R) (w := w) _ _ h
  refine ⟨by rw [← h1, Array.length_toList], fun j hj => ?_⟩
  have := h2 j hj
  rw [List.getD_eq_getElem?_getD (l := z.cells.toList), Array.getElem?_toList, ← Array.getD_eq_getD_getElem?] at this
  exact this.tr
end
end Go.Proofs.YtbbgojaloebknaaDoor.Vc
