/- Part D of the engine: each operation that only reads yields on the machine what the engine says. -/
import Derived.Test.YtbbgojaloebknaaDoorVcC
import Derived.Laws.BytesArg
namespace Go.Proofs.YtbbgojaloebknaaDoor.Vc
mutual
theorem live_beneath {o : List Obj} : ∀ v : AV, live o v = true → beneath o.length v = true
  | .row id sz off len, h => by
    simp only [live] at h
    simp only [beneath, decide_eq_true_eq]
    split at h
    · rename_i e; exact (List.getElem?_eq_some_iff.1 e).1
    · cases h
  | .ptr id off, h => by
    simp only [live] at h
    simp only [beneath, decide_eq_true_eq]
    split at h
    · rename_i e; exact (List.getElem?_eq_some_iff.1 e).1
    · cases h
  | .eptr id sz i off, h => by
    simp only [live] at h
    simp only [beneath, decide_eq_true_eq]
    split at h
    · rename_i e; exact (List.getElem?_eq_some_iff.1 e).1
    · cases h
  | .agg l, h => by simp only [live, beneath] at h ⊢; exact liveL_beneath l h
  | .tup l, h => by simp only [live, beneath] at h ⊢; exact liveL_beneath l h
  | .fn _ l k, h => by
    simp only [live, beneath, Bool.and_eq_true] at h ⊢
    exact ⟨liveL_beneath l h.1, liveL_beneath k h.2⟩
  | .undef, _ => rfl | .int .., _ => rfl | .bool _, _ => rfl | .str _, _ => rfl | .sl .., _ => rfl | .ro _, _ => rfl | .nils, _ => rfl | .nilp, _ => rfl | .nilf, _ => rfl | .nili, _ => rfl
theorem liveL_beneath {o : List Obj} : ∀ l : List AV, liveL o l = true → beneathL o.length l = true
  | [], _ => rfl
  | v :: r, h => by
    simp only [liveL, beneathL, Bool.and_eq_true] at h ⊢
    exact ⟨live_beneath v h.1, liveL_beneath r h.2⟩
end
theorem of_cond_true {b : Bool} {A : Prop} (h : cond b A False) : b = true ∧ A := by cases b with | true => exact ⟨rfl, h⟩ | false => exact h.elim
theorem of_cond_false {b : Bool} {A : Prop} (h : cond b False A) : b = false ∧ A := by cases b with | false => exact ⟨rfl, h⟩ | true => exact h.elim
theorem add_add (a : Addr) (i j : Nat) : (a.add i).add j = a.add (i + j) := by
  unfold Addr.add
  by_cases hi : i = 0 <;> by_cases hj : j = 0 <;> simp [hi, hj, Nat.add_assoc]
section
variable {P : Program} {TB : TypeId → TI} {ρ : Nat → Option Nat} {o : List Obj} {R : Nat → Prop} {w : World} {t : Fr} {a : Act} {Gl : List (Nat × Go.Obj)}
theorem TR.of {v : AV} {y : Value} (hl : live o v = true) (h : VR ρ R w v y) : TR ρ o R w v y := ⟨live_beneath v hl, fun _ => h⟩

/-- Operation op yields a value that K takes; the world stands. -/
def Yields (P : Program) (ρ : Nat → Option Nat) (o : List Obj) (R : Nat → Prop) (w : World) (a : Act) (op : Op) (K : AV → Prop) : Prop :=
  ∃ v y, K v ∧ TR ρ o R w v y ∧ ∀ (dst : Option Tmp) (ty : TypeId) (pos : String) (af : Array Edge) (g : Option (Nat × Bool)), (execOp a.eval ⟨dst, op, ty, pos, af, g⟩).run P w = .ok (.value y) w

theorem FR.at (hf : FR ρ o R w t a) {x : Operand} {v : AV} (e : ev t x = v) : TR ρ o R w v (a.eval x) := e ▸ hf.evv x

theorem y_move (hf : FR ρ o R w t a) {x : Operand} {K : AV → Prop} (h : K (ev t x)) : Yields P ρ o R w a (.move x) K := ⟨_, _, h, hf.evv x, fun _ _ _ _ _ => rfl⟩
theorem y_assign (hf : FR ρ o R w t a) {x : Operand} {K : AV → Prop} (h : K (ev t x)) : Yields P ρ o R w a (.assign x) K := ⟨_, _, h, hf.evv x, fun _ _ _ _ _ => rfl⟩
theorem y_pick (hf : FR ρ o R w t a) {c x y : Operand} {K : AV → Prop} (h : rdP TB (.pick c x y) t o K) : Yields P ρ o R w a (.pick c x y) K := by
  simp only [rdP] at h
  split at h
  · rename_i b hb
    have hc := (hf.at hb).bool
    cases b with
    | true => exact ⟨_, _, h.t rfl, hf.evv x, fun _ _ _ _ _ => by simp [execOp, hc, asBool]⟩
    | false => exact ⟨_, _, h.f rfl, hf.evv y, fun _ _ _ _ _ => by simp [execOp, hc, asBool]⟩
  · exact h.elim
theorem live_ptr {id off} (h : live o (.ptr id off) = true) : ∃ cs, o[id]? = some (.box cs) := by
  simp only [live] at h
  split at h
  · rename_i e; exact ⟨_, e⟩
  · cases h
theorem live_eptr {id sz i off} (h : live o (.eptr id sz i off) = true) : ∃ s n f, o[id]? = some (.row s n f) ∧ Nat.beq s sz = true := by
  simp only [live] at h
  split at h
  · rename_i e; exact ⟨_, _, _, e, h⟩
  · cases h
theorem live_row' {id sz off len} (h : live o (.row id sz off len) = true) : ∃ s n f, o[id]? = some (.row s n f) ∧ Nat.beq s sz = true := by
  simp only [live] at h
  split at h
  · rename_i e; exact ⟨_, _, _, e, h⟩
  · cases h
theorem y_nilCheck (hf : FR ρ o R w t a) {x : Operand} {K : AV → Prop} (h : rdP TB (.nilCheck x) t o K) : Yields P ρ o R w a (.nilCheck x) K := by
  simp only [rdP] at h
  split at h
  · rename_i i f e
    obtain ⟨hl, h⟩ := of_cond_true h
    obtain ⟨cs, e1⟩ := live_ptr hl
    have hx := hf.at e
    obtain ⟨b, e2, _⟩ := hx.ptr e1
    exact ⟨_, _, h, hx, fun _ _ _ _ _ => by simp [execOp, e2]⟩
  · rename_i cs e
    have hx := hf.at e
    obtain ⟨ad, g, e2, _⟩ := hx.ro
    exact ⟨_, _, h, hx, fun _ _ _ _ _ => by simp [execOp, e2]⟩
  · rename_i i sz j f e
    obtain ⟨hl, h⟩ := of_cond_true h
    obtain ⟨s, n, f, e1, e3⟩ := live_eptr hl
    have hx := hf.at e
    obtain ⟨b, e2, _⟩ := hx.eptr e1 e3
    exact ⟨_, _, h, hx, fun _ _ _ _ _ => by simp [execOp, e2]⟩
  · exact h.elim
theorem y_unOp (hf : FR ρ o R w t a) {u : UnOp} {ty : TypeId} {x : Operand} {K : AV → Prop} (h : rdP TB (.unOp u ty x) t o K) : Yields P ρ o R w a (.unOp u ty x) K := by
  cases u with
  | not =>
    simp only [rdP] at h
    split at h
    · rename_i b e
      exact ⟨_, _, h, .dat (.bool _), fun _ _ _ _ _ => by simp [execOp, (hf.at e).bool, Op.unary]⟩
    · exact h.elim
  | neg =>
    simp only [rdP] at h
    split at h
    · rename_i k n e
      exact ⟨_, _, h.el, .dat (.int _ _), fun _ _ _ _ _ => by simp [execOp, (hf.at e).int, Op.unary, Op.intArith]⟩
    · exact h.elim
  | _ => simp only [rdP] at h
theorem cell_block' {b off : Nat} {xs : Array Value} {ty : TypeId} (h : w.heap[b]? = some (.cells xs ty (0, 0))) (ho : off < xs.size) : w.cell? ⟨b, off, none⟩ = some (xs.getD off Go.undef) := by
  simp [World.cell?, h, Array.getD_eq_getD_getElem?, ho]
theorem strOf_nums (len : Nat) (f : Nat → List AV) (h : ∀ i, i < len → ∃ x, f i = [.int .u8 x]) : ∃ xs : List Int, xs.length = len ∧ strOfNums xs = strOf len f ∧ ∀ i, i < len → f i = [.int .u8 (xs.getD i 0)] := by
  refine ⟨(List.range len).map fun i => (match f i with | [.int _ n] => n | _ => 0), by simp, ?_, fun i hi => ?_⟩
  · unfold strOfNums strOf
    congr 2
    rw [List.map_map]
    refine List.map_congr_left fun i hi => ?_
    obtain ⟨x, hx⟩ := h i (by simpa using hi)
    simp [hx]
  · obtain ⟨x, hx⟩ := h i hi
    rw [hx]
    simp [List.getD_eq_getElem?_getD, hi, hx]
theorem y_convert (hT : TOk P TB) (hh : HR Gl o ρ R w) (hf : FR ρ o R w t a) {s d : TypeId} {x : Operand} {K : AV → Prop} (h : rdP TB (.convert s d x) t o K) : Yields P ρ o R w a (.convert s d x) K := by
  simp only [rdP] at h
  split at h
  · rename_i j k0 n k e1 e e2
    exact ⟨_, _, h.el, .dat (.int _ _), fun _ _ _ _ _ => by simp [execOp, (hf.at e).int, convert, run_underlying (hT.int e1), run_underlying (hT.int e2), Conv.intToInt]⟩
  · rename_i b e1 e e2
    exact ⟨_, _, h, .dat (.str _), fun _ _ _ _ _ => by simp [execOp, (hf.at e).str, convert, run_underlying (hT.str e1), run_underlying (hT.str e2)]⟩
  · rename_i e id sz off len e1 ex e2
    split at h
    · rename_i sz' n f eo
      split at h
      · rename_i e3
        obtain ⟨hs, hK⟩ := of_cond_true h
        obtain ⟨⟨h0, hn, hb⟩, hK⟩ := hK
        clear h
        rw [Bool.and_eq_true] at hs
        have hs1 := Nat.eq_of_beq_eq_true hs.2
        obtain ⟨xs, g1, g2, g3⟩ := strOf_nums len (fun i => f (off + i)) hb
        rcases (hf.at ex).row eo hs.1 with ⟨h1, _⟩ | ⟨b, cs, tz, cap, ey, hr, hc, h1, h2⟩
        · omega
        · rcases hh.obj id _ eo with ⟨h3, _⟩ | ⟨b', zs, tz', q1, q2, q3, q4, q5⟩
          · omega
          · rw [hr] at q1
            injection q1 with q1
            subst q1
            rw [hc] at q2
            injection q2 with q2
            injection q2 with q2 q6 q7
            subst q2
            subst hs1
            have hsz := Nat.eq_of_beq_eq_true hs.1
            subst hsz
            refine ⟨_, _, hK, .dat (.str _), fun _ _ _ _ _ => ?_⟩
            have := run_convert_bytes_arg (P := P) w s e (hT.slice e1).1 (hT.int e3) b (off * 1) len cap xs g1 (fun i hi => by
              have hd := q5 (off + i) (by omega) 0 (by omega)
              have h7 := g3 i hi
              rw [h7] at hd
              simp only [List.getD_cons_zero, Nat.mul_one, Nat.add_zero] at hd
              rw [Nat.mul_one, cell_block' hc (by omega)]
              congr 1
              generalize cs.getD (off + i) Go.undef = z at hd
              cases hd
              rfl) d (hT.str e2)
            simp only [execOp, ey]
            rw [← g2]
            simp only [Sem.run_bind, this]
            rfl
      · exact h.elim
    · exact h.elim
  · exact h.elim
theorem y_extract (hf : FR ρ o R w t a) {x : Operand} {i : Nat} {K : AV → Prop} (h : rdP TB (.extract x i) t o K) : Yields P ρ o R w a (.extract x i) K := by
  simp only [rdP] at h
  split at h
  · rename_i l e
    split at h
    · rename_i v ev
      obtain ⟨hl, h⟩ := of_cond_true h
      obtain ⟨xs, e1, e2, e3⟩ := (hf.at e).tup (by simpa [live] using hl)
      have hi := (List.getElem?_eq_some_iff.1 ev).1
      have h3 := e3 i hi
      have hv : l.getD i .undef = v := by rw [List.getD_eq_getElem?_getD, ev]; rfl
      rw [hv] at h3
      have hx : xs[i]? = some (xs.getD i Go.undef) := by
        rw [Array.getD_eq_getD_getElem?, Array.getElem?_eq_getElem (by omega)]; rfl
      exact ⟨v, _, h, .of (liveL_iff.1 hl _ (List.mem_of_getElem? ev)) h3, fun _ _ _ _ _ => by rw [show execOp a.eval _ = (do pure (Next.value (← Instr.extract (a.eval x) i)) : Sem Next) from rfl, e1]; simp only [Instr.extract]; rw [hx]; rfl⟩
    · exact h.elim
  · exact h.elim
theorem str_at {s : ByteArray} {n : Nat} (h : n < s.size) : s[n]? = some (s.data.getD n 0) := by
  rw [getElem?_pos s n h]
  congr 1
  show s.data[n] = _
  rw [Array.getD_eq_getD_getElem?, Array.getElem?_eq_getElem (by simpa using h)]
  rfl
theorem y_index (hT : TOk P TB) (hf : FR ρ o R w t a) {ty : TypeId} {x i : Operand} {K : AV → Prop} (h : rdP TB (.index ty x i) t o K) : Yields P ρ o R w a (.index ty x i) K := by
  simp only [rdP] at h
  split at h
  · rename_i s k n e1 e e2
    obtain ⟨⟨h1, h2⟩, h⟩ := h
    have hs := str_at (s := s) (n := n.toNat) (by omega)
    exact ⟨_, _, h, .dat (.int _ _), fun _ _ _ _ _ => by simp [execOp, (hf.at e).str, (hf.at e2).int, Instr.index, asIntOf, run_underlying (hT.str e1), h1, hs, bt]⟩
  · exact h.elim
theorem FR.list (hf : FR ρ o R w t a) (xs : Array Operand) (hl : liveL o (xs.toList.map (Vc.ev t)) = true) : (xs.map a.eval).size = (xs.toList.map (Vc.ev t)).length ∧ ∀ j, j < (xs.toList.map (Vc.ev t)).length → VR ρ R w ((xs.toList.map (Vc.ev t)).getD j .undef) ((xs.map a.eval).getD j Go.undef) := by
  refine ⟨by simp, fun j hj => ?_⟩
  have h1 : j < xs.size := by simpa using hj
  have e1 : (xs.toList.map (Vc.ev t)).getD j .undef = Vc.ev t xs[j] := by simp [List.getD_eq_getElem?_getD, h1]
  have e2 : (xs.map a.eval).getD j Go.undef = a.eval xs[j] := by simp [Array.getD_eq_getD_getElem?, h1]
  rw [e1, e2]
  exact (hf.evv _).vr (liveL_iff.1 hl _ (by rw [← e1]; exact getD_mem hj))
theorem y_makeFunc (hf : FR ρ o R w t a) {fn : Fn} {fs cs : Array Operand} {K : AV → Prop} (h : rdP TB (.makeFunc fn fs cs) t o K) : Yields P ρ o R w a (.makeFunc fn fs cs) K := by
  cases fn with
  | func f =>
    simp only [rdP] at h
    obtain ⟨hl, h⟩ := of_cond_true h
    have hl' := hl
    rw [Bool.and_eq_true] at hl
    obtain ⟨h1, h2⟩ := hf.list fs hl.1
    obtain ⟨h3, h4⟩ := hf.list cs hl.2
    exact ⟨_, .func (.func f) (fs.map a.eval) (cs.map a.eval), h, .of (by simpa [live] using hl') (.fn _ _ _ _ _ h1 h2 h3 h4), fun _ _ _ _ _ => by simp [execOp, Instr.makeFunc]⟩
  | _ => simp only [rdP] at h
theorem sizeOf_run (hT : TOk P TB) {ty : TypeId} (hb : (TB ty).k ≠ .bad) (w : World) : (sizeOf ty).run P w = .ok (TB ty).n w := by
  obtain ⟨i, z, h1, h2, _⟩ := hT.info hb
  simp [sizeOf, typeInfo, h1, h2]
theorem nb_slice {ti : TI} {e : TypeId} (h : ti.k = .slice e) : ti.k ≠ .bad := by rw [h]; simp
theorem nb_struct {ti : TI} {e} (h : ti.k = .struct e) : ti.k ≠ .bad := by rw [h]; simp
theorem y_fieldAddr (hT : TOk P TB) (hf : FR ρ o R w t a) {ty : TypeId} {x : Operand} {f : Nat} {K : AV → Prop} (h : rdP TB (.fieldAddr ty x f) t o K) : Yields P ρ o R w a (.fieldAddr ty x f) K := by
  simp only [rdP] at h
  split at h
  · rename_i fs e0
    split at h
    · rename_i off ft ef
      obtain ⟨hn, h⟩ := of_cond_false h
      obtain ⟨F, hu, hF, hb⟩ := hT.struct e0
      have hft : (TB ft).k ≠ .bad := hb _ (List.mem_of_getElem? ef)
      have hsz := sizeOf_run hT hft w
      have hn : (TB ft).n ≠ 0 := fun e => by rw [e] at hn; cases hn
      obtain ⟨fd, hfd, hfo, hty⟩ : ∃ fd : Field, F[f]? = some fd ∧ fd.offset = off ∧ fd.type = ft := by
        rw [← hF, List.getElem?_map] at ef
        cases e : F.toList[f]? with
        | none => rw [e] at ef; cases ef
        | some fd =>
          rw [e] at ef
          simp only [Option.map_some, Option.some.injEq, Prod.mk.injEq] at ef
          exact ⟨fd, by simpa using e, ef.1, ef.2⟩
      have key : ∀ ad : Addr, (Instr.fieldAt ty (.pointer (some ad)) f).run P w = .ok (.pointer (some (ad.add off))) w := by
        intro ad
        subst hty hfo
        simp [Instr.fieldAt, run_underlying hu, hfd, Instr.sureAddr, fieldPlace, hsz, hn]
      split at h
      · rename_i cs e
        have hx := hf.at e
        obtain ⟨ad, g, e2, hR, hc, hd⟩ := hx.ro
        refine ⟨_, .pointer (some (ad.add off)), h, .dat (.ro _ (ad.add off) (fun j => g (off + j)) (by rw [add_block]; exact hR) (fun j hj => ?_) (fun j hj => ?_)), fun _ _ _ _ _ => by simp [execOp, e2, key]⟩
        · rw [List.length_drop] at hj
          rw [add_add]
          exact hc _ (by omega)
        · rw [List.length_drop] at hj
          have := hd (off + j) (by omega)
          rw [List.getD_eq_getElem?_getD] at this ⊢
          rw [List.getElem?_drop]
          exact this
      · rename_i id p e
        obtain ⟨hl, h⟩ := of_cond_true h
        obtain ⟨cs, e1⟩ := live_ptr hl
        obtain ⟨b, e2, hr⟩ := (hf.at e).ptr e1
        exact ⟨_, _, h, .of (by simpa [live] using hl) (.ptr hr), fun _ _ _ _ _ => by simp [execOp, e2, key, Addr.add_mid]⟩
      · rename_i id sz i p e
        obtain ⟨hl, h⟩ := of_cond_true h
        obtain ⟨s, n, f', e1, e3⟩ := live_eptr hl
        obtain ⟨b, e2, hr⟩ := (hf.at e).eptr e1 e3
        exact ⟨_, _, h, .of (by simpa [live] using hl) (.eptr hr), fun _ _ _ _ _ => by simp [execOp, e2, key, Addr.add_mid, Nat.add_assoc]⟩
      · exact h.elim
    · exact h.elim
  · exact h.elim
theorem P_elem {ty e : TypeId} (h : P.underlying ty = some (.slice e)) : P.elem ty = e := by simp [Program.elem, h]
theorem y_indexAddr (hT : TOk P TB) (hf : FR ρ o R w t a) {ty : TypeId} {x i : Operand} {K : AV → Prop} (h : rdP TB (.indexAddr ty x i) t o K) : Yields P ρ o R w a (.indexAddr ty x i) K := by
  simp only [rdP] at h
  split at h
  · rename_i e e0
    obtain ⟨hu, hb⟩ := hT.slice e0
    have hsz := sizeOf_run hT hb w
    have key : ∀ (ad : Addr) (len cap : Nat) (k : IntKind) (n : Int), 0 ≤ n ∧ n < len → (Instr.indexAt ty (.slice (some ad) len cap) (.int k n)).run P w = .ok (.pointer (some (ad.add (n.toNat * (TB e).n)))) w := by
      intro ad len cap k n hn
      have hu' : P.underlying ty = some (.slice (P.elem ty)) := by rw [P_elem hu]; exact hu
      rw [run_indexAt_slice w ty ad len cap k n hu', if_pos hn, P_elem hu, hsz]
      rfl
    split at h
    · rename_i sz len f k n e1 e2
      obtain ⟨⟨hn⟩, h⟩ := h
      obtain ⟨hs, h⟩ := of_cond_true h
      obtain ⟨aa, c, ey, hd⟩ := (hf.at e1).sl
      rw [ey] at hd
      cases hd with
      | sl0 => omega
      | sl sz len f ad cap g h1 h2 h3 h4 h5 =>
        have hl : (f n.toNat).length = sz := h3 _ (by omega)
        have hz : sz = (TB e).n := Nat.eq_of_beq_eq_true hs
        refine ⟨_, .pointer (some (ad.add (n.toNat * (TB e).n))), h, .dat (.ro _ _ (g n.toNat) (by rw [add_block]; exact h2) (fun j hj => ?_) (fun j hj => ?_)), fun _ _ _ _ _ => by simp [execOp, ey, (hf.at e2).int, key _ _ _ _ _ hn]⟩
        · rw [add_add, ← hz]
          exact h4 _ (by omega) _ (by omega)
        · exact h5 _ (by omega) _ (by omega)
    · rename_i id sz off len k n e1 e2
      obtain ⟨⟨hn⟩, h⟩ := h
      obtain ⟨hs, h⟩ := of_cond_true h
      rw [Bool.and_eq_true] at hs
      obtain ⟨s, m, f, e3, e4⟩ := live_row' hs.2
      rcases (hf.at e1).row e3 e4 with ⟨h0, _⟩ | ⟨b, cs, tz, cap, ey, hr, hc, h1, h2⟩
      · omega
      · have hz := Nat.eq_of_beq_eq_true hs.1
        refine ⟨_, _, h, .of ?_ (.eptr hr), fun _ _ _ _ _ => by simp [execOp, ey, (hf.at e2).int, key _ _ _ _ _ hn, Addr.add_mid, ← hz, Nat.add_mul]⟩
        have := hs.2
        simpa [live] using this
    · exact h.elim
  · exact h.elim
theorem y_len (hT : TOk P TB) (hf : FR ρ o R w t a) {as : Array Operand} {ts : Array TypeId} {K : AV → Prop} (h : rdP TB (.call { callee := .builtin .len, args := as, argTypes := ts }) t o K) :
    Yields P ρ o R w a (.call { callee := .builtin .len, args := as, argTypes := ts }) K := by
  simp only [rdP] at h
  have one : ∀ {v : AV} {ty : TypeId}, as.toList.map (ev t) = [v] → ts.toList = [ty] → ∃ x, as = #[x] ∧ ts = #[ty] ∧ ev t x = v := by
    intro v ty h1 h2
    obtain ⟨l⟩ := as
    obtain ⟨m⟩ := ts
    simp only at h1 h2
    cases l with
    | nil => simp at h1
    | cons x r => cases r with
      | nil => simp at h1; subst h2; exact ⟨x, rfl, rfl, h1⟩
      | cons => simp at h1
  have sl : ∀ {x : Operand} {ty e : TypeId} {b n c} {y : Value}, (TB ty).k = .slice e → a.eval x = .slice b n c → ∀ (dst : Option Tmp) (tz : TypeId) (pos : String) (af : Array Edge) (g : Option (Nat × Bool)), (execOp a.eval ⟨dst, .call { callee := .builtin .len, args := #[x], argTypes := #[ty] }, tz, pos, af, g⟩).run P w = .ok (.value (.int .i64 n)) w := by
    intro x ty e b n c y he hx dst tz pos af g
    simp [execOp, resolve, invoke, builtin, Builtin.len_, run_underlying (hT.slice he).1, hx, goInt]
  split at h
  · rename_i s n f ty e1 e2
    obtain ⟨x, rfl, rfl, ex⟩ := one e1 e2
    split at h
    · rename_i e he
      obtain ⟨b, c, ey, _⟩ := (hf.at ex).sl
      exact ⟨_, _, h, .dat (.int _ _), sl (y := Go.undef) he ey⟩
    · exact h.elim
  · rename_i id sz off n ty e1 e2
    obtain ⟨x, rfl, rfl, ex⟩ := one e1 e2
    split at h
    · rename_i e he
      obtain ⟨hl, h⟩ := of_cond_true h
      obtain ⟨s, m, f, e3, e4⟩ := live_row' hl
      rcases (hf.at ex).row e3 e4 with ⟨h0, b, ey⟩ | ⟨b, cs, tz, cap, ey, _⟩
      · exact ⟨_, _, h, by rw [h0]; exact .dat (.int _ _), by rw [show ((0 : Nat) : Int) = ((0 : Nat) : Int) from rfl]; exact sl (y := Go.undef) he ey⟩
      · exact ⟨_, _, h, .dat (.int _ _), sl (y := Go.undef) he ey⟩
    · exact h.elim
  · rename_i ty e1 e2
    obtain ⟨x, rfl, rfl, ex⟩ := one e1 e2
    split at h
    · rename_i e he
      obtain ⟨b, ey⟩ := (hf.at ex).nils
      exact ⟨_, _, h, .dat (.int _ _), sl (y := Go.undef) he ey⟩
    · exact h.elim
  · rename_i b ty e1 e2
    obtain ⟨x, rfl, rfl, ex⟩ := one e1 e2
    split at h
    · rename_i he
      exact ⟨_, _, h, .dat (.int _ _), fun _ _ _ _ _ => by simp [execOp, resolve, invoke, builtin, Builtin.len_, run_underlying (hT.str he), (hf.at ex).str, goInt]⟩
    · exact h.elim
  · exact h.elim
theorem two_of_map {as : Array Operand} {v u : AV} (h : as.toList.map (ev t) = [v, u]) : ∃ x y, as = #[x, y] ∧ ev t x = v ∧ ev t y = u := by
  obtain ⟨l⟩ := as
  simp only at h
  cases l with
  | nil => simp at h
  | cons x r => cases r with
    | nil => simp at h
    | cons y r => cases r with
      | nil => simp at h; exact ⟨x, y, rfl, h.1, h.2⟩
      | cons => simp at h
theorem y_max (hf : FR ρ o R w t a) {as : Array Operand} {ts : Array TypeId} {K : AV → Prop} (h : rdP TB (.call { callee := .builtin .max, args := as, argTypes := ts }) t o K) :
    Yields P ρ o R w a (.call { callee := .builtin .max, args := as, argTypes := ts }) K := by
  simp only [rdP] at h
  split at h
  · rename_i k m j n e
    obtain ⟨x, y, rfl, e1, e2⟩ := two_of_map e
    exact ⟨_, _, h, .dat (.int _ _), fun _ _ _ _ _ => by simp [execOp, resolve, invoke, builtin, Builtin.max_, Builtin.max2, (hf.at e1).int, (hf.at e2).int]⟩
  · exact h.elim
theorem y_min (hf : FR ρ o R w t a) {as : Array Operand} {ts : Array TypeId} {K : AV → Prop} (h : rdP TB (.call { callee := .builtin .min, args := as, argTypes := ts }) t o K) :
    Yields P ρ o R w a (.call { callee := .builtin .min, args := as, argTypes := ts }) K := by
  simp only [rdP] at h
  split at h
  · rename_i k m j n e
    obtain ⟨x, y, rfl, e1, e2⟩ := two_of_map e
    exact ⟨_, _, h, .dat (.int _ _), fun _ _ _ _ _ => by simp [execOp, resolve, invoke, builtin, Builtin.min_, Builtin.min2, (hf.at e1).int, (hf.at e2).int]⟩
  · exact h.elim
theorem bound_run (hf : FR ρ o R w t a) {x : Option Operand} {d n : Int} (h : bound t x d = some n) : (x = none ∧ n = d) ∨ ∃ k, x.map a.eval = some (.int k n) := by
  unfold bound at h
  split at h
  · simp at h; exact .inl ⟨rfl, h.symm⟩
  · rename_i x
    split at h
    · rename_i k m e
      simp at h
      subst h
      exact .inr ⟨k, by simp [(hf.at e).int]⟩
    · cases h
theorem sliceBounds_run (hf : FR ρ o R w t a) {lo hi : Option Operand} {b : Bool} {len cap : Nat} {l h : Int} (hc : len ≤ cap) (h1 : bound t lo 0 = some l) (h2 : bound t hi len = some h) (h3 : 0 ≤ l ∧ l ≤ h ∧ h ≤ len) :
    (Instr.sliceBounds b len cap (lo.map a.eval) (hi.map a.eval) none).run P w = .ok (l.toNat, h.toNat, cap) w := by
  have sb : ∀ (k : IntKind) (n : Int) (y : Nat) (c : BoundsCode), 0 ≤ n → n ≤ y → (Instr.sliceBound (.int k n) y c).run P w = .ok n.toNat w := by
    intro k n y c g1 g2
    simp [Instr.sliceBound, asIntOf, g1, g2]
  rcases bound_run hf h1 with ⟨rfl, rfl⟩ | ⟨k, e1⟩ <;> rcases bound_run hf h2 with ⟨rfl, rfl⟩ | ⟨j, e2⟩
  · simp [Instr.sliceBounds]
  · rw [e2]
    simp [Instr.sliceBounds, sb j h cap _ (by omega) (by omega)]
  · rw [e1]
    simp [Instr.sliceBounds, sb k l len _ (by omega) (by omega)]
  · rw [e1, e2]
    simp [Instr.sliceBounds, sb j h cap _ (by omega) (by omega), sb k l h.toNat _ (by omega) (by omega)]
theorem y_slice (hT : TOk P TB) (hf : FR ρ o R w t a) {ty : TypeId} {x : Operand} {lo hi mx : Option Operand} {K : AV → Prop} (h : rdP TB (.slice ty x lo hi mx) t o K) : Yields P ρ o R w a (.slice ty x lo hi mx) K := by
  cases mx with
  | some _ => simp only [rdP] at h
  | none =>
    simp only [rdP] at h
    split at h
    · rename_i s e0 e1
      split at h
      · rename_i l u h1 h2
        obtain ⟨⟨h3⟩, h⟩ := h
        refine ⟨_, _, h, .dat (.str _), fun _ _ _ _ _ => ?_⟩
        simp [execOp, Instr.sliceAt, Instr.slice, run_underlying (hT.str e0), (hf.at e1).str, sliceBounds_run hf (Nat.le_refl _) h1 h2 h3]
      · exact h.elim
    · rename_i e sz n f e0 e1
      obtain ⟨hu, hb⟩ := hT.slice e0
      have hsz := sizeOf_run hT hb w
      split at h
      · rename_i l u h1 h2
        obtain ⟨⟨h3⟩, h⟩ := h
        obtain ⟨hs, h⟩ := of_cond_true h
        have hs := Nat.eq_of_beq_eq_true hs
        obtain ⟨aa, c, ey, hd⟩ := (hf.at e1).sl
        rw [ey] at hd
        have hnc : n ≤ c := by cases hd with
          | sl0 => omega
          | sl _ _ _ _ _ _ h1 => exact h1
        refine ⟨_, .slice (if c = l.toNat then aa else aa.map (·.add (l.toNat * (TB e).n))) (u.toNat - l.toNat) (c - l.toNat), h, .dat ?_, fun _ _ _ _ _ => ?_⟩
        · by_cases h0 : u.toNat - l.toNat = 0
          · rw [h0]; exact .sl0 _ _ _ _
          · cases hd with
            | sl0 => omega
            | sl sz len f ad cap g g1 g2 g3 g4 g5 =>
              rw [if_neg (by omega)]
              refine .sl _ _ _ (ad.add (l.toNat * (TB e).n)) _ (fun i j => g (l.toNat + i) j) (by omega) (by rw [add_block]; exact g2) (fun i hi => g3 _ (by omega)) (fun i hi j hj => ?_) (fun i hi j hj => g5 _ (by omega) _ hj)
              rw [add_add, ← hs, show l.toNat * sz + (i * sz + j) = (l.toNat + i) * sz + j by rw [Nat.add_mul]; omega]
              exact g4 _ (by omega) _ hj
        · simp [execOp, Instr.sliceAt, Instr.slice, run_underlying hu, ey, sliceBounds_run hf hnc h1 h2 h3, hsz]
      · exact h.elim
    · rename_i e id sz off n e0 e1
      obtain ⟨hu, hb⟩ := hT.slice e0
      have hsz := sizeOf_run hT hb w
      split at h
      · rename_i l u h1 h2
        obtain ⟨⟨h3⟩, h⟩ := h
        obtain ⟨hs, h⟩ := of_cond_true h
        rw [Bool.and_eq_true] at hs
        obtain ⟨hs, hl⟩ := hs
        have hs := Nat.eq_of_beq_eq_true hs
        obtain ⟨s, m, f, e3, e4⟩ := live_row' hl
        have hl' : live o (.row id sz (off + l.toNat) (u.toNat - l.toNat)) = true := by simpa [live] using hl
        rcases (hf.at e1).row e3 e4 with ⟨h0, aa, ey⟩ | ⟨b, cs, tz, c, ey, hr, hc, g1, g2⟩
        · have hl0 : l.toNat = 0 := by omega
          have hu0 : u.toNat = 0 := by omega
          refine ⟨_, .slice aa 0 0, h, .of hl' ?_, fun _ _ _ _ _ => ?_⟩
          · rw [hl0, hu0]; exact .row0 _ _ _ _
          · subst h0
            simp [execOp, Instr.sliceAt, Instr.slice, run_underlying hu, ey, sliceBounds_run hf (Nat.le_refl _) h1 h2 h3, hsz, hl0, hu0]
        · refine ⟨_, .slice (if c = l.toNat then some ⟨b, off * sz, none⟩ else some ⟨b, (off + l.toNat) * sz, none⟩) (u.toNat - l.toNat) (c - l.toNat), h, .of hl' ?_, fun _ _ _ _ _ => ?_⟩
          · by_cases hcl : c = l.toNat
            · rw [if_pos hcl, show u.toNat - l.toNat = 0 by omega, show c - l.toNat = 0 by omega]
              exact .row0 _ _ _ _
            · rw [if_neg hcl]
              exact .row hr hc (by omega) (by rw [show off + l.toNat + (c - l.toNat) = off + c by omega]; exact g2)
          · simp only [execOp, Instr.sliceAt, Instr.slice, Sem.run_bind, run_underlying hu, Result.andThen_ok, ey, sliceBounds_run hf g1 h1 h2 h3, Option.map_none, hsz, Sem.run_pure]
            by_cases hcl : c = l.toNat
            · simp [hcl]
            · simp [hcl, Addr.add_mid, ← hs, Nat.add_mul]
      · exact h.elim
    · exact h.elim
end
end Go.Proofs.YtbbgojaloebknaaDoor.Vc
