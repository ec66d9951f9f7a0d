/- Part K of the engine: append, the operation. -/
import Derived.Test.YtbbgojaloebknaaDoorVcJ
namespace Go.Proofs.YtbbgojaloebknaaDoor.Vc
section
variable {P : Program} {TB : TypeId → TI} {ρ : Nat → Option Nat} {o : List Obj} {R : Nat → Prop} {w : World} {t : Fr} {a : Act} {Gl : List (Nat × Go.Obj)}

theorem append_getD {l m : List Value} {j : Nat} : (l ++ m).getD j Go.undef = if j < l.length then l.getD j Go.undef else m.getD (j - l.length) Go.undef := by
  rw [List.getD_eq_getElem?_getD, List.getElem?_append]
  split
  · rw [← List.getD_eq_getElem?_getD]
  · rw [← List.getD_eq_getElem?_getD]
/-- The cells of a row that was lengthened. -/
theorem appF_DR {R' : Nat → Prop} {w' : World} {n len m : Nat} {f g : Nat → List AV} {C : Nat → Value} (hf1 : ∀ i, i < len → (f i).length = n) (hg1 : ∀ i, i < m → (g i).length = n) (hf2 : ∀ i, i < len → ∀ j, j < n → DR R' w' ((f i).getD j .undef) (C (i * n + j)))
    (hg2 : ∀ i, i < m → ∀ j, j < n → DR R' w' ((g i).getD j .undef) (C ((len + i) * n + j))) :
    (∀ i, i < len + m → (appF len f g i).length = n) ∧ ∀ i, i < len + m → ∀ j, j < n → DR R' w' ((appF len f g i).getD j .undef) (C (i * n + j)) := by
  have key : ∀ i, i < len + m → (appF len f g i).length = n ∧ ∀ j, j < n → DR R' w' ((appF len f g i).getD j .undef) (C (i * n + j)) := by
    intro i hi
    unfold appF
    cases hb : Nat.blt i len with
    | true =>
      have hb : i < len := by simp [Nat.blt] at hb; omega
      exact ⟨hf1 i hb, hf2 i hb⟩
    | false =>
      have hb : ¬ i < len := by
        intro h
        have : Nat.blt i len = true := by simp [Nat.blt]; omega
        rw [this] at hb; cases hb
      refine ⟨hg1 _ (by omega), fun j hj => ?_⟩
      have := hg2 (i - len) (by omega) j hj
      rwa [show len + (i - len) = i by omega] at this
  exact ⟨fun i hi => (key i hi).1, fun i hi => (key i hi).2⟩
theorem app_grow (hT : TOk P TB) {ty tx e : TypeId} (he : (TB ty).k = .slice e) {o1 : List Obj} {ρ1 : Nat → Option Nat} {R1 : Nat → Prop} (hh1 : HR Gl o1 ρ1 R1 w) (hx1 : EX o ρ R w o1 ρ1 R1 w) (hlen : o1.length = o.length)
    {len cap m : Nat} {base : Option Addr} {f g : Nat → List AV} {y : Value} {olds news : List Value} (hs : Src P (TB e).n tx y m news w) (hg1 : ∀ i, i < m → (g i).length = (TB e).n) (hg2 : ∀ i, i < m → ∀ j, j < (TB e).n → DR R1 w ((g i).getD j .undef) (news.getD (i * (TB e).n + j) Go.undef))
    (hol : olds.length = len * (TB e).n) (hold : (Builtin.firstCells (TB e).n len (.slice base len cap)).run P w.drew = .ok olds.toArray w.drew) (hf1 : ∀ i, i < len → (f i).length = (TB e).n)
    (hf2 : ∀ i, i < len → ∀ j, j < (TB e).n → DR R1 w ((f i).getD j .undef) (olds.getD (i * (TB e).n + j) Go.undef)) (_hn : 1 ≤ (TB e).n) (hgr : cap < len + m) (hby : 1 ≤ (TB e).bytes) (hb : (len + m) * (TB e).bytes ≤ 140737488355328) (tz : TypeId) :
    ∃ w' cap' ρ', (Builtin.append_ #[ty, tx] tz #[.slice base len cap, y]).run P w = .ok (.slice (some ⟨w.heap.size, 0, none⟩) (len + m) cap') w' ∧ HR Gl (o1 ++ [.row (TB e).n (len + m) (appF len f g)]) ρ' R1 w' ∧
      TR ρ' (o1 ++ [.row (TB e).n (len + m) (appF len f g)]) R1 w' (.row o.length (TB e).n 0 (len + m)) (.slice (some ⟨w.heap.size, 0, none⟩) (len + m) cap') ∧ EX o ρ R w (o1 ++ [.row (TB e).n (len + m) (appF len f g)]) ρ' R1 w' := by
  obtain ⟨hu, hbd⟩ := hT.slice he
  obtain ⟨ie, ze, i1, i2, i5, i3, i4, _⟩ := hT.info hbd
  have h63 : len + m ≤ 140737488355328 := Nat.le_trans (Nat.le_mul_of_pos_right _ hby) hb
  have hrun := run_append_grow_src (P := P) w ty tx tz e ie ze hu i1 i3 base len cap olds (by rw [i2]; exact hold) y m news (by rw [i2]; exact hs) hgr (by omega) (by rw [i5]; exact growslice_fits hgr hb)
  have hcap := grownCap_ge w (len + m) cap e
  generalize hxs : (olds ++ news).toArray ++ Builtin.zeroCells ze.cells (grownCap w (len + m) cap e - (len + m)) = xs at hrun
  have hze : ze.cells.size = (TB e).n := by
    obtain ⟨z1, _⟩ := zOk_CR (R := R) (w := w) _ _ i4
    rw [← hT.zlen hbd, ← z1, Array.length_toList]
  have hnl : news.length = m * (TB e).n := hs.newsLen
  have hsize : xs.size = grownCap w (len + m) cap e * (TB e).n := by
    rw [← hxs, Array.size_append, size_zeroCells, hze]
    simp only [List.size_toArray, List.length_append, hol, hnl]
    rw [← Nat.add_mul, ← Nat.add_mul]
    congr 1
    omega
  have hC : ∀ k, k < (len + m) * (TB e).n → xs.getD k Go.undef = (olds ++ news).getD k Go.undef := by
    intro k hk
    have hk2 : k < (olds ++ news).length := by rw [List.length_append, hol, hnl, ← Nat.add_mul]; exact hk
    rw [← hxs, Array.getD_eq_getD_getElem?, Array.getElem?_append_left (by simpa using hk2), List.getElem?_toArray, ← List.getD_eq_getElem?_getD]
  generalize hw' : w.drew.alloc (.cells xs e) = w' at hrun
  have hheap : w'.heap = w.heap.push (.cells xs e (0, 0)) := by rw [← hw']; rfl
  have hos : w'.os = w.os := by rw [← hw']; rfl
  have htp : w'.tape = w.tape := by rw [← hw']; rfl
  have hou : w'.output = w.output := by rw [← hw']; rfl
  have hx2 := EX.new hh1 (.row (TB e).n (len + m) (appF len f g)) xs e hheap hos htp hou
  have hne : ∀ c, R1 c → w'.heap[c]? = w.heap[c]? := fun c hc => hx2.same c (hh1.ro c hc).1 (hh1.ro c hc).2
  obtain ⟨k1, k2⟩ := appF_DR (R' := R1) (w' := w') (n := (TB e).n) (len := len) (m := m) (f := f) (g := g) (C := fun k => (olds ++ news).getD k Go.undef) hf1 hg1 (fun i hi j hj => by
    have hin : (i + 1) * (TB e).n ≤ len * (TB e).n := Nat.mul_le_mul_right _ hi
    rw [Nat.add_mul, Nat.one_mul] at hin
    show DR R1 w' _ ((olds ++ news).getD (i * (TB e).n + j) Go.undef)
    rw [append_getD, if_pos (by omega)]
    exact (hf2 i hi j hj).go (fun _ h => h) hne) (fun i hi j hj => by
    show DR R1 w' _ ((olds ++ news).getD ((len + i) * (TB e).n + j) Go.undef)
    rw [append_getD, if_neg (by rw [hol, Nat.add_mul]; omega), hol, show (len + i) * (TB e).n + j - len * (TB e).n = i * (TB e).n + j by rw [Nat.add_mul]; omega]
    exact (hg2 i hi j hj).go (fun _ h => h) hne)
  have hid : ρnew ρ1 o1.length w.heap.size o1.length = some w.heap.size := by simp [ρnew]
  have hnew : w'.heap[w.heap.size]? = some (.cells xs e (0, 0)) := by rw [hheap]; simp
  refine ⟨w', grownCap w (len + m) cap e, ρnew ρ1 o1.length w.heap.size, hrun, HR.new hh1 _ xs e hheap hos htp hou fun _ => .inr ⟨w.heap.size, xs, e, hid, hnew, by rw [hsize]; exact Nat.mul_le_mul_right _ hcap, k1, fun i hi j hj => ?_⟩, .of ?_ ?_, hx1.trans hx2⟩
  · have hin : (i + 1) * (TB e).n ≤ (len + m) * (TB e).n := Nat.mul_le_mul_right _ hi
    rw [Nat.add_mul, Nat.one_mul] at hin
    rw [hC _ (by omega)]
    exact k2 i hi j hj
  · simp [live, ← hlen]
  · have := VR.row (R := R1) (id := o1.length) (sz := (TB e).n) (off := 0) (len := len + m) hid hnew hcap (by rw [hsize, Nat.zero_add]; exact Nat.le_refl _)
    rw [Nat.zero_mul, hlen] at this
    rw [hlen]
    exact this
theorem app_zero (hT : TOk P TB) {ty tx e : TypeId} (he : (TB ty).k = .slice e) {y : Value} (hs : Src P (TB e).n tx y 0 [] w) (b : Option Addr) (tz : TypeId) : (Builtin.append_ #[ty, tx] tz #[.slice b 0 0, y]).run P w = .ok (.slice b 0 0) w := by
  obtain ⟨hu, hbd⟩ := hT.slice he
  obtain ⟨ie, ze, i1, i2, _⟩ := hT.info hbd
  have h1 := hs.cells
  rw [← i2] at h1
  rcases hs.kind with ⟨e', hk⟩ | hk <;> cases b <;> simp [Builtin.append_, run_underlying hu, run_underlying hk, sizeOf, typeInfo, i1, hs.len, h1, storeCells]
theorem first_none {n : Nat} (b : Option Addr) (c : Nat) (w : World) : (Builtin.firstCells n 0 (.slice b 0 c)).run P w = .ok (([] : List Value).toArray) w := by
  cases b with
  | none => simp [Builtin.firstCells]
  | some ad => exact run_firstCells_some w n 0 ad 0 c [] (by simp) (fun _ _ h => by simp at h)
theorem append_exec {dst : Option Tmp} {as : Array Operand} {ts : Array TypeId} {tz : TypeId} {pos : String} {af : Array Edge} {g : Option (Nat × Bool)} {x y : Operand} {y' : Value} {w' : World} (ha : as = #[x, y]) (h : (Builtin.append_ ts tz #[a.eval x, a.eval y]).run P w = .ok y' w') :
    (execOp a.eval ⟨dst, .call { callee := .builtin .append, args := as, argTypes := ts }, tz, pos, af, g⟩).run P w = .ok (.value y') w' := by
  subst ha
  simp [execOp, resolve, invoke, builtin, h]
theorem g_append (hT : TOk P TB) (hh : HR Gl o ρ R w) (hf : FR ρ o R w t a) {as : Array Operand} {ts : Array TypeId} {call} {K : AV → List Obj → Prop} (h : efP TB call (.call { callee := .builtin .append, args := as, argTypes := ts }) t o K) :
    Goes P Gl ρ o R w a (.call { callee := .builtin .append, args := as, argTypes := ts }) K := by
  simp only [efP] at h
  split at h
  · rename_i s x ty tx ea et
    obtain ⟨os, ox, hax, es, ex⟩ := two_of_map ea
    have hts : ts = #[ty, tx] := by
      obtain ⟨l⟩ := ts
      simp only at et
      rw [et]
    subst hts
    split at h
    · rename_i e e' he he'
      obtain ⟨hut, _⟩ := hT.slice he'
      split at h
      · rename_i m g lo hi hsrc
        obtain ⟨hq, hX⟩ := of_cond_true h
        clear h
        rw [Bool.and_eq_true] at hq
        have q1 := Nat.le_of_ble_eq_true hq.1
        have q2 := Nat.le_of_ble_eq_true hq.2
        have hvx := hf.at ex
        split at hX
        · obtain ⟨⟨hl, hby⟩, hK⟩ := hX
          obtain ⟨news, s1, s2, s3⟩ := src_ok hh hut q2 hsrc hl hvx
          obtain ⟨b, ey⟩ := (hf.at es).nils
          by_cases hm : m = 0
          · subst hm
            have : news = [] := List.eq_nil_of_length_eq_zero (by rw [s1.newsLen]; simp)
            subst this
            exact goes_value (fun _ _ _ _ _ => append_exec hax (by rw [ey]; exact app_zero hT he s1 b _)) hK (hh.empty _ _) (.of (by simp [live]) (.row0 _ _ _ _)) (EX.empty _ _)
          · intro dst tz pos af gd next Q hn
            obtain ⟨w', cap', ρ', r1, r2, r3, r4⟩ := app_grow (f := fun _ => []) (len := 0) (cap := 0) (base := b) (olds := []) hT he hh (EX.refl o ρ R w) rfl s1 s2 s3 (by simp) (first_none b 0 _) (fun i hi => absurd hi (Nat.not_lt_zero _)) (fun i hi => absurd hi (Nat.not_lt_zero _)) q2 (by omega) q1 (by rw [Nat.zero_add]; exact hby) tz
            have hF : appF 0 (fun _ => ([] : List AV)) g = g := by funext i; rfl
            rw [hF, Nat.zero_add] at r2 r3 r4
            unfold Oper.wp
            rw [append_exec hax (by rw [ey]; exact r1), Oper.upon_value]
            rw [Nat.zero_add]
            exact hn _ _ _ _ _ _ hK r2 r3 r4
        · rename_i id sz off len
          split at hX
          · rename_i s n f eo
            obtain ⟨hq', hY⟩ := of_cond_true hX
            clear hX
            obtain ⟨⟨hl, hln, hby⟩, hK⟩ := hY
            simp only [Bool.and_eq_true] at hq'
            obtain ⟨⟨g1, g2⟩, g3⟩ := hq'
            have g1' := Nat.eq_of_beq_eq_true g1
            have g2' := Nat.eq_of_beq_eq_true g2
            have g3' := Nat.eq_of_beq_eq_true g3
            subst g1' g3'
            obtain ⟨news, s1, s2, s3⟩ := src_ok hh hut q2 hsrc hl hvx
            have hid : id < o.length := (List.getElem?_eq_some_iff.1 eo).1
            have hR1 : ∀ b, R b → Radd R ρ id b := fun b hb => .inl hb
            have mono : ∀ {u : AV} {z : Value}, DR R w u z → DR (Radd R ρ id) w u z := fun h => h.go hR1 fun _ _ => rfl
            have hlen1 : (o.set id .dead).length = o.length := by simp
            have grow : ∀ {cap : Nat} {base : Option Addr} {olds : List Value}, a.eval os = .slice base len cap → olds.length = len * (TB e).n → (Builtin.firstCells (TB e).n len (.slice base len cap)).run P w.drew = .ok olds.toArray w.drew → (∀ i, i < len → (f i).length = (TB e).n) →
                (∀ i, i < len → ∀ j, j < (TB e).n → DR R w ((f i).getD j .undef) (olds.getD (i * (TB e).n + j) Go.undef)) → cap < len + m → Goes P Gl ρ o R w a (.call { callee := .builtin .append, args := as, argTypes := #[ty, tx] }) K := by
              intro cap base olds ey ho hfc hf1 hf2 hgr dst tz pos af gd next Q hn
              obtain ⟨w', cap', ρ', r1, r2, r3, r4⟩ := app_grow (f := f) hT he (hh.frz id) (EX.frz id) hlen1 s1 s2 (fun i hi j hj => mono (s3 i hi j hj)) ho hfc hf1 (fun i hi j hj => mono (hf2 i hi j hj)) q2 hgr q1 hby tz
              unfold Oper.wp
              rw [append_exec hax (by rw [ey]; exact r1), Oper.upon_value]
              rw [g2'] at hK
              exact hn _ _ _ _ _ _ hK r2 r3 r4
            rcases (hf.at es).row eo g1 with ⟨h0, b, ey⟩ | ⟨b, cs, tz0, cap, ey, hr, hc, h1, h2⟩
            · subst h0
              by_cases hm : m = 0
              · subst hm
                have : news = [] := List.eq_nil_of_length_eq_zero (by rw [s1.newsLen]; simp)
                subst this
                refine goes_value (fun _ _ _ _ _ => append_exec hax (by rw [ey]; exact app_zero hT he s1 b _)) hK ((hh.frz id).empty _ _) (.of (by simp [live]) (.row0 _ _ _ _)) ((EX.frz id).trans (EX.empty _ _))
              · exact grow (cap := 0) (base := b) (olds := []) ey (by simp) (first_none b 0 _) (fun i hi => absurd hi (Nat.not_lt_zero _)) (fun i hi => absurd hi (Nat.not_lt_zero _)) (by omega)
            · rcases hh.obj id _ eo with ⟨h3, h4⟩ | ⟨b', xs, tz', p1, p2, p3, p4, p5⟩
              · rw [hr] at h4; cases h4
              · rw [hr] at p1
                injection p1 with p1
                subst p1
                rw [hc] at p2
                injection p2 with p2
                injection p2 with p2 p6 p7
                subst p2 p6
                rw [Nat.zero_mul] at ey
                rw [Nat.zero_add] at h2
                rw [g2'] at p3 p4 p5 h2
                have hin : ∀ i, i < n → (i + 1) * (TB e).n ≤ n * (TB e).n := fun i hi => Nat.mul_le_mul_right _ hi
                by_cases hroom : len + m ≤ cap
                · have hcap : cap * (TB e).n ≤ cs.size := h2
                  have hnl : news.length = m * (TB e).n := s1.newsLen
                  have hW : len * (TB e).n + news.length ≤ cs.size := by
                    rw [hnl, ← Nat.add_mul]
                    exact Nat.le_trans (Nat.mul_le_mul_right _ hroom) hcap
                  obtain ⟨ie, ze, i1, i2, _⟩ := hT.info (hT.slice he).2
                  have hid2 : ρmove ρ id o.length o.length = some b := by unfold ρmove; rw [if_neg (by omega), if_pos rfl]; exact hr
                  have hm1 := HR.move hh hid (ob := .row (TB e).n len f) fun _ => .inr ⟨b, cs, tz0, hid2, hc, Nat.le_trans (Nat.mul_le_mul_right _ hln) p3, fun i hi => p4 i (by omega), fun i hi j hj => p5 i (by omega) j hj⟩
                  have hx1 := EX.move hh hid (.row (TB e).n len f)
                  have hex : (o.set id .dead ++ [Obj.row (TB e).n len f])[o.length]? = some (.row (TB e).n len f) := by
                    rw [List.getElem?_append_right (by simp)]; simp
                  have hset : ∀ ob', (o.set id .dead ++ [Obj.row (TB e).n len f]).set o.length ob' = o.set id .dead ++ [ob'] := by
                    intro ob'
                    rw [List.set_append_right _ _ (by simp)]
                    simp
                  obtain ⟨ys, c1, c2, c3, c4, c5, c6, c7, c8⟩ := setCells_facts news (len * (TB e).n) hc hW
                  have hw : WR w (w.setCells b (len * (TB e).n) news) b cs ys tz0 := ⟨hc, c1, c2, c4, c5, c6, c7, c8⟩
                  have hx2 := EX.wr (o := o.set id .dead ++ [Obj.row (TB e).n len f]) (R := R) (ob' := .row (TB e).n (len + m) (appF len f g)) hw hid2 hex ⟨_, _, rfl⟩
                  have hm2 := HR.wr hm1 (ob' := .row (TB e).n (len + m) (appF len f g)) hw hid2 hex ⟨_, _, rfl⟩ fun _ => .inr (by
                    have hne : ∀ c, R c → (w.setCells b (len * (TB e).n) news).heap[c]? = w.heap[c]? := fun c hR => c4 c fun e => (hh.ro c hR).2 id (e ▸ hr)
                    obtain ⟨k1, k2⟩ := appF_DR (R' := R) (w' := w.setCells b (len * (TB e).n) news) (n := (TB e).n) (len := len) (m := m) (f := f) (g := g) (C := fun k => ys.getD k Go.undef) (fun i hi => p4 i (by omega)) s2 (fun i hi j hj => by
                      have h8 : (i + 1) * (TB e).n ≤ len * (TB e).n := Nat.mul_le_mul_right _ hi
                      rw [Nat.add_mul, Nat.one_mul] at h8
                      show DR R _ _ (ys.getD (i * (TB e).n + j) Go.undef)
                      rw [c3, if_neg (by omega)]
                      exact (p5 i (by omega) j hj).go (fun _ h => h) hne) (fun i hi j hj => by
                      have h8 : (i + 1) * (TB e).n ≤ m * (TB e).n := Nat.mul_le_mul_right _ hi
                      rw [Nat.add_mul, Nat.one_mul] at h8
                      show DR R _ _ (ys.getD ((len + i) * (TB e).n + j) Go.undef)
                      rw [c3, Nat.add_mul, if_pos (by omega), show len * (TB e).n + i * (TB e).n + j - len * (TB e).n = i * (TB e).n + j by omega]
                      exact (s3 i hi j hj).go (fun _ h => h) hne)
                    exact ⟨b, ys, tz0, hid2, c1, by rw [c2]; exact Nat.le_trans (Nat.mul_le_mul_right _ hroom) hcap, k1, k2⟩)
                  rw [hset] at hx2 hm2
                  have hrun : ∀ tz, (Builtin.append_ #[ty, tx] tz #[.slice (some ⟨b, 0, none⟩) len cap, a.eval ox]).run P w = .ok (.slice (some ⟨b, 0, none⟩) (len + m) cap) (w.setCells b (len * (TB e).n) news) := fun tz => by
                    have := run_append_room_src (P := P) w ty tx tz e ie (hT.slice he).1 i1 b 0 len cap (a.eval ox) m news (by rw [i2]; exact s1) hroom (fun j hj => by rw [i2, cell_block hc (by omega)]; rfl) (fun j hj => by simp [World.frozen?, hc])
                    rwa [i2, Nat.zero_add] at this
                  rw [g2'] at hK
                  refine goes_value (fun _ _ _ _ _ => append_exec hax (by rw [ey]; exact hrun _)) hK hm2 (.of ?_ ?_) (hx1.trans hx2)
                  · simp [live]
                  · have := VR.row (R := R) (id := o.length) (sz := (TB e).n) (off := 0) (len := len + m) hid2 c1 hroom (by rw [c2, Nat.zero_add]; exact hcap)
                    rwa [Nat.zero_mul] at this
                · refine grow (cap := cap) (base := some ⟨b, 0, none⟩) (olds := (List.range (len * (TB e).n)).map fun k => cs.getD k Go.undef) ey (by simp) ?_ (fun i hi => p4 i (by omega)) (fun i hi j hj => ?_) (by omega)
                  · refine run_firstCells_some w.drew (TB e).n len ⟨b, 0, none⟩ len cap _ (by simp) fun j v hv => ?_
                    rw [List.getElem?_map] at hv
                    by_cases hj : j < len * (TB e).n
                    · rw [List.getElem?_range hj] at hv
                      simp at hv
                      subst hv
                      rw [Addr.add_mid, Nat.zero_add]
                      have : len * (TB e).n ≤ n * (TB e).n := Nat.mul_le_mul_right _ hln
                      have h10 := cell_block (w := w.drew) hc (Nat.lt_of_lt_of_le hj (Nat.le_trans this p3))
                      rw [h10]
                      simp [Array.getD_eq_getD_getElem?]
                    · rw [List.getElem?_eq_none (by simpa using hj)] at hv; simp at hv
                  · have h7 := hin i (by omega)
                    have h8 : (i + 1) * (TB e).n ≤ len * (TB e).n := Nat.mul_le_mul_right _ hi
                    rw [Nat.add_mul, Nat.one_mul] at h8
                    have h9 : ((List.range (len * (TB e).n)).map fun k => cs.getD k Go.undef).getD (i * (TB e).n + j) Go.undef = cs.getD (i * (TB e).n + j) Go.undef := by
                      rw [List.getD_eq_getElem?_getD, List.getElem?_map, List.getElem?_range (by omega)]
                      rfl
                    rw [h9]
                    exact p5 i (by omega) j hj
          · exact hX.elim
        · exact hX.elim
      · exact h.elim
    · exact h.elim
  · exact h.elim
end
end Go.Proofs.YtbbgojaloebknaaDoor.Vc
