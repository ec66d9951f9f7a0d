/- Part TM: what a deed makes of a place, by the reference. -/
import Derived.Test.YtahfdkdneojkmaaDoorVc6
section
namespace Go.Proofs.YtahfdkdneojkmaaDoor.Vc
open Go.Proofs
set_option maxRecDepth 10000
set_option maxHeartbeats 4000000
structure Hc where
  h : House
  t : List Mark
  c : Int
def consB (x : Hc) : Bool := decide (termOk x.h x.t) && (decide (crowd x.h.p x.c) && says x.h.bs x.c x.t)
def C209 : List AV → (AV → Prop) → Prop := con (X := Hc) (fun x => [enH x.h, slM x.t, .int .i64 x.c]) (fun x => termI x.h x.t ∧ i64r x.c) fun x K => K (.bool (consB x))
theorem sayOk_of' {p : Int} {bs : List Int} {t : List Mark} (h : termOk ⟨p, bs⟩ t) {c : Int} (hc : crowd p c) : sayOk ⟨p, bs, t, c⟩ := by
  have pw2 := (pw_le hc.1).2
  have hl := h.2.1
  have hcl := hc.2
  exact ⟨by show t.length < 4611686018427387904; omega, h.2.2, fun b hb => by have g : crowd p b := (h.1.2.2 b hb).1; have := g.2; omega, hcl.1, by show c < 64; omega⟩
theorem F209 : FF 130 C209 := by
  refine fitE [(78, C33), (80, C62), (138, C36)] (by simp only [List.mem_cons, List.not_mem_nil, or_false]; rintro _ (rfl | rfl | rfl) <;> first | exact F33 | exact F62 | exact F36) Tryd.f130 ⟨rfl, by decide +kernel, by decide +kernel⟩ (fun _ _ _ hk h => hk _ h) ?_
  rintro ⟨⟨p, bs⟩, t, c⟩ K ⟨hI, hc⟩ h
  refine ⟨Nat.le_of_ble_eq_true rfl, ?_⟩
  have hp := hI.1.1
  unfold consB at h
  dsimp only [enH] at h hc hp ⊢
  repeat' ((conv => whnf); first | refine vA ?_ | with_reducible first | refine v8 ?_ | refine Sp.mk ?_ ?_ | refine vS ?_ | refine vR ?_ | refine vB ?_ | refine br_nt ?_ | refine br_tt ?_ | refine br_ff ?_ | refine vP ?_ | refine vQ ?_ | refine vT ?_ | refine vF ?_ | refine br_and ?_ | refine br_or ?_ | refine br_d (fun _ => ?_) fun _ => ?_ | refine vM (fun _ => ?_) fun _ => ?_)
  refine ⟨(⟨p, bs⟩, t), ?_, ⟨hI⟩, ?_⟩
  · repeat' ((conv => whnf); first | with_reducible exact True.intro | exact vW | with_reducible refine And.intro ?_ ?_)
  repeat' ((conv => whnf); first | refine vA ?_ | with_reducible first | refine v8 ?_ | refine Sp.mk ?_ ?_ | refine vS ?_ | refine vR ?_ | refine vB ?_ | refine br_nt ?_ | refine br_tt ?_ | refine br_ff ?_ | refine vP ?_ | refine vQ ?_ | refine vT ?_ | refine vF ?_ | refine br_and ?_ | refine br_or ?_ | refine br_d (fun _ => ?_) fun _ => ?_ | refine vM (fun _ => ?_) fun _ => ?_)
  · rename_i hO
    have hO' : termOk ⟨p, bs⟩ t := hO
    rw [decide_eq_true hO', Bool.true_and] at h
    refine ⟨(p, c), ?_, ⟨hp, hc⟩, ?_⟩
    · repeat' ((conv => whnf); first | with_reducible exact True.intro | exact vW | with_reducible refine And.intro ?_ ?_)
    repeat' ((conv => whnf); first | refine vA ?_ | with_reducible first | refine v8 ?_ | refine Sp.mk ?_ ?_ | refine vS ?_ | refine vR ?_ | refine vB ?_ | refine br_nt ?_ | refine br_tt ?_ | refine br_ff ?_ | refine vP ?_ | refine vQ ?_ | refine vT ?_ | refine vF ?_ | refine br_and ?_ | refine br_or ?_ | refine br_d (fun _ => ?_) fun _ => ?_ | refine vM (fun _ => ?_) fun _ => ?_)
    · rename_i hcr
      have hcr' : crowd p c := hcr
      rw [decide_eq_true hcr', Bool.true_and] at h
      refine ⟨⟨p, bs, t, c⟩, ?_, ⟨sayOk_of' hO' hcr'⟩, ?_⟩
      · repeat' ((conv => whnf); first | with_reducible exact True.intro | exact vW | with_reducible refine And.intro ?_ ?_)
      repeat' ((conv => whnf); first | refine vA ?_ | with_reducible first | refine v8 ?_ | refine Sp.mk ?_ ?_ | refine vS ?_ | refine vR ?_ | refine vB ?_ | refine br_nt ?_ | refine br_tt ?_ | refine br_ff ?_ | refine vP ?_ | refine vQ ?_ | refine vT ?_ | refine vF ?_ | refine br_and ?_ | refine br_or ?_ | refine br_d (fun _ => ?_) fun _ => ?_ | refine vM (fun _ => ?_) fun _ => ?_)
      exact h
    · rename_i hcr
      have hcr' : ¬ crowd p c := hcr
      rw [decide_eq_false hcr', Bool.false_and] at h
      exact h
  · rename_i hO
    have hO' : ¬ termOk ⟨p, bs⟩ t := hO
    rw [decide_eq_false hO', Bool.false_and] at h
    exact h
/-- Does a rule of a place consent? -/
def consR (x : Place) (r c : Int) : Bool := if 0 ≤ r ∧ r < x.rules.length then (match rdT 49 x.h (x.rules.getD r.toNat ⟨#[]⟩) with
  | some t => decide (crowd x.p c) && says x.bs c t
  | none => false) else false
structure Pc where
  x : Place
  r : Int
  c : Int
def C206 : List AV → (AV → Prop) → Prop := con (X := Pc) (fun x => [enPl x.x, .int .i64 x.r, .int .i64 x.c]) (fun x => placeI x.x ∧ i64r x.r ∧ i64r x.c) fun x K => K (.bool (consR x.x x.r x.c))
theorem rdT_termI {h : House} (hI : houI h) {s : ByteArray} {t : List Mark} (e : rdT 49 h s = some t) : termI h t ∧ termOk h t := by
  obtain ⟨g1, g2, g3⟩ := (rdT_iff (by decide)).1 e
  have hs := (read_tr (lo := 49) (bodies_of g2.1) (by decide) (Tr.of g2.2.2)).2 80 (by rw [g3]; exact g1) [] (by simp)
  rw [List.append_nil] at hs
  have hs' : eitherP (partF 49 80) (bys (textT t)) = some (t, []) := by rw [hs]; rfl
  have hm := eitherP_sane (by decide) 80 _ _ _ hs'
  have hl := g2.2.1
  exact ⟨⟨hI.1, hI.2, hm, by omega⟩, g2⟩
theorem F206 : FF 120 C206 := by
  refine fitE [(43, C35), (41, C153), (130, C209)] (by simp only [List.mem_cons, List.not_mem_nil, or_false]; rintro _ (rfl | rfl | rfl) <;> first | exact F35 | exact F153 | exact F209) Tryd.f120 ⟨rfl, by decide +kernel, by decide +kernel⟩ (fun _ _ _ hk h => hk _ h) ?_
  rintro ⟨⟨p, bs, rs⟩, r, c⟩ K ⟨hI, hr, hc⟩ h
  refine ⟨Nat.le_of_ble_eq_true rfl, ?_⟩
  have hI1 := hI.1
  have hI2 := hI.2.1
  have hI3 := hI.2.2
  unfold consR at h
  dsimp only [enPl, plC] at h hr hc hI2 hI3 ⊢
  repeat' ((conv => whnf); first | refine vA ?_ | with_reducible first | refine v8 ?_ | refine Sp.mk ?_ ?_ | refine vS ?_ | refine vR ?_ | refine vB ?_ | refine br_nt ?_ | refine br_tt ?_ | refine br_ff ?_ | refine vP ?_ | refine vQ ?_ | refine vT ?_ | refine vF ?_ | refine br_and ?_ | refine br_or ?_ | refine br_d (fun _ => ?_) fun _ => ?_ | refine vM (fun _ => ?_) fun _ => ?_)
  refine ⟨(r, 0, rs.length - 1), ?_, ⟨trivial⟩, ?_⟩
  · repeat' ((conv => whnf); first | with_reducible exact True.intro | exact vW | with_reducible refine And.intro ?_ ?_)
  dsimp only
  repeat' ((conv => whnf); first | refine vA ?_ | with_reducible first | refine v8 ?_ | refine Sp.mk ?_ ?_ | refine vS ?_ | refine vR ?_ | refine vB ?_ | refine br_nt ?_ | refine br_tt ?_ | refine br_ff ?_ | refine vP ?_ | refine vQ ?_ | refine vT ?_ | refine vF ?_ | refine br_and ?_ | refine br_or ?_ | refine br_d (fun _ => ?_) fun _ => ?_ | refine vM (fun _ => ?_) fun _ => ?_)
  · rename_i g
    rw [if_pos (by omega)] at h
    have hr2 : r.toNat < rs.length := by omega
    refine Dr.mk ⟨(.rd 0 (.rd 1 (.rd 2 (.rd 3 (.rd 4 (.rd 5 (.rd 6 (.ef 7 (.rd 8 (.rd 9 (.rd 10 (.rd 11 (.rd 12 .dn))))) .no)))))))), by decide +kernel, ?_⟩
    repeat' ((conv => whnf); first | refine vA ?_ | with_reducible first | refine v8 ?_ | refine Sp.mk ?_ ?_ | refine vS ?_ | refine vR ?_ | refine vB ?_ | refine br_nt ?_ | refine br_tt ?_ | refine br_ff ?_ | refine vP ?_ | refine vQ ?_ | refine vT ?_ | refine vF ?_ | refine br_and ?_ | refine br_or ?_ | refine br_d (fun _ => ?_) fun _ => ?_ | refine vM (fun _ => ?_) fun _ => ?_)
    refine ⟨⟨⟨p, bs⟩, rs.getD r.toNat ⟨#[]⟩⟩, ?_, ⟨hI1, getD_len hI3 hr2⟩, ?_⟩
    · repeat' ((conv => whnf); first | with_reducible exact True.intro | exact vW | with_reducible refine And.intro ?_ ?_)
    refine And.intro (fun e => ?_) (fun t e => ?_)
    · have e' : rdT 49 (Place.h ⟨p, bs, rs⟩) (rs.getD r.toNat ⟨#[]⟩) = none := by rw [← rdT_eq]; exact e
      rw [e'] at h
      repeat' ((conv => whnf); first | refine vA ?_ | with_reducible first | refine v8 ?_ | refine Sp.mk ?_ ?_ | refine vS ?_ | refine vR ?_ | refine vB ?_ | refine br_nt ?_ | refine br_tt ?_ | refine br_ff ?_ | refine vP ?_ | refine vQ ?_ | refine vT ?_ | refine vF ?_ | refine br_and ?_ | refine br_or ?_ | refine br_d (fun _ => ?_) fun _ => ?_ | refine vM (fun _ => ?_) fun _ => ?_)
      refine ⟨⟨⟨p, bs⟩, [], c⟩, ?_, ⟨⟨hI1.1, hI1.2, by simp, by simp⟩, hc⟩, ?_⟩
      · repeat' ((conv => whnf); first | with_reducible exact True.intro | exact vW | with_reducible refine And.intro ?_ ?_)
      have hno : consB ⟨⟨p, bs⟩, [], c⟩ = false := by
        unfold consB
        rw [decide_eq_false (fun q => by have := q.2.2; simp [walkP] at this)]
        rfl
      dsimp only
      rw [hno]
      repeat' ((conv => whnf); first | refine vA ?_ | with_reducible first | refine v8 ?_ | refine Sp.mk ?_ ?_ | refine vS ?_ | refine vR ?_ | refine vB ?_ | refine br_nt ?_ | refine br_tt ?_ | refine br_ff ?_ | refine vP ?_ | refine vQ ?_ | refine vT ?_ | refine vF ?_ | refine br_and ?_ | refine br_or ?_ | refine br_d (fun _ => ?_) fun _ => ?_ | refine vM (fun _ => ?_) fun _ => ?_)
      exact h
    · have e' : rdT 49 (Place.h ⟨p, bs, rs⟩) (rs.getD r.toNat ⟨#[]⟩) = some t := by rw [← rdT_eq]; exact e
      rw [e'] at h
      obtain ⟨ht, hO⟩ := rdT_termI hI1 e'
      repeat' ((conv => whnf); first | refine vA ?_ | with_reducible first | refine v8 ?_ | refine Sp.mk ?_ ?_ | refine vS ?_ | refine vR ?_ | refine vB ?_ | refine br_nt ?_ | refine br_tt ?_ | refine br_ff ?_ | refine vP ?_ | refine vQ ?_ | refine vT ?_ | refine vF ?_ | refine br_and ?_ | refine br_or ?_ | refine br_d (fun _ => ?_) fun _ => ?_ | refine vM (fun _ => ?_) fun _ => ?_)
      refine ⟨⟨⟨p, bs⟩, t, c⟩, ?_, ⟨ht, hc⟩, ?_⟩
      · repeat' ((conv => whnf); first | with_reducible exact True.intro | exact vW | with_reducible refine And.intro ?_ ?_)
      have hyes : consB ⟨⟨p, bs⟩, t, c⟩ = (decide (crowd p c) && says bs c t) := by
        unfold consB
        rw [decide_eq_true (show termOk ⟨p, bs⟩ t from hO), Bool.true_and]
      dsimp only
      rw [hyes]
      repeat' ((conv => whnf); first | refine vA ?_ | with_reducible first | refine v8 ?_ | refine Sp.mk ?_ ?_ | refine vS ?_ | refine vR ?_ | refine vB ?_ | refine br_nt ?_ | refine br_tt ?_ | refine br_ff ?_ | refine vP ?_ | refine vQ ?_ | refine vT ?_ | refine vF ?_ | refine br_and ?_ | refine br_or ?_ | refine br_d (fun _ => ?_) fun _ => ?_ | refine vM (fun _ => ?_) fun _ => ?_)
      exact h
  · rename_i g
    rw [if_neg (by omega)] at h
    exact h
/-! ### Copies with memory of their own -/
def plG (x : Place) : AV := .agg [.int .i64 x.p, .row 0 1 0 x.bs.length, .row 1 1 0 x.rules.length]
def plO (x : Place) : List Obj := [.row 1 x.bs.length fun i => encI (x.bs.getD i 0), .row 1 x.rules.length fun i => encS (x.rules.getD i ⟨#[]⟩)]
def C158g : GC := conG (X := Place) (fun x => [enPl x]) (fun _ => []) (fun x => x.rules.length ≤ 100000000 ∧ x.bs.length ≤ 100000000) fun x K => K (plG x) (plO x)
theorem F158g : GG 52 C158g := by
  refine fitG [] (by simp) [] (by simp) Tryd.f52 ⟨rfl, by decide +kernel, by decide +kernel⟩ (by intro x K K2 hk h; (try dsimp only at h ⊢); intros; apply hk; first | exact h | (apply h <;> assumption)) ?_
  rintro ⟨p, bs, rs⟩ K ⟨h1, h2⟩ h
  refine ⟨Nat.le_of_ble_eq_true rfl, ?_⟩
  unfold plG plO at h
  dsimp only [enPl, plC] at h h1 h2 ⊢
  repeat' ((conv => whnf); first | refine vA ?_ | with_reducible first | refine v8 ?_ | refine Sp.mk ?_ ?_ | refine vS ?_ | refine vR ?_ | refine vB ?_ | refine br_nt ?_ | refine br_tt ?_ | refine br_ff ?_ | refine vP ?_ | refine vQ ?_ | refine vT ?_ | refine vF ?_ | refine br_and ?_ | refine br_or ?_ | refine br_d (fun _ => ?_) fun _ => ?_ | refine vM (fun _ => ?_) fun _ => ?_)
  refine Dr.mk ⟨(.rd 0 (.rd 1 (.rd 2 (.rd 4 (.rd 5 (.rd 6 (.rd 10 (.rd 11 (.ef 3 (.ef 7 (.rd 8 (.ef 9 (.ef 12 (.rd 13 (.ef 14 .dn .no)) .no) .no)) (.ef 9 (.ef 7 (.rd 8 (.ef 12 (.rd 13 (.ef 14 .dn .no)) .no)) .no) .no)) (.ef 9 (.ef 3 (.ef 7 (.rd 8 (.ef 12 (.rd 13 (.ef 14 .dn .no)) .no)) .no) .no) .no)))))))))), by decide +kernel, ?_⟩
  repeat' ((conv => whnf); first | refine vA ?_ | with_reducible first | refine v8 ?_ | refine Sp.mk ?_ ?_ | refine vS ?_ | refine vR ?_ | refine vB ?_ | refine br_nt ?_ | refine br_tt ?_ | refine br_ff ?_ | refine vP ?_ | refine vQ ?_ | refine vT ?_ | refine vF ?_ | refine br_and ?_ | refine br_or ?_ | refine br_d (fun _ => ?_) fun _ => ?_ | refine vM (fun _ => ?_) fun _ => ?_)
  all_goals
    first
    | (refine ⟨_, _, [some 2, some 3], [], rfl, rfl, ?_, ?_, h⟩ <;> (repeat' ((conv => whnf); first | with_reducible exact True.intro | exact vW | with_reducible refine And.intro ?_ ?_)) <;> fail)
    | (refine ⟨_, _, [some 3, some 2], [], rfl, rfl, ?_, ?_, h⟩ <;> (repeat' ((conv => whnf); first | with_reducible exact True.intro | exact vW | with_reducible refine And.intro ?_ ?_)) <;> fail)
def C157g := C158g
theorem F157g : GG 51 C157g := by
  refine fitG [] (by simp) [] (by simp) Tryd.f51 ⟨rfl, by decide +kernel, by decide +kernel⟩ (by intro x K K2 hk h; (try dsimp only at h ⊢); intros; apply hk; first | exact h | (apply h <;> assumption)) ?_
  rintro ⟨p, bs, rs⟩ K ⟨h1, h2⟩ h
  refine ⟨Nat.le_of_ble_eq_true rfl, ?_⟩
  unfold plG plO at h
  dsimp only [enPl, plC] at h h1 h2 ⊢
  repeat' ((conv => whnf); first | refine vA ?_ | with_reducible first | refine v8 ?_ | refine Sp.mk ?_ ?_ | refine vS ?_ | refine vR ?_ | refine vB ?_ | refine br_nt ?_ | refine br_tt ?_ | refine br_ff ?_ | refine vP ?_ | refine vQ ?_ | refine vT ?_ | refine vF ?_ | refine br_and ?_ | refine br_or ?_ | refine br_d (fun _ => ?_) fun _ => ?_ | refine vM (fun _ => ?_) fun _ => ?_)
  refine Dr.mk ⟨(.rd 0 (.rd 1 (.rd 2 (.rd 4 (.rd 5 (.rd 6 (.rd 10 (.rd 11 (.ef 3 (.ef 7 (.rd 8 (.ef 9 (.ef 12 (.rd 13 (.ef 14 .dn .no)) .no) .no)) (.ef 9 (.ef 7 (.rd 8 (.ef 12 (.rd 13 (.ef 14 .dn .no)) .no)) .no) .no)) (.ef 9 (.ef 3 (.ef 7 (.rd 8 (.ef 12 (.rd 13 (.ef 14 .dn .no)) .no)) .no) .no) .no)))))))))), by decide +kernel, ?_⟩
  repeat' ((conv => whnf); first | refine vA ?_ | with_reducible first | refine v8 ?_ | refine Sp.mk ?_ ?_ | refine vS ?_ | refine vR ?_ | refine vB ?_ | refine br_nt ?_ | refine br_tt ?_ | refine br_ff ?_ | refine vP ?_ | refine vQ ?_ | refine vT ?_ | refine vF ?_ | refine br_and ?_ | refine br_or ?_ | refine br_d (fun _ => ?_) fun _ => ?_ | refine vM (fun _ => ?_) fun _ => ?_)
  all_goals
    first
    | (refine ⟨_, _, [some 2, some 3], [], rfl, rfl, ?_, ?_, h⟩ <;> (repeat' ((conv => whnf); first | with_reducible exact True.intro | exact vW | with_reducible refine And.intro ?_ ?_)) <;> fail)
    | (refine ⟨_, _, [some 3, some 2], [], rfl, rfl, ?_, ?_, h⟩ <;> (repeat' ((conv => whnf); first | with_reducible exact True.intro | exact vW | with_reducible refine And.intro ?_ ?_)) <;> fail)
theorem ext_sym {α : Type} {enc : α → List AV} {d : α} {l : List α} {n : Nat} {g : Nat → List AV} (h : l.length = n ∧ ∀ j, j < l.length → enc (l.getD j d) = g j) : n = l.length ∧ ∀ j, j < n → g (0 + j) = enc (l.getD j d) := ⟨h.1.symm, fun j hj => by rw [Nat.zero_add]; exact (h.2 j (by rw [h.1]; exact hj)).symm⟩
theorem consR_in {x : Place} {r c : Int} (h : consR x r c = true) : (0 ≤ r ∧ r < x.rules.length) ∧ r.toNat < x.rules.length := by
  unfold consR at h
  split at h
  · rename_i g
    exact ⟨g, by omega⟩
  · cases h
theorem ext_set {l : List ByteArray} {x : ByteArray} {n : Nat} (h : n < l.length) : l.length = (l.set n x).length ∧ ∀ i, i < l.length → setF (fun j => encS (l.getD j ⟨#[]⟩)) (0 + n) (encS x) (0 + i) = encS ((l.set n x).getD i ⟨#[]⟩) := by
  refine ⟨by rw [List.length_set], fun i hi => ?_⟩
  rw [Nat.zero_add, Nat.zero_add, List.getD_eq_getElem?_getD, List.getElem?_set]
  unfold setF
  cases hb : Nat.beq i n with
  | true =>
    obtain rfl := Nat.eq_of_beq_eq_true hb
    rw [if_pos rfl, if_pos h]
    rfl
  | false =>
    have := Nat.ne_of_beq_eq_false hb
    rw [if_neg (fun e => this e.symm), ← List.getD_eq_getElem?_getD]
    rfl
theorem ext_cut {l : List ByteArray} {n : Nat} (h : n < l.length) : n + (l.length - (n + 1)) = (l.take n ++ l.drop (n + 1)).length ∧ ∀ i, i < n + (l.length - (n + 1)) → appF n (fun j => encS (l.getD j ⟨#[]⟩)) (fun j => encS (l.getD (n + 1 + j) ⟨#[]⟩)) (0 + i) = encS ((l.take n ++ l.drop (n + 1)).getD i ⟨#[]⟩) := by
  have := ext_app (enc := encS) (d := ⟨#[]⟩) (l := l) (m := l.drop (n + 1)) (n := n) (g := fun j => encS (l.getD (n + 1 + j) ⟨#[]⟩)) (by omega) fun j hj => by
    rw [List.getD_eq_getElem?_getD, List.getD_eq_getElem?_getD, List.getElem?_drop]
  rw [List.length_drop] at this
  exact ext_sym this
def madeP (x : Place) (a : Dd) : Place :=
  if a.kind = 0 ∧ a.b = 0 ∧ a.words = ⟨#[]⟩ then ⟨x.p, x.bs ++ [a.a], x.rules⟩
  else if a.kind = 1 ∧ a.a = 0 ∧ a.b = 0 then ⟨x.p, x.bs, x.rules ++ [a.words]⟩
  else if a.kind = 2 ∧ consR x a.a a.b = true then ⟨x.p, x.bs, x.rules.set a.a.toNat a.words⟩
  else if a.kind = 3 ∧ a.words = ⟨#[]⟩ ∧ consR x a.a a.b = true then ⟨x.p, x.bs, x.rules.take a.a.toNat ++ x.rules.drop (a.a.toNat + 1)⟩
  else default
section
variable {x : Place} {k a b : Int} {w : ByteArray}
theorem made_0n (h : k = 0) (hn : ¬ (b = 0 ∧ w = ⟨#[]⟩)) : madeP x ⟨k, a, b, w⟩ = default := by
  unfold madeP
  dsimp only
  rw [if_neg (fun q => hn q.2), if_neg (by omega), if_neg (by omega), if_neg (by omega)]
theorem made_1n (h : k = 1) (hn : ¬ (a = 0 ∧ b = 0)) : madeP x ⟨k, a, b, w⟩ = default := by
  unfold madeP
  dsimp only
  rw [if_neg (by omega), if_neg (fun q => hn q.2), if_neg (by omega), if_neg (by omega)]
theorem made_2n (h : k = 2) (hn : consR x a b = false) : madeP x ⟨k, a, b, w⟩ = default := by
  unfold madeP
  dsimp only
  rw [if_neg (by omega), if_neg (by omega), if_neg (fun q => by rw [hn] at q; cases q.2), if_neg (by omega)]
theorem made_3n (h : k = 3) (hn : ¬ (w = ⟨#[]⟩ ∧ consR x a b = true)) : madeP x ⟨k, a, b, w⟩ = default := by
  unfold madeP
  dsimp only
  rw [if_neg (by omega), if_neg (by omega), if_neg (by omega), if_neg (fun q => hn q.2)]
theorem made_n (h0 : ¬ k = 0) (h1 : ¬ k = 1) (h2 : ¬ k = 2) (h3 : ¬ k = 3) : madeP x ⟨k, a, b, w⟩ = default := by
  unfold madeP
  dsimp only
  rw [if_neg (by omega), if_neg (by omega), if_neg (by omega), if_neg (by omega)]
theorem made_0 (h : k = 0) (h1 : b = 0) (h2 : w = ⟨#[]⟩) : madeP x ⟨k, a, b, w⟩ = ⟨x.p, x.bs ++ [a], x.rules⟩ := if_pos ⟨h, h1, h2⟩
theorem made_1 (h : k = 1) (h1 : a = 0) (h2 : b = 0) : madeP x ⟨k, a, b, w⟩ = ⟨x.p, x.bs, x.rules ++ [w]⟩ := by
  unfold madeP
  dsimp only
  rw [if_neg (by omega), if_pos ⟨h, h1, h2⟩]
theorem made_2 (h : k = 2) (h1 : consR x a b = true) : madeP x ⟨k, a, b, w⟩ = ⟨x.p, x.bs, x.rules.set a.toNat w⟩ := by
  unfold madeP
  dsimp only
  rw [if_neg (by omega), if_neg (by omega), if_pos ⟨h, h1⟩]
theorem made_3 (h : k = 3) (h1 : w = ⟨#[]⟩) (h2 : consR x a b = true) : madeP x ⟨k, a, b, w⟩ = ⟨x.p, x.bs, x.rules.take a.toNat ++ x.rules.drop (a.toNat + 1)⟩ := by
  unfold madeP
  dsimp only
  rw [if_neg (by omega), if_neg (by omega), if_neg (by omega), if_pos ⟨h, h1, h2⟩]
end
structure Pd where
  x : Place
  a : Dd
def shortP (x : Place) : Prop := x.rules.length ≤ 100000000 ∧ x.bs.length ≤ 100000000
def dedI (a : Dd) : Prop := i64r a.kind ∧ i64r a.a ∧ i64r a.b ∧ a.words.size < 9223372036854775808
def C199 : List AV → (AV → Prop) → Prop := con (X := Pd) (fun x => [enPl x.x, ded x.a]) (fun x => placeI x.x ∧ shortP x.x ∧ dedI x.a) fun x K => K (enPl (madeP x.x x.a))
theorem F199 : FF 111 C199 := by
  refine fitXE [(120, C206)] (by simp only [List.mem_cons, List.not_mem_nil, or_false]; rintro _ rfl; exact F206) [(52, C158g)] (by simp only [List.mem_cons, List.not_mem_nil, or_false]; rintro _ rfl; exact F158g) Tryd.f111 ⟨rfl, by decide +kernel, by decide +kernel⟩ (fun _ _ _ hk h => hk _ h) ?_
  rintro ⟨⟨p, bs, rs⟩, ⟨k, a, b, w⟩⟩ K ⟨hI, hs, h1, h2, h3, h4⟩ h
  refine ⟨Nat.le_of_ble_eq_true rfl, ?_⟩
  have hs1 := hs.1
  have hs2 := hs.2
  dsimp only [ded, encD, enPl, plC] at h1 h2 h3 h4 hs1 hs2 ⊢
  have x1 := ext_push (enc := encI) (d := 0) (l := bs) (x := a) (g := fun i => (fun i => [[AV.int .i64 a]].getD i [.int .i64 0]) (0 + i)) rfl
  have x2 := ext_push (enc := encS) (d := ⟨#[]⟩) (l := rs) (x := w) (g := fun i => (fun i => [[AV.str w]].getD i [.str ⟨#[]⟩]) (0 + i)) rfl
  have y1 := ext_sym x1
  have y2 := ext_sym x2
  repeat' ((conv => whnf); first | refine vA ?_ | with_reducible first | refine v8 ?_ | refine Sp.mk ?_ ?_ | refine vS ?_ | refine vR ?_ | refine vB ?_ | refine br_nt ?_ | refine br_tt ?_ | refine br_ff ?_ | refine vP ?_ | refine vQ ?_ | refine vT ?_ | refine vF ?_ | refine br_and ?_ | refine br_or ?_ | refine br_d (fun _ => ?_) fun _ => ?_ | refine vM (fun _ => ?_) fun _ => ?_)
  refine ⟨_, _, [], [], rfl, ?_, ?_, ⟨p, bs, rs⟩, rfl, rfl, ⟨hs⟩, ?_⟩
  · repeat' ((conv => whnf); first | with_reducible exact True.intro | exact vW | with_reducible refine And.intro ?_ ?_)
  · repeat' ((conv => whnf); first | with_reducible exact True.intro | exact vW | with_reducible refine And.intro ?_ ?_)
  dsimp only [plG, plO]
  repeat' ((conv => whnf); first | refine vA ?_ | with_reducible first | refine v8 ?_ | refine Sp.mk ?_ ?_ | refine vS ?_ | refine vR ?_ | refine vB ?_ | refine br_nt ?_ | refine br_tt ?_ | refine br_ff ?_ | refine vP ?_ | refine vQ ?_ | refine vT ?_ | refine vF ?_ | refine br_and ?_ | refine br_or ?_ | refine br_d (fun _ => ?_) fun _ => ?_ | refine vM (fun _ => ?_) fun _ => ?_)
  · have e := made_0 (x := ⟨p, bs, rs⟩) (k := k) (b := b) (w := w) (a := a) (by assumption) (by assumption) (by assumption)
    replace h : K (enPl (madeP ⟨p, bs, rs⟩ ⟨k, a, b, w⟩)) := h
    rw [e] at h
    refine ⟨_, ?_, h⟩
    repeat' ((conv => whnf); first | with_reducible exact True.intro | exact vW | with_reducible refine And.intro ?_ ?_)
    all_goals first | exact Chk.mk ⟨rfl, fun i _ => by dsimp only; rw [Nat.zero_add]⟩ | exact Chk.mk y1
  · rename_i q1 q2 q3
    have e := made_0n (x := ⟨p, bs, rs⟩) (a := a) (b := b) q1 fun q => q3 q.2
    replace h : K (enPl (madeP ⟨p, bs, rs⟩ ⟨k, a, b, w⟩)) := h
    rw [e] at h
    refine ⟨_, ?_, h⟩
    repeat' ((conv => whnf); first | with_reducible exact True.intro | exact vW | with_reducible refine And.intro ?_ ?_)
  · rename_i q1 q2
    have e := made_0n (x := ⟨p, bs, rs⟩) (a := a) (b := b) (w := w) q1 fun q => q2 q.1
    replace h : K (enPl (madeP ⟨p, bs, rs⟩ ⟨k, a, b, w⟩)) := h
    rw [e] at h
    refine ⟨_, ?_, h⟩
    repeat' ((conv => whnf); first | with_reducible exact True.intro | exact vW | with_reducible refine And.intro ?_ ?_)
  · rename_i q1 q2 q3 q4
    have e := made_1 (x := ⟨p, bs, rs⟩) (w := w) q1 q2 q3
    replace h : K (enPl (madeP ⟨p, bs, rs⟩ ⟨k, a, b, w⟩)) := h
    rw [e] at h
    refine ⟨_, ?_, h⟩
    repeat' ((conv => whnf); first | with_reducible exact True.intro | exact vW | with_reducible refine And.intro ?_ ?_)
    all_goals first | exact Chk.mk ⟨rfl, fun i _ => by dsimp only; rw [Nat.zero_add]⟩ | exact Chk.mk y2
  · rename_i hw
    exact absurd rfl hw
  · rename_i q1 q2 q3
    have e := made_1n (x := ⟨p, bs, rs⟩) (w := w) (a := a) (b := b) q1 fun q => q3 q.2
    replace h : K (enPl (madeP ⟨p, bs, rs⟩ ⟨k, a, b, w⟩)) := h
    rw [e] at h
    refine ⟨_, ?_, h⟩
    repeat' ((conv => whnf); first | with_reducible exact True.intro | exact vW | with_reducible refine And.intro ?_ ?_)
  · rename_i q1 q2
    have e := made_1n (x := ⟨p, bs, rs⟩) (w := w) (a := a) (b := b) q1 fun q => q2 q.1
    replace h : K (enPl (madeP ⟨p, bs, rs⟩ ⟨k, a, b, w⟩)) := h
    rw [e] at h
    refine ⟨_, ?_, h⟩
    repeat' ((conv => whnf); first | with_reducible exact True.intro | exact vW | with_reducible refine And.intro ?_ ?_)
  · rename_i q1
    refine ⟨⟨⟨p, bs, rs⟩, a, b⟩, ?_, ⟨hI, h2, h3⟩, ?_⟩
    · repeat' ((conv => whnf); first | with_reducible exact True.intro | exact vW | with_reducible refine And.intro ?_ ?_)
    dsimp only
    cases hc : consR ⟨p, bs, rs⟩ a b
    · have e := made_2n (x := ⟨p, bs, rs⟩) (w := w) q1 hc
      repeat' ((conv => whnf); first | refine vA ?_ | with_reducible first | refine v8 ?_ | refine Sp.mk ?_ ?_ | refine vS ?_ | refine vR ?_ | refine vB ?_ | refine br_nt ?_ | refine br_tt ?_ | refine br_ff ?_ | refine vP ?_ | refine vQ ?_ | refine vT ?_ | refine vF ?_ | refine br_and ?_ | refine br_or ?_ | refine br_d (fun _ => ?_) fun _ => ?_ | refine vM (fun _ => ?_) fun _ => ?_)
      replace h : K (enPl (madeP ⟨p, bs, rs⟩ ⟨k, a, b, w⟩)) := h
      rw [e] at h
      refine ⟨_, ?_, h⟩
      repeat' ((conv => whnf); first | with_reducible exact True.intro | exact vW | with_reducible refine And.intro ?_ ?_)
    · have hr := consR_in hc
      dsimp only at hr
      have y3 := ext_set (x := w) hr.2
      have e := made_2 (x := ⟨p, bs, rs⟩) (w := w) q1 hc
      repeat' ((conv => whnf); first | refine vA ?_ | with_reducible first | refine v8 ?_ | refine Sp.mk ?_ ?_ | refine vS ?_ | refine vR ?_ | refine vB ?_ | refine br_nt ?_ | refine br_tt ?_ | refine br_ff ?_ | refine vP ?_ | refine vQ ?_ | refine vT ?_ | refine vF ?_ | refine br_and ?_ | refine br_or ?_ | refine br_d (fun _ => ?_) fun _ => ?_ | refine vM (fun _ => ?_) fun _ => ?_)
      replace h : K (enPl (madeP ⟨p, bs, rs⟩ ⟨k, a, b, w⟩)) := h
      rw [e] at h
      refine ⟨_, ?_, h⟩
      repeat' ((conv => whnf); first | with_reducible exact True.intro | exact vW | with_reducible refine And.intro ?_ ?_)
      all_goals first | exact Chk.mk ⟨rfl, fun i _ => by dsimp only; rw [Nat.zero_add]⟩ | exact Chk.mk y3
  · rename_i q1 q2
    refine ⟨⟨⟨p, bs, rs⟩, a, b⟩, ?_, ⟨hI, h2, h3⟩, ?_⟩
    · repeat' ((conv => whnf); first | with_reducible exact True.intro | exact vW | with_reducible refine And.intro ?_ ?_)
    dsimp only
    cases hc : consR ⟨p, bs, rs⟩ a b
    · have e := made_3n (x := ⟨p, bs, rs⟩) (w := w) (a := a) (b := b) q1 fun q => by rw [hc] at q; cases q.2
      repeat' ((conv => whnf); first | refine vA ?_ | with_reducible first | refine v8 ?_ | refine Sp.mk ?_ ?_ | refine vS ?_ | refine vR ?_ | refine vB ?_ | refine br_nt ?_ | refine br_tt ?_ | refine br_ff ?_ | refine vP ?_ | refine vQ ?_ | refine vT ?_ | refine vF ?_ | refine br_and ?_ | refine br_or ?_ | refine br_d (fun _ => ?_) fun _ => ?_ | refine vM (fun _ => ?_) fun _ => ?_)
      replace h : K (enPl (madeP ⟨p, bs, rs⟩ ⟨k, a, b, w⟩)) := h
      rw [e] at h
      refine ⟨_, ?_, h⟩
      repeat' ((conv => whnf); first | with_reducible exact True.intro | exact vW | with_reducible refine And.intro ?_ ?_)
    · have hr := consR_in hc
      dsimp only at hr
      have y3 := ext_cut hr.2
      have e := made_3 (x := ⟨p, bs, rs⟩) (w := w) q1 q2 hc
      repeat' ((conv => whnf); first | refine vA ?_ | with_reducible first | refine v8 ?_ | refine Sp.mk ?_ ?_ | refine vS ?_ | refine vR ?_ | refine vB ?_ | refine br_nt ?_ | refine br_tt ?_ | refine br_ff ?_ | refine vP ?_ | refine vQ ?_ | refine vT ?_ | refine vF ?_ | refine br_and ?_ | refine br_or ?_ | refine br_d (fun _ => ?_) fun _ => ?_ | refine vM (fun _ => ?_) fun _ => ?_)
      have e5 : (a + 1).toNat = a.toNat + 1 := by omega
      have y4 : a.toNat - Int.toNat 0 + ((rs.length : Int).toNat - (a + 1).toNat) = (rs.take a.toNat ++ rs.drop (a.toNat + 1)).length ∧ ∀ i, i < a.toNat - Int.toNat 0 + ((rs.length : Int).toNat - (a + 1).toNat) → appF (a.toNat - Int.toNat 0) (fun i => (fun i => encS (rs.getD i ⟨#[]⟩)) (Int.toNat 0 + i)) (fun i => (fun i => encS (rs.getD i ⟨#[]⟩)) ((a + 1).toNat + i)) (0 + i) = encS ((rs.take a.toNat ++ rs.drop (a.toNat + 1)).getD i ⟨#[]⟩) := by
        rw [e5, show Int.toNat 0 = 0 from rfl, Nat.sub_zero, Int.toNat_natCast]
        simp only [Nat.zero_add] at y3 ⊢
        exact y3
      refine Dr.mk ⟨(.rd 0 (.rd 1 (.rd 3 (.rd 4 (.rd 5 (.rd 6 (.rd 7 (.rd 9 (.rd 10 (.rd 11 (.rd 12 (.rd 13 (.rd 14 (.ef 2 (.ef 8 (.ef 15 (.rd 16 (.ef 17 .dn .no)) .no) .no) .no)))))))))))))), by decide +kernel, ?_⟩
      repeat' ((conv => whnf); first | refine vA ?_ | with_reducible first | refine v8 ?_ | refine Sp.mk ?_ ?_ | refine vS ?_ | refine vR ?_ | refine vB ?_ | refine br_nt ?_ | refine br_tt ?_ | refine br_ff ?_ | refine vP ?_ | refine vQ ?_ | refine vT ?_ | refine vF ?_ | refine br_and ?_ | refine br_or ?_ | refine br_d (fun _ => ?_) fun _ => ?_ | refine vM (fun _ => ?_) fun _ => ?_)
      replace h : K (enPl (madeP ⟨p, bs, rs⟩ ⟨k, a, b, w⟩)) := h
      rw [e] at h
      refine ⟨_, ?_, h⟩
      repeat' ((conv => whnf); first | with_reducible exact True.intro | exact vW | with_reducible refine And.intro ?_ ?_)
      all_goals first | exact Chk.mk ⟨rfl, fun i _ => by dsimp only; rw [Nat.zero_add]⟩ | exact Chk.mk y4
  · rename_i q1 q2
    have e := made_3n (x := ⟨p, bs, rs⟩) (a := a) (b := b) (w := w) q1 fun q => q2 q.1
    replace h : K (enPl (madeP ⟨p, bs, rs⟩ ⟨k, a, b, w⟩)) := h
    rw [e] at h
    refine ⟨_, ?_, h⟩
    repeat' ((conv => whnf); first | with_reducible exact True.intro | exact vW | with_reducible refine And.intro ?_ ?_)
  · have e := made_n (x := ⟨p, bs, rs⟩) (a := a) (b := b) (w := w) (by assumption) (by assumption) (by assumption) (by assumption)
    replace h : K (enPl (madeP ⟨p, bs, rs⟩ ⟨k, a, b, w⟩)) := h
    rw [e] at h
    refine ⟨_, ?_, h⟩
    repeat' ((conv => whnf); first | with_reducible exact True.intro | exact vW | with_reducible refine And.intro ?_ ?_)
end Go.Proofs.YtahfdkdneojkmaaDoor.Vc
end
section
/- Part TN: a deed at a desk, by the reference. -/
namespace Go.Proofs.YtahfdkdneojkmaaDoor.Vc
open Go.Proofs
set_option maxRecDepth 10000
set_option maxHeartbeats 4000000
def deG (d : Desk) : AV := .agg [.int .i64 d.now.p, slI d.now.bs, slS d.now.rules, .row 0 3 0 d.past.length]
def psO (l : List Place) : Obj := .row 3 l.length fun i => plC (l.getD i default)
def shortD (d : Desk) : Prop := shortP d.now ∧ d.past.length ≤ 100000 ∧ ∀ p ∈ d.past, shortP p
def C198 : GC := conG (X := Desk) (fun d => [enDe d]) (fun _ => []) shortD fun d K => K (deG d) [psO d.past]
theorem F198 : GG 110 C198 := by
  refine fitG [(52, C158)] (by simp only [List.mem_cons, List.not_mem_nil, or_false]; rintro _ rfl <;> first | exact F158) [] (by simp) Tryd.f110 ⟨rfl, by decide +kernel, by decide +kernel⟩ (by intro x K K2 hk h; (try dsimp only at h ⊢); intros; apply hk; first | exact h | (apply h <;> assumption)) ?_
  rintro ⟨⟨p, bs, rs⟩, l⟩ K ⟨h1, h2, h3⟩ h
  refine ⟨Nat.le_of_ble_eq_true rfl, ?_⟩
  unfold deG psO at h
  dsimp only [enDe, deC] at h h1 h2 h3 ⊢
  repeat' ((conv => whnf); first | refine vA ?_ | with_reducible first | refine v8 ?_ | refine Sp.mk ?_ ?_ | refine vS ?_ | refine vR ?_ | refine vB ?_ | refine br_nt ?_ | refine br_tt ?_ | refine br_ff ?_ | refine vP ?_ | refine vQ ?_ | refine vT ?_ | refine vF ?_ | refine br_and ?_ | refine br_or ?_ | refine br_d (fun _ => ?_) fun _ => ?_ | refine vM (fun _ => ?_) fun _ => ?_)
  refine ⟨⟨p, bs, rs⟩, ?_, ⟨h1⟩, ?_⟩
  · repeat' ((conv => whnf); first | with_reducible exact True.intro | exact vW | with_reducible refine And.intro ?_ ?_)
  dsimp only [enPl, plC]
  repeat' ((conv => whnf); first | refine vA ?_ | with_reducible first | refine v8 ?_ | refine Sp.mk ?_ ?_ | refine vS ?_ | refine vR ?_ | refine vB ?_ | refine br_nt ?_ | refine br_tt ?_ | refine br_ff ?_ | refine vP ?_ | refine vQ ?_ | refine vT ?_ | refine vF ?_ | refine br_and ?_ | refine br_or ?_ | refine br_d (fun _ => ?_) fun _ => ?_ | refine vM (fun _ => ?_) fun _ => ?_)
  refine Lp.mk ⟨Nat, fun i => [(1, .ptr 0 0), (2, .ptr 1 0), (3, .ptr 2 0), (4, .int .i64 i)], fun i => [.box (deC ⟨⟨p, bs, rs⟩, l⟩), .box [.int .i64 0, .nils, .nils, .nils], .box [.int .i64 p, slI bs, slS rs, .row 3 3 0 (l.take i).length], psO (l.take i)], fun i => i ≤ l.length, fun i => l.length - i, ⟨0, Nat.zero_le _, ⟨⟨[some 0, some 1, some 2, none], [], rfl, rfl, ?_, ?_⟩⟩⟩, ?_⟩
  · repeat' ((conv => whnf); first | with_reducible exact True.intro | exact vW | with_reducible refine And.intro ?_ ?_)
  · repeat' ((conv => whnf); first | with_reducible exact True.intro | exact vW | with_reducible refine And.intro ?_ ?_)
  intro i i1
  dsimp only [deC, psO]
  have hti : (l.take i).length ≤ 100000 := by rw [List.length_take]; omega
  repeat' ((conv => whnf); first | refine vA ?_ | with_reducible first | refine v8 ?_ | refine Sp.mk ?_ ?_ | refine vS ?_ | refine vR ?_ | refine vB ?_ | refine br_nt ?_ | refine br_tt ?_ | refine br_ff ?_ | refine vP ?_ | refine vQ ?_ | refine vT ?_ | refine vF ?_ | refine br_and ?_ | refine br_or ?_ | refine br_d (fun _ => ?_) fun _ => ?_ | refine vM (fun _ => ?_) fun _ => ?_)
  · rename_i hi
    have hi : i < l.length := by omega
    have hsn : l.take (i + 1) = l.take i ++ [l.getD i default] := take_succ' default hi
    refine Dr.mk ⟨(.rd 0 (.rd 1 (.rd 2 (.rd 3 (.rd 4 (.rd 5 (.rd 6 (.ef 7 (.ef 8 (.ef 9 (.rd 10 (.ef 11 .dn .no)) .no) .no) .no)))))))), by decide +kernel, ?_⟩
    repeat' ((conv => whnf); first | refine vA ?_ | with_reducible first | refine v8 ?_ | refine Sp.mk ?_ ?_ | refine vS ?_ | refine vR ?_ | refine vB ?_ | refine br_nt ?_ | refine br_tt ?_ | refine br_ff ?_ | refine vP ?_ | refine vQ ?_ | refine vT ?_ | refine vF ?_ | refine br_and ?_ | refine br_or ?_ | refine br_d (fun _ => ?_) fun _ => ?_ | refine vM (fun _ => ?_) fun _ => ?_)
    refine ⟨l.getD i default, ?_, ⟨h3 _ (getD_mem' hi)⟩, ?_⟩
    · repeat' ((conv => whnf); first | with_reducible exact True.intro | exact vW | with_reducible refine And.intro ?_ ?_)
    dsimp only [enPl, plC]
    repeat' ((conv => whnf); first | refine vA ?_ | with_reducible first | refine v8 ?_ | refine Sp.mk ?_ ?_ | refine vS ?_ | refine vR ?_ | refine vB ?_ | refine br_nt ?_ | refine br_tt ?_ | refine br_ff ?_ | refine vP ?_ | refine vQ ?_ | refine vT ?_ | refine vF ?_ | refine br_and ?_ | refine br_or ?_ | refine br_d (fun _ => ?_) fun _ => ?_ | refine vM (fun _ => ?_) fun _ => ?_)
    refine ⟨i + 1, by omega, by omega, ⟨⟨[some 0, some 1, some 2, some 5], [], rfl, rfl, ?_, ?_⟩⟩⟩
    · repeat' ((conv => whnf); first | with_reducible exact True.intro | exact vW | with_reducible refine And.intro ?_ ?_)
    · repeat' ((conv => whnf); first | with_reducible exact True.intro | exact vW | with_reducible refine And.intro ?_ ?_)
      all_goals first | exact Chk.mk ⟨rfl, by rw [hsn, List.length_append]; rfl⟩ | exact Chk.mk (by rw [hsn]; exact ext_push (enc := plC) (d := default) (l := l.take i) (x := l.getD i default) rfl)
  · rename_i hi
    rw [List.take_of_length_le (by omega)]
    repeat' ((conv => whnf); first | refine vA ?_ | with_reducible first | refine v8 ?_ | refine Sp.mk ?_ ?_ | refine vS ?_ | refine vR ?_ | refine vB ?_ | refine br_nt ?_ | refine br_tt ?_ | refine br_ff ?_ | refine vP ?_ | refine vQ ?_ | refine vT ?_ | refine vF ?_ | refine br_and ?_ | refine br_or ?_ | refine br_d (fun _ => ?_) fun _ => ?_ | refine vM (fun _ => ?_) fun _ => ?_)
    refine ⟨_, _, [some 3], [], rfl, rfl, ?_, ?_, h⟩
    · repeat' ((conv => whnf); first | with_reducible exact True.intro | exact vW | with_reducible refine And.intro ?_ ?_)
    · repeat' ((conv => whnf); first | with_reducible exact True.intro | exact vW | with_reducible refine And.intro ?_ ?_)
def backD : Dd := ⟨4, 0, 0, ⟨#[]⟩⟩
/-- What is behind a desk that goes on. -/
def pushP (l : List Place) (x : Place) : List Place := if 8 < (l ++ [x]).length then (l ++ [x]).drop 1 else l ++ [x]
/-- A desk after a deed, if it can be done. -/
def doD (d : Desk) (a : Dd) : Option Desk :=
  if a = backD ∧ 0 < d.past.length then some ⟨d.past.getD (d.past.length - 1) default, d.past.take (d.past.length - 1)⟩
  else if placeOk (madeP d.now a) ∧ ptext (madeP d.now a) ≠ ptext d.now then some ⟨madeP d.now a, pushP d.past d.now⟩ else none
def afterD (d : Desk) (a : Dd) : Desk := if deskOk d then (doD d a).getD d else default
def canD (d : Desk) (a : Dd) : Bool := decide (deskOk d) && (doD d a).isSome
structure De where
  d : Desk
  a : Dd
def C183 : List AV → (AV → Prop) → Prop := con (X := De) (fun x => [enDe x.d, ded x.a]) (fun x => deskI x.d ∧ dedI x.a) fun x K => K (.tup [enDe (afterD x.d x.a), .bool (canD x.d x.a)])
theorem placeOk_shortP {x : Place} (h : placeOk x) : shortP x := placeOk_short h
theorem deskOk_short {d : Desk} (h : deskOk d) : shortD d := ⟨placeOk_short h.1, Nat.le_trans h.2.1 (by decide), fun p hp => placeOk_short (h.2.2 p hp)⟩
theorem placeI0 : placeI default := ⟨⟨⟨⟨by decide, by decide⟩, fun _ hb => by cases hb⟩, by decide⟩, by decide, fun _ hb => by cases hb⟩
theorem madeP_I {x : Place} {a : Dd} (h : placeI x) (hs : shortP x) (ha : dedI a) : placeI (madeP x a) := by
  obtain ⟨⟨h1, h2⟩, h3, h4⟩ := h
  have s1 := hs.1
  have s2 := hs.2
  have b2 := h1.2
  unfold madeP
  split
  · refine ⟨⟨⟨h1.1, fun b hb => (List.mem_append.1 hb).elim (fun hb => b2 b hb) fun hb => by rw [List.mem_singleton.1 hb]; exact ha.2.1⟩, ?_⟩, h3, h4⟩
    show (x.bs ++ [a.a]).length < _
    simp only [List.length_append, List.length_cons, List.length_nil]
    omega
  · split
    · refine ⟨⟨h1, h2⟩, ?_, fun r hr => (List.mem_append.1 hr).elim (fun hr => h4 r hr) fun hr => by rw [List.mem_singleton.1 hr]; exact ha.2.2.2⟩
      show (x.rules ++ [a.words]).length < _
      simp only [List.length_append, List.length_cons, List.length_nil]
      omega
    · split
      · refine ⟨⟨h1, h2⟩, by show (x.rules.set _ _).length < _; rw [List.length_set]; exact h3, fun r hr => (List.mem_or_eq_of_mem_set hr).elim (fun hr => h4 r hr) fun hr => by rw [hr]; exact ha.2.2.2⟩
      · split
        · refine ⟨⟨h1, h2⟩, ?_, fun r hr => (List.mem_append.1 hr).elim (fun hr => h4 r (List.mem_of_mem_take hr)) fun hr => h4 r (List.mem_of_mem_drop hr)⟩
          show (x.rules.take _ ++ x.rules.drop _).length < _
          simp only [List.length_append, List.length_take, List.length_drop]
          omega
        · exact placeI0
theorem ext_take {α : Type} {enc : α → List AV} {d : α} {l : List α} {n : Nat} (hn : n ≤ l.length) : n - Int.toNat 0 = (l.take n).length ∧ ∀ i, i < n - Int.toNat 0 → enc (l.getD (0 + Int.toNat 0 + i) d) = enc ((l.take n).getD i d) := by
  refine ⟨by rw [List.length_take]; show n - 0 = _; omega, fun i hi => ?_⟩
  rw [show 0 + Int.toNat 0 + i = i by show 0 + 0 + i = i; omega, List.getD_eq_getElem?_getD, List.getD_eq_getElem?_getD, List.getElem?_take_of_lt (by exact hi)]
theorem ext_pushV {α : Type} {enc : α → List AV} {d : α} {l : List α} {x : α} {g : Nat → List AV} (hg : g 0 = enc x) : l.length + 1 = (l ++ [x]).length ∧ ∀ i, i < l.length + 1 → appF l.length (fun i => enc (l.getD i d)) g (0 + i) = enc ((l ++ [x]).getD i d) := by
  have h := ext_push (enc := enc) (d := d) (l := l) (x := x) (g := g) hg
  refine ⟨h.1.symm, fun i hi => ?_⟩
  rw [Nat.zero_add]
  exact (h.2 i (by rw [h.1]; exact hi)).symm
theorem ext_dropV {α : Type} {enc : α → List AV} {d : α} {l : List α} {x : α} {g : Nat → List AV} (hg : g 0 = enc x) : ((l.length + 1 : Nat) : Int).toNat - Int.toNat 1 = ((l ++ [x]).drop 1).length ∧ ∀ i, i < ((l.length + 1 : Nat) : Int).toNat - Int.toNat 1 → appF l.length (fun i => enc (l.getD i d)) g (0 + Int.toNat 1 + i) = enc (((l ++ [x]).drop 1).getD i d) := by
  have h := ext_push (enc := enc) (d := d) (l := l) (x := x) (g := g) hg
  refine ⟨by rw [List.length_drop, h.1]; rfl, fun i hi => ?_⟩
  have e : ((l.length + 1 : Nat) : Int).toNat - Int.toNat 1 = l.length := rfl
  rw [e] at hi
  rw [show 0 + Int.toNat 1 + i = 1 + i by rw [Nat.zero_add]; rfl, List.getD_eq_getElem?_getD (l := (l ++ [x]).drop 1), List.getElem?_drop, ← List.getD_eq_getElem?_getD]
  exact (h.2 (1 + i) (by rw [h.1]; omega)).symm
theorem afterD_some {d e : Desk} {a : Dd} (h : deskOk d) (he : doD d a = some e) : afterD d a = e := by
  unfold afterD
  rw [if_pos h, he]
  rfl
theorem canD_some {d e : Desk} {a : Dd} (h : deskOk d) (he : doD d a = some e) : canD d a = true := by
  unfold canD
  rw [decide_eq_true h, he]
  rfl
theorem afterD_none {d : Desk} {a : Dd} (h : deskOk d) (he : doD d a = none) : afterD d a = d := by
  unfold afterD
  rw [if_pos h, he]
  rfl
theorem canD_none {d : Desk} {a : Dd} (he : doD d a = none) : canD d a = false := by
  unfold canD
  rw [he]
  simp
theorem F183 : FF 90 C183 := by
  refine fitXE [(26, C139), (111, C199), (13, C127), (29, C142)] (by simp only [List.mem_cons, List.not_mem_nil, or_false]; rintro _ (rfl | rfl | rfl | rfl) <;> first | exact F139 | exact F199 | exact F127 | exact F142) [(110, C198)] (by simp only [List.mem_cons, List.not_mem_nil, or_false]; rintro _ rfl; exact F198) Tryd.f90 ⟨rfl, by decide +kernel, by decide +kernel⟩ (fun _ _ _ hk h => hk _ h) ?_
  rintro ⟨⟨⟨p, bs, rs⟩, l⟩, ⟨k, a, b, w⟩⟩ K ⟨hI, ha⟩ h
  refine ⟨Nat.le_of_ble_eq_true rfl, ?_⟩
  dsimp only [enDe, deC, ded, encD] at hI ha ⊢
  repeat' ((conv => whnf); first | refine vA ?_ | with_reducible first | refine v8 ?_ | refine Sp.mk ?_ ?_ | refine vS ?_ | refine vR ?_ | refine vB ?_ | refine br_nt ?_ | refine br_tt ?_ | refine br_ff ?_ | refine vP ?_ | refine vQ ?_ | refine vT ?_ | refine vF ?_ | refine br_and ?_ | refine br_or ?_ | refine br_d (fun _ => ?_) fun _ => ?_ | refine vM (fun _ => ?_) fun _ => ?_)
  refine ⟨⟨⟨p, bs, rs⟩, l⟩, ?_, ⟨hI⟩, ?_⟩
  · repeat' ((conv => whnf); first | with_reducible exact True.intro | exact vW | with_reducible refine And.intro ?_ ?_)
  by_cases hO : deskOk ⟨⟨p, bs, rs⟩, l⟩
  · have hs := deskOk_short hO
    have hs2 := hs.2.1
    dsimp only at hs2
    repeat' ((conv => whnf); first | refine vA ?_ | with_reducible first | refine v8 ?_ | refine Sp.mk ?_ ?_ | refine vS ?_ | refine vR ?_ | refine vB ?_ | refine br_nt ?_ | refine br_tt ?_ | refine br_ff ?_ | refine vP ?_ | refine vQ ?_ | refine vT ?_ | refine vF ?_ | refine br_and ?_ | refine br_or ?_ | refine br_d (fun _ => ?_) fun _ => ?_ | refine vM (fun _ => ?_) fun _ => ?_)
    refine ⟨_, _, [], [], rfl, ?_, ?_, ⟨⟨p, bs, rs⟩, l⟩, rfl, rfl, ⟨hs⟩, ?_⟩
    · repeat' ((conv => whnf); first | with_reducible exact True.intro | exact vW | with_reducible refine And.intro ?_ ?_)
    · repeat' ((conv => whnf); first | with_reducible exact True.intro | exact vW | with_reducible refine And.intro ?_ ?_)
    dsimp only [deG, psO]
    repeat' ((conv => whnf); first | with_reducible refine wk_at 9 ?_ | with_reducible refine wk_at1 9 ?_ | with_reducible refine wk_at2 9 ?_ | refine vA ?_ | with_reducible first | refine v8 ?_ | refine Sp.mk ?_ ?_ | refine vS ?_ | refine vR ?_ | refine vB ?_ | refine br_nt ?_ | refine br_tt ?_ | refine br_ff ?_ | refine vP ?_ | refine vQ ?_ | refine vT ?_ | refine vF ?_ | refine br_and ?_ | refine br_or ?_ | refine br_d (fun _ => ?_) fun _ => ?_ | refine vM (fun _ => ?_) fun _ => ?_)
    · rename_i q1 q2 q3 q4 q5
      have hl : 0 < l.length := by omega
      have e0 : doD ⟨⟨p, bs, rs⟩, l⟩ ⟨k, a, b, w⟩ = some ⟨l.getD (l.length - 1) default, l.take (l.length - 1)⟩ := if_pos ⟨by subst q1; subst q2; subst q3; subst q4; rfl, hl⟩
      replace h : K (.tup [enDe (afterD ⟨⟨p, bs, rs⟩, l⟩ ⟨k, a, b, w⟩), .bool (canD ⟨⟨p, bs, rs⟩, l⟩ ⟨k, a, b, w⟩)]) := h
      rw [afterD_some hO e0, canD_some hO e0] at h
      have e1 : ((l.length : Int) - 1).toNat = l.length - 1 := by omega
      refine ⟨_, ?_, h⟩
      rw [e1, Nat.zero_add]
      repeat' ((conv => whnf); first | with_reducible exact True.intro | exact vW | with_reducible refine And.intro ?_ ?_)
      all_goals exact Chk.mk (ext_take (enc := plC) (d := default) (l := l) (n := l.length - 1) (by omega))
    all_goals
      have hnb : ¬ ((⟨k, a, b, w⟩ : Dd) = backD ∧ 0 < l.length) := by
        rintro ⟨e, e2⟩
        have e3 := congrArg Dd.kind e
        have e4 := congrArg Dd.a e
        have e5 := congrArg Dd.b e
        have e6 := congrArg Dd.words e
        dsimp only [backD] at e3 e4 e5 e6
        first | omega | exact absurd e6 (by assumption)
      refine ⟨Wk.go [(2, .ptr 0 0), (3, .ptr 1 0), (4, .ptr 2 0), (6, .ptr 3 0)] [.box (deC ⟨⟨p, bs, rs⟩, l⟩), .box (encD ⟨k, a, b, w⟩), .box [.int .i64 0, .nils, .nils, .nils], .box [.int .i64 p, slI bs, slS rs, .row 4 3 0 l.length], psO l] ⟨⟨[some 0, some 1, some 2, some 4, some 3], [], rfl, rfl, ?_, ?_⟩⟩ ?_⟩
      · repeat' ((conv => whnf); first | with_reducible exact True.intro | exact vW | with_reducible refine And.intro ?_ ?_)
      · repeat' ((conv => whnf); first | with_reducible exact True.intro | exact vW | with_reducible refine And.intro ?_ ?_)
      dsimp only [deC, encD, psO]
      repeat' ((conv => whnf); first | refine vA ?_ | with_reducible first | refine v8 ?_ | refine Sp.mk ?_ ?_ | refine vS ?_ | refine vR ?_ | refine vB ?_ | refine br_nt ?_ | refine br_tt ?_ | refine br_ff ?_ | refine vP ?_ | refine vQ ?_ | refine vT ?_ | refine vF ?_ | refine br_and ?_ | refine br_or ?_ | refine br_d (fun _ => ?_) fun _ => ?_ | refine vM (fun _ => ?_) fun _ => ?_)
      refine ⟨⟨⟨p, bs, rs⟩, ⟨k, a, b, w⟩⟩, ?_, ⟨hI.1, hs.1, ha⟩, ?_⟩
      · repeat' ((conv => whnf); first | with_reducible exact True.intro | exact vW | with_reducible refine And.intro ?_ ?_)
      have hMI := madeP_I (a := ⟨k, a, b, w⟩) hI.1 hs.1 ha
      replace h : K (.tup [enDe (afterD ⟨⟨p, bs, rs⟩, l⟩ ⟨k, a, b, w⟩), .bool (canD ⟨⟨p, bs, rs⟩, l⟩ ⟨k, a, b, w⟩)]) := h
      have eD : doD ⟨⟨p, bs, rs⟩, l⟩ ⟨k, a, b, w⟩ = _ := if_neg hnb
      dsimp only at hMI eD ⊢
      generalize madeP ⟨p, bs, rs⟩ ⟨k, a, b, w⟩ = M at hMI eD ⊢
      obtain ⟨mp, mb, mr⟩ := M
      dsimp only [enPl, plC]
      repeat' ((conv => whnf); first | refine vA ?_ | with_reducible first | refine v8 ?_ | refine Sp.mk ?_ ?_ | refine vS ?_ | refine vR ?_ | refine vB ?_ | refine br_nt ?_ | refine br_tt ?_ | refine br_ff ?_ | refine vP ?_ | refine vQ ?_ | refine vT ?_ | refine vF ?_ | refine br_and ?_ | refine br_or ?_ | refine br_d (fun _ => ?_) fun _ => ?_ | refine vM (fun _ => ?_) fun _ => ?_)
      refine Dr.mk ⟨(.rd 0 (.ef 1 (.rd 2 (.rd 3 (.rd 4 (.rd 6 (.rd 7 (.ef 5 (.ef 8 (.rd 9 (.rd 10 .dn)) .no) .no)))))) .no)), by decide +kernel, ?_⟩
      repeat' ((conv => whnf); first | refine vA ?_ | with_reducible first | refine v8 ?_ | refine Sp.mk ?_ ?_ | refine vS ?_ | refine vR ?_ | refine vB ?_ | refine br_nt ?_ | refine br_tt ?_ | refine br_ff ?_ | refine vP ?_ | refine vQ ?_ | refine vT ?_ | refine vF ?_ | refine br_and ?_ | refine br_or ?_ | refine br_d (fun _ => ?_) fun _ => ?_ | refine vM (fun _ => ?_) fun _ => ?_)
      refine ⟨⟨mp, mb, mr⟩, ?_, ⟨hMI⟩, ?_⟩
      · repeat' ((conv => whnf); first | with_reducible exact True.intro | exact vW | with_reducible refine And.intro ?_ ?_)
      repeat' ((conv => whnf); first | refine vA ?_ | with_reducible first | refine v8 ?_ | refine Sp.mk ?_ ?_ | refine vS ?_ | refine vR ?_ | refine vB ?_ | refine br_nt ?_ | refine br_tt ?_ | refine br_ff ?_ | refine vP ?_ | refine vQ ?_ | refine vT ?_ | refine vF ?_ | refine br_and ?_ | refine br_or ?_ | refine br_d (fun _ => ?_) fun _ => ?_ | refine vM (fun _ => ?_) fun _ => ?_)
      · rename_i hp
        replace hp : placeOk ⟨mp, mb, mr⟩ := hp
        refine ⟨⟨mp, mb, mr⟩, ?_, ⟨hMI⟩, ?_⟩
        · repeat' ((conv => whnf); first | with_reducible exact True.intro | exact vW | with_reducible refine And.intro ?_ ?_)
        repeat' ((conv => whnf); first | refine vA ?_ | with_reducible first | refine v8 ?_ | refine Sp.mk ?_ ?_ | refine vS ?_ | refine vR ?_ | refine vB ?_ | refine br_nt ?_ | refine br_tt ?_ | refine br_ff ?_ | refine vP ?_ | refine vQ ?_ | refine vT ?_ | refine vF ?_ | refine br_and ?_ | refine br_or ?_ | refine br_d (fun _ => ?_) fun _ => ?_ | refine vM (fun _ => ?_) fun _ => ?_)
        refine ⟨⟨p, bs, rs⟩, ?_, ⟨hI.1⟩, ?_⟩
        · repeat' ((conv => whnf); first | with_reducible exact True.intro | exact vW | with_reducible refine And.intro ?_ ?_)
        by_cases he : ptext ⟨mp, mb, mr⟩ = ptext ⟨p, bs, rs⟩
        · replace eD : doD ⟨⟨p, bs, rs⟩, l⟩ ⟨k, a, b, w⟩ = none := eD.trans (if_neg fun q => q.2 he)
          rw [afterD_none hO eD, canD_none eD] at h
          repeat' ((conv => whnf); first | refine vA ?_ | with_reducible first | refine v8 ?_ | refine Sp.mk ?_ ?_ | refine vS ?_ | refine vR ?_ | refine vB ?_ | refine br_nt ?_ | refine br_tt ?_ | refine br_ff ?_ | refine vP ?_ | refine vQ ?_ | refine vT ?_ | refine vF ?_ | refine br_and ?_ | refine br_or ?_ | refine br_d (fun _ => ?_) fun _ => ?_ | refine vM (fun _ => ?_) fun _ => ?_)
          refine ⟨_, ?_, h⟩
          repeat' ((conv => whnf); first | with_reducible exact True.intro | exact vW | with_reducible refine And.intro ?_ ?_)
          all_goals exact Chk.mk ⟨rfl, fun i _ => by dsimp only; rw [Nat.zero_add]; rfl⟩
        · replace eD : doD ⟨⟨p, bs, rs⟩, l⟩ ⟨k, a, b, w⟩ = some ⟨⟨mp, mb, mr⟩, pushP l ⟨p, bs, rs⟩⟩ := eD.trans (if_pos ⟨hp, he⟩)
          rw [afterD_some hO eD, canD_some hO eD] at h
          by_cases h8 : 8 < (l ++ [(⟨p, bs, rs⟩ : Place)]).length
          · rw [show pushP l ⟨p, bs, rs⟩ = (l ++ [(⟨p, bs, rs⟩ : Place)]).drop 1 from if_pos h8] at h
            simp only [List.length_append, List.length_cons, List.length_nil] at h8
            repeat' ((conv => whnf); first | refine vA ?_ | with_reducible first | refine v8 ?_ | refine Sp.mk ?_ ?_ | refine vS ?_ | refine vR ?_ | refine vB ?_ | refine br_nt ?_ | refine br_tt ?_ | refine br_ff ?_ | refine vP ?_ | refine vQ ?_ | refine vT ?_ | refine vF ?_ | refine br_and ?_ | refine br_or ?_ | refine br_d (fun _ => ?_) fun _ => ?_ | refine vM (fun _ => ?_) fun _ => ?_)
            first
            | refine ⟨_, ?_, h⟩
            | refine ⟨Chk.mk ⟨⟨by show 0 + 1 + (l.length + 1 - 1) ≤ l.length + 1; omega, trivial⟩, trivial⟩, _, ?_, h⟩
            repeat' ((conv => whnf); first | with_reducible exact True.intro | exact vW | with_reducible refine And.intro ?_ ?_)
            all_goals exact Chk.mk (ext_dropV (enc := plC) (d := default) (l := l) (x := ⟨p, bs, rs⟩) rfl)
          · rw [show pushP l ⟨p, bs, rs⟩ = l ++ [(⟨p, bs, rs⟩ : Place)] from if_neg h8] at h
            simp only [List.length_append, List.length_cons, List.length_nil] at h8
            repeat' ((conv => whnf); first | refine vA ?_ | with_reducible first | refine v8 ?_ | refine Sp.mk ?_ ?_ | refine vS ?_ | refine vR ?_ | refine vB ?_ | refine br_nt ?_ | refine br_tt ?_ | refine br_ff ?_ | refine vP ?_ | refine vQ ?_ | refine vT ?_ | refine vF ?_ | refine br_and ?_ | refine br_or ?_ | refine br_d (fun _ => ?_) fun _ => ?_ | refine vM (fun _ => ?_) fun _ => ?_)
            refine ⟨_, ?_, h⟩
            repeat' ((conv => whnf); first | with_reducible exact True.intro | exact vW | with_reducible refine And.intro ?_ ?_)
            all_goals exact Chk.mk (ext_pushV (enc := plC) (d := default) (l := l) (x := ⟨p, bs, rs⟩) rfl)
      · rename_i hp
        replace hp : ¬ placeOk ⟨mp, mb, mr⟩ := hp
        replace eD : doD ⟨⟨p, bs, rs⟩, l⟩ ⟨k, a, b, w⟩ = none := eD.trans (if_neg fun q => hp q.1)
        rw [afterD_none hO eD, canD_none eD] at h
        refine ⟨_, ?_, h⟩
        repeat' ((conv => whnf); first | with_reducible exact True.intro | exact vW | with_reducible refine And.intro ?_ ?_)
        all_goals exact Chk.mk ⟨rfl, fun i _ => by dsimp only; rw [Nat.zero_add]; rfl⟩
  · replace h : K (.tup [enDe (afterD ⟨⟨p, bs, rs⟩, l⟩ ⟨k, a, b, w⟩), .bool (canD ⟨⟨p, bs, rs⟩, l⟩ ⟨k, a, b, w⟩)]) := h
    rw [show afterD ⟨⟨p, bs, rs⟩, l⟩ ⟨k, a, b, w⟩ = default from if_neg hO, show canD ⟨⟨p, bs, rs⟩, l⟩ ⟨k, a, b, w⟩ = false by unfold canD; rw [decide_eq_false hO]; rfl] at h
    repeat' ((conv => whnf); first | refine vA ?_ | with_reducible first | refine v8 ?_ | refine Sp.mk ?_ ?_ | refine vS ?_ | refine vR ?_ | refine vB ?_ | refine br_nt ?_ | refine br_tt ?_ | refine br_ff ?_ | refine vP ?_ | refine vQ ?_ | refine vT ?_ | refine vF ?_ | refine br_and ?_ | refine br_or ?_ | refine br_d (fun _ => ?_) fun _ => ?_ | refine vM (fun _ => ?_) fun _ => ?_)
    refine ⟨_, ?_, h⟩
    repeat' ((conv => whnf); first | with_reducible exact True.intro | exact vW | with_reducible refine And.intro ?_ ?_)
end Go.Proofs.YtahfdkdneojkmaaDoor.Vc
end
section
/- Part TO: deeds and desks that are drawn. -/
namespace Go.Proofs.YtahfdkdneojkmaaDoor.Vc
open Go.Proofs
set_option maxRecDepth 10000
set_option maxHeartbeats 4000000
structure drawnA (a : Dd) : Prop where
  k0 : i64r a.kind
  a0 : i64r a.a
  b0 : i64r a.b
  w0 : a.words.size ≤ 10000
def placeS (x : Place) : Prop := placeI x ∧ x.bs.length ≤ 4 ∧ x.rules.length ≤ 100000
structure Pr where
  r : Rd
  x : Place
theorem kt {k : Int} (h0 : 0 ≤ k) (h : k < 8) (z : List AV) : ∃ v, 0 ≤ v ∧ v ≤ 4 ∧ [[AV.int .i64 0], [.int .i64 1], [.int .i64 2], [.int .i64 2], [.int .i64 2], [.int .i64 2], [.int .i64 3], [.int .i64 4]].getD (0 + k.toNat) z = [.int .i64 v] := by
  rcases (show k = 0 ∨ k = 1 ∨ k = 2 ∨ k = 3 ∨ k = 4 ∨ k = 5 ∨ k = 6 ∨ k = 7 by omega) with rfl | rfl | rfl | rfl | rfl | rfl | rfl | rfl <;> exact ⟨_, by decide, by decide, rfl⟩
def C184 : GC := conG (X := Pr) (fun x => [.ptr 0 0, enPl x.x]) (fun x => [rdO x.r.b x.r.p]) (fun x => x.r.okn 450000000 ∧ placeS x.x) fun x K => ∀ (a : Dd) (p' : Int), x.r.p ≤ p' → p' ≤ x.r.p + 250 → drawnA a → K (ded a) [rdO x.r.b p']
structure Lt (T : Prop) : Prop where
  t : T
/-- What several branches end in, shown once. -/
theorem later {T G : Prop} (m : Lt T → G) (t : T) : G := m ⟨t⟩
theorem F184 : GG 91 C184 := by
  refine fitG [(70, C173)] (by simp only [List.mem_cons, List.not_mem_nil, or_false]; rintro _ rfl <;> first | exact F173) [(69, C52), (72, C53), (71, C60)] (by simp only [List.mem_cons, List.not_mem_nil, or_false]; rintro _ (rfl | rfl | rfl) <;> first | exact F52 | exact F53 | exact F60) Tryd.f91 ⟨rfl, by decide +kernel, by decide +kernel⟩ (by intro x K K2 hk h; (try dsimp only at h ⊢); intros; apply hk; first | exact h | (apply h <;> assumption)) ?_
  rintro ⟨⟨b, p⟩, ⟨q, bs, rs⟩⟩ K ⟨⟨h1, h2, h3, h4⟩, h5, h6, h7⟩ h
  refine ⟨Nat.le_of_ble_eq_true rfl, ?_⟩
  dsimp only [enPl, plC] at h h1 h2 h3 h4 h5 h6 h7 ⊢
  apply later
  · intro key1
    repeat' ((conv => whnf); first | refine vA ?_ | with_reducible first | refine v8 ?_ | refine Sp.mk ?_ ?_ | refine vS ?_ | refine vR ?_ | refine vB ?_ | refine br_nt ?_ | refine br_tt ?_ | refine br_ff ?_ | refine vP ?_ | refine vQ ?_ | refine vT ?_ | refine vF ?_ | refine br_and ?_ | refine br_or ?_ | refine br_d (fun _ => ?_) fun _ => ?_ | refine vM (fun _ => ?_) fun _ => ?_)
    refine Dr.mk ⟨(.rd 1 (.rd 5 (.ef 0 (.ef 2 (.rd 3 (.rd 4 (.ef 6 (.rd 7 (.rd 8 (.rd 9 (.rd 10 (.ef 11 (.ef 12 .dn .no) .no))))) (.ef 11 (.ef 6 (.rd 7 (.rd 8 (.rd 9 (.rd 10 (.ef 12 .dn .no))))) .no) .no)))) (.ef 11 (.ef 2 (.rd 3 (.rd 4 (.ef 6 (.rd 7 (.rd 8 (.rd 9 (.rd 10 (.ef 12 .dn .no))))) .no))) .no) .no)) (.ef 2 (.ef 0 (.rd 3 (.rd 4 (.ef 6 (.rd 7 (.rd 8 (.rd 9 (.rd 10 (.ef 11 (.ef 12 .dn .no) .no))))) (.ef 11 (.ef 6 (.rd 7 (.rd 8 (.rd 9 (.rd 10 (.ef 12 .dn .no))))) .no) .no)))) (.ef 6 (.rd 7 (.rd 8 (.ef 0 (.rd 3 (.rd 4 (.rd 9 (.rd 10 (.ef 11 (.ef 12 .dn .no) .no))))) (.ef 11 (.ef 0 (.rd 3 (.rd 4 (.rd 9 (.rd 10 (.ef 12 .dn .no))))) .no) .no)))) (.ef 11 (.ef 0 (.rd 3 (.rd 4 (.ef 6 (.rd 7 (.rd 8 (.rd 9 (.rd 10 (.ef 12 .dn .no))))) .no))) (.ef 6 (.rd 7 (.rd 8 (.ef 0 (.rd 3 (.rd 4 (.rd 9 (.rd 10 (.ef 12 .dn .no))))) .no))) .no)) .no))) (.ef 11 (.ef 0 (.ef 2 (.rd 3 (.rd 4 (.ef 6 (.rd 7 (.rd 8 (.rd 9 (.rd 10 (.ef 12 .dn .no))))) .no))) .no) (.ef 2 (.ef 0 (.rd 3 (.rd 4 (.ef 6 (.rd 7 (.rd 8 (.rd 9 (.rd 10 (.ef 12 .dn .no))))) .no))) (.ef 6 (.rd 7 (.rd 8 (.ef 0 (.rd 3 (.rd 4 (.rd 9 (.rd 10 (.ef 12 .dn .no))))) .no))) .no)) .no)) .no))))), by decide +kernel, ?_⟩
    repeat' ((conv => whnf); first | refine vA ?_ | with_reducible first | refine v8 ?_ | refine Sp.mk ?_ ?_ | refine vS ?_ | refine vR ?_ | refine vB ?_ | refine br_nt ?_ | refine br_tt ?_ | refine br_ff ?_ | refine vP ?_ | refine vQ ?_ | refine vT ?_ | refine vF ?_ | refine br_and ?_ | refine br_or ?_ | refine br_d (fun _ => ?_) fun _ => ?_ | refine vM (fun _ => ?_) fun _ => ?_)
    all_goals
      refine ⟨_, _, [0], [], rfl, ?_, ?_, (⟨b, p⟩, 8), rfl, rfl, ⟨⟨h1, h2, ?_, ?_⟩, ?_⟩, ?_⟩
      · repeat' ((conv => whnf); first | with_reducible exact True.intro | exact vW | with_reducible refine And.intro ?_ ?_)
        try exact Chk.mk (by rw [pw_sh (by assumption)])
      · repeat' ((conv => whnf); first | with_reducible exact True.intro | exact vW | with_reducible refine And.intro ?_ ?_)
      · dsimp only; omega
      · dsimp only; omega
      · unfold i64r; dsimp only; omega
      intro k1 p1 a0 a1 a2
      dsimp only at a0 a1 a2
      obtain ⟨v, v0, v1, hv⟩ := kt (a1 (by decide)).1 (a1 (by decide)).2 (lookT TT 3).z
      repeat' ((conv => whnf); first | refine vA ?_ | with_reducible first | refine v8 ?_ | refine Sp.mk ?_ ?_ | refine vS ?_ | refine vR ?_ | refine vB ?_ | refine br_nt ?_ | refine br_tt ?_ | refine br_ff ?_ | refine vP ?_ | refine vQ ?_ | refine vT ?_ | refine vF ?_ | refine br_and ?_ | refine br_or ?_ | refine br_d (fun _ => ?_) fun _ => ?_ | refine vM (fun _ => ?_) fun _ => ?_)
    all_goals try
      dsimp only [List.drop]
      rw [hv]
      repeat' ((conv => whnf); first | refine vA ?_ | with_reducible first | refine v8 ?_ | refine Sp.mk ?_ ?_ | refine vS ?_ | refine vR ?_ | refine vB ?_ | refine br_nt ?_ | refine br_tt ?_ | refine br_ff ?_ | refine vP ?_ | refine vQ ?_ | refine vT ?_ | refine vF ?_ | refine br_and ?_ | refine br_or ?_ | refine br_d (fun _ => ?_) fun _ => ?_ | refine vM (fun _ => ?_) fun _ => ?_)
    all_goals
      refine ⟨_, _, [0], [], rfl, ?_, ?_, (⟨b, p1⟩, 60), rfl, rfl, ⟨⟨h1, h2, ?_, ?_⟩, ?_⟩, ?_⟩
      · repeat' ((conv => whnf); first | with_reducible exact True.intro | exact vW | with_reducible refine And.intro ?_ ?_)
        try exact Chk.mk (by rw [pw_sh (by assumption)])
      · repeat' ((conv => whnf); first | with_reducible exact True.intro | exact vW | with_reducible refine And.intro ?_ ?_)
      · dsimp only; omega
      · dsimp only; omega
      · unfold i64r; dsimp only; omega
      intro k2 p2 c0 c1 c2
      dsimp only at c0 c1 c2
      have e59 := Int.tdiv_eq_ediv_of_nonneg (a := k2) (b := 59) (c1 (by decide)).1
      have c3 := c1 (by decide)
      repeat' ((conv => whnf); first | with_reducible refine wk_at 3 ?_ | with_reducible refine wk_at1 3 ?_ | with_reducible refine wk_at2 3 ?_ | refine vA ?_ | with_reducible first | refine v8 ?_ | refine Sp.mk ?_ ?_ | refine vS ?_ | refine vR ?_ | refine vB ?_ | refine br_nt ?_ | refine br_tt ?_ | refine br_ff ?_ | refine vP ?_ | refine vQ ?_ | refine vT ?_ | refine vF ?_ | refine br_and ?_ | refine br_or ?_ | refine br_d (fun _ => ?_) fun _ => ?_ | refine vM (fun _ => ?_) fun _ => ?_)
    all_goals try
      dsimp only [List.drop]
      rw [hv]
      repeat' ((conv => whnf); first | with_reducible refine wk_at 3 ?_ | with_reducible refine wk_at1 3 ?_ | with_reducible refine wk_at2 3 ?_ | refine vA ?_ | with_reducible first | refine v8 ?_ | refine Sp.mk ?_ ?_ | refine vS ?_ | refine vR ?_ | refine vB ?_ | refine br_nt ?_ | refine br_tt ?_ | refine br_ff ?_ | refine vP ?_ | refine vQ ?_ | refine vT ?_ | refine vF ?_ | refine br_and ?_ | refine br_or ?_ | refine br_d (fun _ => ?_) fun _ => ?_ | refine vM (fun _ => ?_) fun _ => ?_)
    all_goals
      obtain ⟨V, hV⟩ : ∃ V, (if 6 < if 1 > q then 1 else q then 6 else if 1 > q then 1 else q) = V := ⟨_, rfl⟩
      obtain ⟨k, hk⟩ : ∃ k, v + k2.tdiv 59 * 5 = k := ⟨_, rfl⟩
      have pV : people V := by unfold people; subst hV; (repeat' split) <;> omega
      have k0 : i64r k := by unfold i64r; omega
      try rw [hV]
      try rw [hk]
      refine ⟨Wk.go [(0, .ptr 0 0), (3, .ptr 1 0), (4, .ptr 2 0), (5, .ptr 3 0), (6, .int .i64 V)] [rdO b p2, .box [.int .i64 q, slI bs, slS rs], .box [.int .i64 0, .int .i64 0, .int .i64 0, .str ⟨#[]⟩], .box [.int .i64 k, .int .i64 0, .int .i64 0, .str ⟨#[]⟩]] ?_ ?_⟩
      · first | (refine ⟨⟨[some 0, some 1, some 2, some 4], [], rfl, rfl, ?_, ?_⟩⟩ <;> (repeat' ((conv => whnf); first | with_reducible exact True.intro | exact vW | with_reducible refine And.intro ?_ ?_)) <;> fail) | (refine ⟨⟨[some 0, some 1, some 2, some 3], [], rfl, rfl, ?_, ?_⟩⟩ <;> (repeat' ((conv => whnf); first | with_reducible exact True.intro | exact vW | with_reducible refine And.intro ?_ ?_)) <;> fail)
      have hp2 : p ≤ p2 ∧ p2 ≤ p + 2 := by omega
      clear hV hk e59 c3 c0 c1 c2
      revert V k p2
      exact key1.t
  · intro p2 V k pV k0 hp2
    have pw2 := pw_le pV
    have hI := h5.1.1
    apply later
    · intro key2
      repeat' ((conv => whnf); first | with_reducible refine wk_at 15 ?_ | with_reducible refine wk_at1 15 ?_ | with_reducible refine wk_at2 15 ?_ | refine vA ?_ | with_reducible first | refine v8 ?_ | refine Sp.mk ?_ ?_ | refine vS ?_ | refine vR ?_ | refine vB ?_ | refine br_nt ?_ | refine br_tt ?_ | refine br_ff ?_ | refine vP ?_ | refine vQ ?_ | refine vT ?_ | refine vF ?_ | refine br_and ?_ | refine br_or ?_ | refine br_d (fun _ => ?_) fun _ => ?_ | refine vM (fun _ => ?_) fun _ => ?_)
      · repeat' ((conv => whnf); first | with_reducible refine Wr.ex (wsh pV) ?_ | with_reducible refine Wr.ex (wi64 (by rw [pw_sh pV]; omega) (by rw [pw_sh pV]; omega)) ?_ | refine vA ?_ | with_reducible first | refine v8 ?_ | refine Sp.mk ?_ ?_ | refine vS ?_ | refine vR ?_ | refine vB ?_ | refine br_nt ?_ | refine br_tt ?_ | refine br_ff ?_ | refine vP ?_ | refine vQ ?_ | refine vT ?_ | refine vF ?_ | refine br_and ?_ | refine br_or ?_ | refine br_d (fun _ => ?_) fun _ => ?_ | refine vM (fun _ => ?_) fun _ => ?_)
        refine ⟨_, _, [0], [], rfl, ?_, ?_, (⟨b, p2⟩, (pw V - 1)), rfl, rfl, ⟨⟨h1, h2, ?_, ?_⟩, ?_⟩, ?_⟩
        · repeat' ((conv => whnf); first | with_reducible exact True.intro | exact vW | with_reducible refine And.intro ?_ ?_)
          try exact Chk.mk (by rw [pw_sh (by assumption)])
        · repeat' ((conv => whnf); first | with_reducible exact True.intro | exact vW | with_reducible refine And.intro ?_ ?_)
        · dsimp only; omega
        · dsimp only; omega
        · unfold i64r; dsimp only; omega
        intro j1 p3 c0 c1 c2
        dsimp only at c0 c1 c2
        repeat' ((conv => whnf); first | with_reducible refine wk_at 15 ?_ | with_reducible refine wk_at1 15 ?_ | with_reducible refine wk_at2 15 ?_ | refine vA ?_ | with_reducible first | refine v8 ?_ | refine Sp.mk ?_ ?_ | refine vS ?_ | refine vR ?_ | refine vB ?_ | refine br_nt ?_ | refine br_tt ?_ | refine br_ff ?_ | refine vP ?_ | refine vQ ?_ | refine vT ?_ | refine vF ?_ | refine br_and ?_ | refine br_or ?_ | refine br_d (fun _ => ?_) fun _ => ?_ | refine vM (fun _ => ?_) fun _ => ?_)
        obtain ⟨A, hA⟩ : ∃ A : Int, A = 1+j1 := ⟨_, rfl⟩
        obtain ⟨B, hB⟩ : ∃ B : Int, B = 0 := ⟨_, rfl⟩
        obtain ⟨W, hW⟩ : ∃ W : ByteArray, ⟨#[]⟩ = W := ⟨_, rfl⟩
        have A0 : i64r A := by rw [hA]; first | exact wi64r _ | (unfold i64r; omega)
        have B0 : i64r B := by rw [hB]; first | exact wi64r _ | (unfold i64r; omega)
        have W0 : W.size ≤ 10000 := by rw [← hW]; first | exact ttext_size _ _ | exact Nat.zero_le _
        obtain ⟨p9, hp9⟩ : ∃ p9 : Int, p9 = p3 := ⟨_, rfl⟩
        have p90 : p ≤ p9 ∧ p9 ≤ p + 200 := by omega
        refine ⟨Wk.go [(0, .ptr 0 0), (4, .ptr 1 0), (5, .ptr 2 0)] [rdO b p9, .box [.int .i64 0, .int .i64 0, .int .i64 0, .str ⟨#[]⟩], .box [.int .i64 k, .int .i64 A, .int .i64 B, .str W]] ⟨⟨[some 0, some 2, some 3], [], rfl, rfl, ?_, ?_⟩⟩ ?_⟩
        · repeat' ((conv => whnf); first | with_reducible exact True.intro | exact vW | with_reducible refine And.intro ?_ ?_)
        · subst hW
          repeat' ((conv => whnf); first | with_reducible exact True.intro | exact vW | with_reducible refine And.intro ?_ ?_)
        clear hA hB hW hp9
        revert A B W p9
        exact key2.t
      · refine Dr.mk ⟨(.rd 0 (.rd 1 (.rd 2 (.rd 3 (.rd 4 (.ef 5 (.ef 6 (.rd 7 (.ef 8 .dn .no)) .no) .no)))))), by decide +kernel, ?_⟩
        repeat' ((conv => whnf); first | refine vA ?_ | with_reducible first | refine v8 ?_ | refine Sp.mk ?_ ?_ | refine vS ?_ | refine vR ?_ | refine vB ?_ | refine br_nt ?_ | refine br_tt ?_ | refine br_ff ?_ | refine vP ?_ | refine vQ ?_ | refine vT ?_ | refine vF ?_ | refine br_and ?_ | refine br_or ?_ | refine br_d (fun _ => ?_) fun _ => ?_ | refine vM (fun _ => ?_) fun _ => ?_)
        refine ⟨_, _, [0], [], rfl, ?_, ?_, ⟨⟨b, p2⟩, ⟨q, bs⟩, 0⟩, rfl, rfl, ⟨⟨h1, h2, by dsimp only; omega, by dsimp only; omega⟩, hI, by dsimp only; omega, by unfold i64r; dsimp only; omega⟩, ?_⟩
        · repeat' ((conv => whnf); first | with_reducible exact True.intro | exact vW | with_reducible refine And.intro ?_ ?_)
        · repeat' ((conv => whnf); first | with_reducible exact True.intro | exact vW | with_reducible refine And.intro ?_ ?_)
        intro t p3 t1 t2 t3 t4
        dsimp only at t1 t2 t3 t4 ⊢
        repeat' ((conv => whnf); first | refine vA ?_ | with_reducible first | refine v8 ?_ | refine Sp.mk ?_ ?_ | refine vS ?_ | refine vR ?_ | refine vB ?_ | refine br_nt ?_ | refine br_tt ?_ | refine br_ff ?_ | refine vP ?_ | refine vQ ?_ | refine vT ?_ | refine vF ?_ | refine br_and ?_ | refine br_or ?_ | refine br_d (fun _ => ?_) fun _ => ?_ | refine vM (fun _ => ?_) fun _ => ?_)
        refine ⟨(⟨q, bs⟩, t), ?_, ⟨hI, by dsimp only; omega, t4, by dsimp only; omega⟩, ?_⟩
        · repeat' ((conv => whnf); first | with_reducible exact True.intro | exact vW | with_reducible refine And.intro ?_ ?_)
        repeat' ((conv => whnf); first | with_reducible refine wk_at 15 ?_ | with_reducible refine wk_at1 15 ?_ | with_reducible refine wk_at2 15 ?_ | refine vA ?_ | with_reducible first | refine v8 ?_ | refine Sp.mk ?_ ?_ | refine vS ?_ | refine vR ?_ | refine vB ?_ | refine br_nt ?_ | refine br_tt ?_ | refine br_ff ?_ | refine vP ?_ | refine vQ ?_ | refine vT ?_ | refine vF ?_ | refine br_and ?_ | refine br_or ?_ | refine br_d (fun _ => ?_) fun _ => ?_ | refine vM (fun _ => ?_) fun _ => ?_)
        obtain ⟨A, hA⟩ : ∃ A : Int, A = 0 := ⟨_, rfl⟩
        obtain ⟨B, hB⟩ : ∃ B : Int, B = 0 := ⟨_, rfl⟩
        obtain ⟨W, hW⟩ : ∃ W : ByteArray, ttext (⟨q,bs⟩,t) = W := ⟨_, rfl⟩
        have A0 : i64r A := by rw [hA]; first | exact wi64r _ | (unfold i64r; omega)
        have B0 : i64r B := by rw [hB]; first | exact wi64r _ | (unfold i64r; omega)
        have W0 : W.size ≤ 10000 := by rw [← hW]; first | exact ttext_size _ _ | exact Nat.zero_le _
        obtain ⟨p9, hp9⟩ : ∃ p9 : Int, p9 = p3 := ⟨_, rfl⟩
        have p90 : p ≤ p9 ∧ p9 ≤ p + 200 := by omega
        refine ⟨Wk.go [(0, .ptr 0 0), (4, .ptr 1 0), (5, .ptr 2 0)] [rdO b p9, .box [.int .i64 0, .int .i64 0, .int .i64 0, .str ⟨#[]⟩], .box [.int .i64 k, .int .i64 A, .int .i64 B, .str W]] ⟨⟨[some 0, some 2, some 3], [], rfl, rfl, ?_, ?_⟩⟩ ?_⟩
        · repeat' ((conv => whnf); first | with_reducible exact True.intro | exact vW | with_reducible refine And.intro ?_ ?_)
        · subst hW
          repeat' ((conv => whnf); first | with_reducible exact True.intro | exact vW | with_reducible refine And.intro ?_ ?_)
        clear hA hB hW hp9
        revert A B W p9
        exact key2.t
      · refine ⟨_, _, [0], [], rfl, ?_, ?_, (⟨b, p2⟩, (if 1 > (rs.length : Int) then 1 else (rs.length : Int))), rfl, rfl, ⟨⟨h1, h2, ?_, ?_⟩, ?_⟩, ?_⟩
        · repeat' ((conv => whnf); first | with_reducible exact True.intro | exact vW | with_reducible refine And.intro ?_ ?_)
          try exact Chk.mk (by rw [pw_sh (by assumption)])
        · repeat' ((conv => whnf); first | with_reducible exact True.intro | exact vW | with_reducible refine And.intro ?_ ?_)
        · dsimp only; omega
        · dsimp only; omega
        · unfold i64r; dsimp only; omega
        intro j1 p3 c0 c1 c2
        dsimp only at c0 c1 c2
        have c3 : i64r j1 := by unfold i64r; split at c1 <;> omega
        repeat' ((conv => whnf); first | refine vA ?_ | with_reducible first | refine v8 ?_ | refine Sp.mk ?_ ?_ | refine vS ?_ | refine vR ?_ | refine vB ?_ | refine br_nt ?_ | refine br_tt ?_ | refine br_ff ?_ | refine vP ?_ | refine vQ ?_ | refine vT ?_ | refine vF ?_ | refine br_and ?_ | refine br_or ?_ | refine br_d (fun _ => ?_) fun _ => ?_ | refine vM (fun _ => ?_) fun _ => ?_)
        refine Dr.mk ⟨(.rd 0 (.rd 1 (.rd 2 (.rd 4 (.rd 5 (.rd 6 (.ef 3 (.ef 7 (.rd 8 (.rd 9 (.ef 10 .dn .no))) .no) .no))))))), by decide +kernel, ?_⟩
        repeat' ((conv => whnf); first | with_reducible refine Wr.ex (wsh pV) ?_ | refine vA ?_ | with_reducible first | refine v8 ?_ | refine Sp.mk ?_ ?_ | refine vS ?_ | refine vR ?_ | refine vB ?_ | refine br_nt ?_ | refine br_tt ?_ | refine br_ff ?_ | refine vP ?_ | refine vQ ?_ | refine vT ?_ | refine vF ?_ | refine br_and ?_ | refine br_or ?_ | refine br_d (fun _ => ?_) fun _ => ?_ | refine vM (fun _ => ?_) fun _ => ?_)
        refine ⟨_, _, [0], [], rfl, ?_, ?_, (⟨b, p3⟩, (pw V)), rfl, rfl, ⟨⟨h1, h2, ?_, ?_⟩, ?_⟩, ?_⟩
        · repeat' ((conv => whnf); first | with_reducible exact True.intro | exact vW | with_reducible refine And.intro ?_ ?_)
          try exact Chk.mk (by rw [pw_sh (by assumption)])
        · repeat' ((conv => whnf); first | with_reducible exact True.intro | exact vW | with_reducible refine And.intro ?_ ?_)
        · dsimp only; omega
        · dsimp only; omega
        · unfold i64r; dsimp only; omega
        intro j2 p4 d0 d1 d2
        dsimp only at d0 d1 d2
        repeat' ((conv => whnf); first | refine vA ?_ | with_reducible first | refine v8 ?_ | refine Sp.mk ?_ ?_ | refine vS ?_ | refine vR ?_ | refine vB ?_ | refine br_nt ?_ | refine br_tt ?_ | refine br_ff ?_ | refine vP ?_ | refine vQ ?_ | refine vT ?_ | refine vF ?_ | refine br_and ?_ | refine br_or ?_ | refine br_d (fun _ => ?_) fun _ => ?_ | refine vM (fun _ => ?_) fun _ => ?_)
        refine ⟨_, _, [0], [], rfl, ?_, ?_, (⟨b, p4⟩, (pw V)), rfl, rfl, ⟨⟨h1, h2, ?_, ?_⟩, ?_⟩, ?_⟩
        · repeat' ((conv => whnf); first | with_reducible exact True.intro | exact vW | with_reducible refine And.intro ?_ ?_)
          try exact Chk.mk (by rw [pw_sh (by assumption)])
        · repeat' ((conv => whnf); first | with_reducible exact True.intro | exact vW | with_reducible refine And.intro ?_ ?_)
        · dsimp only; omega
        · dsimp only; omega
        · unfold i64r; dsimp only; omega
        intro j3 p5 e0 e1 e2
        dsimp only at e0 e1 e2
        repeat' ((conv => whnf); first | refine vA ?_ | with_reducible first | refine v8 ?_ | refine Sp.mk ?_ ?_ | refine vS ?_ | refine vR ?_ | refine vB ?_ | refine br_nt ?_ | refine br_tt ?_ | refine br_ff ?_ | refine vP ?_ | refine vQ ?_ | refine vT ?_ | refine vF ?_ | refine br_and ?_ | refine br_or ?_ | refine br_d (fun _ => ?_) fun _ => ?_ | refine vM (fun _ => ?_) fun _ => ?_)
        refine Dr.mk ⟨(.rd 0 (.rd 1 (.rd 2 (.rd 3 (.rd 4 (.ef 5 (.ef 6 (.rd 7 (.ef 8 .dn .no)) .no) .no)))))), by decide +kernel, ?_⟩
        repeat' ((conv => whnf); first | refine vA ?_ | with_reducible first | refine v8 ?_ | refine Sp.mk ?_ ?_ | refine vS ?_ | refine vR ?_ | refine vB ?_ | refine br_nt ?_ | refine br_tt ?_ | refine br_ff ?_ | refine vP ?_ | refine vQ ?_ | refine vT ?_ | refine vF ?_ | refine br_and ?_ | refine br_or ?_ | refine br_d (fun _ => ?_) fun _ => ?_ | refine vM (fun _ => ?_) fun _ => ?_)
        refine ⟨_, _, [0], [], rfl, ?_, ?_, ⟨⟨b, p5⟩, ⟨q, bs⟩, 0⟩, rfl, rfl, ⟨⟨h1, h2, by dsimp only; omega, by dsimp only; omega⟩, hI, by dsimp only; omega, by unfold i64r; dsimp only; omega⟩, ?_⟩
        · repeat' ((conv => whnf); first | with_reducible exact True.intro | exact vW | with_reducible refine And.intro ?_ ?_)
        · repeat' ((conv => whnf); first | with_reducible exact True.intro | exact vW | with_reducible refine And.intro ?_ ?_)
        intro t p6 t1 t2 t3 t4
        dsimp only at t1 t2 t3 t4 ⊢
        repeat' ((conv => whnf); first | refine vA ?_ | with_reducible first | refine v8 ?_ | refine Sp.mk ?_ ?_ | refine vS ?_ | refine vR ?_ | refine vB ?_ | refine br_nt ?_ | refine br_tt ?_ | refine br_ff ?_ | refine vP ?_ | refine vQ ?_ | refine vT ?_ | refine vF ?_ | refine br_and ?_ | refine br_or ?_ | refine br_d (fun _ => ?_) fun _ => ?_ | refine vM (fun _ => ?_) fun _ => ?_)
        refine ⟨(⟨q, bs⟩, t), ?_, ⟨hI, by dsimp only; omega, t4, by dsimp only; omega⟩, ?_⟩
        · repeat' ((conv => whnf); first | with_reducible exact True.intro | exact vW | with_reducible refine And.intro ?_ ?_)
        repeat' ((conv => whnf); first | with_reducible refine wk_at 15 ?_ | with_reducible refine wk_at1 15 ?_ | with_reducible refine wk_at2 15 ?_ | refine vA ?_ | with_reducible first | refine v8 ?_ | refine Sp.mk ?_ ?_ | refine vS ?_ | refine vR ?_ | refine vB ?_ | refine br_nt ?_ | refine br_tt ?_ | refine br_ff ?_ | refine vP ?_ | refine vQ ?_ | refine vT ?_ | refine vF ?_ | refine br_and ?_ | refine br_or ?_ | refine br_d (fun _ => ?_) fun _ => ?_ | refine vM (fun _ => ?_) fun _ => ?_)
        obtain ⟨A, hA⟩ : ∃ A : Int, A = j1 := ⟨_, rfl⟩
        obtain ⟨B, hB⟩ : ∃ B : Int, B = (bitop .i64 .or j2 j3) := ⟨_, rfl⟩
        obtain ⟨W, hW⟩ : ∃ W : ByteArray, ttext (⟨q,bs⟩,t) = W := ⟨_, rfl⟩
        have A0 : i64r A := by rw [hA]; first | exact wi64r _ | (unfold i64r; omega)
        have B0 : i64r B := by rw [hB]; first | exact wi64r _ | (unfold i64r; omega)
        have W0 : W.size ≤ 10000 := by rw [← hW]; first | exact ttext_size _ _ | exact Nat.zero_le _
        obtain ⟨p9, hp9⟩ : ∃ p9 : Int, p9 = p6 := ⟨_, rfl⟩
        have p90 : p ≤ p9 ∧ p9 ≤ p + 200 := by omega
        refine ⟨Wk.go [(0, .ptr 0 0), (4, .ptr 1 0), (5, .ptr 2 0)] [rdO b p9, .box [.int .i64 0, .int .i64 0, .int .i64 0, .str ⟨#[]⟩], .box [.int .i64 k, .int .i64 A, .int .i64 B, .str W]] ⟨⟨[some 0, some 2, some 3], [], rfl, rfl, ?_, ?_⟩⟩ ?_⟩
        · repeat' ((conv => whnf); first | with_reducible exact True.intro | exact vW | with_reducible refine And.intro ?_ ?_)
        · subst hW
          repeat' ((conv => whnf); first | with_reducible exact True.intro | exact vW | with_reducible refine And.intro ?_ ?_)
        clear hA hB hW hp9
        revert A B W p9
        exact key2.t
      · refine ⟨_, _, [0], [], rfl, ?_, ?_, (⟨b, p2⟩, (if 1 > (rs.length : Int) then 1 else (rs.length : Int))), rfl, rfl, ⟨⟨h1, h2, ?_, ?_⟩, ?_⟩, ?_⟩
        · repeat' ((conv => whnf); first | with_reducible exact True.intro | exact vW | with_reducible refine And.intro ?_ ?_)
          try exact Chk.mk (by rw [pw_sh (by assumption)])
        · repeat' ((conv => whnf); first | with_reducible exact True.intro | exact vW | with_reducible refine And.intro ?_ ?_)
        · dsimp only; omega
        · dsimp only; omega
        · unfold i64r; dsimp only; omega
        intro j1 p3 c0 c1 c2
        dsimp only at c0 c1 c2
        have c3 : i64r j1 := by unfold i64r; split at c1 <;> omega
        repeat' ((conv => whnf); first | refine vA ?_ | with_reducible first | refine v8 ?_ | refine Sp.mk ?_ ?_ | refine vS ?_ | refine vR ?_ | refine vB ?_ | refine br_nt ?_ | refine br_tt ?_ | refine br_ff ?_ | refine vP ?_ | refine vQ ?_ | refine vT ?_ | refine vF ?_ | refine br_and ?_ | refine br_or ?_ | refine br_d (fun _ => ?_) fun _ => ?_ | refine vM (fun _ => ?_) fun _ => ?_)
        refine Dr.mk ⟨(.rd 0 (.rd 1 (.rd 2 (.rd 4 (.rd 5 (.rd 6 (.ef 3 (.ef 7 (.rd 8 (.rd 9 (.ef 10 .dn .no))) .no) .no))))))), by decide +kernel, ?_⟩
        repeat' ((conv => whnf); first | with_reducible refine Wr.ex (wsh pV) ?_ | refine vA ?_ | with_reducible first | refine v8 ?_ | refine Sp.mk ?_ ?_ | refine vS ?_ | refine vR ?_ | refine vB ?_ | refine br_nt ?_ | refine br_tt ?_ | refine br_ff ?_ | refine vP ?_ | refine vQ ?_ | refine vT ?_ | refine vF ?_ | refine br_and ?_ | refine br_or ?_ | refine br_d (fun _ => ?_) fun _ => ?_ | refine vM (fun _ => ?_) fun _ => ?_)
        refine ⟨_, _, [0], [], rfl, ?_, ?_, (⟨b, p3⟩, (pw V)), rfl, rfl, ⟨⟨h1, h2, ?_, ?_⟩, ?_⟩, ?_⟩
        · repeat' ((conv => whnf); first | with_reducible exact True.intro | exact vW | with_reducible refine And.intro ?_ ?_)
          try exact Chk.mk (by rw [pw_sh (by assumption)])
        · repeat' ((conv => whnf); first | with_reducible exact True.intro | exact vW | with_reducible refine And.intro ?_ ?_)
        · dsimp only; omega
        · dsimp only; omega
        · unfold i64r; dsimp only; omega
        intro j2 p4 d0 d1 d2
        dsimp only at d0 d1 d2
        repeat' ((conv => whnf); first | refine vA ?_ | with_reducible first | refine v8 ?_ | refine Sp.mk ?_ ?_ | refine vS ?_ | refine vR ?_ | refine vB ?_ | refine br_nt ?_ | refine br_tt ?_ | refine br_ff ?_ | refine vP ?_ | refine vQ ?_ | refine vT ?_ | refine vF ?_ | refine br_and ?_ | refine br_or ?_ | refine br_d (fun _ => ?_) fun _ => ?_ | refine vM (fun _ => ?_) fun _ => ?_)
        refine ⟨_, _, [0], [], rfl, ?_, ?_, (⟨b, p4⟩, (pw V)), rfl, rfl, ⟨⟨h1, h2, ?_, ?_⟩, ?_⟩, ?_⟩
        · repeat' ((conv => whnf); first | with_reducible exact True.intro | exact vW | with_reducible refine And.intro ?_ ?_)
          try exact Chk.mk (by rw [pw_sh (by assumption)])
        · repeat' ((conv => whnf); first | with_reducible exact True.intro | exact vW | with_reducible refine And.intro ?_ ?_)
        · dsimp only; omega
        · dsimp only; omega
        · unfold i64r; dsimp only; omega
        intro j3 p5 e0 e1 e2
        dsimp only at e0 e1 e2
        repeat' ((conv => whnf); first | with_reducible refine wk_at 15 ?_ | with_reducible refine wk_at1 15 ?_ | with_reducible refine wk_at2 15 ?_ | refine vA ?_ | with_reducible first | refine v8 ?_ | refine Sp.mk ?_ ?_ | refine vS ?_ | refine vR ?_ | refine vB ?_ | refine br_nt ?_ | refine br_tt ?_ | refine br_ff ?_ | refine vP ?_ | refine vQ ?_ | refine vT ?_ | refine vF ?_ | refine br_and ?_ | refine br_or ?_ | refine br_d (fun _ => ?_) fun _ => ?_ | refine vM (fun _ => ?_) fun _ => ?_)
        obtain ⟨A, hA⟩ : ∃ A : Int, A = j1 := ⟨_, rfl⟩
        obtain ⟨B, hB⟩ : ∃ B : Int, B = (bitop .i64 .or j2 j3) := ⟨_, rfl⟩
        obtain ⟨W, hW⟩ : ∃ W : ByteArray, ⟨#[]⟩ = W := ⟨_, rfl⟩
        have A0 : i64r A := by rw [hA]; first | exact wi64r _ | (unfold i64r; omega)
        have B0 : i64r B := by rw [hB]; first | exact wi64r _ | (unfold i64r; omega)
        have W0 : W.size ≤ 10000 := by rw [← hW]; first | exact ttext_size _ _ | exact Nat.zero_le _
        obtain ⟨p9, hp9⟩ : ∃ p9 : Int, p9 = p5 := ⟨_, rfl⟩
        have p90 : p ≤ p9 ∧ p9 ≤ p + 200 := by omega
        refine ⟨Wk.go [(0, .ptr 0 0), (4, .ptr 1 0), (5, .ptr 2 0)] [rdO b p9, .box [.int .i64 0, .int .i64 0, .int .i64 0, .str ⟨#[]⟩], .box [.int .i64 k, .int .i64 A, .int .i64 B, .str W]] ⟨⟨[some 0, some 2, some 3], [], rfl, rfl, ?_, ?_⟩⟩ ?_⟩
        · repeat' ((conv => whnf); first | with_reducible exact True.intro | exact vW | with_reducible refine And.intro ?_ ?_)
        · subst hW
          repeat' ((conv => whnf); first | with_reducible exact True.intro | exact vW | with_reducible refine And.intro ?_ ?_)
        clear hA hB hW hp9
        revert A B W p9
        exact key2.t
      · obtain ⟨A, hA⟩ : ∃ A : Int, A = 0 := ⟨_, rfl⟩
        obtain ⟨B, hB⟩ : ∃ B : Int, B = 0 := ⟨_, rfl⟩
        obtain ⟨W, hW⟩ : ∃ W : ByteArray, ⟨#[]⟩ = W := ⟨_, rfl⟩
        have A0 : i64r A := by rw [hA]; first | exact wi64r _ | (unfold i64r; omega)
        have B0 : i64r B := by rw [hB]; first | exact wi64r _ | (unfold i64r; omega)
        have W0 : W.size ≤ 10000 := by rw [← hW]; first | exact ttext_size _ _ | exact Nat.zero_le _
        obtain ⟨p9, hp9⟩ : ∃ p9 : Int, p9 = p2 := ⟨_, rfl⟩
        have p90 : p ≤ p9 ∧ p9 ≤ p + 200 := by omega
        refine ⟨Wk.go [(0, .ptr 0 0), (4, .ptr 1 0), (5, .ptr 2 0)] [rdO b p9, .box [.int .i64 0, .int .i64 0, .int .i64 0, .str ⟨#[]⟩], .box [.int .i64 k, .int .i64 A, .int .i64 B, .str W]] ⟨⟨[some 0, some 2, some 3], [], rfl, rfl, ?_, ?_⟩⟩ ?_⟩
        · repeat' ((conv => whnf); first | with_reducible exact True.intro | exact vW | with_reducible refine And.intro ?_ ?_)
        · subst hW
          repeat' ((conv => whnf); first | with_reducible exact True.intro | exact vW | with_reducible refine And.intro ?_ ?_)
        clear hA hB hW hp9
        revert A B W p9
        exact key2.t
    · intro A B W A0 B0 W0 p9 p90
      repeat' ((conv => whnf); first | refine vA ?_ | with_reducible first | refine v8 ?_ | refine Sp.mk ?_ ?_ | refine vS ?_ | refine vR ?_ | refine vB ?_ | refine br_nt ?_ | refine br_tt ?_ | refine br_ff ?_ | refine vP ?_ | refine vQ ?_ | refine vT ?_ | refine vF ?_ | refine br_and ?_ | refine br_or ?_ | refine br_d (fun _ => ?_) fun _ => ?_ | refine vM (fun _ => ?_) fun _ => ?_)
      refine ⟨_, _, [0], [], rfl, ?_, ?_, (⟨b, p9⟩, 40), rfl, rfl, ⟨⟨h1, h2, by dsimp only; omega, by dsimp only; omega⟩, by unfold i64r; dsimp only; omega⟩, ?_⟩
      · repeat' ((conv => whnf); first | with_reducible exact True.intro | exact vW | with_reducible refine And.intro ?_ ?_)
      · repeat' ((conv => whnf); first | with_reducible exact True.intro | exact vW | with_reducible refine And.intro ?_ ?_)
      intro o p10 g1 g2
      dsimp only at g1 g2
      repeat' ((conv => whnf); first | refine vA ?_ | with_reducible first | refine v8 ?_ | refine Sp.mk ?_ ?_ | refine vS ?_ | refine vR ?_ | refine vB ?_ | refine br_nt ?_ | refine br_tt ?_ | refine br_ff ?_ | refine vP ?_ | refine vQ ?_ | refine vT ?_ | refine vF ?_ | refine br_and ?_ | refine br_or ?_ | refine br_d (fun _ => ?_) fun _ => ?_ | refine vM (fun _ => ?_) fun _ => ?_)
      · refine ⟨_, _, [0], [], rfl, ?_, ?_, (⟨b, p10⟩, 3), rfl, rfl, ⟨⟨h1, h2, ?_, ?_⟩, ?_⟩, ?_⟩
        · repeat' ((conv => whnf); first | with_reducible exact True.intro | exact vW | with_reducible refine And.intro ?_ ?_)
          try exact Chk.mk (by rw [pw_sh (by assumption)])
        · repeat' ((conv => whnf); first | with_reducible exact True.intro | exact vW | with_reducible refine And.intro ?_ ?_)
        · dsimp only; omega
        · dsimp only; omega
        · unfold i64r; dsimp only; omega
        intro r1 p11 f0 f1 f2
        dsimp only at f0 f1 f2
        repeat' ((conv => whnf); first | refine vA ?_ | with_reducible first | refine v8 ?_ | refine Sp.mk ?_ ?_ | refine vS ?_ | refine vR ?_ | refine vB ?_ | refine br_nt ?_ | refine br_tt ?_ | refine br_ff ?_ | refine vP ?_ | refine vQ ?_ | refine vT ?_ | refine vF ?_ | refine br_and ?_ | refine br_or ?_ | refine br_d (fun _ => ?_) fun _ => ?_ | refine vM (fun _ => ?_) fun _ => ?_)
        · refine ⟨_, _, [0], [], rfl, ?_, ?_, (⟨b, p11⟩, 2), rfl, rfl, ⟨⟨h1, h2, ?_, ?_⟩, ?_⟩, ?_⟩
          · repeat' ((conv => whnf); first | with_reducible exact True.intro | exact vW | with_reducible refine And.intro ?_ ?_)
            try exact Chk.mk (by rw [pw_sh (by assumption)])
          · repeat' ((conv => whnf); first | with_reducible exact True.intro | exact vW | with_reducible refine And.intro ?_ ?_)
          · dsimp only; omega
          · dsimp only; omega
          · unfold i64r; dsimp only; omega
          intro r2 p12 g0 g1 g2
          dsimp only at g0 g1 g2
          rcases (show r2 = 0 ∨ r2 = 1 by omega) with rfl | rfl
          · repeat' ((conv => whnf); first | refine vA ?_ | with_reducible first | refine v8 ?_ | refine Sp.mk ?_ ?_ | refine vS ?_ | refine vR ?_ | refine vB ?_ | refine br_nt ?_ | refine br_tt ?_ | refine br_ff ?_ | refine vP ?_ | refine vQ ?_ | refine vT ?_ | refine vF ?_ | refine br_and ?_ | refine br_or ?_ | refine br_d (fun _ => ?_) fun _ => ?_ | refine vM (fun _ => ?_) fun _ => ?_)
            refine ⟨_, _, [some 0], [], rfl, rfl, ?_, ?_, h ⟨k, (-1), B, W⟩ p12 (by omega) (by omega) ⟨k0, (show i64r (-1) from ⟨by decide,by decide⟩), B0, W0⟩⟩
            · repeat' ((conv => whnf); first | with_reducible exact True.intro | exact vW | with_reducible refine And.intro ?_ ?_)
            · repeat' ((conv => whnf); first | with_reducible exact True.intro | exact vW | with_reducible refine And.intro ?_ ?_)
          · repeat' ((conv => whnf); first | refine vA ?_ | with_reducible first | refine v8 ?_ | refine Sp.mk ?_ ?_ | refine vS ?_ | refine vR ?_ | refine vB ?_ | refine br_nt ?_ | refine br_tt ?_ | refine br_ff ?_ | refine vP ?_ | refine vQ ?_ | refine vT ?_ | refine vF ?_ | refine br_and ?_ | refine br_or ?_ | refine br_d (fun _ => ?_) fun _ => ?_ | refine vM (fun _ => ?_) fun _ => ?_)
            refine ⟨_, _, [some 0], [], rfl, rfl, ?_, ?_, h ⟨k, 100, B, W⟩ p12 (by omega) (by omega) ⟨k0, (show i64r 100 from ⟨by decide,by decide⟩), B0, W0⟩⟩
            · repeat' ((conv => whnf); first | with_reducible exact True.intro | exact vW | with_reducible refine And.intro ?_ ?_)
            · repeat' ((conv => whnf); first | with_reducible exact True.intro | exact vW | with_reducible refine And.intro ?_ ?_)
        · refine ⟨_, _, [0], [], rfl, ?_, ?_, (⟨b, p11⟩, 3), rfl, rfl, ⟨⟨h1, h2, ?_, ?_⟩, ?_⟩, ?_⟩
          · repeat' ((conv => whnf); first | with_reducible exact True.intro | exact vW | with_reducible refine And.intro ?_ ?_)
            try exact Chk.mk (by rw [pw_sh (by assumption)])
          · repeat' ((conv => whnf); first | with_reducible exact True.intro | exact vW | with_reducible refine And.intro ?_ ?_)
          · dsimp only; omega
          · dsimp only; omega
          · unfold i64r; dsimp only; omega
          intro r2 p12 g0 g1 g2
          dsimp only at g0 g1 g2
          rcases (show r2 = 0 ∨ r2 = 1 ∨ r2 = 2 by omega) with rfl | rfl | rfl
          · repeat' ((conv => whnf); first | refine vA ?_ | with_reducible first | refine v8 ?_ | refine Sp.mk ?_ ?_ | refine vS ?_ | refine vR ?_ | refine vB ?_ | refine br_nt ?_ | refine br_tt ?_ | refine br_ff ?_ | refine vP ?_ | refine vQ ?_ | refine vT ?_ | refine vF ?_ | refine br_and ?_ | refine br_or ?_ | refine br_d (fun _ => ?_) fun _ => ?_ | refine vM (fun _ => ?_) fun _ => ?_)
            refine ⟨_, _, [some 0], [], rfl, rfl, ?_, ?_, h ⟨k, A, B, ⟨#[40,65,49,41]⟩⟩ p12 (by omega) (by omega) ⟨k0, A0, B0, (show (4:Nat)≤10000 by decide)⟩⟩
            · repeat' ((conv => whnf); first | with_reducible exact True.intro | exact vW | with_reducible refine And.intro ?_ ?_)
            · repeat' ((conv => whnf); first | with_reducible exact True.intro | exact vW | with_reducible refine And.intro ?_ ?_)
          · repeat' ((conv => whnf); first | refine vA ?_ | with_reducible first | refine v8 ?_ | refine Sp.mk ?_ ?_ | refine vS ?_ | refine vR ?_ | refine vB ?_ | refine br_nt ?_ | refine br_tt ?_ | refine br_ff ?_ | refine vP ?_ | refine vQ ?_ | refine vT ?_ | refine vF ?_ | refine br_and ?_ | refine br_or ?_ | refine br_d (fun _ => ?_) fun _ => ?_ | refine vM (fun _ => ?_) fun _ => ?_)
            refine ⟨_, _, [some 0], [], rfl, rfl, ?_, ?_, h ⟨k, A, B, ⟨#[97,32,98]⟩⟩ p12 (by omega) (by omega) ⟨k0, A0, B0, (show (3:Nat)≤10000 by decide)⟩⟩
            · repeat' ((conv => whnf); first | with_reducible exact True.intro | exact vW | with_reducible refine And.intro ?_ ?_)
            · repeat' ((conv => whnf); first | with_reducible exact True.intro | exact vW | with_reducible refine And.intro ?_ ?_)
          · repeat' ((conv => whnf); first | refine vA ?_ | with_reducible first | refine v8 ?_ | refine Sp.mk ?_ ?_ | refine vS ?_ | refine vR ?_ | refine vB ?_ | refine br_nt ?_ | refine br_tt ?_ | refine br_ff ?_ | refine vP ?_ | refine vQ ?_ | refine vT ?_ | refine vF ?_ | refine br_and ?_ | refine br_or ?_ | refine br_d (fun _ => ?_) fun _ => ?_ | refine vM (fun _ => ?_) fun _ => ?_)
            refine ⟨_, _, [some 0], [], rfl, rfl, ?_, ?_, h ⟨k, A, B, ⟨#[]⟩⟩ p12 (by omega) (by omega) ⟨k0, A0, B0, (show (0:Nat)≤10000 by decide)⟩⟩
            · repeat' ((conv => whnf); first | with_reducible exact True.intro | exact vW | with_reducible refine And.intro ?_ ?_)
            · repeat' ((conv => whnf); first | with_reducible exact True.intro | exact vW | with_reducible refine And.intro ?_ ?_)
        · refine ⟨_, _, [some 0], [], rfl, rfl, ?_, ?_, h ⟨k, A, 99, W⟩ p11 (by omega) (by omega) ⟨k0, A0, (show i64r 99 from ⟨by decide,by decide⟩), W0⟩⟩
          · repeat' ((conv => whnf); first | with_reducible exact True.intro | exact vW | with_reducible refine And.intro ?_ ?_)
          · repeat' ((conv => whnf); first | with_reducible exact True.intro | exact vW | with_reducible refine And.intro ?_ ?_)
      · refine ⟨_, _, [some 0], [], rfl, rfl, ?_, ?_, h ⟨k, A, B, W⟩ p10 (by omega) (by omega) ⟨k0, A0, B0, W0⟩⟩
        · repeat' ((conv => whnf); first | with_reducible exact True.intro | exact vW | with_reducible refine And.intro ?_ ?_)
        · repeat' ((conv => whnf); first | with_reducible exact True.intro | exact vW | with_reducible refine And.intro ?_ ?_)
/-! ### Desks that are drawn -/
structure drawnQ (x : Place) : Prop where
  i : placeI x
  bl : x.bs.length ≤ 4
  rl : x.rules.length ≤ 4
  rr : ∀ r ∈ x.rules, r.size ≤ 10000
def drawnD (d : Desk) : Prop := drawnQ d.now ∧ d.past.length ≤ 9 ∧ ∀ p ∈ d.past, drawnQ p
def goodD (d : Desk) : Prop := drawnD d ∧ (deskOk d ∨ d = default)
theorem drawnQ0 : drawnQ default := ⟨placeI0, (by decide : 0 ≤ 4), (by decide : 0 ≤ 4), fun _ h => by cases h⟩
theorem drawnD0 : drawnD default := ⟨drawnQ0, (by decide : 0 ≤ 9), fun _ h => by cases h⟩
theorem drawnP.q {x : Place} (h : drawnP x) : drawnQ x := ⟨h.I, h.bl, h.rl, h.rr⟩
theorem drawnQ.s {x : Place} (h : drawnQ x) : shortP x := ⟨Nat.le_trans h.rl (by decide), Nat.le_trans h.bl (by decide)⟩
theorem drawnD.I {d : Desk} (h : drawnD d) : deskI d := ⟨h.1.i, Nat.lt_of_le_of_lt h.2.1 (by decide), fun p hp => (h.2.2 p hp).i⟩
theorem newDe_good {x : Place} (h : drawnP x) : goodD (newDe x) := by
  unfold newDe
  split
  · rename_i hO
    exact ⟨⟨h.q, (by decide : 0 ≤ 9), fun _ h => by cases h⟩, .inl ⟨hO, (by decide : 0 ≤ 8), fun _ h => by cases h⟩⟩
  · exact ⟨drawnD0, .inr rfl⟩
theorem madeP_mem {x : Place} {a : Dd} : ∀ r ∈ (madeP x a).rules, r ∈ x.rules ∨ r = a.words := by
  unfold madeP
  intro r hr
  split at hr
  · exact .inl hr
  · split at hr
    · exact (List.mem_append.1 hr).imp id fun h => List.mem_singleton.1 h
    · split at hr
      · exact (List.mem_or_eq_of_mem_set hr)
      · split at hr
        · exact .inl ((List.mem_append.1 hr).elim (fun h => List.mem_of_mem_take h) fun h => List.mem_of_mem_drop h)
        · cases hr
theorem drawnA.I {a : Dd} (h : drawnA a) : dedI a := ⟨h.k0, h.a0, h.b0, Nat.lt_of_le_of_lt h.w0 (by decide)⟩
theorem doD_good {d e : Desk} {a : Dd} (h : drawnD d) (hO : deskOk d) (ha : drawnA a) (he : doD d a = some e) : goodD e := by
  unfold doD at he
  split at he
  · rename_i g
    cases he
    have m : d.past.getD (d.past.length - 1) default ∈ d.past := getD_mem' (by omega)
    refine ⟨⟨h.2.2 _ m, ?_, fun p hp => h.2.2 p (List.mem_of_mem_take hp)⟩, .inl ⟨hO.2.2 _ m, ?_, fun p hp => hO.2.2 p (List.mem_of_mem_take hp)⟩⟩
    · have := h.2.1
      dsimp only
      rw [List.length_take]
      omega
    · have := hO.2.1
      dsimp only
      rw [List.length_take]
      omega
  · split at he
    · rename_i g
      cases he
      have M := madeP_I h.1.i h.1.s ha.I
      have P := g.1
      have L := hO.2.1
      have mem : ∀ p ∈ pushP d.past d.now, p ∈ d.past ∨ p = d.now := by
        unfold pushP
        intro p hp
        split at hp
        · exact (List.mem_append.1 (List.mem_of_mem_drop hp)).imp id fun h => List.mem_singleton.1 h
        · exact (List.mem_append.1 hp).imp id fun h => List.mem_singleton.1 h
      have len : (pushP d.past d.now).length ≤ 8 := by
        unfold pushP
        split
        · rw [List.length_drop, List.length_append]
          show d.past.length + 1 - 1 ≤ 8
          omega
        · omega
      have q : drawnQ (madeP d.now a) := ⟨M, P.1.2.1, P.2.1.2, fun r hr => (madeP_mem r hr).elim (fun k => h.1.rr r k) fun k => k ▸ ha.w0⟩
      exact ⟨⟨q, Nat.le_trans len (by decide), fun p hp => (mem p hp).elim (fun k => h.2.2 p k) fun k => k ▸ h.1⟩, .inl ⟨P, len, fun p hp => (mem p hp).elim (fun k => hO.2.2 p k) fun k => k ▸ hO.1⟩⟩
    · cases he
theorem canD_t {d : Desk} {a : Dd} (h : canD d a = true) : ∃ e, deskOk d ∧ doD d a = some e ∧ afterD d a = e := by
  unfold canD at h
  rw [Bool.and_eq_true, decide_eq_true_eq, Option.isSome_iff_exists] at h
  obtain ⟨e, he⟩ := h.2
  exact ⟨e, h.1, he, afterD_some h.1 he⟩
end Go.Proofs.YtahfdkdneojkmaaDoor.Vc
end
section
/- Part TP: desks whose past is a row of one's own. -/
namespace Go.Proofs.YtahfdkdneojkmaaDoor.Vc
open Go.Proofs
set_option maxRecDepth 10000
set_option maxHeartbeats 4000000
structure Dk where
  x : Place
  L : List Place
  n : Nat
def Dk.d (k : Dk) : Desk := ⟨k.x, k.L.take k.n⟩
def dkV (k : Dk) (id : Nat) : AV := .agg [.int .i64 k.x.p, slI k.x.bs, slS k.x.rules, .row id 3 0 k.n]
theorem take_get {L : List Place} {n i : Nat} (h : i < n) : (L.take n).getD i default = L.getD i default := by
  rw [List.getD_eq_getElem?_getD, List.getD_eq_getElem?_getD, List.getElem?_take_of_lt h]
def C139r : GC := conG (X := Dk) (fun k => [dkV k 0]) (fun k => [psO k.L]) (fun k => deskI k.d ∧ k.n ≤ k.L.length) fun k K => K (.bool (decide (deskOk k.d))) [psO k.L]
theorem F139r : GG 26 C139r := by
  refine fitG [(13, C127)] (by simp only [List.mem_cons, List.not_mem_nil, or_false]; rintro _ rfl <;> first | exact F127) [] (by simp) Tryd.f26 ⟨rfl, by decide +kernel, by decide +kernel⟩ (by intro x K K2 hk h; (try dsimp only at h ⊢); intros; apply hk; first | exact h | (apply h <;> assumption)) ?_
  rintro ⟨⟨p, bs, rs⟩, L, n⟩ K ⟨hI, hn⟩ h
  refine ⟨Nat.le_of_ble_eq_true rfl, ?_⟩
  obtain ⟨l, hl⟩ : ∃ l, L.take n = l := ⟨_, rfl⟩
  have hll : l.length = n := by rw [← hl, List.length_take]; exact Nat.min_eq_left hn
  have hget : ∀ i, i < n → L.getD i default = l.getD i default := fun i hi => by rw [← hl, take_get hi]
  replace hI : deskI ⟨⟨p, bs, rs⟩, l⟩ := by rw [← hl]; exact hI
  replace h : K (.bool (decide (deskOk ⟨⟨p, bs, rs⟩, l⟩))) [psO L] := by rw [← hl]; exact h
  have hI1 := hI.1
  have hI2 := hI.2.2
  have hI3 := hI.2.1
  dsimp only [dkV, psO] at h hI1 hI2 hI3 hn ⊢
  repeat' ((conv => whnf); first | refine vA ?_ | with_reducible first | refine v8 ?_ | refine Sp.mk ?_ ?_ | refine vS ?_ | refine vR ?_ | refine vB ?_ | refine br_nt ?_ | refine br_tt ?_ | refine br_ff ?_ | refine vP ?_ | refine vQ ?_ | refine vT ?_ | refine vF ?_ | refine br_and ?_ | refine br_or ?_ | refine br_d (fun _ => ?_) fun _ => ?_ | refine vM (fun _ => ?_) fun _ => ?_)
  refine Lp.mk ⟨Nat, fun i => [(1, .ptr 1 0), (3, .int .i64 i)], fun _ => [psO L, .box [.int .i64 p, slI bs, slS rs, .row 0 3 0 n]], fun i => i ≤ l.length ∧ ∀ j, j < i → placeOk (l.getD j default), fun i => l.length - i, ⟨0, ⟨Nat.zero_le _, fun j hj => absurd hj (Nat.not_lt_zero _)⟩, ⟨⟨[some 0, some 1], [], rfl, rfl, ?_, ?_⟩⟩⟩, ?_⟩
  · repeat' ((conv => whnf); first | with_reducible exact True.intro | exact vW | with_reducible refine And.intro ?_ ?_)
  · repeat' ((conv => whnf); first | with_reducible exact True.intro | exact vW | with_reducible refine And.intro ?_ ?_)
  rintro i ⟨i1, i2⟩
  dsimp only [psO]
  repeat' ((conv => whnf); first | refine vA ?_ | with_reducible first | refine v8 ?_ | refine Sp.mk ?_ ?_ | refine vS ?_ | refine vR ?_ | refine vB ?_ | refine br_nt ?_ | refine br_tt ?_ | refine br_ff ?_ | refine vP ?_ | refine vQ ?_ | refine vT ?_ | refine vF ?_ | refine br_and ?_ | refine br_or ?_ | refine br_d (fun _ => ?_) fun _ => ?_ | refine vM (fun _ => ?_) fun _ => ?_)
  · rename_i hi
    have hi : i < l.length := by omega
    refine ⟨L.getD i default, ?_, ⟨by rw [hget i (by omega)]; exact hI2 _ (getD_mem' hi)⟩, ?_⟩
    · repeat' ((conv => whnf); first | with_reducible exact True.intro | exact vW | with_reducible refine And.intro ?_ ?_)
    rw [hget i (by omega)]
    repeat' ((conv => whnf); first | refine vA ?_ | with_reducible first | refine v8 ?_ | refine Sp.mk ?_ ?_ | refine vS ?_ | refine vR ?_ | refine vB ?_ | refine br_nt ?_ | refine br_tt ?_ | refine br_ff ?_ | refine vP ?_ | refine vQ ?_ | refine vT ?_ | refine vF ?_ | refine br_and ?_ | refine br_or ?_ | refine br_d (fun _ => ?_) fun _ => ?_ | refine vM (fun _ => ?_) fun _ => ?_)
    · rename_i hb
      refine ⟨i + 1, ⟨by omega, fun j hj => ?_⟩, by omega, ⟨⟨[some 0, some 1], [], rfl, rfl, ?_, ?_⟩⟩⟩
      · by_cases e : j = i
        · subst e; exact hb
        · exact i2 j (by omega)
      · repeat' ((conv => whnf); first | with_reducible exact True.intro | exact vW | with_reducible refine And.intro ?_ ?_)
      · repeat' ((conv => whnf); first | with_reducible exact True.intro | exact vW | with_reducible refine And.intro ?_ ?_)
    · rename_i hb
      rw [decide_eq_false fun q : deskOk ⟨⟨p, bs, rs⟩, l⟩ => hb (q.2.2 _ (getD_mem' hi))] at h
      refine ⟨_, _, [some 0], [], rfl, rfl, ?_, ?_, h⟩
      · repeat' ((conv => whnf); first | with_reducible exact True.intro | exact vW | with_reducible refine And.intro ?_ ?_)
      · repeat' ((conv => whnf); first | with_reducible exact True.intro | exact vW | with_reducible refine And.intro ?_ ?_)
  · rename_i hi
    have hall : ∀ p ∈ l, placeOk p := all_of_getD (d := default) fun j hj => i2 j (by omega)
    refine ⟨⟨p, bs, rs⟩, ?_, ⟨hI1⟩, ?_⟩
    · repeat' ((conv => whnf); first | with_reducible exact True.intro | exact vW | with_reducible refine And.intro ?_ ?_)
    repeat' ((conv => whnf); first | refine vA ?_ | with_reducible first | refine v8 ?_ | refine Sp.mk ?_ ?_ | refine vS ?_ | refine vR ?_ | refine vB ?_ | refine br_nt ?_ | refine br_tt ?_ | refine br_ff ?_ | refine vP ?_ | refine vQ ?_ | refine vT ?_ | refine vF ?_ | refine br_and ?_ | refine br_or ?_ | refine br_d (fun _ => ?_) fun _ => ?_ | refine vM (fun _ => ?_) fun _ => ?_)
    · rename_i hO
      have e : decide (deskOk ⟨⟨p, bs, rs⟩, l⟩) = decide ((n : Int) ≤ 8) := decide_eq_decide.2 ⟨fun q => by have := q.2.1; dsimp only at this; omega, fun q => ⟨hO, by dsimp only; omega, hall⟩⟩
      rw [e] at h
      refine ⟨_, _, [some 0], [], rfl, rfl, ?_, ?_, h⟩
      · repeat' ((conv => whnf); first | with_reducible exact True.intro | exact vW | with_reducible refine And.intro ?_ ?_)
      · repeat' ((conv => whnf); first | with_reducible exact True.intro | exact vW | with_reducible refine And.intro ?_ ?_)
    · rename_i hO
      rw [decide_eq_false fun q : deskOk ⟨⟨p, bs, rs⟩, l⟩ => hO q.1] at h
      refine ⟨_, _, [some 0], [], rfl, rfl, ?_, ?_, h⟩
      · repeat' ((conv => whnf); first | with_reducible exact True.intro | exact vW | with_reducible refine And.intro ?_ ?_)
      · repeat' ((conv => whnf); first | with_reducible exact True.intro | exact vW | with_reducible refine And.intro ?_ ?_)
def C198r : GC := conG (X := Dk) (fun k => [dkV k 0]) (fun k => [psO k.L]) (fun k => shortD k.d ∧ k.n ≤ k.L.length) fun k K => K (dkV k 1) [psO k.L, psO (k.L.take k.n)]
theorem F198r : GG 110 C198r := by
  refine fitG [(52, C158)] (by simp only [List.mem_cons, List.not_mem_nil, or_false]; rintro _ rfl <;> first | exact F158) [] (by simp) Tryd.f110 ⟨rfl, by decide +kernel, by decide +kernel⟩ (by intro x K K2 hk h; (try dsimp only at h ⊢); intros; apply hk; first | exact h | (apply h <;> assumption)) ?_
  rintro ⟨⟨p, bs, rs⟩, L, n⟩ K ⟨hs, hn⟩ h
  refine ⟨Nat.le_of_ble_eq_true rfl, ?_⟩
  obtain ⟨l, hl⟩ : ∃ l, L.take n = l := ⟨_, rfl⟩
  have hll : l.length = n := by rw [← hl, List.length_take]; exact Nat.min_eq_left hn
  have hget : ∀ i, i < n → L.getD i default = l.getD i default := fun i hi => by rw [← hl, take_get hi]
  replace hs : shortD ⟨⟨p, bs, rs⟩, l⟩ := by rw [← hl]; exact hs
  dsimp only [dkV] at h
  rw [hl] at h
  obtain ⟨h1, h2, h3⟩ := hs
  unfold psO at h
  dsimp only [dkV, psO] at h h1 h2 h3 hn ⊢
  repeat' ((conv => whnf); first | refine vA ?_ | with_reducible first | refine v8 ?_ | refine Sp.mk ?_ ?_ | refine vS ?_ | refine vR ?_ | refine vB ?_ | refine br_nt ?_ | refine br_tt ?_ | refine br_ff ?_ | refine vP ?_ | refine vQ ?_ | refine vT ?_ | refine vF ?_ | refine br_and ?_ | refine br_or ?_ | refine br_d (fun _ => ?_) fun _ => ?_ | refine vM (fun _ => ?_) fun _ => ?_)
  refine ⟨⟨p, bs, rs⟩, ?_, ⟨h1⟩, ?_⟩
  · repeat' ((conv => whnf); first | with_reducible exact True.intro | exact vW | with_reducible refine And.intro ?_ ?_)
  dsimp only [enPl, plC]
  repeat' ((conv => whnf); first | refine vA ?_ | with_reducible first | refine v8 ?_ | refine Sp.mk ?_ ?_ | refine vS ?_ | refine vR ?_ | refine vB ?_ | refine br_nt ?_ | refine br_tt ?_ | refine br_ff ?_ | refine vP ?_ | refine vQ ?_ | refine vT ?_ | refine vF ?_ | refine br_and ?_ | refine br_or ?_ | refine br_d (fun _ => ?_) fun _ => ?_ | refine vM (fun _ => ?_) fun _ => ?_)
  refine Lp.mk ⟨Nat, fun i => [(1, .ptr 1 0), (2, .ptr 2 0), (3, .ptr 3 0), (4, .int .i64 i)], fun i => [psO L, .box [.int .i64 p, slI bs, slS rs, .row 0 3 0 n], .box [.int .i64 0, .nils, .nils, .nils], .box [.int .i64 p, slI bs, slS rs, .row 4 3 0 (l.take i).length], psO (l.take i)], fun i => i ≤ l.length, fun i => l.length - i, ⟨0, Nat.zero_le _, ⟨⟨[some 0, some 1, some 2, some 3, none], [], rfl, rfl, ?_, ?_⟩⟩⟩, ?_⟩
  · repeat' ((conv => whnf); first | with_reducible exact True.intro | exact vW | with_reducible refine And.intro ?_ ?_)
  · repeat' ((conv => whnf); first | with_reducible exact True.intro | exact vW | with_reducible refine And.intro ?_ ?_)
  intro i i1
  dsimp only [psO]
  have hti : (l.take i).length ≤ 100000 := by rw [List.length_take]; omega
  repeat' ((conv => whnf); first | refine vA ?_ | with_reducible first | refine v8 ?_ | refine Sp.mk ?_ ?_ | refine vS ?_ | refine vR ?_ | refine vB ?_ | refine br_nt ?_ | refine br_tt ?_ | refine br_ff ?_ | refine vP ?_ | refine vQ ?_ | refine vT ?_ | refine vF ?_ | refine br_and ?_ | refine br_or ?_ | refine br_d (fun _ => ?_) fun _ => ?_ | refine vM (fun _ => ?_) fun _ => ?_)
  · rename_i hi
    have hi : i < l.length := by omega
    have hsn : l.take (i + 1) = l.take i ++ [l.getD i default] := take_succ' default hi
    refine Dr.mk ⟨(.rd 0 (.rd 1 (.rd 2 (.rd 3 (.rd 4 (.rd 5 (.rd 6 (.ef 7 (.ef 8 (.ef 9 (.rd 10 (.ef 11 .dn .no)) .no) .no) .no)))))))), by decide +kernel, ?_⟩
    repeat' ((conv => whnf); first | refine vA ?_ | with_reducible first | refine v8 ?_ | refine Sp.mk ?_ ?_ | refine vS ?_ | refine vR ?_ | refine vB ?_ | refine br_nt ?_ | refine br_tt ?_ | refine br_ff ?_ | refine vP ?_ | refine vQ ?_ | refine vT ?_ | refine vF ?_ | refine br_and ?_ | refine br_or ?_ | refine br_d (fun _ => ?_) fun _ => ?_ | refine vM (fun _ => ?_) fun _ => ?_)
    refine ⟨l.getD i default, ?_, ⟨h3 _ (getD_mem' hi)⟩, ?_⟩
    · rw [← hget i (by omega)]
      repeat' ((conv => whnf); first | with_reducible exact True.intro | exact vW | with_reducible refine And.intro ?_ ?_)
    dsimp only [enPl, plC]
    repeat' ((conv => whnf); first | refine vA ?_ | with_reducible first | refine v8 ?_ | refine Sp.mk ?_ ?_ | refine vS ?_ | refine vR ?_ | refine vB ?_ | refine br_nt ?_ | refine br_tt ?_ | refine br_ff ?_ | refine vP ?_ | refine vQ ?_ | refine vT ?_ | refine vF ?_ | refine br_and ?_ | refine br_or ?_ | refine br_d (fun _ => ?_) fun _ => ?_ | refine vM (fun _ => ?_) fun _ => ?_)
    refine ⟨i + 1, by omega, by omega, ⟨⟨[some 0, some 1, some 2, some 3, some 6], [], rfl, rfl, ?_, ?_⟩⟩⟩
    · repeat' ((conv => whnf); first | with_reducible exact True.intro | exact vW | with_reducible refine And.intro ?_ ?_)
    · repeat' ((conv => whnf); first | with_reducible exact True.intro | exact vW | with_reducible refine And.intro ?_ ?_)
      all_goals first | exact Chk.mk ⟨rfl, by rw [hsn, List.length_append]; rfl⟩ | exact Chk.mk (by rw [hsn]; exact ext_push (enc := plC) (d := default) (l := l.take i) (x := l.getD i default) rfl)
  · rename_i hi
    rw [List.take_of_length_le (by omega)]
    rw [← hll] at h
    repeat' ((conv => whnf); first | refine vA ?_ | with_reducible first | refine v8 ?_ | refine Sp.mk ?_ ?_ | refine vS ?_ | refine vR ?_ | refine vB ?_ | refine br_nt ?_ | refine br_tt ?_ | refine br_ff ?_ | refine vP ?_ | refine vQ ?_ | refine vT ?_ | refine vF ?_ | refine br_and ?_ | refine br_or ?_ | refine br_d (fun _ => ?_) fun _ => ?_ | refine vM (fun _ => ?_) fun _ => ?_)
    refine ⟨_, _, [some 0, some 4], [], rfl, rfl, ?_, ?_, h⟩
    · repeat' ((conv => whnf); first | with_reducible exact True.intro | exact vW | with_reducible refine And.intro ?_ ?_)
    · repeat' ((conv => whnf); first | with_reducible exact True.intro | exact vW | with_reducible refine And.intro ?_ ?_)
structure Dj where
  k : Dk
  a : Dd
def C183r : GC := conG (X := Dj) (fun x => [dkV x.k 0, ded x.a]) (fun x => [psO x.k.L]) (fun x => deskI x.k.d ∧ x.k.n ≤ x.k.L.length ∧ x.k.n ≤ 7 ∧ dedI x.a) fun x K =>
  (¬ deskOk x.k.d → K (.tup [.agg [.int .i64 0, .nils, .nils, .nils], .bool false]) [psO x.k.L]) ∧
  (deskOk x.k.d → ∀ y L' n', n' ≤ L'.length → afterD x.k.d x.a = ⟨y, L'.take n'⟩ → K (.tup [dkV ⟨y, L', n'⟩ 1, .bool (canD x.k.d x.a)]) [psO x.k.L, psO L'])
theorem F183r : GG 90 C183r := by
  refine fitG [(13, C127), (29, C142), (111, C199)] (by simp only [List.mem_cons, List.not_mem_nil, or_false]; rintro _ (rfl | rfl | rfl) <;> first | exact F127 | exact F142 | exact F199) [(26, C139r), (110, C198r)] (by simp only [List.mem_cons, List.not_mem_nil, or_false]; rintro _ (rfl | rfl) <;> first | exact F139r | exact F198r) Tryd.f90 ⟨rfl, by decide +kernel, by decide +kernel⟩ (by rintro x K K2 hk ⟨ha, hb⟩; exact ⟨fun q => hk _ _ (ha q), fun q y L' n' g1 g2 => hk _ _ (hb q y L' n' g1 g2)⟩) ?_
  rintro ⟨⟨⟨p, bs, rs⟩, L, n⟩, ⟨k, a, b, w⟩⟩ K ⟨hI, hn, hn7, ha⟩ ⟨hno, h⟩
  refine ⟨Nat.le_of_ble_eq_true rfl, ?_⟩
  obtain ⟨l, hl⟩ : ∃ l, L.take n = l := ⟨_, rfl⟩
  have hll : l.length = n := by rw [← hl, List.length_take]; exact Nat.min_eq_left hn
  have hdk : Dk.d ⟨⟨p, bs, rs⟩, L, n⟩ = ⟨⟨p, bs, rs⟩, l⟩ := by rw [← hl]; rfl
  dsimp only at hI h hno hn hn7 ha
  rw [hdk] at hI h hno
  dsimp only [dkV, ded, encD]
  unfold dkV at h
  dsimp only at h
  repeat' ((conv => whnf); first | refine vA ?_ | with_reducible first | refine v8 ?_ | refine Sp.mk ?_ ?_ | refine vS ?_ | refine vR ?_ | refine vB ?_ | refine br_nt ?_ | refine br_tt ?_ | refine br_ff ?_ | refine vP ?_ | refine vQ ?_ | refine vT ?_ | refine vF ?_ | refine br_and ?_ | refine br_or ?_ | refine br_d (fun _ => ?_) fun _ => ?_ | refine vM (fun _ => ?_) fun _ => ?_)
  refine ⟨_, _, [0], [], rfl, ?_, ?_, ⟨⟨p, bs, rs⟩, L, n⟩, rfl, rfl, ⟨by rw [hdk]; exact hI, hn⟩, ?_⟩
  · repeat' ((conv => whnf); first | with_reducible exact True.intro | exact vW | with_reducible refine And.intro ?_ ?_)
  · repeat' ((conv => whnf); first | with_reducible exact True.intro | exact vW | with_reducible refine And.intro ?_ ?_)
  dsimp only
  rw [hdk]
  by_cases hO : deskOk ⟨⟨p, bs, rs⟩, l⟩
  · have hs := deskOk_short hO
    have hs2 := hs.2.1
    dsimp only at hs2
    replace h := h hO
    dsimp only [psO]
    repeat' ((conv => whnf); first | refine vA ?_ | with_reducible first | refine v8 ?_ | refine Sp.mk ?_ ?_ | refine vS ?_ | refine vR ?_ | refine vB ?_ | refine br_nt ?_ | refine br_tt ?_ | refine br_ff ?_ | refine vP ?_ | refine vQ ?_ | refine vT ?_ | refine vF ?_ | refine br_and ?_ | refine br_or ?_ | refine br_d (fun _ => ?_) fun _ => ?_ | refine vM (fun _ => ?_) fun _ => ?_)
    refine ⟨_, _, [0], [], rfl, ?_, ?_, ⟨⟨p, bs, rs⟩, L, n⟩, rfl, rfl, ⟨by rw [hdk]; exact hs, hn⟩, ?_⟩
    · repeat' ((conv => whnf); first | with_reducible exact True.intro | exact vW | with_reducible refine And.intro ?_ ?_)
    · repeat' ((conv => whnf); first | with_reducible exact True.intro | exact vW | with_reducible refine And.intro ?_ ?_)
    dsimp only [dkV, psO]
    rw [hl]
    repeat' ((conv => whnf); first | with_reducible refine wk_at 9 ?_ | with_reducible refine wk_at1 9 ?_ | with_reducible refine wk_at2 9 ?_ | refine vA ?_ | with_reducible first | refine v8 ?_ | refine Sp.mk ?_ ?_ | refine vS ?_ | refine vR ?_ | refine vB ?_ | refine br_nt ?_ | refine br_tt ?_ | refine br_ff ?_ | refine vP ?_ | refine vQ ?_ | refine vT ?_ | refine vF ?_ | refine br_and ?_ | refine br_or ?_ | refine br_d (fun _ => ?_) fun _ => ?_ | refine vM (fun _ => ?_) fun _ => ?_)
    · rename_i q1 q2 q3 q4 q5
      have hlp : 0 < l.length := by omega
      have e0 : doD ⟨⟨p, bs, rs⟩, l⟩ ⟨k, a, b, w⟩ = some ⟨l.getD (l.length - 1) default, l.take (l.length - 1)⟩ := if_pos ⟨by subst q1; subst q2; subst q3; subst q4; rfl, hlp⟩
      replace h := h (l.getD (l.length - 1) default) l (l.length - 1) (by omega) (afterD_some hO e0)
      rw [canD_some hO e0] at h
      have e1 : ((n : Int) - 1).toNat = l.length - 1 := by omega
      rw [e1, Nat.zero_add]
      refine ⟨_, _, [some 0, some 4], [], rfl, rfl, ?_, ?_, h⟩
      · repeat' ((conv => whnf); first | with_reducible exact True.intro | exact vW | with_reducible refine And.intro ?_ ?_)
      · repeat' ((conv => whnf); first | with_reducible exact True.intro | exact vW | with_reducible refine And.intro ?_ ?_)
    all_goals
      have hnb : ¬ ((⟨k, a, b, w⟩ : Dd) = backD ∧ 0 < l.length) := by
        rintro ⟨e, e2⟩
        have e3 := congrArg Dd.kind e
        have e4 := congrArg Dd.a e
        have e5 := congrArg Dd.b e
        have e6 := congrArg Dd.words e
        dsimp only [backD] at e3 e4 e5 e6
        first | omega | exact absurd e6 (by assumption)
      refine ⟨Wk.go [(2, .ptr 1 0), (3, .ptr 2 0), (4, .ptr 3 0), (6, .ptr 4 0)] [psO L, .box [.int .i64 p, slI bs, slS rs, .row 0 3 0 n], .box (encD ⟨k, a, b, w⟩), .box [.int .i64 0, .nils, .nils, .nils], .box [.int .i64 p, slI bs, slS rs, .row 5 3 0 n], psO l] ⟨⟨[some 0, some 1, some 2, some 3, some 5, some 4], [], rfl, rfl, ?_, ?_⟩⟩ ?_⟩
      · repeat' ((conv => whnf); first | with_reducible exact True.intro | exact vW | with_reducible refine And.intro ?_ ?_)
      · repeat' ((conv => whnf); first | with_reducible exact True.intro | exact vW | with_reducible refine And.intro ?_ ?_)
      dsimp only [encD, psO]
      repeat' ((conv => whnf); first | refine vA ?_ | with_reducible first | refine v8 ?_ | refine Sp.mk ?_ ?_ | refine vS ?_ | refine vR ?_ | refine vB ?_ | refine br_nt ?_ | refine br_tt ?_ | refine br_ff ?_ | refine vP ?_ | refine vQ ?_ | refine vT ?_ | refine vF ?_ | refine br_and ?_ | refine br_or ?_ | refine br_d (fun _ => ?_) fun _ => ?_ | refine vM (fun _ => ?_) fun _ => ?_)
      refine ⟨⟨⟨p, bs, rs⟩, ⟨k, a, b, w⟩⟩, ?_, ⟨hI.1, hs.1, ha⟩, ?_⟩
      · repeat' ((conv => whnf); first | with_reducible exact True.intro | exact vW | with_reducible refine And.intro ?_ ?_)
      have hMI := madeP_I (a := ⟨k, a, b, w⟩) hI.1 hs.1 ha
      have eD : doD ⟨⟨p, bs, rs⟩, l⟩ ⟨k, a, b, w⟩ = _ := if_neg hnb
      dsimp only at hMI eD ⊢
      generalize madeP ⟨p, bs, rs⟩ ⟨k, a, b, w⟩ = M at hMI eD ⊢
      obtain ⟨mp, mb, mr⟩ := M
      dsimp only [enPl, plC]
      repeat' ((conv => whnf); first | refine vA ?_ | with_reducible first | refine v8 ?_ | refine Sp.mk ?_ ?_ | refine vS ?_ | refine vR ?_ | refine vB ?_ | refine br_nt ?_ | refine br_tt ?_ | refine br_ff ?_ | refine vP ?_ | refine vQ ?_ | refine vT ?_ | refine vF ?_ | refine br_and ?_ | refine br_or ?_ | refine br_d (fun _ => ?_) fun _ => ?_ | refine vM (fun _ => ?_) fun _ => ?_)
      refine Dr.mk ⟨(.rd 0 (.ef 1 (.rd 2 (.rd 3 (.rd 4 (.rd 6 (.rd 7 (.ef 5 (.ef 8 (.rd 9 (.rd 10 .dn)) .no) .no)))))) .no)), by decide +kernel, ?_⟩
      repeat' ((conv => whnf); first | refine vA ?_ | with_reducible first | refine v8 ?_ | refine Sp.mk ?_ ?_ | refine vS ?_ | refine vR ?_ | refine vB ?_ | refine br_nt ?_ | refine br_tt ?_ | refine br_ff ?_ | refine vP ?_ | refine vQ ?_ | refine vT ?_ | refine vF ?_ | refine br_and ?_ | refine br_or ?_ | refine br_d (fun _ => ?_) fun _ => ?_ | refine vM (fun _ => ?_) fun _ => ?_)
      refine ⟨⟨mp, mb, mr⟩, ?_, ⟨hMI⟩, ?_⟩
      · repeat' ((conv => whnf); first | with_reducible exact True.intro | exact vW | with_reducible refine And.intro ?_ ?_)
      repeat' ((conv => whnf); first | refine vA ?_ | with_reducible first | refine v8 ?_ | refine Sp.mk ?_ ?_ | refine vS ?_ | refine vR ?_ | refine vB ?_ | refine br_nt ?_ | refine br_tt ?_ | refine br_ff ?_ | refine vP ?_ | refine vQ ?_ | refine vT ?_ | refine vF ?_ | refine br_and ?_ | refine br_or ?_ | refine br_d (fun _ => ?_) fun _ => ?_ | refine vM (fun _ => ?_) fun _ => ?_)
      · rename_i hp
        replace hp : placeOk ⟨mp, mb, mr⟩ := hp
        refine ⟨⟨mp, mb, mr⟩, ?_, ⟨hMI⟩, ?_⟩
        · repeat' ((conv => whnf); first | with_reducible exact True.intro | exact vW | with_reducible refine And.intro ?_ ?_)
        repeat' ((conv => whnf); first | refine vA ?_ | with_reducible first | refine v8 ?_ | refine Sp.mk ?_ ?_ | refine vS ?_ | refine vR ?_ | refine vB ?_ | refine br_nt ?_ | refine br_tt ?_ | refine br_ff ?_ | refine vP ?_ | refine vQ ?_ | refine vT ?_ | refine vF ?_ | refine br_and ?_ | refine br_or ?_ | refine br_d (fun _ => ?_) fun _ => ?_ | refine vM (fun _ => ?_) fun _ => ?_)
        refine ⟨⟨p, bs, rs⟩, ?_, ⟨hI.1⟩, ?_⟩
        · repeat' ((conv => whnf); first | with_reducible exact True.intro | exact vW | with_reducible refine And.intro ?_ ?_)
        by_cases he : ptext ⟨mp, mb, mr⟩ = ptext ⟨p, bs, rs⟩
        · replace eD : doD ⟨⟨p, bs, rs⟩, l⟩ ⟨k, a, b, w⟩ = none := eD.trans (if_neg fun q => q.2 he)
          replace h := h ⟨p, bs, rs⟩ l n (by omega) ((afterD_none hO eD).trans (by rw [← hll, List.take_length]))
          rw [canD_none eD] at h
          repeat' ((conv => whnf); first | refine vA ?_ | with_reducible first | refine v8 ?_ | refine Sp.mk ?_ ?_ | refine vS ?_ | refine vR ?_ | refine vB ?_ | refine br_nt ?_ | refine br_tt ?_ | refine br_ff ?_ | refine vP ?_ | refine vQ ?_ | refine vT ?_ | refine vF ?_ | refine br_and ?_ | refine br_or ?_ | refine br_d (fun _ => ?_) fun _ => ?_ | refine vM (fun _ => ?_) fun _ => ?_)
          refine ⟨_, _, [some 0, some 5], [], rfl, rfl, ?_, ?_, h⟩
          · repeat' ((conv => whnf); first | with_reducible exact True.intro | exact vW | with_reducible refine And.intro ?_ ?_)
          · repeat' ((conv => whnf); first | with_reducible exact True.intro | exact vW | with_reducible refine And.intro ?_ ?_)
        · replace eD : doD ⟨⟨p, bs, rs⟩, l⟩ ⟨k, a, b, w⟩ = some ⟨⟨mp, mb, mr⟩, pushP l ⟨p, bs, rs⟩⟩ := eD.trans (if_pos ⟨hp, he⟩)
          have h8 : ¬ 8 < (l ++ [(⟨p, bs, rs⟩ : Place)]).length := by
            simp only [List.length_append, List.length_cons, List.length_nil]
            omega
          rw [show pushP l ⟨p, bs, rs⟩ = l ++ [(⟨p, bs, rs⟩ : Place)] from if_neg h8] at eD
          replace h := h ⟨mp, mb, mr⟩ (l ++ [⟨p, bs, rs⟩]) (n + 1) (by rw [List.length_append, hll]; exact Nat.le_refl _) ((afterD_some hO eD).trans (by rw [List.take_of_length_le (by rw [List.length_append, hll]; exact Nat.le_refl _)]))
          rw [canD_some hO eD] at h
          repeat' ((conv => whnf); first | refine vA ?_ | with_reducible first | refine v8 ?_ | refine Sp.mk ?_ ?_ | refine vS ?_ | refine vR ?_ | refine vB ?_ | refine br_nt ?_ | refine br_tt ?_ | refine br_ff ?_ | refine vP ?_ | refine vQ ?_ | refine vT ?_ | refine vF ?_ | refine br_and ?_ | refine br_or ?_ | refine br_d (fun _ => ?_) fun _ => ?_ | refine vM (fun _ => ?_) fun _ => ?_)
          refine ⟨_, _, [some 0, some 8], [], rfl, rfl, ?_, ?_, h⟩
          · repeat' ((conv => whnf); first | with_reducible exact True.intro | exact vW | with_reducible refine And.intro ?_ ?_)
          · subst hll
            repeat' ((conv => whnf); first | with_reducible exact True.intro | exact vW | with_reducible refine And.intro ?_ ?_)
            all_goals exact Chk.mk (ext_push (enc := plC) (d := default) (l := l) (x := ⟨p, bs, rs⟩) rfl)
      · rename_i hp
        replace hp : ¬ placeOk ⟨mp, mb, mr⟩ := hp
        replace eD : doD ⟨⟨p, bs, rs⟩, l⟩ ⟨k, a, b, w⟩ = none := eD.trans (if_neg fun q => hp q.1)
        replace h := h ⟨p, bs, rs⟩ l n (by omega) ((afterD_none hO eD).trans (by rw [← hll, List.take_length]))
        rw [canD_none eD] at h
        refine ⟨_, _, [some 0, some 5], [], rfl, rfl, ?_, ?_, h⟩
        · repeat' ((conv => whnf); first | with_reducible exact True.intro | exact vW | with_reducible refine And.intro ?_ ?_)
        · repeat' ((conv => whnf); first | with_reducible exact True.intro | exact vW | with_reducible refine And.intro ?_ ?_)
  · rw [decide_eq_false hO]
    replace hno := hno hO
    dsimp only [psO] at hno ⊢
    repeat' ((conv => whnf); first | refine vA ?_ | with_reducible first | refine v8 ?_ | refine Sp.mk ?_ ?_ | refine vS ?_ | refine vR ?_ | refine vB ?_ | refine br_nt ?_ | refine br_tt ?_ | refine br_ff ?_ | refine vP ?_ | refine vQ ?_ | refine vT ?_ | refine vF ?_ | refine br_and ?_ | refine br_or ?_ | refine br_d (fun _ => ?_) fun _ => ?_ | refine vM (fun _ => ?_) fun _ => ?_)
    refine ⟨_, _, [some 0], [], rfl, rfl, ?_, ?_, hno⟩
    · repeat' ((conv => whnf); first | with_reducible exact True.intro | exact vW | with_reducible refine And.intro ?_ ?_)
    · repeat' ((conv => whnf); first | with_reducible exact True.intro | exact vW | with_reducible refine And.intro ?_ ?_)
end Go.Proofs.YtahfdkdneojkmaaDoor.Vc
end
section
/- Part EH: results that are told anew by what they mean. -/
namespace Go.Proofs.YtahfdkdneojkmaaDoor.Vc
open Go.Proofs
set_option maxRecDepth 10000
/-- Whatever the one reads as, the other reads as too. -/
def semE (u v : AV) : Prop := ∀ (R : Nat → Prop) (w : World) (x : Value), PV R w u x → PV R w v x
def outS (K : AV → Prop) : AV → List Obj → Prop := out fun u => ∃ v, semE u v ∧ K v
theorem fitsS {P : Program} {TB : TypeId → TI} {Gl : List (Nat × Go.Obj)} {call : FuncId → List AV → List Obj → (AV → List Obj → Prop) → Prop} {X : Type} {args : X → List AV} {pre : X → Prop} {post : X → (AV → Prop) → Prop} (hT : TOk P TB) (hC : CallOk P Gl call) (hm : P.follows .mixedOrders = true) {f : FuncId} {fn : Func} (hf : FnOk P f fn) (hM : ∀ x (K K' : AV → Prop), (∀ r, K r → K' r) → post x K → post x K')
    (hb : ∀ x (K : AV → Prop), pre x → post x K → (args x).length ≤ fn.ntmps ∧ bodyP TB call (Dr TB call) 0 fn (args x) [] (outS K)) : Fits P Gl f (con args pre post) := by
  refine ⟨hf.has, fun us K K' hk ⟨x, h1, h2, h3⟩ => ⟨x, h1, h2, hM x K K' hk h3⟩, ?_⟩
  rintro us K ⟨x, h1, h2, h3⟩ R w xs hL ha0
  obtain ⟨e1, e2⟩ := exL_PV (R := R) (w := w) us (args x) h1
  have ha : ArgsV R w (args x) xs := ⟨ha0.1.trans e1, fun j hj => e2 j (e1 ▸ hj) _ (ha0.2 j (e1 ▸ hj))⟩
  obtain ⟨g1, g2⟩ := hb x K h2.h h3
  refine (body_sound hT hC hm hf g2 hL.hr ⟨ha.1, fun j hj => (ha.2 j hj).tr⟩ (Nat.zero_le _) g1).mono fun e w' he => ?_
  obtain ⟨r, y, o', ρ', R', rfl, hK, hh', hv, _, hx⟩ := he
  unfold outS out at hK
  split at hK
  · rename_i u b p ev
    obtain ⟨⟨hp⟩, v, hv1, hK⟩ := hK
    have hu := (view_VR hh' r u b p ev hp y hv).1
    refine ⟨v, y, Rall R' ρ', rfl, hK, hv1 _ _ y hu, ⟨fun b hb => ?_, fun b hb => .inl (hx.rmono b hb), fun b hb => ?_, hx.size, fun b hb => hx.same b hb fun _ q => (by cases q), hx.os, hx.tape, hx.output⟩⟩
    · rcases hb with hb | ⟨id, hb⟩
      · exact (hh'.ro b hb).1
      · exact hh'.lt id b hb
    · rcases hb with hb | ⟨id, hb⟩
      · rcases hx.rnew b hb with q | q | ⟨_, q⟩
        · exact .inl q
        · exact .inr q
        · cases q
      · rcases hx.pnew id b hb with q | ⟨_, q⟩
        · exact .inr q
        · cases q
  · exact hK.elim
theorem fitXS (E : Env) (hE : ∀ p, p ∈ E → FF p.1 p.2) (G : EnvG) (hG : ∀ p, p ∈ G → GG p.1 p.2) {X : Type} {args : X → List AV} {pre : X → Prop} {post : X → (AV → Prop) → Prop} {f : FuncId} (fn : Func) (hf : FnOk Tryd.prog f fn) (hM : ∀ x (K K' : AV → Prop), (∀ r, K r → K' r) → post x K → post x K')
    (hb : ∀ x (K : AV → Prop), pre x → post x K → (args x).length ≤ fn.ntmps ∧ bodyP (lookT TT) (callX E G) (Dr (lookT TT) (callX E G)) 0 fn (args x) [] (outS K)) : FF f (con args pre post) := fun Gl h => fitsS tOk (callX_ok (fun p hp => hE p hp Gl h) fun p hp => hG p hp Gl h) mixed hf hM hb
/-- Cells that read the same: nothing, or an empty slice. -/
def cellE (u v : AV) : Prop := u = v ∨ u = .nils ∧ ∃ s g, v = .sl s 0 g
theorem cellE_DR {R : Nat → Prop} {w : World} {u v : AV} {x : Value} (h : cellE u v) (hx : DR R w u x) : DR R w v x := by
  rcases h with rfl | ⟨rfl, s, g, rfl⟩
  · exact hx
  · cases hx
    exact .sl0 _ _ _ _
theorem sl_sem {s n : Nat} {f g : Nat → List AV} (hl : ∀ i, i < n → (g i).length = s) (h : ∀ i, i < n → ∀ j, j < s → cellE ((f i).getD j .undef) ((g i).getD j .undef)) : semE (.sl s n f) (.sl s n g) := by
  intro R w x hx
  cases hx with
  | data hd =>
    refine .data ?_
    cases hd with
    | sl0 => exact .sl0 _ _ _ _
    | sl _ _ _ ad cap G h1 h2 h3 h4 h5 => exact .sl s n g ad cap G h1 h2 hl h4 fun i hi j hj => cellE_DR (h i hi j hj) (h5 i hi j hj)
theorem semE_rfl (u : AV) : semE u u := fun _ _ _ h => h
theorem agg_sem {l m : List AV} (hl : l.length = m.length) (h : ∀ j, j < l.length → semE (l.getD j .undef) (m.getD j .undef)) : semE (.agg l) (.agg m) := by
  intro R w x hx
  cases hx with
  | data hd => cases hd
  | agg _ xs h1 h2 => exact .agg m xs (h1.trans hl) fun j hj => h j (hl ▸ hj) R w _ (h2 j (hl ▸ hj))
end Go.Proofs.YtahfdkdneojkmaaDoor.Vc
end
section
/- Part TQ: desks that are drawn. -/
namespace Go.Proofs.YtahfdkdneojkmaaDoor.Vc
open Go.Proofs
set_option maxRecDepth 10000
set_option maxHeartbeats 4000000
def C133n : List AV → (AV → Prop) → Prop := con (X := Place) (fun x => [enPl x]) placeI fun x K => (placeOk x → K (.tup [.agg [.int .i64 x.p, slI x.bs, slS x.rules, .nils], .bool true])) ∧ (¬ placeOk x → K (.tup [.agg [.int .i64 0, .nils, .nils, .nils], .bool false]))
theorem F133n : FF 20 C133n := by
  refine fitX [(13, C127), (52, C158)] (by simp only [List.mem_cons, List.not_mem_nil, or_false]; rintro _ (rfl | rfl) <;> first | exact F127 | exact F158) [] (by simp) Tryd.f20 ⟨rfl, by decide +kernel, by decide +kernel⟩ (fun _ _ _ hk h => ⟨fun q => hk _ (h.1 q), fun q => hk _ (h.2 q)⟩) ?_
  rintro ⟨p, bs, rs⟩ K hI ⟨h, hno⟩
  refine ⟨Nat.le_of_ble_eq_true rfl, ?_⟩
  dsimp only [enPl, plC] at h hno ⊢
  repeat' ((conv => whnf); first | refine vA ?_ | with_reducible first | refine v8 ?_ | refine Sp.mk ?_ ?_ | refine vS ?_ | refine vR ?_ | refine vB ?_ | refine br_nt ?_ | refine br_tt ?_ | refine br_ff ?_ | refine vP ?_ | refine vQ ?_ | refine vT ?_ | refine vF ?_ | refine br_and ?_ | refine br_or ?_ | refine br_d (fun _ => ?_) fun _ => ?_ | refine vM (fun _ => ?_) fun _ => ?_)
  refine ⟨⟨p, bs, rs⟩, ?_, ⟨hI⟩, ?_⟩
  · repeat' ((conv => whnf); first | with_reducible exact True.intro | exact vW | with_reducible refine And.intro ?_ ?_)
  repeat' ((conv => whnf); first | refine vA ?_ | with_reducible first | refine v8 ?_ | refine Sp.mk ?_ ?_ | refine vS ?_ | refine vR ?_ | refine vB ?_ | refine br_nt ?_ | refine br_tt ?_ | refine br_ff ?_ | refine vP ?_ | refine vQ ?_ | refine vT ?_ | refine vF ?_ | refine br_and ?_ | refine br_or ?_ | refine br_d (fun _ => ?_) fun _ => ?_ | refine vM (fun _ => ?_) fun _ => ?_)
  · rename_i hO
    replace hO : placeOk ⟨p, bs, rs⟩ := hO
    refine ⟨⟨p, bs, rs⟩, ?_, ⟨placeOk_short hO⟩, ?_⟩
    · repeat' ((conv => whnf); first | with_reducible exact True.intro | exact vW | with_reducible refine And.intro ?_ ?_)
    dsimp only [enPl, plC]
    repeat' ((conv => whnf); first | refine vA ?_ | with_reducible first | refine v8 ?_ | refine Sp.mk ?_ ?_ | refine vS ?_ | refine vR ?_ | refine vB ?_ | refine br_nt ?_ | refine br_tt ?_ | refine br_ff ?_ | refine vP ?_ | refine vQ ?_ | refine vT ?_ | refine vF ?_ | refine br_and ?_ | refine br_or ?_ | refine br_d (fun _ => ?_) fun _ => ?_ | refine vM (fun _ => ?_) fun _ => ?_)
    exact h hO
  · rename_i hO
    exact hno hO
theorem afterD_len (d : Desk) (a : Dd) : (afterD d a).past.length ≤ d.past.length + 1 := by
  unfold afterD
  split
  · unfold doD
    split
    · show (d.past.take _).length ≤ _
      rw [List.length_take]; omega
    · split
      · show (pushP d.past d.now).length ≤ _
        unfold pushP
        split
        · rw [List.length_drop, List.length_append]; exact Nat.le_trans (Nat.sub_le _ _) (Nat.le_refl _)
        · rw [List.length_append]; exact Nat.le_refl _
      · exact Nat.le_succ _
  · exact Nat.zero_le _
theorem take_len' {L : List Place} {n : Nat} (h : n ≤ L.length) : (L.take n).length = n := by rw [List.length_take]; exact Nat.min_eq_left h
def sameC (f : Nat → List AV) (l : List Place) : Prop := ∀ i, i < l.length → ∀ j, j < 3 → cellE ((f i).getD j .undef) ((plC (l.getD i default)).getD j .undef)
theorem sameC_rfl (l : List Place) : sameC (fun i => plC (l.getD i default)) l := fun _ _ _ _ => .inl rfl
theorem sameC_snoc {L l : List Place} {m : Nat} {z : List AV} (hm : m ≤ L.length) (hl : L.take m = l) : sameC (fun i => appF m (fun i => plC (L.getD i default)) (fun i => (fun i => [[AV.int .i64 0, .nils, .nils]].getD i z) (0 + i)) (0 + i)) (l ++ [default]) := by
  have hll : l.length = m := by rw [← hl]; exact take_len' hm
  intro i hi j hj
  rw [List.length_append] at hi
  replace hi : i < l.length + 1 := hi
  dsimp only
  rw [Nat.zero_add, List.getD_eq_getElem?_getD (l := l ++ [default])]
  by_cases e : i < m
  · have e' : Nat.blt i m = true := Nat.ble_eq_true_of_le e
    rw [List.getElem?_append_left (by omega), ← List.getD_eq_getElem?_getD]
    unfold appF
    rw [e', cond_true, ← hl, take_get e]
    exact .inl rfl
  · obtain rfl : i = m := by omega
    have e' : Nat.blt i i = false := by
      cases h : Nat.blt i i with
      | false => rfl
      | true => exact absurd (blt_t h) (Nat.lt_irrefl _)
    subst hll
    rw [List.getElem?_append_right (Nat.le_refl _), Nat.sub_self]
    unfold appF
    rw [e', cond_false, Nat.sub_self]
    rcases (show j = 0 ∨ j = 1 ∨ j = 2 by omega) with rfl | rfl | rfl
    · exact .inl rfl
    · exact .inr ⟨rfl, _, _, rfl⟩
    · exact .inr ⟨rfl, _, _, rfl⟩
def C167 : GC := conG (X := Rd × Int) (fun x => [.ptr 0 0, .int .i64 x.2]) (fun x => [rdO x.1.b x.1.p]) (fun x => x.1.okn 300000000 ∧ i64r x.2) fun x K => ∀ (d : Desk) (p' : Int) (f : Nat → List AV), x.1.p ≤ p' → p' ≤ x.1.p + 5000 → drawnD d → sameC f d.past → K (.agg [.int .i64 d.now.p, slI d.now.bs, slS d.now.rules, .sl 3 d.past.length f]) [rdO x.1.b p']
theorem F167 : GG 62 C167 := by
  refine fitG [(20, C133n)] (by simp only [List.mem_cons, List.not_mem_nil, or_false]; rintro _ rfl <;> first | exact F133n) [(69, C52), (72, C53), (38, C151), (91, C184), (90, C183r)] (by simp only [List.mem_cons, List.not_mem_nil, or_false]; rintro _ (rfl | rfl | rfl | rfl | rfl) <;> first | exact F52 | exact F53 | exact F151 | exact F184 | exact F183r) Tryd.f62 ⟨rfl, by decide +kernel, by decide +kernel⟩ (by intro x K K2 hk h; (try dsimp only at h ⊢); intros; apply hk; first | exact h | (apply h <;> assumption)) ?_
  rintro ⟨⟨b, p⟩, n⟩ K ⟨⟨h1, h2, h3, h4⟩, h5⟩ h
  refine ⟨Nat.le_of_ble_eq_true rfl, ?_⟩
  dsimp only at h h1 h2 h3 h4 h5 ⊢
  repeat' ((conv => whnf); first | refine vA ?_ | with_reducible first | refine v8 ?_ | refine Sp.mk ?_ ?_ | refine vS ?_ | refine vR ?_ | refine vB ?_ | refine br_nt ?_ | refine br_tt ?_ | refine br_ff ?_ | refine vP ?_ | refine vQ ?_ | refine vT ?_ | refine vF ?_ | refine br_and ?_ | refine br_or ?_ | refine br_d (fun _ => ?_) fun _ => ?_ | refine vM (fun _ => ?_) fun _ => ?_)
  refine ⟨_, _, [0], [], rfl, ?_, ?_, (⟨b, p⟩, 0), rfl, rfl, ⟨⟨h1, h2, h3, by dsimp only; omega⟩, by unfold i64r; dsimp only; omega⟩, ?_⟩
  · repeat' ((conv => whnf); first | with_reducible exact True.intro | exact vW | with_reducible refine And.intro ?_ ?_)
  · repeat' ((conv => whnf); first | with_reducible exact True.intro | exact vW | with_reducible refine And.intro ?_ ?_)
  intro y p1 y1 y2 hy
  dsimp only at y1 y2 ⊢
  repeat' ((conv => whnf); first | refine vA ?_ | with_reducible first | refine v8 ?_ | refine Sp.mk ?_ ?_ | refine vS ?_ | refine vR ?_ | refine vB ?_ | refine br_nt ?_ | refine br_tt ?_ | refine br_ff ?_ | refine vP ?_ | refine vQ ?_ | refine vT ?_ | refine vF ?_ | refine br_and ?_ | refine br_or ?_ | refine br_d (fun _ => ?_) fun _ => ?_ | refine vM (fun _ => ?_) fun _ => ?_)
  refine ⟨y, ?_, ⟨hy.I⟩, ?_⟩
  · repeat' ((conv => whnf); first | with_reducible exact True.intro | exact vW | with_reducible refine And.intro ?_ ?_)
  have hg := newDe_good hy
  unfold newDe at hg
  obtain ⟨P, bs, rs⟩ := y
  dsimp only
  apply later
  · intro key
    refine ⟨fun hO => ?_, fun hO => ?_⟩
    · rw [if_pos hO] at hg
      repeat' ((conv => whnf); first | with_reducible refine wk_at 2 ?_ | with_reducible refine wk_at1 2 ?_ | with_reducible refine wk_at2 2 ?_ | refine vA ?_ | with_reducible first | refine v8 ?_ | refine Sp.mk ?_ ?_ | refine vS ?_ | refine vR ?_ | refine vB ?_ | refine br_nt ?_ | refine br_tt ?_ | refine br_ff ?_ | refine vP ?_ | refine vQ ?_ | refine vT ?_ | refine vF ?_ | refine br_and ?_ | refine br_or ?_ | refine br_d (fun _ => ?_) fun _ => ?_ | refine vM (fun _ => ?_) fun _ => ?_)
      obtain ⟨x, hx⟩ : ∃ x : Place, (⟨P,bs,rs⟩:Place) = x := ⟨_, rfl⟩
      refine ⟨Wk.go [(0, .ptr 0 0), (1, .int .i64 n), (4, .ptr 1 0), (5, .ptr 2 0)] [rdO b p1, .box [.int .i64 0, .nils, .nils, .nils], .box [.int .i64 x.p, slI x.bs, slS x.rules, .row 3 3 0 0], psO []] ⟨⟨[some 0, some 1, some 2, none], [], rfl, rfl, ?_, ?_⟩⟩ ?_⟩
      · repeat' ((conv => whnf); first | with_reducible exact True.intro | exact vW | with_reducible refine And.intro ?_ ?_)
      · subst hx
        repeat' ((conv => whnf); first | with_reducible exact True.intro | exact vW | with_reducible refine And.intro ?_ ?_)
      have hgx : goodD ⟨x, []⟩ := hx ▸ hg
      clear hx
      revert x
      exact key.t
    · rw [if_neg hO] at hg
      repeat' ((conv => whnf); first | with_reducible refine wk_at 2 ?_ | with_reducible refine wk_at1 2 ?_ | with_reducible refine wk_at2 2 ?_ | refine vA ?_ | with_reducible first | refine v8 ?_ | refine Sp.mk ?_ ?_ | refine vS ?_ | refine vR ?_ | refine vB ?_ | refine br_nt ?_ | refine br_tt ?_ | refine br_ff ?_ | refine vP ?_ | refine vQ ?_ | refine vT ?_ | refine vF ?_ | refine br_and ?_ | refine br_or ?_ | refine br_d (fun _ => ?_) fun _ => ?_ | refine vM (fun _ => ?_) fun _ => ?_)
      obtain ⟨x, hx⟩ : ∃ x : Place, (default:Place) = x := ⟨_, rfl⟩
      refine ⟨Wk.go [(0, .ptr 0 0), (1, .int .i64 n), (4, .ptr 1 0), (5, .ptr 2 0)] [rdO b p1, .box [.int .i64 0, .nils, .nils, .nils], .box [.int .i64 x.p, slI x.bs, slS x.rules, .row 3 3 0 0], psO []] ⟨⟨[some 0, some 1, some 2, none], [], rfl, rfl, ?_, ?_⟩⟩ ?_⟩
      · repeat' ((conv => whnf); first | with_reducible exact True.intro | exact vW | with_reducible refine And.intro ?_ ?_)
      · subst hx
        repeat' ((conv => whnf); first | with_reducible exact True.intro | exact vW | with_reducible refine And.intro ?_ ?_)
      have hgx : goodD ⟨x, []⟩ := hx ▸ hg
      clear hx
      revert x
      exact key.t
  intro x hg
  clear hy
  repeat' ((conv => whnf); first | refine vA ?_ | with_reducible first | refine v8 ?_ | refine Sp.mk ?_ ?_ | refine vS ?_ | refine vR ?_ | refine vB ?_ | refine br_nt ?_ | refine br_tt ?_ | refine br_ff ?_ | refine vP ?_ | refine vQ ?_ | refine vT ?_ | refine vF ?_ | refine br_and ?_ | refine br_or ?_ | refine br_d (fun _ => ?_) fun _ => ?_ | refine vM (fun _ => ?_) fun _ => ?_)
  refine ⟨_, _, [0], [], rfl, ?_, ?_, (⟨b, p1⟩, 5), rfl, rfl, ⟨⟨h1, h2, ?_, ?_⟩, ?_⟩, ?_⟩
  · repeat' ((conv => whnf); first | with_reducible exact True.intro | exact vW | with_reducible refine And.intro ?_ ?_)
    try exact Chk.mk (by rw [pw_sh (by assumption)])
  · repeat' ((conv => whnf); first | with_reducible exact True.intro | exact vW | with_reducible refine And.intro ?_ ?_)
  · dsimp only; omega
  · dsimp only; omega
  · unfold i64r; dsimp only; omega
  intro k1 p2 a0 a1 a2
  dsimp only at a0 a1 a2
  repeat' ((conv => whnf); first | refine vA ?_ | with_reducible first | refine v8 ?_ | refine Sp.mk ?_ ?_ | refine vS ?_ | refine vR ?_ | refine vB ?_ | refine br_nt ?_ | refine br_tt ?_ | refine br_ff ?_ | refine vP ?_ | refine vQ ?_ | refine vT ?_ | refine vF ?_ | refine br_and ?_ | refine br_or ?_ | refine br_d (fun _ => ?_) fun _ => ?_ | refine vM (fun _ => ?_) fun _ => ?_)
  refine Lp.mk ⟨Dk × Int × Int, fun x => [(0, .ptr 0 0), (1, .int .i64 n), (4, .ptr 1 0), (5, .ptr 2 0), (7, .int .i64 x.2.1)],
    fun x => [rdO b x.2.2, .box [.int .i64 0, .nils, .nils, .nils], .box [.int .i64 x.1.x.p, slI x.1.x.bs, slS x.1.x.rules, .row 3 3 0 x.1.n], psO x.1.L],
    fun x => 0 ≤ x.2.1 ∧ x.2.1 + x.1.n ≤ 5 ∧ p2 ≤ x.2.2 ∧ x.2.2 + 300 * x.2.1 ≤ p2 + 1500 ∧ goodD x.1.d ∧ x.1.n ≤ x.1.L.length, fun x => x.2.1.toNat, ⟨(⟨x, [], 0⟩, k1, p2), ⟨by dsimp only; omega, by dsimp only; omega, by dsimp only; omega, by dsimp only; omega, hg, Nat.zero_le _⟩, ⟨⟨[some 0, some 1, some 2, some 3], [], rfl, rfl, ?_, ?_⟩⟩⟩, ?_⟩
  · repeat' ((conv => whnf); first | with_reducible exact True.intro | exact vW | with_reducible refine And.intro ?_ ?_)
  · repeat' ((conv => whnf); first | with_reducible exact True.intro | exact vW | with_reducible refine And.intro ?_ ?_)
  rintro ⟨⟨⟨P', bs', rs'⟩, L, m⟩, j, q⟩ ⟨i1, i2, i3, i4, hg, hm⟩
  dsimp only at i1 i2 i3 i4 hm ⊢
  obtain ⟨l, hl⟩ : ∃ l, L.take m = l := ⟨_, rfl⟩
  have hll : l.length = m := by rw [← hl]; exact take_len' hm
  have hdk : Dk.d ⟨⟨P', bs', rs'⟩, L, m⟩ = ⟨⟨P', bs', rs'⟩, l⟩ := by rw [← hl]; rfl
  replace hg : goodD ⟨⟨P', bs', rs'⟩, l⟩ := by rw [← hdk]; exact hg
  have hD := hg.1
  have hq := hD.1
  repeat' ((conv => whnf); first | refine vA ?_ | with_reducible first | refine v8 ?_ | refine Sp.mk ?_ ?_ | refine vS ?_ | refine vR ?_ | refine vB ?_ | refine br_nt ?_ | refine br_tt ?_ | refine br_ff ?_ | refine vP ?_ | refine vQ ?_ | refine vT ?_ | refine vF ?_ | refine br_and ?_ | refine br_or ?_ | refine br_d (fun _ => ?_) fun _ => ?_ | refine vM (fun _ => ?_) fun _ => ?_)
  · rename_i hj
    refine Dr.mk ⟨(.rd 0 (.rd 1 (.rd 2 (.rd 3 (.ef 4 (.ef 5 (.rd 6 (.rd 7 (.rd 8 (.ef 9 (.ef 10 (.rd 11 .dn) .no) .no)))) (.ef 9 (.ef 5 (.rd 6 (.rd 7 (.rd 8 (.ef 10 (.rd 11 .dn) .no)))) .no) .no)) (.ef 9 (.ef 4 (.ef 5 (.rd 6 (.rd 7 (.rd 8 (.ef 10 (.rd 11 .dn) .no)))) .no) .no) .no)))))), by decide +kernel, ?_⟩
    repeat' ((conv => whnf); first | refine vA ?_ | with_reducible first | refine v8 ?_ | refine Sp.mk ?_ ?_ | refine vS ?_ | refine vR ?_ | refine vB ?_ | refine br_nt ?_ | refine br_tt ?_ | refine br_ff ?_ | refine vP ?_ | refine vQ ?_ | refine vT ?_ | refine vF ?_ | refine br_and ?_ | refine br_or ?_ | refine br_d (fun _ => ?_) fun _ => ?_ | refine vM (fun _ => ?_) fun _ => ?_)
    all_goals
      refine ⟨_, _, [0], [], rfl, ?_, ?_, ⟨⟨b, q⟩, ⟨P', bs', rs'⟩⟩, rfl, rfl, ⟨⟨h1, h2, by dsimp only; omega, by dsimp only; omega⟩, hq.i, hq.bl, Nat.le_trans hq.rl (by decide)⟩, ?_⟩
      · repeat' ((conv => whnf); first | with_reducible exact True.intro | exact vW | with_reducible refine And.intro ?_ ?_)
      · repeat' ((conv => whnf); first | with_reducible exact True.intro | exact vW | with_reducible refine And.intro ?_ ?_)
      rintro ⟨k, a, b', w⟩ q' q1 q2 ha
      dsimp only [ded, encD] at q1 q2 ⊢
      repeat' ((conv => whnf); first | refine vA ?_ | with_reducible first | refine v8 ?_ | refine Sp.mk ?_ ?_ | refine vS ?_ | refine vR ?_ | refine vB ?_ | refine br_nt ?_ | refine br_tt ?_ | refine br_ff ?_ | refine vP ?_ | refine vQ ?_ | refine vT ?_ | refine vF ?_ | refine br_and ?_ | refine br_or ?_ | refine br_d (fun _ => ?_) fun _ => ?_ | refine vM (fun _ => ?_) fun _ => ?_)
    all_goals
      refine ⟨_, _, [3], [], rfl, ?_, ?_, ⟨⟨⟨P', bs', rs'⟩, L, m⟩, ⟨k, a, b', w⟩⟩, rfl, rfl, ⟨by rw [hdk]; exact hD.I, hm, by dsimp only; omega, ha.I⟩, ?_⟩
      · repeat' ((conv => whnf); first | with_reducible exact True.intro | exact vW | with_reducible refine And.intro ?_ ?_)
      · repeat' ((conv => whnf); first | with_reducible exact True.intro | exact vW | with_reducible refine And.intro ?_ ?_)
      dsimp only
      rw [hdk]
      refine ⟨fun hO => ?_, fun hO y L' n' hn' he => ?_⟩
      · repeat' ((conv => whnf); first | refine vA ?_ | with_reducible first | refine v8 ?_ | refine Sp.mk ?_ ?_ | refine vS ?_ | refine vR ?_ | refine vB ?_ | refine br_nt ?_ | refine br_tt ?_ | refine br_ff ?_ | refine vP ?_ | refine vQ ?_ | refine vT ?_ | refine vF ?_ | refine br_and ?_ | refine br_or ?_ | refine br_d (fun _ => ?_) fun _ => ?_ | refine vM (fun _ => ?_) fun _ => ?_)
        refine ⟨(⟨⟨P', bs', rs'⟩, L, m⟩, j - 1, q'), ⟨by dsimp only; omega, by dsimp only; omega, by dsimp only; omega, by dsimp only; omega, by rw [hdk]; exact hg, hm⟩, by dsimp only; omega, ?_⟩
        first | (refine ⟨⟨[some 0, some 1, some 2, some 3], [], rfl, rfl, ?_, ?_⟩⟩ <;> (repeat' ((conv => whnf); first | with_reducible exact True.intro | exact vW | with_reducible refine And.intro ?_ ?_)) <;> fail)
      · have hA : canD ⟨⟨P', bs', rs'⟩, l⟩ ⟨k, a, b', w⟩ = true → goodD (Dk.d ⟨y, L', n'⟩) := fun hc => by
          obtain ⟨e, e1, e2, e3⟩ := canD_t hc
          have := doD_good hD e1 ha e2
          rw [← e3, he] at this
          exact this
        have hn2 : n' ≤ m + 1 := by
          have h1 := afterD_len ⟨⟨P', bs', rs'⟩, l⟩ ⟨k, a, b', w⟩
          rw [he] at h1
          have h2 := take_len' hn'
          dsimp only at h1
          omega
        generalize canD ⟨⟨P', bs', rs'⟩, l⟩ ⟨k, a, b', w⟩ = c at hA ⊢
        obtain ⟨yp, yb, yr⟩ := y
        dsimp only [dkV]
        cases c
        · repeat' ((conv => whnf); first | refine vA ?_ | with_reducible first | refine v8 ?_ | refine Sp.mk ?_ ?_ | refine vS ?_ | refine vR ?_ | refine vB ?_ | refine br_nt ?_ | refine br_tt ?_ | refine br_ff ?_ | refine vP ?_ | refine vQ ?_ | refine vT ?_ | refine vF ?_ | refine br_and ?_ | refine br_or ?_ | refine br_d (fun _ => ?_) fun _ => ?_ | refine vM (fun _ => ?_) fun _ => ?_)
          refine ⟨(⟨⟨P', bs', rs'⟩, L, m⟩, j - 1, q'), ⟨by dsimp only; omega, by dsimp only; omega, by dsimp only; omega, by dsimp only; omega, by rw [hdk]; exact hg, hm⟩, by dsimp only; omega, ?_⟩
          first | (refine ⟨⟨[some 0, some 1, some 2, some 3], [], rfl, rfl, ?_, ?_⟩⟩ <;> (repeat' ((conv => whnf); first | with_reducible exact True.intro | exact vW | with_reducible refine And.intro ?_ ?_)) <;> fail)
        · have hg' := hA rfl
          repeat' ((conv => whnf); first | refine vA ?_ | with_reducible first | refine v8 ?_ | refine Sp.mk ?_ ?_ | refine vS ?_ | refine vR ?_ | refine vB ?_ | refine br_nt ?_ | refine br_tt ?_ | refine br_ff ?_ | refine vP ?_ | refine vQ ?_ | refine vT ?_ | refine vF ?_ | refine br_and ?_ | refine br_or ?_ | refine br_d (fun _ => ?_) fun _ => ?_ | refine vM (fun _ => ?_) fun _ => ?_)
          refine ⟨(⟨⟨yp, yb, yr⟩, L', n'⟩, j - 1, q'), ⟨by dsimp only; omega, by dsimp only; omega, by dsimp only; omega, by dsimp only; omega, hg', hn'⟩, by dsimp only; omega, ?_⟩
          first | (refine ⟨⟨[some 0, some 1, some 2, some 4], [], rfl, rfl, ?_, ?_⟩⟩ <;> (repeat' ((conv => whnf); first | with_reducible exact True.intro | exact vW | with_reducible refine And.intro ?_ ?_)) <;> fail) | (refine ⟨⟨[some 0, some 1, some 2, some 5], [], rfl, rfl, ?_, ?_⟩⟩ <;> (repeat' ((conv => whnf); first | with_reducible exact True.intro | exact vW | with_reducible refine And.intro ?_ ?_)) <;> fail)
  · repeat' ((conv => whnf); first | refine vA ?_ | with_reducible first | refine v8 ?_ | refine Sp.mk ?_ ?_ | refine vS ?_ | refine vR ?_ | refine vB ?_ | refine br_nt ?_ | refine br_tt ?_ | refine br_ff ?_ | refine vP ?_ | refine vQ ?_ | refine vT ?_ | refine vF ?_ | refine br_and ?_ | refine br_or ?_ | refine br_d (fun _ => ?_) fun _ => ?_ | refine vM (fun _ => ?_) fun _ => ?_)
    refine ⟨_, _, [0], [], rfl, ?_, ?_, (⟨b, q⟩, n), rfl, rfl, ⟨⟨h1, h2, by dsimp only; omega, by dsimp only; omega⟩, h5⟩, ?_⟩
    · repeat' ((conv => whnf); first | with_reducible exact True.intro | exact vW | with_reducible refine And.intro ?_ ?_)
    · repeat' ((conv => whnf); first | with_reducible exact True.intro | exact vW | with_reducible refine And.intro ?_ ?_)
    intro v p' v1 v2
    dsimp only at v1 v2 ⊢
    have hsl : l.length = m ∧ 0 + m ≤ L.length ∧ ∀ i, i < l.length → plC (l.getD i default) = plC (L.getD (0 + i) default) := ⟨hll, by omega, fun i hi => by rw [Nat.zero_add, ← hl, take_get (by omega)]⟩
    repeat' ((conv => whnf); first | refine vA ?_ | with_reducible first | refine v8 ?_ | refine Sp.mk ?_ ?_ | refine vS ?_ | refine vR ?_ | refine vB ?_ | refine br_nt ?_ | refine br_tt ?_ | refine br_ff ?_ | refine vP ?_ | refine vQ ?_ | refine vT ?_ | refine vF ?_ | refine br_and ?_ | refine br_or ?_ | refine br_d (fun _ => ?_) fun _ => ?_ | refine vM (fun _ => ?_) fun _ => ?_)
    · refine ⟨_, _, [0], [], rfl, ?_, ?_, (⟨b, p'⟩, 3), rfl, rfl, ⟨⟨h1, h2, ?_, ?_⟩, ?_⟩, ?_⟩
      · repeat' ((conv => whnf); first | with_reducible exact True.intro | exact vW | with_reducible refine And.intro ?_ ?_)
        try exact Chk.mk (by rw [pw_sh (by assumption)])
      · repeat' ((conv => whnf); first | with_reducible exact True.intro | exact vW | with_reducible refine And.intro ?_ ?_)
      · dsimp only; omega
      · dsimp only; omega
      · unfold i64r; dsimp only; omega
      intro k5 p5 e0 e1 e2
      dsimp only at e0 e1 e2
      repeat' ((conv => whnf); first | refine vA ?_ | with_reducible first | refine v8 ?_ | refine Sp.mk ?_ ?_ | refine vS ?_ | refine vR ?_ | refine vB ?_ | refine br_nt ?_ | refine br_tt ?_ | refine br_ff ?_ | refine vP ?_ | refine vQ ?_ | refine vT ?_ | refine vF ?_ | refine br_and ?_ | refine br_or ?_ | refine br_d (fun _ => ?_) fun _ => ?_ | refine vM (fun _ => ?_) fun _ => ?_)
      · refine ⟨_, _, [some 0], [3], rfl, rfl, ?_, ?_, h ⟨⟨P', bs', []⟩, l⟩ p5 _ (by omega) (by omega) ⟨⟨⟨hq.i.1, (by decide : 0 < 9223372036854775808), fun _ hb => by cases hb⟩, hq.bl, (by decide : 0 ≤ 4), fun _ hb => by cases hb⟩, hD.2⟩ (sameC_rfl _)⟩
        · repeat' ((conv => whnf); first | with_reducible exact True.intro | exact vW | with_reducible refine And.intro ?_ ?_)
          all_goals exact Chk.mk hsl
        · repeat' ((conv => whnf); first | with_reducible exact True.intro | exact vW | with_reducible refine And.intro ?_ ?_)
      · obtain ⟨lp, l9, lq⟩ := hD
        dsimp only at lp l9 lq
        have hx : (l ++ [(default : Place)]).length = m + 1 := by rw [List.length_append, hll]; rfl
        refine ⟨_, _, [some 0], [5], rfl, rfl, ?_, ?_, h ⟨⟨P', bs', rs'⟩, l ++ [default]⟩ p5 _ (by omega) (by omega) ⟨lp, by dsimp only; rw [List.length_append]; show l.length + 1 ≤ 9; omega, fun z hz => (List.mem_append.1 hz).elim (fun k => lq z k) fun k => by rw [List.mem_singleton.1 k]; exact drawnQ0⟩ (sameC_snoc hm hl (z := (lookT TT 28).z))⟩
        · repeat' ((conv => whnf); first | with_reducible exact True.intro | exact vW | with_reducible refine And.intro ?_ ?_)
          all_goals exact Chk.mk ⟨hx, by omega, fun i hi => rfl⟩
        · repeat' ((conv => whnf); first | with_reducible exact True.intro | exact vW | with_reducible refine And.intro ?_ ?_)
      · refine ⟨_, _, [some 0], [], rfl, rfl, ?_, ?_, h default p5 _ (by omega) (by omega) drawnD0 (sameC_rfl _)⟩
        · repeat' ((conv => whnf); first | with_reducible exact True.intro | exact vW | with_reducible refine And.intro ?_ ?_)
        · repeat' ((conv => whnf); first | with_reducible exact True.intro | exact vW | with_reducible refine And.intro ?_ ?_)
    · refine ⟨_, _, [some 0], [3], rfl, rfl, ?_, ?_, h ⟨⟨P', bs', rs'⟩, l⟩ p' _ (by omega) (by omega) hD (sameC_rfl _)⟩
      · repeat' ((conv => whnf); first | with_reducible exact True.intro | exact vW | with_reducible refine And.intro ?_ ?_)
        all_goals exact Chk.mk hsl
      · repeat' ((conv => whnf); first | with_reducible exact True.intro | exact vW | with_reducible refine And.intro ?_ ?_)
end Go.Proofs.YtahfdkdneojkmaaDoor.Vc
end
