/- Part TN: a deed at a desk, by the reference. -/
import Derived.Test.YtjefkdhecccfpaaDoorVc7
section
namespace Go.Proofs.YtjefkdhecccfpaaDoor.Vc
open Go.Proofs
set_option maxRecDepth 10000
set_option maxHeartbeats 4000000
def deG (d : Desk) : AV := .agg [.int .i64 d.now.p, slI d.now.bs, slS d.now.rules, .row 0 3 0 d.past.length]
def psO (l : List Place) : Obj := .row 3 l.length fun i => plC (l.getD i default)
def shortD (d : Desk) : Prop := shortP d.now ∧ d.past.length ≤ 100000 ∧ ∀ p ∈ d.past, shortP p
def C198 : GC := conG (X := Desk) (fun d => [enDe d]) (fun _ => []) shortD fun d K => K (deG d) [psO d.past]
theorem F198 : GG 45 C198 := by
  refine fitG [(80, C158)] (by simp only [List.mem_cons, List.not_mem_nil, or_false]; rintro _ rfl <;> first | exact F158) [] (by simp) Tryd.f45 ⟨rfl, by decide +kernel, by decide +kernel⟩ (by intro x K K2 hk h; (try dsimp only at h ⊢); intros; apply hk; first | exact h | (apply h <;> assumption)) ?_
  rintro ⟨⟨p, bs, rs⟩, l⟩ K ⟨h1, h2, h3⟩ h
  refine ⟨Nat.le_of_ble_eq_true rfl, ?_⟩
  unfold deG psO at h
  dsimp only [enDe, deC] at h h1 h2 h3 ⊢
  repeat' ((conv => whnf); first | refine vA ?_ | with_reducible first | refine v8 ?_ | refine Sp.mk ?_ ?_ | refine vS ?_ | refine vR ?_ | refine vB ?_ | refine br_nt ?_ | refine br_tt ?_ | refine br_ff ?_ | refine vP ?_ | refine vQ ?_ | refine vT ?_ | refine vF ?_ | refine br_and ?_ | refine br_or ?_ | refine br_d (fun _ => ?_) fun _ => ?_ | refine vM (fun _ => ?_) fun _ => ?_)
  refine ⟨⟨p, bs, rs⟩, ?_, ⟨h1⟩, ?_⟩
  · repeat' ((conv => whnf); first | with_reducible exact True.intro | exact vW | with_reducible refine And.intro ?_ ?_)
  dsimp only [enPl, plC]
  repeat' ((conv => whnf); first | refine vA ?_ | with_reducible first | refine v8 ?_ | refine Sp.mk ?_ ?_ | refine vS ?_ | refine vR ?_ | refine vB ?_ | refine br_nt ?_ | refine br_tt ?_ | refine br_ff ?_ | refine vP ?_ | refine vQ ?_ | refine vT ?_ | refine vF ?_ | refine br_and ?_ | refine br_or ?_ | refine br_d (fun _ => ?_) fun _ => ?_ | refine vM (fun _ => ?_) fun _ => ?_)
  refine Lp.mk ⟨Nat, fun i => [(1, .ptr 0 0), (2, .ptr 1 0), (3, .ptr 2 0), (4, .int .i64 i)], fun i => [.box (deC ⟨⟨p, bs, rs⟩, l⟩), .box [.int .i64 0, .nils, .nils, .nils], .box [.int .i64 p, slI bs, slS rs, .row 3 3 0 (l.take i).length], psO (l.take i)], fun i => i ≤ l.length, fun i => l.length - i, ⟨0, Nat.zero_le _, ⟨⟨[some 0, some 1, some 2, none], [], rfl, rfl, ?_, ?_⟩⟩⟩, ?_⟩
  · repeat' ((conv => whnf); first | with_reducible exact True.intro | exact vW | with_reducible refine And.intro ?_ ?_)
  · repeat' ((conv => whnf); first | with_reducible exact True.intro | exact vW | with_reducible refine And.intro ?_ ?_)
  intro i i1
  dsimp only [deC, psO]
  have hti : (l.take i).length ≤ 100000 := by rw [List.length_take]; omega
  repeat' ((conv => whnf); first | refine vA ?_ | with_reducible first | refine v8 ?_ | refine Sp.mk ?_ ?_ | refine vS ?_ | refine vR ?_ | refine vB ?_ | refine br_nt ?_ | refine br_tt ?_ | refine br_ff ?_ | refine vP ?_ | refine vQ ?_ | refine vT ?_ | refine vF ?_ | refine br_and ?_ | refine br_or ?_ | refine br_d (fun _ => ?_) fun _ => ?_ | refine vM (fun _ => ?_) fun _ => ?_)
  · rename_i hi
    have hi : i < l.length := by omega
    have hsn : l.take (i + 1) = l.take i ++ [l.getD i default] := take_succ' default hi
    refine Dr.mk ⟨(.rd 0 (.rd 1 (.rd 2 (.rd 3 (.rd 4 (.rd 5 (.rd 6 (.ef 7 (.ef 8 (.ef 9 (.rd 10 (.ef 11 .dn .no)) .no) .no) .no)))))))), by decide +kernel, ?_⟩
    repeat' ((conv => whnf); first | refine vA ?_ | with_reducible first | refine v8 ?_ | refine Sp.mk ?_ ?_ | refine vS ?_ | refine vR ?_ | refine vB ?_ | refine br_nt ?_ | refine br_tt ?_ | refine br_ff ?_ | refine vP ?_ | refine vQ ?_ | refine vT ?_ | refine vF ?_ | refine br_and ?_ | refine br_or ?_ | refine br_d (fun _ => ?_) fun _ => ?_ | refine vM (fun _ => ?_) fun _ => ?_)
    refine ⟨l.getD i default, ?_, ⟨h3 _ (getD_mem' hi)⟩, ?_⟩
    · repeat' ((conv => whnf); first | with_reducible exact True.intro | exact vW | with_reducible refine And.intro ?_ ?_)
    dsimp only [enPl, plC]
    repeat' ((conv => whnf); first | refine vA ?_ | with_reducible first | refine v8 ?_ | refine Sp.mk ?_ ?_ | refine vS ?_ | refine vR ?_ | refine vB ?_ | refine br_nt ?_ | refine br_tt ?_ | refine br_ff ?_ | refine vP ?_ | refine vQ ?_ | refine vT ?_ | refine vF ?_ | refine br_and ?_ | refine br_or ?_ | refine br_d (fun _ => ?_) fun _ => ?_ | refine vM (fun _ => ?_) fun _ => ?_)
    refine ⟨i + 1, by omega, by omega, ⟨⟨[some 0, some 1, some 2, some 5], [], rfl, rfl, ?_, ?_⟩⟩⟩
    · repeat' ((conv => whnf); first | with_reducible exact True.intro | exact vW | with_reducible refine And.intro ?_ ?_)
    · repeat' ((conv => whnf); first | with_reducible exact True.intro | exact vW | with_reducible refine And.intro ?_ ?_)
      all_goals first | exact Chk.mk ⟨rfl, by rw [hsn, List.length_append]; rfl⟩ | exact Chk.mk (by rw [hsn]; exact ext_push (enc := plC) (d := default) (l := l.take i) (x := l.getD i default) rfl)
  · rename_i hi
    rw [List.take_of_length_le (by omega)]
    repeat' ((conv => whnf); first | refine vA ?_ | with_reducible first | refine v8 ?_ | refine Sp.mk ?_ ?_ | refine vS ?_ | refine vR ?_ | refine vB ?_ | refine br_nt ?_ | refine br_tt ?_ | refine br_ff ?_ | refine vP ?_ | refine vQ ?_ | refine vT ?_ | refine vF ?_ | refine br_and ?_ | refine br_or ?_ | refine br_d (fun _ => ?_) fun _ => ?_ | refine vM (fun _ => ?_) fun _ => ?_)
    refine ⟨_, _, [some 3], [], rfl, rfl, ?_, ?_, h⟩
    · repeat' ((conv => whnf); first | with_reducible exact True.intro | exact vW | with_reducible refine And.intro ?_ ?_)
    · repeat' ((conv => whnf); first | with_reducible exact True.intro | exact vW | with_reducible refine And.intro ?_ ?_)
def backD : Dd := ⟨4, 0, 0, ⟨#[]⟩⟩
/-- What is behind a desk that goes on. -/
def pushP (l : List Place) (x : Place) : List Place := if 8 < (l ++ [x]).length then (l ++ [x]).drop 1 else l ++ [x]
/-- A desk after a deed, if it can be done. -/
def doD (d : Desk) (a : Dd) : Option Desk :=
  if a = backD ∧ 0 < d.past.length then some ⟨d.past.getD (d.past.length - 1) default, d.past.take (d.past.length - 1)⟩
  else if placeOk (madeP d.now a) ∧ ptext (madeP d.now a) ≠ ptext d.now then some ⟨madeP d.now a, pushP d.past d.now⟩ else none
def afterD (d : Desk) (a : Dd) : Desk := if deskOk d then (doD d a).getD d else default
def canD (d : Desk) (a : Dd) : Bool := decide (deskOk d) && (doD d a).isSome
structure De where
  d : Desk
  a : Dd
def C183 : List AV → (AV → Prop) → Prop := con (X := De) (fun x => [enDe x.d, ded x.a]) (fun x => deskI x.d ∧ dedI x.a) fun x K => K (.tup [enDe (afterD x.d x.a), .bool (canD x.d x.a)])
theorem placeOk_shortP {x : Place} (h : placeOk x) : shortP x := placeOk_short h
theorem deskOk_short {d : Desk} (h : deskOk d) : shortD d := ⟨placeOk_short h.1, Nat.le_trans h.2.1 (by decide), fun p hp => placeOk_short (h.2.2 p hp)⟩
theorem placeI0 : placeI default := ⟨⟨⟨⟨by decide, by decide⟩, fun _ hb => by cases hb⟩, by decide⟩, by decide, fun _ hb => by cases hb⟩
theorem madeP_I {x : Place} {a : Dd} (h : placeI x) (hs : shortP x) (ha : dedI a) : placeI (madeP x a) := by
  obtain ⟨⟨h1, h2⟩, h3, h4⟩ := h
  have s1 := hs.1
  have s2 := hs.2
  have b2 := h1.2
  unfold madeP
  split
  · refine ⟨⟨⟨h1.1, fun b hb => (List.mem_append.1 hb).elim (fun hb => b2 b hb) fun hb => by rw [List.mem_singleton.1 hb]; exact ha.2.1⟩, ?_⟩, h3, h4⟩
    show (x.bs ++ [a.a]).length < _
    simp only [List.length_append, List.length_cons, List.length_nil]
    omega
  · split
    · refine ⟨⟨h1, h2⟩, ?_, fun r hr => (List.mem_append.1 hr).elim (fun hr => h4 r hr) fun hr => by rw [List.mem_singleton.1 hr]; exact ha.2.2.2⟩
      show (x.rules ++ [a.words]).length < _
      simp only [List.length_append, List.length_cons, List.length_nil]
      omega
    · split
      · refine ⟨⟨h1, h2⟩, by show (x.rules.set _ _).length < _; rw [List.length_set]; exact h3, fun r hr => (List.mem_or_eq_of_mem_set hr).elim (fun hr => h4 r hr) fun hr => by rw [hr]; exact ha.2.2.2⟩
      · split
        · refine ⟨⟨h1, h2⟩, ?_, fun r hr => (List.mem_append.1 hr).elim (fun hr => h4 r (List.mem_of_mem_take hr)) fun hr => h4 r (List.mem_of_mem_drop hr)⟩
          show (x.rules.take _ ++ x.rules.drop _).length < _
          simp only [List.length_append, List.length_take, List.length_drop]
          omega
        · exact placeI0
theorem ext_take {α : Type} {enc : α → List AV} {d : α} {l : List α} {n : Nat} (hn : n ≤ l.length) : n - Int.toNat 0 = (l.take n).length ∧ ∀ i, i < n - Int.toNat 0 → enc (l.getD (0 + Int.toNat 0 + i) d) = enc ((l.take n).getD i d) := by
  refine ⟨by rw [List.length_take]; show n - 0 = _; omega, fun i hi => ?_⟩
  rw [show 0 + Int.toNat 0 + i = i by show 0 + 0 + i = i; omega, List.getD_eq_getElem?_getD, List.getD_eq_getElem?_getD, List.getElem?_take_of_lt (by exact hi)]
theorem ext_pushV {α : Type} {enc : α → List AV} {d : α} {l : List α} {x : α} {g : Nat → List AV} (hg : g 0 = enc x) : l.length + 1 = (l ++ [x]).length ∧ ∀ i, i < l.length + 1 → appF l.length (fun i => enc (l.getD i d)) g (0 + i) = enc ((l ++ [x]).getD i d) := by
  have h := ext_push (enc := enc) (d := d) (l := l) (x := x) (g := g) hg
  refine ⟨h.1.symm, fun i hi => ?_⟩
  rw [Nat.zero_add]
  exact (h.2 i (by rw [h.1]; exact hi)).symm
theorem ext_dropV {α : Type} {enc : α → List AV} {d : α} {l : List α} {x : α} {g : Nat → List AV} (hg : g 0 = enc x) : ((l.length + 1 : Nat) : Int).toNat - Int.toNat 1 = ((l ++ [x]).drop 1).length ∧ ∀ i, i < ((l.length + 1 : Nat) : Int).toNat - Int.toNat 1 → appF l.length (fun i => enc (l.getD i d)) g (0 + Int.toNat 1 + i) = enc (((l ++ [x]).drop 1).getD i d) := by
  have h := ext_push (enc := enc) (d := d) (l := l) (x := x) (g := g) hg
  refine ⟨by rw [List.length_drop, h.1]; rfl, fun i hi => ?_⟩
  have e : ((l.length + 1 : Nat) : Int).toNat - Int.toNat 1 = l.length := rfl
  rw [e] at hi
  rw [show 0 + Int.toNat 1 + i = 1 + i by rw [Nat.zero_add]; rfl, List.getD_eq_getElem?_getD (l := (l ++ [x]).drop 1), List.getElem?_drop, ← List.getD_eq_getElem?_getD]
  exact (h.2 (1 + i) (by rw [h.1]; omega)).symm
theorem afterD_some {d e : Desk} {a : Dd} (h : deskOk d) (he : doD d a = some e) : afterD d a = e := by
  unfold afterD
  rw [if_pos h, he]
  rfl
theorem canD_some {d e : Desk} {a : Dd} (h : deskOk d) (he : doD d a = some e) : canD d a = true := by
  unfold canD
  rw [decide_eq_true h, he]
  rfl
theorem afterD_none {d : Desk} {a : Dd} (h : deskOk d) (he : doD d a = none) : afterD d a = d := by
  unfold afterD
  rw [if_pos h, he]
  rfl
theorem canD_none {d : Desk} {a : Dd} (he : doD d a = none) : canD d a = false := by
  unfold canD
  rw [he]
  simp
theorem F183 : FF 12 C183 := by
  refine fitXE [(22, C139), (46, C199), (47, C127), (48, C142)] (by simp only [List.mem_cons, List.not_mem_nil, or_false]; rintro _ (rfl | rfl | rfl | rfl) <;> first | exact F139 | exact F199 | exact F127 | exact F142) [(45, C198)] (by simp only [List.mem_cons, List.not_mem_nil, or_false]; rintro _ rfl; exact F198) Tryd.f12 ⟨rfl, by decide +kernel, by decide +kernel⟩ (fun _ _ _ hk h => hk _ h) ?_
  rintro ⟨⟨⟨p, bs, rs⟩, l⟩, ⟨k, a, b, w⟩⟩ K ⟨hI, ha⟩ h
  refine ⟨Nat.le_of_ble_eq_true rfl, ?_⟩
  dsimp only [enDe, deC, ded, encD] at hI ha ⊢
  repeat' ((conv => whnf); first | refine vA ?_ | with_reducible first | refine v8 ?_ | refine Sp.mk ?_ ?_ | refine vS ?_ | refine vR ?_ | refine vB ?_ | refine br_nt ?_ | refine br_tt ?_ | refine br_ff ?_ | refine vP ?_ | refine vQ ?_ | refine vT ?_ | refine vF ?_ | refine br_and ?_ | refine br_or ?_ | refine br_d (fun _ => ?_) fun _ => ?_ | refine vM (fun _ => ?_) fun _ => ?_)
  refine ⟨⟨⟨p, bs, rs⟩, l⟩, ?_, ⟨hI⟩, ?_⟩
  · repeat' ((conv => whnf); first | with_reducible exact True.intro | exact vW | with_reducible refine And.intro ?_ ?_)
  by_cases hO : deskOk ⟨⟨p, bs, rs⟩, l⟩
  · have hs := deskOk_short hO
    have hs2 := hs.2.1
    dsimp only at hs2
    repeat' ((conv => whnf); first | refine vA ?_ | with_reducible first | refine v8 ?_ | refine Sp.mk ?_ ?_ | refine vS ?_ | refine vR ?_ | refine vB ?_ | refine br_nt ?_ | refine br_tt ?_ | refine br_ff ?_ | refine vP ?_ | refine vQ ?_ | refine vT ?_ | refine vF ?_ | refine br_and ?_ | refine br_or ?_ | refine br_d (fun _ => ?_) fun _ => ?_ | refine vM (fun _ => ?_) fun _ => ?_)
    refine ⟨_, _, [], [], rfl, ?_, ?_, ⟨⟨p, bs, rs⟩, l⟩, rfl, rfl, ⟨hs⟩, ?_⟩
    · repeat' ((conv => whnf); first | with_reducible exact True.intro | exact vW | with_reducible refine And.intro ?_ ?_)
    · repeat' ((conv => whnf); first | with_reducible exact True.intro | exact vW | with_reducible refine And.intro ?_ ?_)
    dsimp only [deG, psO]
    repeat' ((conv => whnf); first | with_reducible refine wk_at 9 ?_ | with_reducible refine wk_at1 9 ?_ | with_reducible refine wk_at2 9 ?_ | refine vA ?_ | with_reducible first | refine v8 ?_ | refine Sp.mk ?_ ?_ | refine vS ?_ | refine vR ?_ | refine vB ?_ | refine br_nt ?_ | refine br_tt ?_ | refine br_ff ?_ | refine vP ?_ | refine vQ ?_ | refine vT ?_ | refine vF ?_ | refine br_and ?_ | refine br_or ?_ | refine br_d (fun _ => ?_) fun _ => ?_ | refine vM (fun _ => ?_) fun _ => ?_)
    · rename_i q1 q2 q3 q4 q5
      have hl : 0 < l.length := by omega
      have e0 : doD ⟨⟨p, bs, rs⟩, l⟩ ⟨k, a, b, w⟩ = some ⟨l.getD (l.length - 1) default, l.take (l.length - 1)⟩ := if_pos ⟨by subst q1; subst q2; subst q3; subst q4; rfl, hl⟩
      replace h : K (.tup [enDe (afterD ⟨⟨p, bs, rs⟩, l⟩ ⟨k, a, b, w⟩), .bool (canD ⟨⟨p, bs, rs⟩, l⟩ ⟨k, a, b, w⟩)]) := h
      rw [afterD_some hO e0, canD_some hO e0] at h
      have e1 : ((l.length : Int) - 1).toNat = l.length - 1 := by omega
      refine ⟨_, ?_, h⟩
      rw [e1, Nat.zero_add]
      repeat' ((conv => whnf); first | with_reducible exact True.intro | exact vW | with_reducible refine And.intro ?_ ?_)
      all_goals exact Chk.mk (ext_take (enc := plC) (d := default) (l := l) (n := l.length - 1) (by omega))
    all_goals
      have hnb : ¬ ((⟨k, a, b, w⟩ : Dd) = backD ∧ 0 < l.length) := by
        rintro ⟨e, e2⟩
        have e3 := congrArg Dd.kind e
        have e4 := congrArg Dd.a e
        have e5 := congrArg Dd.b e
        have e6 := congrArg Dd.words e
        dsimp only [backD] at e3 e4 e5 e6
        first | omega | exact absurd e6 (by assumption)
      refine ⟨Wk.go [(2, .ptr 0 0), (3, .ptr 1 0), (4, .ptr 2 0), (6, .ptr 3 0)] [.box (deC ⟨⟨p, bs, rs⟩, l⟩), .box (encD ⟨k, a, b, w⟩), .box [.int .i64 0, .nils, .nils, .nils], .box [.int .i64 p, slI bs, slS rs, .row 4 3 0 l.length], psO l] ⟨⟨[some 0, some 1, some 2, some 4, some 3], [], rfl, rfl, ?_, ?_⟩⟩ ?_⟩
      · repeat' ((conv => whnf); first | with_reducible exact True.intro | exact vW | with_reducible refine And.intro ?_ ?_)
      · repeat' ((conv => whnf); first | with_reducible exact True.intro | exact vW | with_reducible refine And.intro ?_ ?_)
      dsimp only [deC, encD, psO]
      repeat' ((conv => whnf); first | refine vA ?_ | with_reducible first | refine v8 ?_ | refine Sp.mk ?_ ?_ | refine vS ?_ | refine vR ?_ | refine vB ?_ | refine br_nt ?_ | refine br_tt ?_ | refine br_ff ?_ | refine vP ?_ | refine vQ ?_ | refine vT ?_ | refine vF ?_ | refine br_and ?_ | refine br_or ?_ | refine br_d (fun _ => ?_) fun _ => ?_ | refine vM (fun _ => ?_) fun _ => ?_)
      refine ⟨⟨⟨p, bs, rs⟩, ⟨k, a, b, w⟩⟩, ?_, ⟨hI.1, hs.1, ha⟩, ?_⟩
      · repeat' ((conv => whnf); first | with_reducible exact True.intro | exact vW | with_reducible refine And.intro ?_ ?_)
      have hMI := madeP_I (a := ⟨k, a, b, w⟩) hI.1 hs.1 ha
      replace h : K (.tup [enDe (afterD ⟨⟨p, bs, rs⟩, l⟩ ⟨k, a, b, w⟩), .bool (canD ⟨⟨p, bs, rs⟩, l⟩ ⟨k, a, b, w⟩)]) := h
      have eD : doD ⟨⟨p, bs, rs⟩, l⟩ ⟨k, a, b, w⟩ = _ := if_neg hnb
      dsimp only at hMI eD ⊢
      generalize madeP ⟨p, bs, rs⟩ ⟨k, a, b, w⟩ = M at hMI eD ⊢
      obtain ⟨mp, mb, mr⟩ := M
      dsimp only [enPl, plC]
      repeat' ((conv => whnf); first | refine vA ?_ | with_reducible first | refine v8 ?_ | refine Sp.mk ?_ ?_ | refine vS ?_ | refine vR ?_ | refine vB ?_ | refine br_nt ?_ | refine br_tt ?_ | refine br_ff ?_ | refine vP ?_ | refine vQ ?_ | refine vT ?_ | refine vF ?_ | refine br_and ?_ | refine br_or ?_ | refine br_d (fun _ => ?_) fun _ => ?_ | refine vM (fun _ => ?_) fun _ => ?_)
      refine Dr.mk ⟨(.rd 0 (.ef 1 (.rd 2 (.rd 3 (.rd 4 (.rd 6 (.rd 7 (.ef 5 (.ef 8 (.rd 9 (.rd 10 .dn)) .no) .no)))))) .no)), by decide +kernel, ?_⟩
      repeat' ((conv => whnf); first | refine vA ?_ | with_reducible first | refine v8 ?_ | refine Sp.mk ?_ ?_ | refine vS ?_ | refine vR ?_ | refine vB ?_ | refine br_nt ?_ | refine br_tt ?_ | refine br_ff ?_ | refine vP ?_ | refine vQ ?_ | refine vT ?_ | refine vF ?_ | refine br_and ?_ | refine br_or ?_ | refine br_d (fun _ => ?_) fun _ => ?_ | refine vM (fun _ => ?_) fun _ => ?_)
      refine ⟨⟨mp, mb, mr⟩, ?_, ⟨hMI⟩, ?_⟩
      · repeat' ((conv => whnf); first | with_reducible exact True.intro | exact vW | with_reducible refine And.intro ?_ ?_)
      repeat' ((conv => whnf); first | refine vA ?_ | with_reducible first | refine v8 ?_ | refine Sp.mk ?_ ?_ | refine vS ?_ | refine vR ?_ | refine vB ?_ | refine br_nt ?_ | refine br_tt ?_ | refine br_ff ?_ | refine vP ?_ | refine vQ ?_ | refine vT ?_ | refine vF ?_ | refine br_and ?_ | refine br_or ?_ | refine br_d (fun _ => ?_) fun _ => ?_ | refine vM (fun _ => ?_) fun _ => ?_)
      · rename_i hp
        replace hp : placeOk ⟨mp, mb, mr⟩ := hp
        refine ⟨⟨mp, mb, mr⟩, ?_, ⟨hMI⟩, ?_⟩
        · repeat' ((conv => whnf); first | with_reducible exact True.intro | exact vW | with_reducible refine And.intro ?_ ?_)
        repeat' ((conv => whnf); first | refine vA ?_ | with_reducible first | refine v8 ?_ | refine Sp.mk ?_ ?_ | refine vS ?_ | refine vR ?_ | refine vB ?_ | refine br_nt ?_ | refine br_tt ?_ | refine br_ff ?_ | refine vP ?_ | refine vQ ?_ | refine vT ?_ | refine vF ?_ | refine br_and ?_ | refine br_or ?_ | refine br_d (fun _ => ?_) fun _ => ?_ | refine vM (fun _ => ?_) fun _ => ?_)
        refine ⟨⟨p, bs, rs⟩, ?_, ⟨hI.1⟩, ?_⟩
        · repeat' ((conv => whnf); first | with_reducible exact True.intro | exact vW | with_reducible refine And.intro ?_ ?_)
        by_cases he : ptext ⟨mp, mb, mr⟩ = ptext ⟨p, bs, rs⟩
        · replace eD : doD ⟨⟨p, bs, rs⟩, l⟩ ⟨k, a, b, w⟩ = none := eD.trans (if_neg fun q => q.2 he)
          rw [afterD_none hO eD, canD_none eD] at h
          repeat' ((conv => whnf); first | refine vA ?_ | with_reducible first | refine v8 ?_ | refine Sp.mk ?_ ?_ | refine vS ?_ | refine vR ?_ | refine vB ?_ | refine br_nt ?_ | refine br_tt ?_ | refine br_ff ?_ | refine vP ?_ | refine vQ ?_ | refine vT ?_ | refine vF ?_ | refine br_and ?_ | refine br_or ?_ | refine br_d (fun _ => ?_) fun _ => ?_ | refine vM (fun _ => ?_) fun _ => ?_)
          refine ⟨_, ?_, h⟩
          repeat' ((conv => whnf); first | with_reducible exact True.intro | exact vW | with_reducible refine And.intro ?_ ?_)
          all_goals exact Chk.mk ⟨rfl, fun i _ => by dsimp only; rw [Nat.zero_add]; rfl⟩
        · replace eD : doD ⟨⟨p, bs, rs⟩, l⟩ ⟨k, a, b, w⟩ = some ⟨⟨mp, mb, mr⟩, pushP l ⟨p, bs, rs⟩⟩ := eD.trans (if_pos ⟨hp, he⟩)
          rw [afterD_some hO eD, canD_some hO eD] at h
          by_cases h8 : 8 < (l ++ [(⟨p, bs, rs⟩ : Place)]).length
          · rw [show pushP l ⟨p, bs, rs⟩ = (l ++ [(⟨p, bs, rs⟩ : Place)]).drop 1 from if_pos h8] at h
            simp only [List.length_append, List.length_cons, List.length_nil] at h8
            repeat' ((conv => whnf); first | refine vA ?_ | with_reducible first | refine v8 ?_ | refine Sp.mk ?_ ?_ | refine vS ?_ | refine vR ?_ | refine vB ?_ | refine br_nt ?_ | refine br_tt ?_ | refine br_ff ?_ | refine vP ?_ | refine vQ ?_ | refine vT ?_ | refine vF ?_ | refine br_and ?_ | refine br_or ?_ | refine br_d (fun _ => ?_) fun _ => ?_ | refine vM (fun _ => ?_) fun _ => ?_)
            first
            | refine ⟨_, ?_, h⟩
            | refine ⟨Chk.mk ⟨⟨by show 0 + 1 + (l.length + 1 - 1) ≤ l.length + 1; omega, trivial⟩, trivial⟩, _, ?_, h⟩
            repeat' ((conv => whnf); first | with_reducible exact True.intro | exact vW | with_reducible refine And.intro ?_ ?_)
            all_goals exact Chk.mk (ext_dropV (enc := plC) (d := default) (l := l) (x := ⟨p, bs, rs⟩) rfl)
          · rw [show pushP l ⟨p, bs, rs⟩ = l ++ [(⟨p, bs, rs⟩ : Place)] from if_neg h8] at h
            simp only [List.length_append, List.length_cons, List.length_nil] at h8
            repeat' ((conv => whnf); first | refine vA ?_ | with_reducible first | refine v8 ?_ | refine Sp.mk ?_ ?_ | refine vS ?_ | refine vR ?_ | refine vB ?_ | refine br_nt ?_ | refine br_tt ?_ | refine br_ff ?_ | refine vP ?_ | refine vQ ?_ | refine vT ?_ | refine vF ?_ | refine br_and ?_ | refine br_or ?_ | refine br_d (fun _ => ?_) fun _ => ?_ | refine vM (fun _ => ?_) fun _ => ?_)
            refine ⟨_, ?_, h⟩
            repeat' ((conv => whnf); first | with_reducible exact True.intro | exact vW | with_reducible refine And.intro ?_ ?_)
            all_goals exact Chk.mk (ext_pushV (enc := plC) (d := default) (l := l) (x := ⟨p, bs, rs⟩) rfl)
      · rename_i hp
        replace hp : ¬ placeOk ⟨mp, mb, mr⟩ := hp
        replace eD : doD ⟨⟨p, bs, rs⟩, l⟩ ⟨k, a, b, w⟩ = none := eD.trans (if_neg fun q => hp q.1)
        rw [afterD_none hO eD, canD_none eD] at h
        refine ⟨_, ?_, h⟩
        repeat' ((conv => whnf); first | with_reducible exact True.intro | exact vW | with_reducible refine And.intro ?_ ?_)
        all_goals exact Chk.mk ⟨rfl, fun i _ => by dsimp only; rw [Nat.zero_add]; rfl⟩
  · replace h : K (.tup [enDe (afterD ⟨⟨p, bs, rs⟩, l⟩ ⟨k, a, b, w⟩), .bool (canD ⟨⟨p, bs, rs⟩, l⟩ ⟨k, a, b, w⟩)]) := h
    rw [show afterD ⟨⟨p, bs, rs⟩, l⟩ ⟨k, a, b, w⟩ = default from if_neg hO, show canD ⟨⟨p, bs, rs⟩, l⟩ ⟨k, a, b, w⟩ = false by unfold canD; rw [decide_eq_false hO]; rfl] at h
    repeat' ((conv => whnf); first | refine vA ?_ | with_reducible first | refine v8 ?_ | refine Sp.mk ?_ ?_ | refine vS ?_ | refine vR ?_ | refine vB ?_ | refine br_nt ?_ | refine br_tt ?_ | refine br_ff ?_ | refine vP ?_ | refine vQ ?_ | refine vT ?_ | refine vF ?_ | refine br_and ?_ | refine br_or ?_ | refine br_d (fun _ => ?_) fun _ => ?_ | refine vM (fun _ => ?_) fun _ => ?_)
    refine ⟨_, ?_, h⟩
    repeat' ((conv => whnf); first | with_reducible exact True.intro | exact vW | with_reducible refine And.intro ?_ ?_)
end Go.Proofs.YtjefkdhecccfpaaDoor.Vc
end
section
/- Part TO: deeds and desks that are drawn. -/
namespace Go.Proofs.YtjefkdhecccfpaaDoor.Vc
open Go.Proofs
set_option maxRecDepth 10000
set_option maxHeartbeats 4000000
structure drawnA (a : Dd) : Prop where
  k0 : i64r a.kind
  a0 : i64r a.a
  b0 : i64r a.b
  w0 : a.words.size ≤ 10000
def placeS (x : Place) : Prop := placeI x ∧ x.bs.length ≤ 4 ∧ x.rules.length ≤ 100000
structure Pr where
  r : Rd
  x : Place
theorem kt {k : Int} (h0 : 0 ≤ k) (h : k < 8) (z : List AV) : ∃ v, 0 ≤ v ∧ v ≤ 4 ∧ [[AV.int .i64 0], [.int .i64 1], [.int .i64 2], [.int .i64 2], [.int .i64 2], [.int .i64 2], [.int .i64 3], [.int .i64 4]].getD (0 + k.toNat) z = [.int .i64 v] := by
  rcases (show k = 0 ∨ k = 1 ∨ k = 2 ∨ k = 3 ∨ k = 4 ∨ k = 5 ∨ k = 6 ∨ k = 7 by omega) with rfl | rfl | rfl | rfl | rfl | rfl | rfl | rfl <;> exact ⟨_, by decide, by decide, rfl⟩
def C184 : GC := conG (X := Pr) (fun x => [.ptr 0 0, enPl x.x]) (fun x => [rdO x.r.b x.r.p]) (fun x => x.r.okn 450000000 ∧ placeS x.x) fun x K => ∀ (a : Dd) (p' : Int), x.r.p ≤ p' → p' ≤ x.r.p + 250 → drawnA a → K (ded a) [rdO x.r.b p']
theorem F184 : GG 42 C184 := by
  refine fitG [(72, C173)] (by simp only [List.mem_cons, List.not_mem_nil, or_false]; rintro _ rfl <;> first | exact F173) [(68, C52), (55, C53), (73, C60)] (by simp only [List.mem_cons, List.not_mem_nil, or_false]; rintro _ (rfl | rfl | rfl) <;> first | exact F52 | exact F53 | exact F60) Tryd.f42 ⟨rfl, by decide +kernel, by decide +kernel⟩ (by intro x K K2 hk h; (try dsimp only at h ⊢); intros; apply hk; first | exact h | (apply h <;> assumption)) ?_
  rintro ⟨⟨b, p⟩, ⟨q, bs, rs⟩⟩ K ⟨⟨h1, h2, h3, h4⟩, h5, h6, h7⟩ h
  refine ⟨Nat.le_of_ble_eq_true rfl, ?_⟩
  dsimp only [enPl, plC] at h h1 h2 h3 h4 h5 h6 h7 ⊢
  apply later
  · intro key1
    repeat' ((conv => whnf); first | refine vA ?_ | with_reducible first | refine v8 ?_ | refine Sp.mk ?_ ?_ | refine vS ?_ | refine vR ?_ | refine vB ?_ | refine br_nt ?_ | refine br_tt ?_ | refine br_ff ?_ | refine vP ?_ | refine vQ ?_ | refine vT ?_ | refine vF ?_ | refine br_and ?_ | refine br_or ?_ | refine br_d (fun _ => ?_) fun _ => ?_ | refine vM (fun _ => ?_) fun _ => ?_)
    refine Dr.mk ⟨(.rd 1 (.rd 5 (.ef 0 (.ef 2 (.rd 3 (.rd 4 (.ef 6 (.rd 7 (.rd 8 (.rd 9 (.rd 10 (.ef 11 (.ef 12 .dn .no) .no))))) (.ef 11 (.ef 6 (.rd 7 (.rd 8 (.rd 9 (.rd 10 (.ef 12 .dn .no))))) .no) .no)))) (.ef 11 (.ef 2 (.rd 3 (.rd 4 (.ef 6 (.rd 7 (.rd 8 (.rd 9 (.rd 10 (.ef 12 .dn .no))))) .no))) .no) .no)) (.ef 2 (.ef 0 (.rd 3 (.rd 4 (.ef 6 (.rd 7 (.rd 8 (.rd 9 (.rd 10 (.ef 11 (.ef 12 .dn .no) .no))))) (.ef 11 (.ef 6 (.rd 7 (.rd 8 (.rd 9 (.rd 10 (.ef 12 .dn .no))))) .no) .no)))) (.ef 6 (.rd 7 (.rd 8 (.ef 0 (.rd 3 (.rd 4 (.rd 9 (.rd 10 (.ef 11 (.ef 12 .dn .no) .no))))) (.ef 11 (.ef 0 (.rd 3 (.rd 4 (.rd 9 (.rd 10 (.ef 12 .dn .no))))) .no) .no)))) (.ef 11 (.ef 0 (.rd 3 (.rd 4 (.ef 6 (.rd 7 (.rd 8 (.rd 9 (.rd 10 (.ef 12 .dn .no))))) .no))) (.ef 6 (.rd 7 (.rd 8 (.ef 0 (.rd 3 (.rd 4 (.rd 9 (.rd 10 (.ef 12 .dn .no))))) .no))) .no)) .no))) (.ef 11 (.ef 0 (.ef 2 (.rd 3 (.rd 4 (.ef 6 (.rd 7 (.rd 8 (.rd 9 (.rd 10 (.ef 12 .dn .no))))) .no))) .no) (.ef 2 (.ef 0 (.rd 3 (.rd 4 (.ef 6 (.rd 7 (.rd 8 (.rd 9 (.rd 10 (.ef 12 .dn .no))))) .no))) (.ef 6 (.rd 7 (.rd 8 (.ef 0 (.rd 3 (.rd 4 (.rd 9 (.rd 10 (.ef 12 .dn .no))))) .no))) .no)) .no)) .no))))), by decide +kernel, ?_⟩
    repeat' ((conv => whnf); first | refine vA ?_ | with_reducible first | refine v8 ?_ | refine Sp.mk ?_ ?_ | refine vS ?_ | refine vR ?_ | refine vB ?_ | refine br_nt ?_ | refine br_tt ?_ | refine br_ff ?_ | refine vP ?_ | refine vQ ?_ | refine vT ?_ | refine vF ?_ | refine br_and ?_ | refine br_or ?_ | refine br_d (fun _ => ?_) fun _ => ?_ | refine vM (fun _ => ?_) fun _ => ?_)
    all_goals
      refine ⟨_, _, [0], [], rfl, ?_, ?_, (⟨b, p⟩, 8), rfl, rfl, ⟨⟨h1, h2, ?_, ?_⟩, ?_⟩, ?_⟩
      · repeat' ((conv => whnf); first | with_reducible exact True.intro | exact vW | with_reducible refine And.intro ?_ ?_)
        try exact Chk.mk (by rw [pw_sh (by assumption)])
      · repeat' ((conv => whnf); first | with_reducible exact True.intro | exact vW | with_reducible refine And.intro ?_ ?_)
      · dsimp only; omega
      · dsimp only; omega
      · unfold i64r; dsimp only; omega
      intro k1 p1 a0 a1 a2
      dsimp only at a0 a1 a2
      obtain ⟨v, v0, v1, hv⟩ := kt (a1 (by decide)).1 (a1 (by decide)).2 (lookT TT 3).z
      repeat' ((conv => whnf); first | refine vA ?_ | with_reducible first | refine v8 ?_ | refine Sp.mk ?_ ?_ | refine vS ?_ | refine vR ?_ | refine vB ?_ | refine br_nt ?_ | refine br_tt ?_ | refine br_ff ?_ | refine vP ?_ | refine vQ ?_ | refine vT ?_ | refine vF ?_ | refine br_and ?_ | refine br_or ?_ | refine br_d (fun _ => ?_) fun _ => ?_ | refine vM (fun _ => ?_) fun _ => ?_)
    all_goals try
      dsimp only [List.drop]
      rw [hv]
      repeat' ((conv => whnf); first | refine vA ?_ | with_reducible first | refine v8 ?_ | refine Sp.mk ?_ ?_ | refine vS ?_ | refine vR ?_ | refine vB ?_ | refine br_nt ?_ | refine br_tt ?_ | refine br_ff ?_ | refine vP ?_ | refine vQ ?_ | refine vT ?_ | refine vF ?_ | refine br_and ?_ | refine br_or ?_ | refine br_d (fun _ => ?_) fun _ => ?_ | refine vM (fun _ => ?_) fun _ => ?_)
    all_goals
      refine ⟨_, _, [0], [], rfl, ?_, ?_, (⟨b, p1⟩, 60), rfl, rfl, ⟨⟨h1, h2, ?_, ?_⟩, ?_⟩, ?_⟩
      · repeat' ((conv => whnf); first | with_reducible exact True.intro | exact vW | with_reducible refine And.intro ?_ ?_)
        try exact Chk.mk (by rw [pw_sh (by assumption)])
      · repeat' ((conv => whnf); first | with_reducible exact True.intro | exact vW | with_reducible refine And.intro ?_ ?_)
      · dsimp only; omega
      · dsimp only; omega
      · unfold i64r; dsimp only; omega
      intro k2 p2 c0 c1 c2
      dsimp only at c0 c1 c2
      have e59 := Int.tdiv_eq_ediv_of_nonneg (a := k2) (b := 59) (c1 (by decide)).1
      have c3 := c1 (by decide)
      repeat' ((conv => whnf); first | with_reducible refine wk_at 3 ?_ | with_reducible refine wk_at1 3 ?_ | with_reducible refine wk_at2 3 ?_ | refine vA ?_ | with_reducible first | refine v8 ?_ | refine Sp.mk ?_ ?_ | refine vS ?_ | refine vR ?_ | refine vB ?_ | refine br_nt ?_ | refine br_tt ?_ | refine br_ff ?_ | refine vP ?_ | refine vQ ?_ | refine vT ?_ | refine vF ?_ | refine br_and ?_ | refine br_or ?_ | refine br_d (fun _ => ?_) fun _ => ?_ | refine vM (fun _ => ?_) fun _ => ?_)
    all_goals try
      dsimp only [List.drop]
      rw [hv]
      repeat' ((conv => whnf); first | with_reducible refine wk_at 3 ?_ | with_reducible refine wk_at1 3 ?_ | with_reducible refine wk_at2 3 ?_ | refine vA ?_ | with_reducible first | refine v8 ?_ | refine Sp.mk ?_ ?_ | refine vS ?_ | refine vR ?_ | refine vB ?_ | refine br_nt ?_ | refine br_tt ?_ | refine br_ff ?_ | refine vP ?_ | refine vQ ?_ | refine vT ?_ | refine vF ?_ | refine br_and ?_ | refine br_or ?_ | refine br_d (fun _ => ?_) fun _ => ?_ | refine vM (fun _ => ?_) fun _ => ?_)
    all_goals
      obtain ⟨V, hV⟩ : ∃ V, (if 6 < if 1 > q then 1 else q then 6 else if 1 > q then 1 else q) = V := ⟨_, rfl⟩
      obtain ⟨k, hk⟩ : ∃ k, v + k2.tdiv 59 * 5 = k := ⟨_, rfl⟩
      have pV : people V := by unfold people; subst hV; (repeat' split) <;> omega
      have k0 : i64r k := by unfold i64r; omega
      try rw [hV]
      try rw [hk]
      refine ⟨Wk.go [(0, .ptr 0 0), (3, .ptr 1 0), (4, .ptr 2 0), (5, .ptr 3 0), (6, .int .i64 V)] [rdO b p2, .box [.int .i64 q, slI bs, slS rs], .box [.int .i64 0, .int .i64 0, .int .i64 0, .str ⟨#[]⟩], .box [.int .i64 k, .int .i64 0, .int .i64 0, .str ⟨#[]⟩]] ?_ ?_⟩
      · first | (refine ⟨⟨[some 0, some 1, some 2, some 4], [], rfl, rfl, ?_, ?_⟩⟩ <;> (repeat' ((conv => whnf); first | with_reducible exact True.intro | exact vW | with_reducible refine And.intro ?_ ?_)) <;> fail) | (refine ⟨⟨[some 0, some 1, some 2, some 3], [], rfl, rfl, ?_, ?_⟩⟩ <;> (repeat' ((conv => whnf); first | with_reducible exact True.intro | exact vW | with_reducible refine And.intro ?_ ?_)) <;> fail)
      have hp2 : p ≤ p2 ∧ p2 ≤ p + 2 := by omega
      clear hV hk e59 c3 c0 c1 c2
      revert V k p2
      exact key1.t
  · intro p2 V k pV k0 hp2
    have pw2 := pw_le pV
    have hI := h5.1.1
    apply later
    · intro key2
      repeat' ((conv => whnf); first | with_reducible refine wk_at 15 ?_ | with_reducible refine wk_at1 15 ?_ | with_reducible refine wk_at2 15 ?_ | refine vA ?_ | with_reducible first | refine v8 ?_ | refine Sp.mk ?_ ?_ | refine vS ?_ | refine vR ?_ | refine vB ?_ | refine br_nt ?_ | refine br_tt ?_ | refine br_ff ?_ | refine vP ?_ | refine vQ ?_ | refine vT ?_ | refine vF ?_ | refine br_and ?_ | refine br_or ?_ | refine br_d (fun _ => ?_) fun _ => ?_ | refine vM (fun _ => ?_) fun _ => ?_)
      · repeat' ((conv => whnf); first | with_reducible refine Wr.ex (wsh pV) ?_ | with_reducible refine Wr.ex (wi64 (by rw [pw_sh pV]; omega) (by rw [pw_sh pV]; omega)) ?_ | refine vA ?_ | with_reducible first | refine v8 ?_ | refine Sp.mk ?_ ?_ | refine vS ?_ | refine vR ?_ | refine vB ?_ | refine br_nt ?_ | refine br_tt ?_ | refine br_ff ?_ | refine vP ?_ | refine vQ ?_ | refine vT ?_ | refine vF ?_ | refine br_and ?_ | refine br_or ?_ | refine br_d (fun _ => ?_) fun _ => ?_ | refine vM (fun _ => ?_) fun _ => ?_)
        refine ⟨_, _, [0], [], rfl, ?_, ?_, (⟨b, p2⟩, (pw V - 1)), rfl, rfl, ⟨⟨h1, h2, ?_, ?_⟩, ?_⟩, ?_⟩
        · repeat' ((conv => whnf); first | with_reducible exact True.intro | exact vW | with_reducible refine And.intro ?_ ?_)
          try exact Chk.mk (by rw [pw_sh (by assumption)])
        · repeat' ((conv => whnf); first | with_reducible exact True.intro | exact vW | with_reducible refine And.intro ?_ ?_)
        · dsimp only; omega
        · dsimp only; omega
        · unfold i64r; dsimp only; omega
        intro j1 p3 c0 c1 c2
        dsimp only at c0 c1 c2
        repeat' ((conv => whnf); first | with_reducible refine wk_at 15 ?_ | with_reducible refine wk_at1 15 ?_ | with_reducible refine wk_at2 15 ?_ | refine vA ?_ | with_reducible first | refine v8 ?_ | refine Sp.mk ?_ ?_ | refine vS ?_ | refine vR ?_ | refine vB ?_ | refine br_nt ?_ | refine br_tt ?_ | refine br_ff ?_ | refine vP ?_ | refine vQ ?_ | refine vT ?_ | refine vF ?_ | refine br_and ?_ | refine br_or ?_ | refine br_d (fun _ => ?_) fun _ => ?_ | refine vM (fun _ => ?_) fun _ => ?_)
        obtain ⟨A, hA⟩ : ∃ A : Int, A = 1+j1 := ⟨_, rfl⟩
        obtain ⟨B, hB⟩ : ∃ B : Int, B = 0 := ⟨_, rfl⟩
        obtain ⟨W, hW⟩ : ∃ W : ByteArray, ⟨#[]⟩ = W := ⟨_, rfl⟩
        have A0 : i64r A := by rw [hA]; first | exact wi64r _ | (unfold i64r; omega)
        have B0 : i64r B := by rw [hB]; first | exact wi64r _ | (unfold i64r; omega)
        have W0 : W.size ≤ 10000 := by rw [← hW]; first | exact ttext_size _ _ | exact Nat.zero_le _
        obtain ⟨p9, hp9⟩ : ∃ p9 : Int, p9 = p3 := ⟨_, rfl⟩
        have p90 : p ≤ p9 ∧ p9 ≤ p + 200 := by omega
        refine ⟨Wk.go [(0, .ptr 0 0), (4, .ptr 1 0), (5, .ptr 2 0)] [rdO b p9, .box [.int .i64 0, .int .i64 0, .int .i64 0, .str ⟨#[]⟩], .box [.int .i64 k, .int .i64 A, .int .i64 B, .str W]] ⟨⟨[some 0, some 2, some 3], [], rfl, rfl, ?_, ?_⟩⟩ ?_⟩
        · repeat' ((conv => whnf); first | with_reducible exact True.intro | exact vW | with_reducible refine And.intro ?_ ?_)
        · subst hW
          repeat' ((conv => whnf); first | with_reducible exact True.intro | exact vW | with_reducible refine And.intro ?_ ?_)
        clear hA hB hW hp9
        revert A B W p9
        exact key2.t
      · refine Dr.mk ⟨(.rd 0 (.rd 1 (.rd 2 (.rd 3 (.rd 4 (.ef 5 (.ef 6 (.rd 7 (.ef 8 .dn .no)) .no) .no)))))), by decide +kernel, ?_⟩
        repeat' ((conv => whnf); first | refine vA ?_ | with_reducible first | refine v8 ?_ | refine Sp.mk ?_ ?_ | refine vS ?_ | refine vR ?_ | refine vB ?_ | refine br_nt ?_ | refine br_tt ?_ | refine br_ff ?_ | refine vP ?_ | refine vQ ?_ | refine vT ?_ | refine vF ?_ | refine br_and ?_ | refine br_or ?_ | refine br_d (fun _ => ?_) fun _ => ?_ | refine vM (fun _ => ?_) fun _ => ?_)
        refine ⟨_, _, [0], [], rfl, ?_, ?_, ⟨⟨b, p2⟩, ⟨q, bs⟩, 0⟩, rfl, rfl, ⟨⟨h1, h2, by dsimp only; omega, by dsimp only; omega⟩, hI, by dsimp only; omega, by unfold i64r; dsimp only; omega⟩, ?_⟩
        · repeat' ((conv => whnf); first | with_reducible exact True.intro | exact vW | with_reducible refine And.intro ?_ ?_)
        · repeat' ((conv => whnf); first | with_reducible exact True.intro | exact vW | with_reducible refine And.intro ?_ ?_)
        intro t p3 t1 t2 t3 t4
        dsimp only at t1 t2 t3 t4 ⊢
        repeat' ((conv => whnf); first | refine vA ?_ | with_reducible first | refine v8 ?_ | refine Sp.mk ?_ ?_ | refine vS ?_ | refine vR ?_ | refine vB ?_ | refine br_nt ?_ | refine br_tt ?_ | refine br_ff ?_ | refine vP ?_ | refine vQ ?_ | refine vT ?_ | refine vF ?_ | refine br_and ?_ | refine br_or ?_ | refine br_d (fun _ => ?_) fun _ => ?_ | refine vM (fun _ => ?_) fun _ => ?_)
        refine ⟨(⟨q, bs⟩, t), ?_, ⟨hI, by dsimp only; omega, t4, by dsimp only; omega⟩, ?_⟩
        · repeat' ((conv => whnf); first | with_reducible exact True.intro | exact vW | with_reducible refine And.intro ?_ ?_)
        repeat' ((conv => whnf); first | with_reducible refine wk_at 15 ?_ | with_reducible refine wk_at1 15 ?_ | with_reducible refine wk_at2 15 ?_ | refine vA ?_ | with_reducible first | refine v8 ?_ | refine Sp.mk ?_ ?_ | refine vS ?_ | refine vR ?_ | refine vB ?_ | refine br_nt ?_ | refine br_tt ?_ | refine br_ff ?_ | refine vP ?_ | refine vQ ?_ | refine vT ?_ | refine vF ?_ | refine br_and ?_ | refine br_or ?_ | refine br_d (fun _ => ?_) fun _ => ?_ | refine vM (fun _ => ?_) fun _ => ?_)
        obtain ⟨A, hA⟩ : ∃ A : Int, A = 0 := ⟨_, rfl⟩
        obtain ⟨B, hB⟩ : ∃ B : Int, B = 0 := ⟨_, rfl⟩
        obtain ⟨W, hW⟩ : ∃ W : ByteArray, ttext (⟨q,bs⟩,t) = W := ⟨_, rfl⟩
        have A0 : i64r A := by rw [hA]; first | exact wi64r _ | (unfold i64r; omega)
        have B0 : i64r B := by rw [hB]; first | exact wi64r _ | (unfold i64r; omega)
        have W0 : W.size ≤ 10000 := by rw [← hW]; first | exact ttext_size _ _ | exact Nat.zero_le _
        obtain ⟨p9, hp9⟩ : ∃ p9 : Int, p9 = p3 := ⟨_, rfl⟩
        have p90 : p ≤ p9 ∧ p9 ≤ p + 200 := by omega
        refine ⟨Wk.go [(0, .ptr 0 0), (4, .ptr 1 0), (5, .ptr 2 0)] [rdO b p9, .box [.int .i64 0, .int .i64 0, .int .i64 0, .str ⟨#[]⟩], .box [.int .i64 k, .int .i64 A, .int .i64 B, .str W]] ⟨⟨[some 0, some 2, some 3], [], rfl, rfl, ?_, ?_⟩⟩ ?_⟩
        · repeat' ((conv => whnf); first | with_reducible exact True.intro | exact vW | with_reducible refine And.intro ?_ ?_)
        · subst hW
          repeat' ((conv => whnf); first | with_reducible exact True.intro | exact vW | with_reducible refine And.intro ?_ ?_)
        clear hA hB hW hp9
        revert A B W p9
        exact key2.t
      · refine ⟨_, _, [0], [], rfl, ?_, ?_, (⟨b, p2⟩, (if 1 > (rs.length : Int) then 1 else (rs.length : Int))), rfl, rfl, ⟨⟨h1, h2, ?_, ?_⟩, ?_⟩, ?_⟩
        · repeat' ((conv => whnf); first | with_reducible exact True.intro | exact vW | with_reducible refine And.intro ?_ ?_)
          try exact Chk.mk (by rw [pw_sh (by assumption)])
        · repeat' ((conv => whnf); first | with_reducible exact True.intro | exact vW | with_reducible refine And.intro ?_ ?_)
        · dsimp only; omega
        · dsimp only; omega
        · unfold i64r; dsimp only; omega
        intro j1 p3 c0 c1 c2
        dsimp only at c0 c1 c2
        have c3 : i64r j1 := by unfold i64r; split at c1 <;> omega
        repeat' ((conv => whnf); first | refine vA ?_ | with_reducible first | refine v8 ?_ | refine Sp.mk ?_ ?_ | refine vS ?_ | refine vR ?_ | refine vB ?_ | refine br_nt ?_ | refine br_tt ?_ | refine br_ff ?_ | refine vP ?_ | refine vQ ?_ | refine vT ?_ | refine vF ?_ | refine br_and ?_ | refine br_or ?_ | refine br_d (fun _ => ?_) fun _ => ?_ | refine vM (fun _ => ?_) fun _ => ?_)
        refine Dr.mk ⟨(.rd 0 (.rd 1 (.rd 2 (.rd 4 (.rd 5 (.rd 6 (.ef 3 (.ef 7 (.rd 8 (.rd 9 (.ef 10 .dn .no))) .no) .no))))))), by decide +kernel, ?_⟩
        repeat' ((conv => whnf); first | with_reducible refine Wr.ex (wsh pV) ?_ | refine vA ?_ | with_reducible first | refine v8 ?_ | refine Sp.mk ?_ ?_ | refine vS ?_ | refine vR ?_ | refine vB ?_ | refine br_nt ?_ | refine br_tt ?_ | refine br_ff ?_ | refine vP ?_ | refine vQ ?_ | refine vT ?_ | refine vF ?_ | refine br_and ?_ | refine br_or ?_ | refine br_d (fun _ => ?_) fun _ => ?_ | refine vM (fun _ => ?_) fun _ => ?_)
        refine ⟨_, _, [0], [], rfl, ?_, ?_, (⟨b, p3⟩, (pw V)), rfl, rfl, ⟨⟨h1, h2, ?_, ?_⟩, ?_⟩, ?_⟩
        · repeat' ((conv => whnf); first | with_reducible exact True.intro | exact vW | with_reducible refine And.intro ?_ ?_)
          try exact Chk.mk (by rw [pw_sh (by assumption)])
        · repeat' ((conv => whnf); first | with_reducible exact True.intro | exact vW | with_reducible refine And.intro ?_ ?_)
        · dsimp only; omega
        · dsimp only; omega
        · unfold i64r; dsimp only; omega
        intro j2 p4 d0 d1 d2
        dsimp only at d0 d1 d2
        repeat' ((conv => whnf); first | refine vA ?_ | with_reducible first | refine v8 ?_ | refine Sp.mk ?_ ?_ | refine vS ?_ | refine vR ?_ | refine vB ?_ | refine br_nt ?_ | refine br_tt ?_ | refine br_ff ?_ | refine vP ?_ | refine vQ ?_ | refine vT ?_ | refine vF ?_ | refine br_and ?_ | refine br_or ?_ | refine br_d (fun _ => ?_) fun _ => ?_ | refine vM (fun _ => ?_) fun _ => ?_)
        refine ⟨_, _, [0], [], rfl, ?_, ?_, (⟨b, p4⟩, (pw V)), rfl, rfl, ⟨⟨h1, h2, ?_, ?_⟩, ?_⟩, ?_⟩
        · repeat' ((conv => whnf); first | with_reducible exact True.intro | exact vW | with_reducible refine And.intro ?_ ?_)
          try exact Chk.mk (by rw [pw_sh (by assumption)])
        · repeat' ((conv => whnf); first | with_reducible exact True.intro | exact vW | with_reducible refine And.intro ?_ ?_)
        · dsimp only; omega
        · dsimp only; omega
        · unfold i64r; dsimp only; omega
        intro j3 p5 e0 e1 e2
        dsimp only at e0 e1 e2
        repeat' ((conv => whnf); first | refine vA ?_ | with_reducible first | refine v8 ?_ | refine Sp.mk ?_ ?_ | refine vS ?_ | refine vR ?_ | refine vB ?_ | refine br_nt ?_ | refine br_tt ?_ | refine br_ff ?_ | refine vP ?_ | refine vQ ?_ | refine vT ?_ | refine vF ?_ | refine br_and ?_ | refine br_or ?_ | refine br_d (fun _ => ?_) fun _ => ?_ | refine vM (fun _ => ?_) fun _ => ?_)
        refine Dr.mk ⟨(.rd 0 (.rd 1 (.rd 2 (.rd 3 (.rd 4 (.ef 5 (.ef 6 (.rd 7 (.ef 8 .dn .no)) .no) .no)))))), by decide +kernel, ?_⟩
        repeat' ((conv => whnf); first | refine vA ?_ | with_reducible first | refine v8 ?_ | refine Sp.mk ?_ ?_ | refine vS ?_ | refine vR ?_ | refine vB ?_ | refine br_nt ?_ | refine br_tt ?_ | refine br_ff ?_ | refine vP ?_ | refine vQ ?_ | refine vT ?_ | refine vF ?_ | refine br_and ?_ | refine br_or ?_ | refine br_d (fun _ => ?_) fun _ => ?_ | refine vM (fun _ => ?_) fun _ => ?_)
        refine ⟨_, _, [0], [], rfl, ?_, ?_, ⟨⟨b, p5⟩, ⟨q, bs⟩, 0⟩, rfl, rfl, ⟨⟨h1, h2, by dsimp only; omega, by dsimp only; omega⟩, hI, by dsimp only; omega, by unfold i64r; dsimp only; omega⟩, ?_⟩
        · repeat' ((conv => whnf); first | with_reducible exact True.intro | exact vW | with_reducible refine And.intro ?_ ?_)
        · repeat' ((conv => whnf); first | with_reducible exact True.intro | exact vW | with_reducible refine And.intro ?_ ?_)
        intro t p6 t1 t2 t3 t4
        dsimp only at t1 t2 t3 t4 ⊢
        repeat' ((conv => whnf); first | refine vA ?_ | with_reducible first | refine v8 ?_ | refine Sp.mk ?_ ?_ | refine vS ?_ | refine vR ?_ | refine vB ?_ | refine br_nt ?_ | refine br_tt ?_ | refine br_ff ?_ | refine vP ?_ | refine vQ ?_ | refine vT ?_ | refine vF ?_ | refine br_and ?_ | refine br_or ?_ | refine br_d (fun _ => ?_) fun _ => ?_ | refine vM (fun _ => ?_) fun _ => ?_)
        refine ⟨(⟨q, bs⟩, t), ?_, ⟨hI, by dsimp only; omega, t4, by dsimp only; omega⟩, ?_⟩
        · repeat' ((conv => whnf); first | with_reducible exact True.intro | exact vW | with_reducible refine And.intro ?_ ?_)
        repeat' ((conv => whnf); first | with_reducible refine wk_at 15 ?_ | with_reducible refine wk_at1 15 ?_ | with_reducible refine wk_at2 15 ?_ | refine vA ?_ | with_reducible first | refine v8 ?_ | refine Sp.mk ?_ ?_ | refine vS ?_ | refine vR ?_ | refine vB ?_ | refine br_nt ?_ | refine br_tt ?_ | refine br_ff ?_ | refine vP ?_ | refine vQ ?_ | refine vT ?_ | refine vF ?_ | refine br_and ?_ | refine br_or ?_ | refine br_d (fun _ => ?_) fun _ => ?_ | refine vM (fun _ => ?_) fun _ => ?_)
        obtain ⟨A, hA⟩ : ∃ A : Int, A = j1 := ⟨_, rfl⟩
        obtain ⟨B, hB⟩ : ∃ B : Int, B = (bitop .i64 .or j2 j3) := ⟨_, rfl⟩
        obtain ⟨W, hW⟩ : ∃ W : ByteArray, ttext (⟨q,bs⟩,t) = W := ⟨_, rfl⟩
        have A0 : i64r A := by rw [hA]; first | exact wi64r _ | (unfold i64r; omega)
        have B0 : i64r B := by rw [hB]; first | exact wi64r _ | (unfold i64r; omega)
        have W0 : W.size ≤ 10000 := by rw [← hW]; first | exact ttext_size _ _ | exact Nat.zero_le _
        obtain ⟨p9, hp9⟩ : ∃ p9 : Int, p9 = p6 := ⟨_, rfl⟩
        have p90 : p ≤ p9 ∧ p9 ≤ p + 200 := by omega
        refine ⟨Wk.go [(0, .ptr 0 0), (4, .ptr 1 0), (5, .ptr 2 0)] [rdO b p9, .box [.int .i64 0, .int .i64 0, .int .i64 0, .str ⟨#[]⟩], .box [.int .i64 k, .int .i64 A, .int .i64 B, .str W]] ⟨⟨[some 0, some 2, some 3], [], rfl, rfl, ?_, ?_⟩⟩ ?_⟩
        · repeat' ((conv => whnf); first | with_reducible exact True.intro | exact vW | with_reducible refine And.intro ?_ ?_)
        · subst hW
          repeat' ((conv => whnf); first | with_reducible exact True.intro | exact vW | with_reducible refine And.intro ?_ ?_)
        clear hA hB hW hp9
        revert A B W p9
        exact key2.t
      · refine ⟨_, _, [0], [], rfl, ?_, ?_, (⟨b, p2⟩, (if 1 > (rs.length : Int) then 1 else (rs.length : Int))), rfl, rfl, ⟨⟨h1, h2, ?_, ?_⟩, ?_⟩, ?_⟩
        · repeat' ((conv => whnf); first | with_reducible exact True.intro | exact vW | with_reducible refine And.intro ?_ ?_)
          try exact Chk.mk (by rw [pw_sh (by assumption)])
        · repeat' ((conv => whnf); first | with_reducible exact True.intro | exact vW | with_reducible refine And.intro ?_ ?_)
        · dsimp only; omega
        · dsimp only; omega
        · unfold i64r; dsimp only; omega
        intro j1 p3 c0 c1 c2
        dsimp only at c0 c1 c2
        have c3 : i64r j1 := by unfold i64r; split at c1 <;> omega
        repeat' ((conv => whnf); first | refine vA ?_ | with_reducible first | refine v8 ?_ | refine Sp.mk ?_ ?_ | refine vS ?_ | refine vR ?_ | refine vB ?_ | refine br_nt ?_ | refine br_tt ?_ | refine br_ff ?_ | refine vP ?_ | refine vQ ?_ | refine vT ?_ | refine vF ?_ | refine br_and ?_ | refine br_or ?_ | refine br_d (fun _ => ?_) fun _ => ?_ | refine vM (fun _ => ?_) fun _ => ?_)
        refine Dr.mk ⟨(.rd 0 (.rd 1 (.rd 2 (.rd 4 (.rd 5 (.rd 6 (.ef 3 (.ef 7 (.rd 8 (.rd 9 (.ef 10 .dn .no))) .no) .no))))))), by decide +kernel, ?_⟩
        repeat' ((conv => whnf); first | with_reducible refine Wr.ex (wsh pV) ?_ | refine vA ?_ | with_reducible first | refine v8 ?_ | refine Sp.mk ?_ ?_ | refine vS ?_ | refine vR ?_ | refine vB ?_ | refine br_nt ?_ | refine br_tt ?_ | refine br_ff ?_ | refine vP ?_ | refine vQ ?_ | refine vT ?_ | refine vF ?_ | refine br_and ?_ | refine br_or ?_ | refine br_d (fun _ => ?_) fun _ => ?_ | refine vM (fun _ => ?_) fun _ => ?_)
        refine ⟨_, _, [0], [], rfl, ?_, ?_, (⟨b, p3⟩, (pw V)), rfl, rfl, ⟨⟨h1, h2, ?_, ?_⟩, ?_⟩, ?_⟩
        · repeat' ((conv => whnf); first | with_reducible exact True.intro | exact vW | with_reducible refine And.intro ?_ ?_)
          try exact Chk.mk (by rw [pw_sh (by assumption)])
        · repeat' ((conv => whnf); first | with_reducible exact True.intro | exact vW | with_reducible refine And.intro ?_ ?_)
        · dsimp only; omega
        · dsimp only; omega
        · unfold i64r; dsimp only; omega
        intro j2 p4 d0 d1 d2
        dsimp only at d0 d1 d2
        repeat' ((conv => whnf); first | refine vA ?_ | with_reducible first | refine v8 ?_ | refine Sp.mk ?_ ?_ | refine vS ?_ | refine vR ?_ | refine vB ?_ | refine br_nt ?_ | refine br_tt ?_ | refine br_ff ?_ | refine vP ?_ | refine vQ ?_ | refine vT ?_ | refine vF ?_ | refine br_and ?_ | refine br_or ?_ | refine br_d (fun _ => ?_) fun _ => ?_ | refine vM (fun _ => ?_) fun _ => ?_)
        refine ⟨_, _, [0], [], rfl, ?_, ?_, (⟨b, p4⟩, (pw V)), rfl, rfl, ⟨⟨h1, h2, ?_, ?_⟩, ?_⟩, ?_⟩
        · repeat' ((conv => whnf); first | with_reducible exact True.intro | exact vW | with_reducible refine And.intro ?_ ?_)
          try exact Chk.mk (by rw [pw_sh (by assumption)])
        · repeat' ((conv => whnf); first | with_reducible exact True.intro | exact vW | with_reducible refine And.intro ?_ ?_)
        · dsimp only; omega
        · dsimp only; omega
        · unfold i64r; dsimp only; omega
        intro j3 p5 e0 e1 e2
        dsimp only at e0 e1 e2
        repeat' ((conv => whnf); first | with_reducible refine wk_at 15 ?_ | with_reducible refine wk_at1 15 ?_ | with_reducible refine wk_at2 15 ?_ | refine vA ?_ | with_reducible first | refine v8 ?_ | refine Sp.mk ?_ ?_ | refine vS ?_ | refine vR ?_ | refine vB ?_ | refine br_nt ?_ | refine br_tt ?_ | refine br_ff ?_ | refine vP ?_ | refine vQ ?_ | refine vT ?_ | refine vF ?_ | refine br_and ?_ | refine br_or ?_ | refine br_d (fun _ => ?_) fun _ => ?_ | refine vM (fun _ => ?_) fun _ => ?_)
        obtain ⟨A, hA⟩ : ∃ A : Int, A = j1 := ⟨_, rfl⟩
        obtain ⟨B, hB⟩ : ∃ B : Int, B = (bitop .i64 .or j2 j3) := ⟨_, rfl⟩
        obtain ⟨W, hW⟩ : ∃ W : ByteArray, ⟨#[]⟩ = W := ⟨_, rfl⟩
        have A0 : i64r A := by rw [hA]; first | exact wi64r _ | (unfold i64r; omega)
        have B0 : i64r B := by rw [hB]; first | exact wi64r _ | (unfold i64r; omega)
        have W0 : W.size ≤ 10000 := by rw [← hW]; first | exact ttext_size _ _ | exact Nat.zero_le _
        obtain ⟨p9, hp9⟩ : ∃ p9 : Int, p9 = p5 := ⟨_, rfl⟩
        have p90 : p ≤ p9 ∧ p9 ≤ p + 200 := by omega
        refine ⟨Wk.go [(0, .ptr 0 0), (4, .ptr 1 0), (5, .ptr 2 0)] [rdO b p9, .box [.int .i64 0, .int .i64 0, .int .i64 0, .str ⟨#[]⟩], .box [.int .i64 k, .int .i64 A, .int .i64 B, .str W]] ⟨⟨[some 0, some 2, some 3], [], rfl, rfl, ?_, ?_⟩⟩ ?_⟩
        · repeat' ((conv => whnf); first | with_reducible exact True.intro | exact vW | with_reducible refine And.intro ?_ ?_)
        · subst hW
          repeat' ((conv => whnf); first | with_reducible exact True.intro | exact vW | with_reducible refine And.intro ?_ ?_)
        clear hA hB hW hp9
        revert A B W p9
        exact key2.t
      · obtain ⟨A, hA⟩ : ∃ A : Int, A = 0 := ⟨_, rfl⟩
        obtain ⟨B, hB⟩ : ∃ B : Int, B = 0 := ⟨_, rfl⟩
        obtain ⟨W, hW⟩ : ∃ W : ByteArray, ⟨#[]⟩ = W := ⟨_, rfl⟩
        have A0 : i64r A := by rw [hA]; first | exact wi64r _ | (unfold i64r; omega)
        have B0 : i64r B := by rw [hB]; first | exact wi64r _ | (unfold i64r; omega)
        have W0 : W.size ≤ 10000 := by rw [← hW]; first | exact ttext_size _ _ | exact Nat.zero_le _
        obtain ⟨p9, hp9⟩ : ∃ p9 : Int, p9 = p2 := ⟨_, rfl⟩
        have p90 : p ≤ p9 ∧ p9 ≤ p + 200 := by omega
        refine ⟨Wk.go [(0, .ptr 0 0), (4, .ptr 1 0), (5, .ptr 2 0)] [rdO b p9, .box [.int .i64 0, .int .i64 0, .int .i64 0, .str ⟨#[]⟩], .box [.int .i64 k, .int .i64 A, .int .i64 B, .str W]] ⟨⟨[some 0, some 2, some 3], [], rfl, rfl, ?_, ?_⟩⟩ ?_⟩
        · repeat' ((conv => whnf); first | with_reducible exact True.intro | exact vW | with_reducible refine And.intro ?_ ?_)
        · subst hW
          repeat' ((conv => whnf); first | with_reducible exact True.intro | exact vW | with_reducible refine And.intro ?_ ?_)
        clear hA hB hW hp9
        revert A B W p9
        exact key2.t
    · intro A B W A0 B0 W0 p9 p90
      repeat' ((conv => whnf); first | refine vA ?_ | with_reducible first | refine v8 ?_ | refine Sp.mk ?_ ?_ | refine vS ?_ | refine vR ?_ | refine vB ?_ | refine br_nt ?_ | refine br_tt ?_ | refine br_ff ?_ | refine vP ?_ | refine vQ ?_ | refine vT ?_ | refine vF ?_ | refine br_and ?_ | refine br_or ?_ | refine br_d (fun _ => ?_) fun _ => ?_ | refine vM (fun _ => ?_) fun _ => ?_)
      refine ⟨_, _, [0], [], rfl, ?_, ?_, (⟨b, p9⟩, 40), rfl, rfl, ⟨⟨h1, h2, by dsimp only; omega, by dsimp only; omega⟩, by unfold i64r; dsimp only; omega⟩, ?_⟩
      · repeat' ((conv => whnf); first | with_reducible exact True.intro | exact vW | with_reducible refine And.intro ?_ ?_)
      · repeat' ((conv => whnf); first | with_reducible exact True.intro | exact vW | with_reducible refine And.intro ?_ ?_)
      intro o p10 g1 g2
      dsimp only at g1 g2
      repeat' ((conv => whnf); first | refine vA ?_ | with_reducible first | refine v8 ?_ | refine Sp.mk ?_ ?_ | refine vS ?_ | refine vR ?_ | refine vB ?_ | refine br_nt ?_ | refine br_tt ?_ | refine br_ff ?_ | refine vP ?_ | refine vQ ?_ | refine vT ?_ | refine vF ?_ | refine br_and ?_ | refine br_or ?_ | refine br_d (fun _ => ?_) fun _ => ?_ | refine vM (fun _ => ?_) fun _ => ?_)
      · refine ⟨_, _, [0], [], rfl, ?_, ?_, (⟨b, p10⟩, 3), rfl, rfl, ⟨⟨h1, h2, ?_, ?_⟩, ?_⟩, ?_⟩
        · repeat' ((conv => whnf); first | with_reducible exact True.intro | exact vW | with_reducible refine And.intro ?_ ?_)
          try exact Chk.mk (by rw [pw_sh (by assumption)])
        · repeat' ((conv => whnf); first | with_reducible exact True.intro | exact vW | with_reducible refine And.intro ?_ ?_)
        · dsimp only; omega
        · dsimp only; omega
        · unfold i64r; dsimp only; omega
        intro r1 p11 f0 f1 f2
        dsimp only at f0 f1 f2
        repeat' ((conv => whnf); first | refine vA ?_ | with_reducible first | refine v8 ?_ | refine Sp.mk ?_ ?_ | refine vS ?_ | refine vR ?_ | refine vB ?_ | refine br_nt ?_ | refine br_tt ?_ | refine br_ff ?_ | refine vP ?_ | refine vQ ?_ | refine vT ?_ | refine vF ?_ | refine br_and ?_ | refine br_or ?_ | refine br_d (fun _ => ?_) fun _ => ?_ | refine vM (fun _ => ?_) fun _ => ?_)
        · refine ⟨_, _, [0], [], rfl, ?_, ?_, (⟨b, p11⟩, 2), rfl, rfl, ⟨⟨h1, h2, ?_, ?_⟩, ?_⟩, ?_⟩
          · repeat' ((conv => whnf); first | with_reducible exact True.intro | exact vW | with_reducible refine And.intro ?_ ?_)
            try exact Chk.mk (by rw [pw_sh (by assumption)])
          · repeat' ((conv => whnf); first | with_reducible exact True.intro | exact vW | with_reducible refine And.intro ?_ ?_)
          · dsimp only; omega
          · dsimp only; omega
          · unfold i64r; dsimp only; omega
          intro r2 p12 g0 g1 g2
          dsimp only at g0 g1 g2
          rcases (show r2 = 0 ∨ r2 = 1 by omega) with rfl | rfl
          · repeat' ((conv => whnf); first | refine vA ?_ | with_reducible first | refine v8 ?_ | refine Sp.mk ?_ ?_ | refine vS ?_ | refine vR ?_ | refine vB ?_ | refine br_nt ?_ | refine br_tt ?_ | refine br_ff ?_ | refine vP ?_ | refine vQ ?_ | refine vT ?_ | refine vF ?_ | refine br_and ?_ | refine br_or ?_ | refine br_d (fun _ => ?_) fun _ => ?_ | refine vM (fun _ => ?_) fun _ => ?_)
            refine ⟨_, _, [some 0], [], rfl, rfl, ?_, ?_, h ⟨k, (-1), B, W⟩ p12 (by omega) (by omega) ⟨k0, (show i64r (-1) from ⟨by decide,by decide⟩), B0, W0⟩⟩
            · repeat' ((conv => whnf); first | with_reducible exact True.intro | exact vW | with_reducible refine And.intro ?_ ?_)
            · repeat' ((conv => whnf); first | with_reducible exact True.intro | exact vW | with_reducible refine And.intro ?_ ?_)
          · repeat' ((conv => whnf); first | refine vA ?_ | with_reducible first | refine v8 ?_ | refine Sp.mk ?_ ?_ | refine vS ?_ | refine vR ?_ | refine vB ?_ | refine br_nt ?_ | refine br_tt ?_ | refine br_ff ?_ | refine vP ?_ | refine vQ ?_ | refine vT ?_ | refine vF ?_ | refine br_and ?_ | refine br_or ?_ | refine br_d (fun _ => ?_) fun _ => ?_ | refine vM (fun _ => ?_) fun _ => ?_)
            refine ⟨_, _, [some 0], [], rfl, rfl, ?_, ?_, h ⟨k, 100, B, W⟩ p12 (by omega) (by omega) ⟨k0, (show i64r 100 from ⟨by decide,by decide⟩), B0, W0⟩⟩
            · repeat' ((conv => whnf); first | with_reducible exact True.intro | exact vW | with_reducible refine And.intro ?_ ?_)
            · repeat' ((conv => whnf); first | with_reducible exact True.intro | exact vW | with_reducible refine And.intro ?_ ?_)
        · refine ⟨_, _, [0], [], rfl, ?_, ?_, (⟨b, p11⟩, 3), rfl, rfl, ⟨⟨h1, h2, ?_, ?_⟩, ?_⟩, ?_⟩
          · repeat' ((conv => whnf); first | with_reducible exact True.intro | exact vW | with_reducible refine And.intro ?_ ?_)
            try exact Chk.mk (by rw [pw_sh (by assumption)])
          · repeat' ((conv => whnf); first | with_reducible exact True.intro | exact vW | with_reducible refine And.intro ?_ ?_)
          · dsimp only; omega
          · dsimp only; omega
          · unfold i64r; dsimp only; omega
          intro r2 p12 g0 g1 g2
          dsimp only at g0 g1 g2
          rcases (show r2 = 0 ∨ r2 = 1 ∨ r2 = 2 by omega) with rfl | rfl | rfl
          · repeat' ((conv => whnf); first | refine vA ?_ | with_reducible first | refine v8 ?_ | refine Sp.mk ?_ ?_ | refine vS ?_ | refine vR ?_ | refine vB ?_ | refine br_nt ?_ | refine br_tt ?_ | refine br_ff ?_ | refine vP ?_ | refine vQ ?_ | refine vT ?_ | refine vF ?_ | refine br_and ?_ | refine br_or ?_ | refine br_d (fun _ => ?_) fun _ => ?_ | refine vM (fun _ => ?_) fun _ => ?_)
            refine ⟨_, _, [some 0], [], rfl, rfl, ?_, ?_, h ⟨k, A, B, ⟨#[40,65,49,41]⟩⟩ p12 (by omega) (by omega) ⟨k0, A0, B0, (show (4:Nat)≤10000 by decide)⟩⟩
            · repeat' ((conv => whnf); first | with_reducible exact True.intro | exact vW | with_reducible refine And.intro ?_ ?_)
            · repeat' ((conv => whnf); first | with_reducible exact True.intro | exact vW | with_reducible refine And.intro ?_ ?_)
          · repeat' ((conv => whnf); first | refine vA ?_ | with_reducible first | refine v8 ?_ | refine Sp.mk ?_ ?_ | refine vS ?_ | refine vR ?_ | refine vB ?_ | refine br_nt ?_ | refine br_tt ?_ | refine br_ff ?_ | refine vP ?_ | refine vQ ?_ | refine vT ?_ | refine vF ?_ | refine br_and ?_ | refine br_or ?_ | refine br_d (fun _ => ?_) fun _ => ?_ | refine vM (fun _ => ?_) fun _ => ?_)
            refine ⟨_, _, [some 0], [], rfl, rfl, ?_, ?_, h ⟨k, A, B, ⟨#[97,32,98]⟩⟩ p12 (by omega) (by omega) ⟨k0, A0, B0, (show (3:Nat)≤10000 by decide)⟩⟩
            · repeat' ((conv => whnf); first | with_reducible exact True.intro | exact vW | with_reducible refine And.intro ?_ ?_)
            · repeat' ((conv => whnf); first | with_reducible exact True.intro | exact vW | with_reducible refine And.intro ?_ ?_)
          · repeat' ((conv => whnf); first | refine vA ?_ | with_reducible first | refine v8 ?_ | refine Sp.mk ?_ ?_ | refine vS ?_ | refine vR ?_ | refine vB ?_ | refine br_nt ?_ | refine br_tt ?_ | refine br_ff ?_ | refine vP ?_ | refine vQ ?_ | refine vT ?_ | refine vF ?_ | refine br_and ?_ | refine br_or ?_ | refine br_d (fun _ => ?_) fun _ => ?_ | refine vM (fun _ => ?_) fun _ => ?_)
            refine ⟨_, _, [some 0], [], rfl, rfl, ?_, ?_, h ⟨k, A, B, ⟨#[]⟩⟩ p12 (by omega) (by omega) ⟨k0, A0, B0, (show (0:Nat)≤10000 by decide)⟩⟩
            · repeat' ((conv => whnf); first | with_reducible exact True.intro | exact vW | with_reducible refine And.intro ?_ ?_)
            · repeat' ((conv => whnf); first | with_reducible exact True.intro | exact vW | with_reducible refine And.intro ?_ ?_)
        · refine ⟨_, _, [some 0], [], rfl, rfl, ?_, ?_, h ⟨k, A, 99, W⟩ p11 (by omega) (by omega) ⟨k0, A0, (show i64r 99 from ⟨by decide,by decide⟩), W0⟩⟩
          · repeat' ((conv => whnf); first | with_reducible exact True.intro | exact vW | with_reducible refine And.intro ?_ ?_)
          · repeat' ((conv => whnf); first | with_reducible exact True.intro | exact vW | with_reducible refine And.intro ?_ ?_)
      · refine ⟨_, _, [some 0], [], rfl, rfl, ?_, ?_, h ⟨k, A, B, W⟩ p10 (by omega) (by omega) ⟨k0, A0, B0, W0⟩⟩
        · repeat' ((conv => whnf); first | with_reducible exact True.intro | exact vW | with_reducible refine And.intro ?_ ?_)
        · repeat' ((conv => whnf); first | with_reducible exact True.intro | exact vW | with_reducible refine And.intro ?_ ?_)
/-! ### Desks that are drawn -/
structure drawnQ (x : Place) : Prop where
  i : placeI x
  bl : x.bs.length ≤ 4
  rl : x.rules.length ≤ 4
  rr : ∀ r ∈ x.rules, r.size ≤ 10000
def drawnD (d : Desk) : Prop := drawnQ d.now ∧ d.past.length ≤ 9 ∧ ∀ p ∈ d.past, drawnQ p
def goodD (d : Desk) : Prop := drawnD d ∧ (deskOk d ∨ d = default)
theorem drawnQ0 : drawnQ default := ⟨placeI0, (by decide : 0 ≤ 4), (by decide : 0 ≤ 4), fun _ h => by cases h⟩
theorem drawnD0 : drawnD default := ⟨drawnQ0, (by decide : 0 ≤ 9), fun _ h => by cases h⟩
theorem drawnP.q {x : Place} (h : drawnP x) : drawnQ x := ⟨h.I, h.bl, h.rl, h.rr⟩
theorem drawnQ.s {x : Place} (h : drawnQ x) : shortP x := ⟨Nat.le_trans h.rl (by decide), Nat.le_trans h.bl (by decide)⟩
theorem drawnD.I {d : Desk} (h : drawnD d) : deskI d := ⟨h.1.i, Nat.lt_of_le_of_lt h.2.1 (by decide), fun p hp => (h.2.2 p hp).i⟩
theorem newDe_good {x : Place} (h : drawnP x) : goodD (newDe x) := by
  unfold newDe
  split
  · rename_i hO
    exact ⟨⟨h.q, (by decide : 0 ≤ 9), fun _ h => by cases h⟩, .inl ⟨hO, (by decide : 0 ≤ 8), fun _ h => by cases h⟩⟩
  · exact ⟨drawnD0, .inr rfl⟩
theorem madeP_mem {x : Place} {a : Dd} : ∀ r ∈ (madeP x a).rules, r ∈ x.rules ∨ r = a.words := by
  unfold madeP
  intro r hr
  split at hr
  · exact .inl hr
  · split at hr
    · exact (List.mem_append.1 hr).imp id fun h => List.mem_singleton.1 h
    · split at hr
      · exact (List.mem_or_eq_of_mem_set hr)
      · split at hr
        · exact .inl ((List.mem_append.1 hr).elim (fun h => List.mem_of_mem_take h) fun h => List.mem_of_mem_drop h)
        · cases hr
theorem drawnA.I {a : Dd} (h : drawnA a) : dedI a := ⟨h.k0, h.a0, h.b0, Nat.lt_of_le_of_lt h.w0 (by decide)⟩
theorem doD_good {d e : Desk} {a : Dd} (h : drawnD d) (hO : deskOk d) (ha : drawnA a) (he : doD d a = some e) : goodD e := by
  unfold doD at he
  split at he
  · rename_i g
    cases he
    have m : d.past.getD (d.past.length - 1) default ∈ d.past := getD_mem' (by omega)
    refine ⟨⟨h.2.2 _ m, ?_, fun p hp => h.2.2 p (List.mem_of_mem_take hp)⟩, .inl ⟨hO.2.2 _ m, ?_, fun p hp => hO.2.2 p (List.mem_of_mem_take hp)⟩⟩
    · have := h.2.1
      dsimp only
      rw [List.length_take]
      omega
    · have := hO.2.1
      dsimp only
      rw [List.length_take]
      omega
  · split at he
    · rename_i g
      cases he
      have M := madeP_I h.1.i h.1.s ha.I
      have P := g.1
      have L := hO.2.1
      have mem : ∀ p ∈ pushP d.past d.now, p ∈ d.past ∨ p = d.now := by
        unfold pushP
        intro p hp
        split at hp
        · exact (List.mem_append.1 (List.mem_of_mem_drop hp)).imp id fun h => List.mem_singleton.1 h
        · exact (List.mem_append.1 hp).imp id fun h => List.mem_singleton.1 h
      have len : (pushP d.past d.now).length ≤ 8 := by
        unfold pushP
        split
        · rw [List.length_drop, List.length_append]
          show d.past.length + 1 - 1 ≤ 8
          omega
        · omega
      have q : drawnQ (madeP d.now a) := ⟨M, P.1.2.1, P.2.1.2, fun r hr => (madeP_mem r hr).elim (fun k => h.1.rr r k) fun k => k ▸ ha.w0⟩
      exact ⟨⟨q, Nat.le_trans len (by decide), fun p hp => (mem p hp).elim (fun k => h.2.2 p k) fun k => k ▸ h.1⟩, .inl ⟨P, len, fun p hp => (mem p hp).elim (fun k => hO.2.2 p k) fun k => k ▸ hO.1⟩⟩
    · cases he
theorem canD_t {d : Desk} {a : Dd} (h : canD d a = true) : ∃ e, deskOk d ∧ doD d a = some e ∧ afterD d a = e := by
  unfold canD at h
  rw [Bool.and_eq_true, decide_eq_true_eq, Option.isSome_iff_exists] at h
  obtain ⟨e, he⟩ := h.2
  exact ⟨e, h.1, he, afterD_some h.1 he⟩
end Go.Proofs.YtjefkdhecccfpaaDoor.Vc
end
section
/- Part XE: the laws on texts of deeds that are read. -/
namespace Go.Proofs.YtjefkdhecccfpaaDoor.Vc
open Go.Proofs
set_option maxRecDepth 10000
set_option maxHeartbeats 4000000
def C245 := C258
theorem F245 : FF 25 C245 := by
  refine fitX [(61, C258)] (by simp only [List.mem_cons, List.not_mem_nil, or_false]; rintro _ rfl <;> first | exact F258) [] (by simp) Tryd.f25 ⟨rfl, by decide +kernel, by decide +kernel⟩ (fun _ _ _ hk h => h.mono hk) ?_
  rintro s K hs ⟨h, hno⟩
  refine ⟨Nat.le_of_ble_eq_true rfl, ?_⟩
  repeat' ((conv => whnf); first | refine vA ?_ | with_reducible first | refine v8 ?_ | refine Sp.mk ?_ ?_ | refine vS ?_ | refine vR ?_ | refine vB ?_ | refine br_nt ?_ | refine br_tt ?_ | refine br_ff ?_ | refine vP ?_ | refine vQ ?_ | refine vT ?_ | refine vF ?_ | refine br_and ?_ | refine br_or ?_ | refine br_d (fun _ => ?_) fun _ => ?_ | refine vM (fun _ => ?_) fun _ => ?_)
  refine ⟨s, ?_, ⟨hs⟩, ?_⟩
  · repeat' ((conv => whnf); first | with_reducible exact True.intro | exact vW | with_reducible refine And.intro ?_ ?_)
  refine ⟨fun x q => ?_, fun q => ?_⟩
  · have h := h x q
    obtain ⟨k, a, b, w⟩ := x
    dsimp only [ded, encD] at h ⊢
    repeat' ((conv => whnf); first | refine vA ?_ | with_reducible first | refine v8 ?_ | refine Sp.mk ?_ ?_ | refine vS ?_ | refine vR ?_ | refine vB ?_ | refine br_nt ?_ | refine br_tt ?_ | refine br_ff ?_ | refine vP ?_ | refine vQ ?_ | refine vT ?_ | refine vF ?_ | refine br_and ?_ | refine br_or ?_ | refine br_d (fun _ => ?_) fun _ => ?_ | refine vM (fun _ => ?_) fun _ => ?_)
    exact h
  · have h := hno q
    dsimp only [ded, encD] at h ⊢
    repeat' ((conv => whnf); first | refine vA ?_ | with_reducible first | refine v8 ?_ | refine Sp.mk ?_ ?_ | refine vS ?_ | refine vR ?_ | refine vB ?_ | refine br_nt ?_ | refine br_tt ?_ | refine br_ff ?_ | refine vP ?_ | refine vQ ?_ | refine vT ?_ | refine vF ?_ | refine br_and ?_ | refine br_or ?_ | refine br_d (fun _ => ?_) fun _ => ?_ | refine vM (fun _ => ?_) fun _ => ?_)
    exact h
def C233 : List AV → (AV → Prop) → Prop := con (X := ByteArray) (fun s => [.str s]) (fun s => s.size < 9223372036854775808) fun _ K => K (.bool true)
theorem F233 : FF 5 C233 := by
  refine fitE [(24, C244), (25, C245), (26, C116)] (by simp only [List.mem_cons, List.not_mem_nil, or_false]; rintro _ (rfl | rfl | rfl) <;> first | exact F244 | exact F245 | exact F116) Tryd.f5 ⟨rfl, by decide +kernel, by decide +kernel⟩ (fun _ _ _ hk h => hk _ h) ?_
  rintro s K hs h
  refine ⟨Nat.le_of_ble_eq_true rfl, ?_⟩
  have htt : (true == true) = true := rfl
  have hff : (false == false) = true := rfl
  repeat' ((conv => whnf); first | refine vA ?_ | with_reducible first | refine v8 ?_ | refine Sp.mk ?_ ?_ | refine vS ?_ | refine vR ?_ | refine vB ?_ | refine br_nt ?_ | refine br_tt ?_ | refine br_ff ?_ | refine vP ?_ | refine vQ ?_ | refine vT ?_ | refine vF ?_ | refine br_and ?_ | refine br_or ?_ | refine br_d (fun _ => ?_) fun _ => ?_ | refine vM (fun _ => ?_) fun _ => ?_)
  · exact h
  rename_i hl
  refine ⟨s, ?_, ⟨by omega⟩, ?_⟩
  · repeat' ((conv => whnf); first | with_reducible exact True.intro | exact vW | with_reducible refine And.intro ?_ ?_)
  by_cases hx : ∃ x, isDd s x
  · obtain ⟨y, hy⟩ := hx
    refine ⟨fun x q => ?_, fun q => (q ⟨_, hy⟩).elim⟩
    obtain rfl := isDd_one q hy
    obtain ⟨k, a, b, w⟩ := x
    dsimp only [ded, encD]
    repeat' ((conv => whnf); first | refine vA ?_ | with_reducible first | refine v8 ?_ | refine Sp.mk ?_ ?_ | refine vS ?_ | refine vR ?_ | refine vB ?_ | refine br_nt ?_ | refine br_tt ?_ | refine br_ff ?_ | refine vP ?_ | refine vQ ?_ | refine vT ?_ | refine vF ?_ | refine br_and ?_ | refine br_or ?_ | refine br_d (fun _ => ?_) fun _ => ?_ | refine vM (fun _ => ?_) fun _ => ?_)
    refine ⟨s, ?_, ⟨by omega⟩, ?_⟩
    · repeat' ((conv => whnf); first | with_reducible exact True.intro | exact vW | with_reducible refine And.intro ?_ ?_)
    refine ⟨fun x q => ?_, fun q => (q ⟨_, hy⟩).elim⟩
    obtain rfl := isDd_one q hy
    dsimp only [ded, encD]
    repeat' ((conv => whnf); first | refine vA ?_ | with_reducible first | refine v8 ?_ | refine Sp.mk ?_ ?_ | refine vS ?_ | refine vR ?_ | refine vB ?_ | refine br_nt ?_ | refine br_tt ?_ | refine br_ff ?_ | refine vP ?_ | refine vQ ?_ | refine vT ?_ | refine vF ?_ | refine br_and ?_ | refine br_or ?_ | refine br_d (fun _ => ?_) fun _ => ?_ | refine vM (fun _ => ?_) fun _ => ?_)
    refine ⟨⟨k, a, b, w⟩, ?_, ⟨trivial⟩, ?_⟩
    · repeat' ((conv => whnf); first | with_reducible exact True.intro | exact vW | with_reducible refine And.intro ?_ ?_)
    repeat' ((conv => whnf); first | refine vA ?_ | with_reducible first | refine v8 ?_ | refine Sp.mk ?_ ?_ | refine vS ?_ | refine vR ?_ | refine vB ?_ | refine br_nt ?_ | refine br_tt ?_ | refine br_ff ?_ | refine vP ?_ | refine vQ ?_ | refine vT ?_ | refine vF ?_ | refine br_and ?_ | refine br_or ?_ | refine br_d (fun _ => ?_) fun _ => ?_ | refine vM (fun _ => ?_) fun _ => ?_)
    exact h
  · refine ⟨fun x q => (hx ⟨_, q⟩).elim, fun _ => ?_⟩
    dsimp only [ded, encD]
    repeat' ((conv => whnf); first | refine vA ?_ | with_reducible first | refine v8 ?_ | refine Sp.mk ?_ ?_ | refine vS ?_ | refine vR ?_ | refine vB ?_ | refine br_nt ?_ | refine br_tt ?_ | refine br_ff ?_ | refine vP ?_ | refine vQ ?_ | refine vT ?_ | refine vF ?_ | refine br_and ?_ | refine br_or ?_ | refine br_d (fun _ => ?_) fun _ => ?_ | refine vM (fun _ => ?_) fun _ => ?_)
    refine ⟨s, ?_, ⟨by omega⟩, ?_⟩
    · repeat' ((conv => whnf); first | with_reducible exact True.intro | exact vW | with_reducible refine And.intro ?_ ?_)
    refine ⟨fun x q => (hx ⟨_, q⟩).elim, fun _ => ?_⟩
    dsimp only [ded, encD]
    repeat' ((conv => whnf); first | refine vA ?_ | with_reducible first | refine v8 ?_ | refine Sp.mk ?_ ?_ | refine vS ?_ | refine vR ?_ | refine vB ?_ | refine br_nt ?_ | refine br_tt ?_ | refine br_ff ?_ | refine vP ?_ | refine vQ ?_ | refine vT ?_ | refine vF ?_ | refine br_and ?_ | refine br_or ?_ | refine br_d (fun _ => ?_) fun _ => ?_ | refine vM (fun _ => ?_) fun _ => ?_)
    refine ⟨default, ?_, ⟨trivial⟩, ?_⟩
    · repeat' ((conv => whnf); first | with_reducible exact True.intro | exact vW | with_reducible refine And.intro ?_ ?_)
    repeat' ((conv => whnf); first | refine vA ?_ | with_reducible first | refine v8 ?_ | refine Sp.mk ?_ ?_ | refine vS ?_ | refine vR ?_ | refine vB ?_ | refine br_nt ?_ | refine br_tt ?_ | refine br_ff ?_ | refine vP ?_ | refine vQ ?_ | refine vT ?_ | refine vF ?_ | refine br_and ?_ | refine br_or ?_ | refine br_d (fun _ => ?_) fun _ => ?_ | refine vM (fun _ => ?_) fun _ => ?_)
    exact h
theorem drawnP.S {x : Place} (h : drawnP x) : placeS x := ⟨h.I, h.bl, Nat.le_trans h.rl (by decide)⟩
def C250 : List AV → (AV → Prop) → Prop := con (X := List Int) (fun l => [slB l]) bytesI fun _ K => ∀ a, drawnA a → K (ded a)
theorem F250 : FF 32 C250 := by
  refine fitX [] (by simp) [(40, C42), (64, C151), (42, C184)] (by simp only [List.mem_cons, List.not_mem_nil, or_false]; rintro _ (rfl | rfl | rfl) <;> first | exact F42 | exact F151 | exact F184) Tryd.f32 ⟨rfl, by decide +kernel, by decide +kernel⟩ (fun _ _ _ hk h a ha => hk _ (h a ha)) ?_
  rintro l K hl h
  refine ⟨Nat.le_of_ble_eq_true rfl, ?_⟩
  repeat' ((conv => whnf); first | refine vA ?_ | with_reducible first | refine v8 ?_ | refine Sp.mk ?_ ?_ | refine vS ?_ | refine vR ?_ | refine vB ?_ | refine br_nt ?_ | refine br_tt ?_ | refine br_ff ?_ | refine vP ?_ | refine vQ ?_ | refine vT ?_ | refine vF ?_ | refine br_and ?_ | refine br_or ?_ | refine br_d (fun _ => ?_) fun _ => ?_ | refine vM (fun _ => ?_) fun _ => ?_)
  refine ⟨_, _, [], [], rfl, ?_, ?_, l, rfl, rfl, ⟨hl⟩, ?_⟩
  · repeat' ((conv => whnf); first | with_reducible exact True.intro | exact vW | with_reducible refine And.intro ?_ ?_)
  · repeat' ((conv => whnf); first | with_reducible exact True.intro | exact vW | with_reducible refine And.intro ?_ ?_)
  rintro b ⟨h1, h2, h3, h4⟩
  dsimp only
  repeat' ((conv => whnf); first | refine vA ?_ | with_reducible first | refine v8 ?_ | refine Sp.mk ?_ ?_ | refine vS ?_ | refine vR ?_ | refine vB ?_ | refine br_nt ?_ | refine br_tt ?_ | refine br_ff ?_ | refine vP ?_ | refine vQ ?_ | refine vT ?_ | refine vF ?_ | refine br_and ?_ | refine br_or ?_ | refine br_d (fun _ => ?_) fun _ => ?_ | refine vM (fun _ => ?_) fun _ => ?_)
  refine ⟨_, _, [1], [], rfl, ?_, ?_, (⟨b, 0⟩, 0), rfl, rfl, ⟨⟨h1, h2, by dsimp only; omega, by dsimp only; omega⟩, by unfold i64r; dsimp only; omega⟩, ?_⟩
  · repeat' ((conv => whnf); first | with_reducible exact True.intro | exact vW | with_reducible refine And.intro ?_ ?_)
  · repeat' ((conv => whnf); first | with_reducible exact True.intro | exact vW | with_reducible refine And.intro ?_ ?_)
  rintro ⟨p, bs, rs⟩ p1 y1 y2 hy
  dsimp only [enPl, plC] at y1 y2 ⊢
  repeat' ((conv => whnf); first | refine vA ?_ | with_reducible first | refine v8 ?_ | refine Sp.mk ?_ ?_ | refine vS ?_ | refine vR ?_ | refine vB ?_ | refine br_nt ?_ | refine br_tt ?_ | refine br_ff ?_ | refine vP ?_ | refine vQ ?_ | refine vT ?_ | refine vF ?_ | refine br_and ?_ | refine br_or ?_ | refine br_d (fun _ => ?_) fun _ => ?_ | refine vM (fun _ => ?_) fun _ => ?_)
  refine ⟨_, _, [1], [], rfl, ?_, ?_, ⟨⟨b, p1⟩, ⟨p, bs, rs⟩⟩, rfl, rfl, ⟨⟨h1, h2, by dsimp only; omega, by dsimp only; omega⟩, hy.S⟩, ?_⟩
  · repeat' ((conv => whnf); first | with_reducible exact True.intro | exact vW | with_reducible refine And.intro ?_ ?_)
  · repeat' ((conv => whnf); first | with_reducible exact True.intro | exact vW | with_reducible refine And.intro ?_ ?_)
  rintro ⟨k, a, b', w⟩ p2 a1 a2 ha
  dsimp only [ded, encD] at a1 a2 ⊢
  repeat' ((conv => whnf); first | refine vA ?_ | with_reducible first | refine v8 ?_ | refine Sp.mk ?_ ?_ | refine vS ?_ | refine vR ?_ | refine vB ?_ | refine br_nt ?_ | refine br_tt ?_ | refine br_ff ?_ | refine vP ?_ | refine vQ ?_ | refine vT ?_ | refine vF ?_ | refine br_and ?_ | refine br_or ?_ | refine br_d (fun _ => ?_) fun _ => ?_ | refine vM (fun _ => ?_) fun _ => ?_)
  exact h _ ha
def C235 : List AV → (AV → Prop) → Prop := con (X := List Int) (fun l => [slB l]) bytesI fun _ K => K (.bool true)
theorem F235 : FF 7 C235 := by
  refine fitE [(32, C250), (33, C104), (34, C105), (25, C245), (15, C22)] (by simp only [List.mem_cons, List.not_mem_nil, or_false]; rintro _ (rfl | rfl | rfl | rfl | rfl) <;> first | exact F250 | exact F104 | exact F105 | exact F245 | exact F22) Tryd.f7 ⟨rfl, by decide +kernel, by decide +kernel⟩ (fun _ _ _ hk h => hk _ h) ?_
  rintro l K hl h
  refine ⟨Nat.le_of_ble_eq_true rfl, ?_⟩
  have hll := hl.2
  repeat' ((conv => whnf); first | refine vA ?_ | with_reducible first | refine v8 ?_ | refine Sp.mk ?_ ?_ | refine vS ?_ | refine vR ?_ | refine vB ?_ | refine br_nt ?_ | refine br_tt ?_ | refine br_ff ?_ | refine vP ?_ | refine vQ ?_ | refine vT ?_ | refine vF ?_ | refine br_and ?_ | refine br_or ?_ | refine br_d (fun _ => ?_) fun _ => ?_ | refine vM (fun _ => ?_) fun _ => ?_)
  · exact h
  refine ⟨l, ?_, ⟨hl⟩, ?_⟩
  · repeat' ((conv => whnf); first | with_reducible exact True.intro | exact vW | with_reducible refine And.intro ?_ ?_)
  rintro x hx
  have hw := hx.w0
  have hsz := deedT_size x
  obtain ⟨k, a, b, w⟩ := x
  dsimp only [ded, encD] at hw hsz ⊢
  repeat' ((conv => whnf); first | refine vA ?_ | with_reducible first | refine v8 ?_ | refine Sp.mk ?_ ?_ | refine vS ?_ | refine vR ?_ | refine vB ?_ | refine br_nt ?_ | refine br_tt ?_ | refine br_ff ?_ | refine vP ?_ | refine vQ ?_ | refine vT ?_ | refine vF ?_ | refine br_and ?_ | refine br_or ?_ | refine br_d (fun _ => ?_) fun _ => ?_ | refine vM (fun _ => ?_) fun _ => ?_)
  refine ⟨⟨k, a, b, w⟩, ?_, ⟨by dsimp only; omega⟩, ?_⟩
  · repeat' ((conv => whnf); first | with_reducible exact True.intro | exact vW | with_reducible refine And.intro ?_ ?_)
  repeat' ((conv => whnf); first | refine vA ?_ | with_reducible first | refine v8 ?_ | refine Sp.mk ?_ ?_ | refine vS ?_ | refine vR ?_ | refine vB ?_ | refine br_nt ?_ | refine br_tt ?_ | refine br_ff ?_ | refine vP ?_ | refine vQ ?_ | refine vT ?_ | refine vF ?_ | refine br_and ?_ | refine br_or ?_ | refine br_d (fun _ => ?_) fun _ => ?_ | refine vM (fun _ => ?_) fun _ => ?_)
  refine ⟨⟨k, a, b, w⟩, ?_, ⟨by dsimp only; omega⟩, ?_⟩
  · repeat' ((conv => whnf); first | with_reducible exact True.intro | exact vW | with_reducible refine And.intro ?_ ?_)
  by_cases hO : okDd ⟨k, a, b, w⟩
  · have hne := okDd_ne hO
    have hself : deedT ⟨k, a, b, w⟩ = deedT ⟨k, a, b, w⟩ := rfl
    repeat' ((conv => whnf); first | refine vA ?_ | with_reducible first | refine v8 ?_ | refine Sp.mk ?_ ?_ | refine vS ?_ | refine vR ?_ | refine vB ?_ | refine br_nt ?_ | refine br_tt ?_ | refine br_ff ?_ | refine vP ?_ | refine vQ ?_ | refine vT ?_ | refine vF ?_ | refine br_and ?_ | refine br_or ?_ | refine br_d (fun _ => ?_) fun _ => ?_ | refine vM (fun _ => ?_) fun _ => ?_)
    refine ⟨deedT ⟨k, a, b, w⟩, ?_, ⟨by omega⟩, ?_⟩
    · repeat' ((conv => whnf); first | with_reducible exact True.intro | exact vW | with_reducible refine And.intro ?_ ?_)
    have hd : isDd (deedT ⟨k, a, b, w⟩) ⟨k, a, b, w⟩ := ⟨hO, rfl⟩
    refine ⟨fun x q => ?_, fun q => (q ⟨_, hd⟩).elim⟩
    obtain rfl := isDd_one q hd
    dsimp only [ded, encD]
    repeat' ((conv => whnf); first | refine vA ?_ | with_reducible first | refine v8 ?_ | refine Sp.mk ?_ ?_ | refine vS ?_ | refine vR ?_ | refine vB ?_ | refine br_nt ?_ | refine br_tt ?_ | refine br_ff ?_ | refine vP ?_ | refine vQ ?_ | refine vT ?_ | refine vF ?_ | refine br_and ?_ | refine br_or ?_ | refine br_d (fun _ => ?_) fun _ => ?_ | refine vM (fun _ => ?_) fun _ => ?_)
    simpa using h
  · dsimp only
    rw [deedT_no hO]
    have hee : (⟨#[]⟩ : ByteArray) = ⟨#[]⟩ := rfl
    repeat' ((conv => whnf); first | refine vA ?_ | with_reducible first | refine v8 ?_ | refine Sp.mk ?_ ?_ | refine vS ?_ | refine vR ?_ | refine vB ?_ | refine br_nt ?_ | refine br_tt ?_ | refine br_ff ?_ | refine vP ?_ | refine vQ ?_ | refine vT ?_ | refine vF ?_ | refine br_and ?_ | refine br_or ?_ | refine br_d (fun _ => ?_) fun _ => ?_ | refine vM (fun _ => ?_) fun _ => ?_)
    refine ⟨(), ?_, ⟨trivial⟩, ?_⟩
    · repeat' ((conv => whnf); first | with_reducible exact True.intro | exact vW | with_reducible refine And.intro ?_ ?_)
    repeat' ((conv => whnf); first | refine vA ?_ | with_reducible first | refine v8 ?_ | refine Sp.mk ?_ ?_ | refine vS ?_ | refine vR ?_ | refine vB ?_ | refine br_nt ?_ | refine br_tt ?_ | refine br_ff ?_ | refine vP ?_ | refine vQ ?_ | refine vT ?_ | refine vF ?_ | refine br_and ?_ | refine br_or ?_ | refine br_d (fun _ => ?_) fun _ => ?_ | refine vM (fun _ => ?_) fun _ => ?_)
    exact h
def C251 : List AV → (AV → Prop) → Prop := con (X := List Int) (fun l => [slB l]) bytesI fun _ K => ∀ s : ByteArray, s.size ≤ 20004 → K (.str s)
theorem F251 : FF 35 C251 := by
  refine fitX [(34, C105)] (by simp only [List.mem_cons, List.not_mem_nil, or_false]; rintro _ rfl <;> first | exact F105) [(40, C42), (68, C52), (64, C151), (42, C184), (69, C217)] (by simp only [List.mem_cons, List.not_mem_nil, or_false]; rintro _ (rfl | rfl | rfl | rfl | rfl) <;> first | exact F42 | exact F52 | exact F151 | exact F184 | exact F217) Tryd.f35 ⟨rfl, by decide +kernel, by decide +kernel⟩ (fun _ _ _ hk h a ha => hk _ (h a ha)) ?_
  rintro l K hl h
  refine ⟨Nat.le_of_ble_eq_true rfl, ?_⟩
  repeat' ((conv => whnf); first | refine vA ?_ | with_reducible first | refine v8 ?_ | refine Sp.mk ?_ ?_ | refine vS ?_ | refine vR ?_ | refine vB ?_ | refine br_nt ?_ | refine br_tt ?_ | refine br_ff ?_ | refine vP ?_ | refine vQ ?_ | refine vT ?_ | refine vF ?_ | refine br_and ?_ | refine br_or ?_ | refine br_d (fun _ => ?_) fun _ => ?_ | refine vM (fun _ => ?_) fun _ => ?_)
  refine ⟨_, _, [], [], rfl, ?_, ?_, l, rfl, rfl, ⟨hl⟩, ?_⟩
  · repeat' ((conv => whnf); first | with_reducible exact True.intro | exact vW | with_reducible refine And.intro ?_ ?_)
  · repeat' ((conv => whnf); first | with_reducible exact True.intro | exact vW | with_reducible refine And.intro ?_ ?_)
  rintro b ⟨h1, h2, h3, h4⟩
  dsimp only
  repeat' ((conv => whnf); first | refine vA ?_ | with_reducible first | refine v8 ?_ | refine Sp.mk ?_ ?_ | refine vS ?_ | refine vR ?_ | refine vB ?_ | refine br_nt ?_ | refine br_tt ?_ | refine br_ff ?_ | refine vP ?_ | refine vQ ?_ | refine vT ?_ | refine vF ?_ | refine br_and ?_ | refine br_or ?_ | refine br_d (fun _ => ?_) fun _ => ?_ | refine vM (fun _ => ?_) fun _ => ?_)
  refine ⟨_, _, [0], [], rfl, ?_, ?_, (⟨b, 0⟩, 0), rfl, rfl, ⟨⟨h1, h2, by dsimp only; omega, by dsimp only; omega⟩, by unfold i64r; dsimp only; omega⟩, ?_⟩
  · repeat' ((conv => whnf); first | with_reducible exact True.intro | exact vW | with_reducible refine And.intro ?_ ?_)
  · repeat' ((conv => whnf); first | with_reducible exact True.intro | exact vW | with_reducible refine And.intro ?_ ?_)
  rintro ⟨p, bs, rs⟩ p1 y1 y2 hy
  dsimp only [enPl, plC] at y1 y2 ⊢
  repeat' ((conv => whnf); first | refine vA ?_ | with_reducible first | refine v8 ?_ | refine Sp.mk ?_ ?_ | refine vS ?_ | refine vR ?_ | refine vB ?_ | refine br_nt ?_ | refine br_tt ?_ | refine br_ff ?_ | refine vP ?_ | refine vQ ?_ | refine vT ?_ | refine vF ?_ | refine br_and ?_ | refine br_or ?_ | refine br_d (fun _ => ?_) fun _ => ?_ | refine vM (fun _ => ?_) fun _ => ?_)
  refine ⟨_, _, [0], [], rfl, ?_, ?_, ⟨⟨b, p1⟩, ⟨p, bs, rs⟩⟩, rfl, rfl, ⟨⟨h1, h2, by dsimp only; omega, by dsimp only; omega⟩, hy.S⟩, ?_⟩
  · repeat' ((conv => whnf); first | with_reducible exact True.intro | exact vW | with_reducible refine And.intro ?_ ?_)
  · repeat' ((conv => whnf); first | with_reducible exact True.intro | exact vW | with_reducible refine And.intro ?_ ?_)
  rintro ⟨k, a, b', w⟩ p2 a1 a2 ha
  dsimp only [ded, encD] at a1 a2 ⊢
  have hw := ha.w0
  have hsz := deedT_size ⟨k, a, b', w⟩
  dsimp only at hw hsz
  repeat' ((conv => whnf); first | refine vA ?_ | with_reducible first | refine v8 ?_ | refine Sp.mk ?_ ?_ | refine vS ?_ | refine vR ?_ | refine vB ?_ | refine br_nt ?_ | refine br_tt ?_ | refine br_ff ?_ | refine vP ?_ | refine vQ ?_ | refine vT ?_ | refine vF ?_ | refine br_and ?_ | refine br_or ?_ | refine br_d (fun _ => ?_) fun _ => ?_ | refine vM (fun _ => ?_) fun _ => ?_)
  refine ⟨⟨k, a, b', w⟩, ?_, ⟨by dsimp only; omega⟩, ?_⟩
  · repeat' ((conv => whnf); first | with_reducible exact True.intro | exact vW | with_reducible refine And.intro ?_ ?_)
  dsimp only
  generalize deedT ⟨k, a, b', w⟩ = t at hsz ⊢
  repeat' ((conv => whnf); first | refine vA ?_ | with_reducible first | refine v8 ?_ | refine Sp.mk ?_ ?_ | refine vS ?_ | refine vR ?_ | refine vB ?_ | refine br_nt ?_ | refine br_tt ?_ | refine br_ff ?_ | refine vP ?_ | refine vQ ?_ | refine vT ?_ | refine vF ?_ | refine br_and ?_ | refine br_or ?_ | refine br_d (fun _ => ?_) fun _ => ?_ | refine vM (fun _ => ?_) fun _ => ?_)
  refine ⟨_, _, [0], [], rfl, ?_, ?_, (⟨b, p2⟩, 3), rfl, rfl, ⟨⟨h1, h2, ?_, ?_⟩, ?_⟩, ?_⟩
  · repeat' ((conv => whnf); first | with_reducible exact True.intro | exact vW | with_reducible refine And.intro ?_ ?_)
    try exact Chk.mk (by rw [pw_sh (by assumption)])
  · repeat' ((conv => whnf); first | with_reducible exact True.intro | exact vW | with_reducible refine And.intro ?_ ?_)
  · dsimp only; omega
  · dsimp only; omega
  · unfold i64r; dsimp only; omega
  intro k3 p3 c0 c1 c2
  dsimp only at c0 c1 c2
  repeat' ((conv => whnf); first | refine vA ?_ | with_reducible first | refine v8 ?_ | refine Sp.mk ?_ ?_ | refine vS ?_ | refine vR ?_ | refine vB ?_ | refine br_nt ?_ | refine br_tt ?_ | refine br_ff ?_ | refine vP ?_ | refine vQ ?_ | refine vT ?_ | refine vF ?_ | refine br_and ?_ | refine br_or ?_ | refine br_d (fun _ => ?_) fun _ => ?_ | refine vM (fun _ => ?_) fun _ => ?_)
  · refine ⟨_, _, [0], [], rfl, ?_, ?_, ⟨⟨b, p3⟩, t⟩, rfl, rfl, ⟨⟨h1, h2, by dsimp only; omega, by dsimp only; omega⟩, by dsimp only; omega⟩, ?_⟩
    · repeat' ((conv => whnf); first | with_reducible exact True.intro | exact vW | with_reducible refine And.intro ?_ ?_)
    · repeat' ((conv => whnf); first | with_reducible exact True.intro | exact vW | with_reducible refine And.intro ?_ ?_)
    intro u p4 u1 u2 u3
    dsimp only at u3
    repeat' ((conv => whnf); first | refine vA ?_ | with_reducible first | refine v8 ?_ | refine Sp.mk ?_ ?_ | refine vS ?_ | refine vR ?_ | refine vB ?_ | refine br_nt ?_ | refine br_tt ?_ | refine br_ff ?_ | refine vP ?_ | refine vQ ?_ | refine vT ?_ | refine vF ?_ | refine br_and ?_ | refine br_or ?_ | refine br_d (fun _ => ?_) fun _ => ?_ | refine vM (fun _ => ?_) fun _ => ?_)
    exact h u (by omega)
  · exact h t (by omega)
theorem parts_ne {x : Dd} (h : okDd x) : ∀ y ∈ kindB x.kind :: ((numsOf x).map num ++ wordsOf x), y ≠ ⟨#[]⟩ := by
  intro y hy
  rcases List.mem_cons.1 hy with rfl | hy
  · exact fun e => (kindB_no x.kind).2.2 (by rw [e]; rfl)
  · rcases List.mem_append.1 hy with hy | hy
    · obtain ⟨n, hn, rfl⟩ := List.mem_map.1 hy
      obtain ⟨m, m1, m2, _⟩ := num_nat (numsOf_mem h n hn)
      intro e
      have := (num_len m1).1
      rw [← m2, e] at this
      exact absurd this (by decide)
    · rcases wordsOf_kind h with ⟨q, _⟩ | ⟨q, q2, _⟩
      · rw [q] at hy; cases hy
      · rw [q] at hy
        rw [List.mem_singleton.1 hy]
        exact q2
theorem isDd_sp {s : ByteArray} {x : Dd} (h : isDd (s ++ ⟨#[32]⟩) x) : False := by
  have e : cutB (s ++ ⟨#[32]⟩) 32 = cutB s 32 ++ [⟨#[]⟩] := by
    unfold cutB
    rw [show (s ++ ⟨#[32]⟩).data.toList = s.data.toList ++ [32] by rw [ByteArray.data_append, Array.toList_append], cutL_snoc, List.map_append]
    rfl
  rw [isDd_cut h] at e
  exact parts_ne h.1 ⟨#[]⟩ (by rw [e]; exact List.mem_append_right _ List.mem_cons_self) rfl
def C236 : List AV → (AV → Prop) → Prop := con (X := List Int) (fun l => [slB l]) bytesI fun _ K => K (.bool true)
theorem F236 : FF 8 C236 := by
  refine fitE [(35, C251), (25, C245), (24, C244), (33, C104), (15, C22)] (by simp only [List.mem_cons, List.not_mem_nil, or_false]; rintro _ (rfl | rfl | rfl | rfl | rfl) <;> first | exact F251 | exact F245 | exact F244 | exact F104 | exact F22) Tryd.f8 ⟨rfl, by decide +kernel, by decide +kernel⟩ (fun _ _ _ hk h => hk _ h) ?_
  rintro l K hl h
  refine ⟨Nat.le_of_ble_eq_true rfl, ?_⟩
  have hll := hl.2
  have htt : (true == true) = true := rfl
  have hff : (false == false) = true := rfl
  have hee : (⟨#[]⟩ : ByteArray) = ⟨#[]⟩ := rfl
  repeat' ((conv => whnf); first | refine vA ?_ | with_reducible first | refine v8 ?_ | refine Sp.mk ?_ ?_ | refine vS ?_ | refine vR ?_ | refine vB ?_ | refine br_nt ?_ | refine br_tt ?_ | refine br_ff ?_ | refine vP ?_ | refine vQ ?_ | refine vT ?_ | refine vF ?_ | refine br_and ?_ | refine br_or ?_ | refine br_d (fun _ => ?_) fun _ => ?_ | refine vM (fun _ => ?_) fun _ => ?_)
  · exact h
  refine ⟨l, ?_, ⟨hl⟩, ?_⟩
  · repeat' ((conv => whnf); first | with_reducible exact True.intro | exact vW | with_reducible refine And.intro ?_ ?_)
  intro s hs
  repeat' ((conv => whnf); first | refine vA ?_ | with_reducible first | refine v8 ?_ | refine Sp.mk ?_ ?_ | refine vS ?_ | refine vR ?_ | refine vB ?_ | refine br_nt ?_ | refine br_tt ?_ | refine br_ff ?_ | refine vP ?_ | refine vQ ?_ | refine vT ?_ | refine vF ?_ | refine br_and ?_ | refine br_or ?_ | refine br_d (fun _ => ?_) fun _ => ?_ | refine vM (fun _ => ?_) fun _ => ?_)
  refine ⟨s, ?_, ⟨by omega⟩, ?_⟩
  · repeat' ((conv => whnf); first | with_reducible exact True.intro | exact vW | with_reducible refine And.intro ?_ ?_)
  by_cases hx : ∃ x, isDd s x
  · obtain ⟨y, hy⟩ := hx
    refine ⟨fun x q => ?_, fun q => (q ⟨_, hy⟩).elim⟩
    obtain rfl := isDd_one q hy
    have hws := words_le hy.1
    obtain ⟨k, a, b, w⟩ := x
    have hw : w = w := rfl
    have hd : deedT ⟨k, a, b, w⟩ = s := hy.2
    rw [hd] at hws
    dsimp only [ded, encD] at hws ⊢
    repeat' ((conv => whnf); first | refine vA ?_ | with_reducible first | refine v8 ?_ | refine Sp.mk ?_ ?_ | refine vS ?_ | refine vR ?_ | refine vB ?_ | refine br_nt ?_ | refine br_tt ?_ | refine br_ff ?_ | refine vP ?_ | refine vQ ?_ | refine vT ?_ | refine vF ?_ | refine br_and ?_ | refine br_or ?_ | refine br_d (fun _ => ?_) fun _ => ?_ | refine vM (fun _ => ?_) fun _ => ?_)
    refine ⟨s, ?_, ⟨by omega⟩, ?_⟩
    · repeat' ((conv => whnf); first | with_reducible exact True.intro | exact vW | with_reducible refine And.intro ?_ ?_)
    refine ⟨fun x q => ?_, fun q => (q ⟨_, hy⟩).elim⟩
    obtain rfl := isDd_one q hy
    dsimp only [ded, encD]
    repeat' ((conv => whnf); first | refine vA ?_ | with_reducible first | refine v8 ?_ | refine Sp.mk ?_ ?_ | refine vS ?_ | refine vR ?_ | refine vB ?_ | refine br_nt ?_ | refine br_tt ?_ | refine br_ff ?_ | refine vP ?_ | refine vQ ?_ | refine vT ?_ | refine vF ?_ | refine br_and ?_ | refine br_or ?_ | refine br_d (fun _ => ?_) fun _ => ?_ | refine vM (fun _ => ?_) fun _ => ?_)
    have hs2 : (s ++ ⟨#[32]⟩ : ByteArray).size ≤ 20005 := by rw [ByteArray.size_append]; show s.size + 1 ≤ _; omega
    refine ⟨⟨by show s.size + 1 ≤ _; omega⟩, ?_⟩
    repeat' ((conv => whnf); first | refine vA ?_ | with_reducible first | refine v8 ?_ | refine Sp.mk ?_ ?_ | refine vS ?_ | refine vR ?_ | refine vB ?_ | refine br_nt ?_ | refine br_tt ?_ | refine br_ff ?_ | refine vP ?_ | refine vQ ?_ | refine vT ?_ | refine vF ?_ | refine br_and ?_ | refine br_or ?_ | refine br_d (fun _ => ?_) fun _ => ?_ | refine vM (fun _ => ?_) fun _ => ?_)
    refine ⟨s ++ ⟨#[32]⟩, ?_, ⟨by omega⟩, ?_⟩
    · repeat' ((conv => whnf); first | with_reducible exact True.intro | exact vW | with_reducible refine And.intro ?_ ?_)
    refine ⟨fun y q => (isDd_sp q).elim, fun _ => ?_⟩
    dsimp only [ded, encD]
    repeat' ((conv => whnf); first | refine vA ?_ | with_reducible first | refine v8 ?_ | refine Sp.mk ?_ ?_ | refine vS ?_ | refine vR ?_ | refine vB ?_ | refine br_nt ?_ | refine br_tt ?_ | refine br_ff ?_ | refine vP ?_ | refine vQ ?_ | refine vT ?_ | refine vF ?_ | refine br_and ?_ | refine br_or ?_ | refine br_d (fun _ => ?_) fun _ => ?_ | refine vM (fun _ => ?_) fun _ => ?_)
    refine ⟨⟨k, a, b, w⟩, ?_, ⟨by dsimp only; omega⟩, ?_⟩
    · repeat' ((conv => whnf); first | with_reducible exact True.intro | exact vW | with_reducible refine And.intro ?_ ?_)
    dsimp only
    rw [hd]
    repeat' ((conv => whnf); first | refine vA ?_ | with_reducible first | refine v8 ?_ | refine Sp.mk ?_ ?_ | refine vS ?_ | refine vR ?_ | refine vB ?_ | refine br_nt ?_ | refine br_tt ?_ | refine br_ff ?_ | refine vP ?_ | refine vQ ?_ | refine vT ?_ | refine vF ?_ | refine br_and ?_ | refine br_or ?_ | refine br_d (fun _ => ?_) fun _ => ?_ | refine vM (fun _ => ?_) fun _ => ?_)
    · exact h
    · rename_i q
      exact absurd rfl q
  · have d0 : (default : Dd).kind = 0 := rfl
    have d1 : (default : Dd).a = 0 := rfl
    have d2 : (default : Dd).b = 0 := rfl
    have d3 : (default : Dd).words = ⟨#[]⟩ := rfl
    have d4 : (default : Dd).words = (default : Dd).words := rfl
    refine ⟨fun x q => (hx ⟨_, q⟩).elim, fun _ => ?_⟩
    dsimp only [ded, encD]
    repeat' ((conv => whnf); first | refine vA ?_ | with_reducible first | refine v8 ?_ | refine Sp.mk ?_ ?_ | refine vS ?_ | refine vR ?_ | refine vB ?_ | refine br_nt ?_ | refine br_tt ?_ | refine br_ff ?_ | refine vP ?_ | refine vQ ?_ | refine vT ?_ | refine vF ?_ | refine br_and ?_ | refine br_or ?_ | refine br_d (fun _ => ?_) fun _ => ?_ | refine vM (fun _ => ?_) fun _ => ?_)
    refine ⟨s, ?_, ⟨by omega⟩, ?_⟩
    · repeat' ((conv => whnf); first | with_reducible exact True.intro | exact vW | with_reducible refine And.intro ?_ ?_)
    refine ⟨fun x q => (hx ⟨_, q⟩).elim, fun _ => ?_⟩
    dsimp only [ded, encD]
    repeat' ((conv => whnf); first | refine vA ?_ | with_reducible first | refine v8 ?_ | refine Sp.mk ?_ ?_ | refine vS ?_ | refine vR ?_ | refine vB ?_ | refine br_nt ?_ | refine br_tt ?_ | refine br_ff ?_ | refine vP ?_ | refine vQ ?_ | refine vT ?_ | refine vF ?_ | refine br_and ?_ | refine br_or ?_ | refine br_d (fun _ => ?_) fun _ => ?_ | refine vM (fun _ => ?_) fun _ => ?_)
    refine ⟨(), ?_, ⟨trivial⟩, ?_⟩
    · repeat' ((conv => whnf); first | with_reducible exact True.intro | exact vW | with_reducible refine And.intro ?_ ?_)
    repeat' ((conv => whnf); first | refine vA ?_ | with_reducible first | refine v8 ?_ | refine Sp.mk ?_ ?_ | refine vS ?_ | refine vR ?_ | refine vB ?_ | refine br_nt ?_ | refine br_tt ?_ | refine br_ff ?_ | refine vP ?_ | refine vQ ?_ | refine vT ?_ | refine vF ?_ | refine br_and ?_ | refine br_or ?_ | refine br_d (fun _ => ?_) fun _ => ?_ | refine vM (fun _ => ?_) fun _ => ?_)
    exact h
end Go.Proofs.YtjefkdhecccfpaaDoor.Vc
end
section
/- Part XH: deeds that are drawn; the laws on journals. -/
namespace Go.Proofs.YtjefkdhecccfpaaDoor.Vc
open Go.Proofs
set_option maxRecDepth 10000
set_option maxHeartbeats 4000000
def C255 : GC := conG (X := Pr) (fun x => [.ptr 0 0, enPl x.x]) (fun x => [rdO x.r.b x.r.p]) (fun x => x.r.okn 449000000 ∧ placeS x.x) fun x K => ∀ (l : List Dd) (p' : Int), x.r.p ≤ p' → p' ≤ x.r.p + 2000 → l.length ≤ 5 → (∀ a ∈ l, drawnA a) → K (.row 1 4 0 l.length) [rdO x.r.b p', .row 4 l.length fun i => encD (l.getD i default)]
theorem F255 : GG 56 C255 := by
  refine fitG [] (by simp) [(68, C52), (42, C184)] (by simp only [List.mem_cons, List.not_mem_nil, or_false]; rintro _ (rfl | rfl) <;> first | exact F52 | exact F184) Tryd.f56 ⟨rfl, by decide +kernel, by decide +kernel⟩ (by intro x K K2 hk h; (try dsimp only at h ⊢); intros; apply hk; first | exact h | (apply h <;> assumption)) ?_
  rintro ⟨⟨b, p⟩, ⟨q, bs, rs⟩⟩ K ⟨⟨h1, h2, h3, h4⟩, hS⟩ h
  refine ⟨Nat.le_of_ble_eq_true rfl, ?_⟩
  dsimp only [enPl, plC] at h h1 h2 h3 h4 ⊢
  repeat' ((conv => whnf); first | refine vA ?_ | with_reducible first | refine v8 ?_ | refine Sp.mk ?_ ?_ | refine vS ?_ | refine vR ?_ | refine vB ?_ | refine br_nt ?_ | refine br_tt ?_ | refine br_ff ?_ | refine vP ?_ | refine vQ ?_ | refine vT ?_ | refine vF ?_ | refine br_and ?_ | refine br_or ?_ | refine br_d (fun _ => ?_) fun _ => ?_ | refine vM (fun _ => ?_) fun _ => ?_)
  refine ⟨_, _, [0], [], rfl, ?_, ?_, (⟨b, p⟩, 6), rfl, rfl, ⟨⟨h1, h2, ?_, ?_⟩, ?_⟩, ?_⟩
  · repeat' ((conv => whnf); first | with_reducible exact True.intro | exact vW | with_reducible refine And.intro ?_ ?_)
    try exact Chk.mk (by rw [pw_sh (by assumption)])
  · repeat' ((conv => whnf); first | with_reducible exact True.intro | exact vW | with_reducible refine And.intro ?_ ?_)
  · dsimp only; omega
  · dsimp only; omega
  · unfold i64r; dsimp only; omega
  intro k p1 a0 a1 a2
  dsimp only at a0 a1 a2
  repeat' ((conv => whnf); first | refine vA ?_ | with_reducible first | refine v8 ?_ | refine Sp.mk ?_ ?_ | refine vS ?_ | refine vR ?_ | refine vB ?_ | refine br_nt ?_ | refine br_tt ?_ | refine br_ff ?_ | refine vP ?_ | refine vQ ?_ | refine vT ?_ | refine vF ?_ | refine br_and ?_ | refine br_or ?_ | refine br_d (fun _ => ?_) fun _ => ?_ | refine vM (fun _ => ?_) fun _ => ?_)
  refine Lp.mk ⟨List Dd × Int × Int, fun x => [(0, .ptr 0 0), (3, .ptr 1 0), (5, .row 2 4 0 x.1.length), (6, .int .i64 x.2.1)], fun x => [rdO b x.2.2, .box [.int .i64 q, slI bs, slS rs], .row 4 x.1.length fun i => encD (x.1.getD i default)],
    fun x => 0 ≤ x.2.1 ∧ x.2.1 + x.1.length = k ∧ p1 ≤ x.2.2 ∧ x.2.2 ≤ p1 + 250 * x.1.length ∧ ∀ a ∈ x.1, drawnA a, fun x => x.2.1.toNat, ⟨([], k, p1), ⟨by dsimp only; omega, by simp, by dsimp only; omega, by simp, (fun _ g => by cases g)⟩, ⟨⟨[some 0, some 1, none], [], rfl, rfl, ?_, ?_⟩⟩⟩, ?_⟩
  · repeat' ((conv => whnf); first | with_reducible exact True.intro | exact vW | with_reducible refine And.intro ?_ ?_)
  · repeat' ((conv => whnf); first | with_reducible exact True.intro | exact vW | with_reducible refine And.intro ?_ ?_)
  rintro ⟨l, j, p2⟩ ⟨i1, i2, i3, i4, i5⟩
  dsimp only at i1 i2 i3 i4 i5 ⊢
  repeat' ((conv => whnf); first | refine vA ?_ | with_reducible first | refine v8 ?_ | refine Sp.mk ?_ ?_ | refine vS ?_ | refine vR ?_ | refine vB ?_ | refine br_nt ?_ | refine br_tt ?_ | refine br_ff ?_ | refine vP ?_ | refine vQ ?_ | refine vT ?_ | refine vF ?_ | refine br_and ?_ | refine br_or ?_ | refine br_d (fun _ => ?_) fun _ => ?_ | refine vM (fun _ => ?_) fun _ => ?_)
  · refine ⟨_, _, [0], [], rfl, ?_, ?_, ⟨⟨b, p2⟩, ⟨q, bs, rs⟩⟩, rfl, rfl, ⟨⟨h1, h2, by dsimp only; omega, by dsimp only; omega⟩, hS⟩, ?_⟩
    · repeat' ((conv => whnf); first | with_reducible exact True.intro | exact vW | with_reducible refine And.intro ?_ ?_)
    · repeat' ((conv => whnf); first | with_reducible exact True.intro | exact vW | with_reducible refine And.intro ?_ ?_)
    rintro ⟨k', a, b', w⟩ p3 a1 a2 ha
    dsimp only [ded, encD] at a1 a2 ⊢
    repeat' ((conv => whnf); first | refine vA ?_ | with_reducible first | refine v8 ?_ | refine Sp.mk ?_ ?_ | refine vS ?_ | refine vR ?_ | refine vB ?_ | refine br_nt ?_ | refine br_tt ?_ | refine br_ff ?_ | refine vP ?_ | refine vQ ?_ | refine vT ?_ | refine vF ?_ | refine br_and ?_ | refine br_or ?_ | refine br_d (fun _ => ?_) fun _ => ?_ | refine vM (fun _ => ?_) fun _ => ?_)
    refine ⟨(l ++ [⟨k', a, b', w⟩], j - 1, p3), ⟨by dsimp only; omega, by simp only [List.length_append, List.length_cons, List.length_nil]; omega, by dsimp only; omega, by simp only [List.length_append, List.length_cons, List.length_nil]; omega, fun y hy => (List.mem_append.1 hy).elim (i5 y) fun g => by rw [List.mem_singleton.1 g]; exact ha⟩, by dsimp only; omega, ?_⟩
    first | (refine ⟨⟨[some 0, some 1, some 4], [], rfl, rfl, ?_, ?_⟩⟩ <;> (repeat' ((conv => whnf); first | with_reducible exact True.intro | exact vW | with_reducible refine And.intro ?_ ?_ | exact Chk.mk ⟨rfl, by rw [List.length_append]; rfl⟩ | exact Chk.mk (ext_push (enc := encD) (d := default) (l := l) (x := ⟨k', a, b', w⟩) rfl))) <;> fail) | (refine ⟨⟨[some 0, some 1, some 5], [], rfl, rfl, ?_, ?_⟩⟩ <;> (repeat' ((conv => whnf); first | with_reducible exact True.intro | exact vW | with_reducible refine And.intro ?_ ?_ | exact Chk.mk ⟨rfl, by rw [List.length_append]; rfl⟩ | exact Chk.mk (ext_push (enc := encD) (d := default) (l := l) (x := ⟨k', a, b', w⟩) rfl))) <;> fail) | (refine ⟨⟨[some 0, some 1, some 3], [], rfl, rfl, ?_, ?_⟩⟩ <;> (repeat' ((conv => whnf); first | with_reducible exact True.intro | exact vW | with_reducible refine And.intro ?_ ?_ | exact Chk.mk ⟨rfl, by rw [List.length_append]; rfl⟩ | exact Chk.mk (ext_push (enc := encD) (d := default) (l := l) (x := ⟨k', a, b', w⟩) rfl))) <;> fail)
  · refine ⟨_, _, [some 0, some 2], [], rfl, rfl, ?_, ?_, h l p2 (by omega) (by omega) (by omega) i5⟩
    · repeat' ((conv => whnf); first | with_reducible exact True.intro | exact vW | with_reducible refine And.intro ?_ ?_)
    · repeat' ((conv => whnf); first | with_reducible exact True.intro | exact vW | with_reducible refine And.intro ?_ ?_)
def C260 : GC := conG (X := Rd) (fun _ => [.ptr 0 0]) (fun x => [rdO x.b x.p]) (fun x => x.okn 400000000) fun x K => ∀ (l : List Dd) (p' : Int), x.p ≤ p' → p' ≤ x.p + 4000 → l.length ≤ 5 → (∀ a ∈ l, drawnA a ∧ okDd a) → K (.row 1 4 0 l.length) [rdO x.b p', .row 4 l.length fun i => encD (l.getD i default)]
theorem F260 : GG 70 C260 := by
  refine fitG [(34, C105)] (by simp only [List.mem_cons, List.not_mem_nil, or_false]; rintro _ rfl <;> first | exact F105) [(64, C151), (56, C255)] (by simp only [List.mem_cons, List.not_mem_nil, or_false]; rintro _ (rfl | rfl) <;> first | exact F151 | exact F255) Tryd.f70 ⟨rfl, by decide +kernel, by decide +kernel⟩ (by intro x K K2 hk h; (try dsimp only at h ⊢); intros; apply hk; first | exact h | (apply h <;> assumption)) ?_
  rintro ⟨b, p⟩ K ⟨h1, h2, h3, h4⟩ h
  refine ⟨Nat.le_of_ble_eq_true rfl, ?_⟩
  dsimp only at h h1 h2 h3 h4 ⊢
  repeat' ((conv => whnf); first | refine vA ?_ | with_reducible first | refine v8 ?_ | refine Sp.mk ?_ ?_ | refine vS ?_ | refine vR ?_ | refine vB ?_ | refine br_nt ?_ | refine br_tt ?_ | refine br_ff ?_ | refine vP ?_ | refine vQ ?_ | refine vT ?_ | refine vF ?_ | refine br_and ?_ | refine br_or ?_ | refine br_d (fun _ => ?_) fun _ => ?_ | refine vM (fun _ => ?_) fun _ => ?_)
  refine ⟨_, _, [0], [], rfl, ?_, ?_, (⟨b, p⟩, 0), rfl, rfl, ⟨⟨h1, h2, by dsimp only; omega, by dsimp only; omega⟩, by unfold i64r; dsimp only; omega⟩, ?_⟩
  · repeat' ((conv => whnf); first | with_reducible exact True.intro | exact vW | with_reducible refine And.intro ?_ ?_)
  · repeat' ((conv => whnf); first | with_reducible exact True.intro | exact vW | with_reducible refine And.intro ?_ ?_)
  rintro ⟨q, bs, rs⟩ p1 y1 y2 hy
  dsimp only [enPl, plC] at y1 y2 ⊢
  repeat' ((conv => whnf); first | refine vA ?_ | with_reducible first | refine v8 ?_ | refine Sp.mk ?_ ?_ | refine vS ?_ | refine vR ?_ | refine vB ?_ | refine br_nt ?_ | refine br_tt ?_ | refine br_ff ?_ | refine vP ?_ | refine vQ ?_ | refine vT ?_ | refine vF ?_ | refine br_and ?_ | refine br_or ?_ | refine br_d (fun _ => ?_) fun _ => ?_ | refine vM (fun _ => ?_) fun _ => ?_)
  refine ⟨_, _, [0], [], rfl, ?_, ?_, ⟨⟨b, p1⟩, ⟨q, bs, rs⟩⟩, rfl, rfl, ⟨⟨h1, h2, by dsimp only; omega, by dsimp only; omega⟩, hy.S⟩, ?_⟩
  · repeat' ((conv => whnf); first | with_reducible exact True.intro | exact vW | with_reducible refine And.intro ?_ ?_)
  · repeat' ((conv => whnf); first | with_reducible exact True.intro | exact vW | with_reducible refine And.intro ?_ ?_)
  rintro l p2 l1 l2 l3 hl
  dsimp only at l1 l2 l3 ⊢
  repeat' ((conv => whnf); first | refine vA ?_ | with_reducible first | refine v8 ?_ | refine Sp.mk ?_ ?_ | refine vS ?_ | refine vR ?_ | refine vB ?_ | refine br_nt ?_ | refine br_tt ?_ | refine br_ff ?_ | refine vP ?_ | refine vQ ?_ | refine vT ?_ | refine vF ?_ | refine br_and ?_ | refine br_or ?_ | refine br_d (fun _ => ?_) fun _ => ?_ | refine vM (fun _ => ?_) fun _ => ?_)
  refine Lp.mk ⟨Nat × List Dd, fun x => [(0, .ptr 0 0), (3, .row 1 4 0 x.2.length), (4, slD l), (5, .int .i64 x.1)], fun x => [rdO b p2, .row 4 x.2.length fun i => encD (x.2.getD i default)],
    fun x => x.1 ≤ l.length ∧ x.2.length ≤ x.1 ∧ ∀ a ∈ x.2, drawnA a ∧ okDd a, fun x => l.length - x.1, ⟨(0, []), ⟨Nat.zero_le _, Nat.zero_le _, (fun _ g => by cases g)⟩, ⟨⟨[some 0, none], [1], rfl, rfl, ?_, ?_⟩⟩⟩, ?_⟩
  · repeat' ((conv => whnf); first | with_reducible exact True.intro | exact vW | with_reducible refine And.intro ?_ ?_)
    all_goals exact Chk.mk ⟨rfl, by omega, fun i _ => by dsimp only; (try rw [Nat.zero_add]); try rfl⟩
  · repeat' ((conv => whnf); first | with_reducible exact True.intro | exact vW | with_reducible refine And.intro ?_ ?_)
  rintro ⟨i, m⟩ ⟨i1, i2, i3⟩
  dsimp only at i1 i2 i3 ⊢
  repeat' ((conv => whnf); first | refine vA ?_ | with_reducible first | refine v8 ?_ | refine Sp.mk ?_ ?_ | refine vS ?_ | refine vR ?_ | refine vB ?_ | refine br_nt ?_ | refine br_tt ?_ | refine br_ff ?_ | refine vP ?_ | refine vQ ?_ | refine vT ?_ | refine vF ?_ | refine br_and ?_ | refine br_or ?_ | refine br_d (fun _ => ?_) fun _ => ?_ | refine vM (fun _ => ?_) fun _ => ?_)
  · rename_i hi
    have hi : i < l.length := by omega
    have ha := hl _ (getD_mem' (d := default) hi)
    refine ⟨l.getD i default, ?_, ⟨by have := ha.w0; omega⟩, ?_⟩
    · repeat' ((conv => whnf); first | with_reducible exact True.intro | exact vW | with_reducible refine And.intro ?_ ?_)
    by_cases hO : okDd (l.getD i default)
    · have hne := okDd_ne hO
      dsimp only
      repeat' ((conv => whnf); first | refine vA ?_ | with_reducible first | refine v8 ?_ | refine Sp.mk ?_ ?_ | refine vS ?_ | refine vR ?_ | refine vB ?_ | refine br_nt ?_ | refine br_tt ?_ | refine br_ff ?_ | refine vP ?_ | refine vQ ?_ | refine vT ?_ | refine vF ?_ | refine br_and ?_ | refine br_or ?_ | refine br_d (fun _ => ?_) fun _ => ?_ | refine vM (fun _ => ?_) fun _ => ?_)
      refine ⟨(i + 1, m ++ [l.getD i default]), ⟨by dsimp only; omega, by simp only [List.length_append, List.length_cons, List.length_nil]; omega, fun y hy => (List.mem_append.1 hy).elim (i3 y) fun g => by rw [List.mem_singleton.1 g]; exact ⟨ha, hO⟩⟩, by dsimp only; omega, ?_⟩
      first | (refine ⟨⟨[some 0, some 3], [], rfl, rfl, ?_, ?_⟩⟩ <;> (repeat' ((conv => whnf); first | with_reducible exact True.intro | exact vW | with_reducible refine And.intro ?_ ?_ | exact Chk.mk ⟨rfl, by rw [List.length_append]; rfl⟩ | exact Chk.mk (ext_push (enc := encD) (d := default) (l := m) (x := l.getD i default) rfl))) <;> fail) | (refine ⟨⟨[some 0, some 2], [], rfl, rfl, ?_, ?_⟩⟩ <;> (repeat' ((conv => whnf); first | with_reducible exact True.intro | exact vW | with_reducible refine And.intro ?_ ?_ | exact Chk.mk ⟨rfl, by rw [List.length_append]; rfl⟩ | exact Chk.mk (ext_push (enc := encD) (d := default) (l := m) (x := l.getD i default) rfl))) <;> fail)
    · have he := deedT_no hO
      dsimp only
      repeat' ((conv => whnf); first | refine vA ?_ | with_reducible first | refine v8 ?_ | refine Sp.mk ?_ ?_ | refine vS ?_ | refine vR ?_ | refine vB ?_ | refine br_nt ?_ | refine br_tt ?_ | refine br_ff ?_ | refine vP ?_ | refine vQ ?_ | refine vT ?_ | refine vF ?_ | refine br_and ?_ | refine br_or ?_ | refine br_d (fun _ => ?_) fun _ => ?_ | refine vM (fun _ => ?_) fun _ => ?_)
      refine ⟨(i + 1, m), ⟨by dsimp only; omega, by dsimp only; omega, i3⟩, by dsimp only; omega, ?_⟩
      first | (refine ⟨⟨[some 0, some 1], [], rfl, rfl, ?_, ?_⟩⟩ <;> (repeat' ((conv => whnf); first | with_reducible exact True.intro | exact vW | with_reducible refine And.intro ?_ ?_)) <;> fail)
  · refine ⟨_, _, [some 0, some 1], [], rfl, rfl, ?_, ?_, h m p2 (by omega) (by omega) (by omega) i3⟩
    · repeat' ((conv => whnf); first | with_reducible exact True.intro | exact vW | with_reducible refine And.intro ?_ ?_)
    · repeat' ((conv => whnf); first | with_reducible exact True.intro | exact vW | with_reducible refine And.intro ?_ ?_)
def drawnL (l : List Dd) : Prop := l.length ≤ 6 ∧ ∀ a ∈ l, drawnA a
def C252 : List AV → (AV → Prop) → Prop := con (X := List Int) (fun l => [slB l]) bytesI fun _ K => ∀ l, drawnL l → K (slD l)
theorem drawnA9 : drawnA ⟨9, 0, 0, ⟨#[]⟩⟩ := ⟨⟨by decide, by decide⟩, ⟨by decide, by decide⟩, ⟨by decide, by decide⟩, Nat.zero_le _⟩
theorem F252 : FF 36 C252 := by
  refine fitXE [] (by simp) [(40, C42), (70, C260), (55, C53)] (by simp only [List.mem_cons, List.not_mem_nil, or_false]; rintro _ (rfl | rfl | rfl) <;> first | exact F42 | exact F260 | exact F53) Tryd.f36 ⟨rfl, by decide +kernel, by decide +kernel⟩ (fun _ _ _ hk h l hl => hk _ (h l hl)) ?_
  rintro l K hl h
  refine ⟨Nat.le_of_ble_eq_true rfl, ?_⟩
  repeat' ((conv => whnf); first | refine vA ?_ | with_reducible first | refine v8 ?_ | refine Sp.mk ?_ ?_ | refine vS ?_ | refine vR ?_ | refine vB ?_ | refine br_nt ?_ | refine br_tt ?_ | refine br_ff ?_ | refine vP ?_ | refine vQ ?_ | refine vT ?_ | refine vF ?_ | refine br_and ?_ | refine br_or ?_ | refine br_d (fun _ => ?_) fun _ => ?_ | refine vM (fun _ => ?_) fun _ => ?_)
  refine ⟨_, _, [], [], rfl, ?_, ?_, l, rfl, rfl, ⟨hl⟩, ?_⟩
  · repeat' ((conv => whnf); first | with_reducible exact True.intro | exact vW | with_reducible refine And.intro ?_ ?_)
  · repeat' ((conv => whnf); first | with_reducible exact True.intro | exact vW | with_reducible refine And.intro ?_ ?_)
  rintro b ⟨h1, h2, h3, h4⟩
  dsimp only
  repeat' ((conv => whnf); first | refine vA ?_ | with_reducible first | refine v8 ?_ | refine Sp.mk ?_ ?_ | refine vS ?_ | refine vR ?_ | refine vB ?_ | refine br_nt ?_ | refine br_tt ?_ | refine br_ff ?_ | refine vP ?_ | refine vQ ?_ | refine vT ?_ | refine vF ?_ | refine br_and ?_ | refine br_or ?_ | refine br_d (fun _ => ?_) fun _ => ?_ | refine vM (fun _ => ?_) fun _ => ?_)
  refine ⟨_, _, [0], [], rfl, ?_, ?_, ⟨b, 0⟩, rfl, rfl, ⟨h1, h2, by dsimp only; omega, by dsimp only; omega⟩, ?_⟩
  · repeat' ((conv => whnf); first | with_reducible exact True.intro | exact vW | with_reducible refine And.intro ?_ ?_)
  · repeat' ((conv => whnf); first | with_reducible exact True.intro | exact vW | with_reducible refine And.intro ?_ ?_)
  rintro m p1 y1 y2 y3 hm
  dsimp only at y1 y2 y3 ⊢
  repeat' ((conv => whnf); first | refine vA ?_ | with_reducible first | refine v8 ?_ | refine Sp.mk ?_ ?_ | refine vS ?_ | refine vR ?_ | refine vB ?_ | refine br_nt ?_ | refine br_tt ?_ | refine br_ff ?_ | refine vP ?_ | refine vQ ?_ | refine vT ?_ | refine vF ?_ | refine br_and ?_ | refine br_or ?_ | refine br_d (fun _ => ?_) fun _ => ?_ | refine vM (fun _ => ?_) fun _ => ?_)
  refine ⟨_, _, [0], [], rfl, ?_, ?_, (⟨b, p1⟩, 12), rfl, rfl, ⟨⟨h1, h2, by dsimp only; omega, by dsimp only; omega⟩, by unfold i64r; dsimp only; omega⟩, ?_⟩
  · repeat' ((conv => whnf); first | with_reducible exact True.intro | exact vW | with_reducible refine And.intro ?_ ?_)
  · repeat' ((conv => whnf); first | with_reducible exact True.intro | exact vW | with_reducible refine And.intro ?_ ?_)
  intro v p' v1 v2
  dsimp only at v1 v2 ⊢
  repeat' ((conv => whnf); first | refine vA ?_ | with_reducible first | refine v8 ?_ | refine Sp.mk ?_ ?_ | refine vS ?_ | refine vR ?_ | refine vB ?_ | refine br_nt ?_ | refine br_tt ?_ | refine br_ff ?_ | refine vP ?_ | refine vQ ?_ | refine vT ?_ | refine vF ?_ | refine br_and ?_ | refine br_or ?_ | refine br_d (fun _ => ?_) fun _ => ?_ | refine vM (fun _ => ?_) fun _ => ?_)
  · refine ⟨_, ?_, h (m ++ [⟨9, 0, 0, ⟨#[]⟩⟩]) ⟨by simp only [List.length_append, List.length_cons, List.length_nil]; omega, fun y hy => (List.mem_append.1 hy).elim (fun g => (hm y g).1) fun g => by rw [List.mem_singleton.1 g]; exact drawnA9⟩⟩
    repeat' ((conv => whnf); first | with_reducible exact True.intro | exact vW | with_reducible refine And.intro ?_ ?_)
    all_goals exact Chk.mk (ext_pushW (enc := encD) (d := default) (l := m) (x := ⟨9, 0, 0, ⟨#[]⟩⟩) rfl)
  · refine ⟨_, ?_, h m ⟨by omega, fun y hy => (hm y hy).1⟩⟩
    repeat' ((conv => whnf); first | with_reducible exact True.intro | exact vW | with_reducible refine And.intro ?_ ?_)
    all_goals exact Chk.mk ⟨rfl, fun i _ => by dsimp only; (try rw [Nat.zero_add]); try rfl⟩
theorem wsum_le {l : List Dd} {M : Nat} (h : ∀ a ∈ l, a.words.size ≤ M) : ∀ i, i ≤ l.length → wsum l i ≤ M * i
  | 0, _ => Nat.le_refl _
  | i + 1, hi => by
    have h1 := wsum_le h i (by omega)
    have h2 := h _ (getD_mem' (d := default) hi)
    show wsum l i + _ ≤ _
    rw [Nat.mul_add, Nat.mul_one]
    omega
theorem drawnL.j {l : List Dd} (h : drawnL l) : jOk l := by
  have := wsum_le (M := 10000) (fun a ha => (h.2 a ha).w0) _ (Nat.le_refl l.length)
  have := h.1
  unfold jOk
  omega
theorem jT_le {l : List Dd} : (jT l).size ≤ wsum l l.length + 13 * l.length := by
  unfold jT
  split
  · exact Nat.zero_le _
  · exact jtx_size l _
theorem jr_jT {l : List Dd} (h : ∀ x ∈ l, okDd x) : jr (jT l) = l ∧ jn (jT l) = (jT l).size := by
  have e := jT_jl h
  have := isJr_jl h
  rw [← e] at this
  obtain ⟨g1, g2⟩ := jr_of this
  refine ⟨g1, g2.trans ?_⟩
  rw [← e, Array.length_toList]
  rfl
def C237 : List AV → (AV → Prop) → Prop := con (X := List Int) (fun l => [slB l]) bytesI fun _ K => K (.bool true)
theorem F237 : FF 9 C237 := by
  refine fitX [(36, C252), (38, C112), (37, C114), (15, C22), (39, C253)] (by simp only [List.mem_cons, List.not_mem_nil, or_false]; rintro _ (rfl | rfl | rfl | rfl | rfl) <;> first | exact F252 | exact F112 | exact F114 | exact F22 | exact F253) [(28, C247g)] (by simp only [List.mem_cons, List.not_mem_nil, or_false]; rintro _ rfl <;> first | exact F247g) Tryd.f9 ⟨rfl, by decide +kernel, by decide +kernel⟩ (by intro x K K2 hk h; (try dsimp only at h ⊢); intros; apply hk; first | exact h | (apply h <;> assumption)) ?_
  rintro l K hl h
  refine ⟨Nat.le_of_ble_eq_true rfl, ?_⟩
  have hll := hl.2
  repeat' ((conv => whnf); first | refine vA ?_ | with_reducible first | refine v8 ?_ | refine Sp.mk ?_ ?_ | refine vS ?_ | refine vR ?_ | refine vB ?_ | refine br_nt ?_ | refine br_tt ?_ | refine br_ff ?_ | refine vP ?_ | refine vQ ?_ | refine vT ?_ | refine vF ?_ | refine br_and ?_ | refine br_or ?_ | refine br_d (fun _ => ?_) fun _ => ?_ | refine vM (fun _ => ?_) fun _ => ?_)
  · exact h
  refine ⟨l, ?_, ⟨hl⟩, ?_⟩
  · repeat' ((conv => whnf); first | with_reducible exact True.intro | exact vW | with_reducible refine And.intro ?_ ?_)
  intro m hm
  have hj := hm.j
  have hm1 := hm.1
  have hsz := @jT_le m
  have hws := wsum_le (M := 10000) (fun a ha => (hm.2 a ha).w0) _ (Nat.le_refl m.length)
  repeat' ((conv => whnf); first | refine vA ?_ | with_reducible first | refine v8 ?_ | refine Sp.mk ?_ ?_ | refine vS ?_ | refine vR ?_ | refine vB ?_ | refine br_nt ?_ | refine br_tt ?_ | refine br_ff ?_ | refine vP ?_ | refine vQ ?_ | refine vT ?_ | refine vF ?_ | refine br_and ?_ | refine br_or ?_ | refine br_d (fun _ => ?_) fun _ => ?_ | refine vM (fun _ => ?_) fun _ => ?_)
  refine ⟨m, ?_, ⟨hj⟩, ?_⟩
  · repeat' ((conv => whnf); first | with_reducible exact True.intro | exact vW | with_reducible refine And.intro ?_ ?_)
  repeat' ((conv => whnf); first | refine vA ?_ | with_reducible first | refine v8 ?_ | refine Sp.mk ?_ ?_ | refine vS ?_ | refine vR ?_ | refine vB ?_ | refine br_nt ?_ | refine br_tt ?_ | refine br_ff ?_ | refine vP ?_ | refine vQ ?_ | refine vT ?_ | refine vF ?_ | refine br_and ?_ | refine br_or ?_ | refine br_d (fun _ => ?_) fun _ => ?_ | refine vM (fun _ => ?_) fun _ => ?_)
  refine ⟨m, ?_, ⟨hj⟩, ?_⟩
  · repeat' ((conv => whnf); first | with_reducible exact True.intro | exact vW | with_reducible refine And.intro ?_ ?_)
  have hself : jT m = jT m := rfl
  by_cases h0 : jT m = ⟨#[]⟩
  · repeat' ((conv => whnf); first | refine vA ?_ | with_reducible first | refine v8 ?_ | refine Sp.mk ?_ ?_ | refine vS ?_ | refine vR ?_ | refine vB ?_ | refine br_nt ?_ | refine br_tt ?_ | refine br_ff ?_ | refine vP ?_ | refine vQ ?_ | refine vT ?_ | refine vF ?_ | refine br_and ?_ | refine br_or ?_ | refine br_d (fun _ => ?_) fun _ => ?_ | refine vM (fun _ => ?_) fun _ => ?_)
    refine ⟨(), ?_, ⟨trivial⟩, ?_⟩
    · repeat' ((conv => whnf); first | with_reducible exact True.intro | exact vW | with_reducible refine And.intro ?_ ?_)
    repeat' ((conv => whnf); first | refine vA ?_ | with_reducible first | refine v8 ?_ | refine Sp.mk ?_ ?_ | refine vS ?_ | refine vR ?_ | refine vB ?_ | refine br_nt ?_ | refine br_tt ?_ | refine br_ff ?_ | refine vP ?_ | refine vQ ?_ | refine vT ?_ | refine vF ?_ | refine br_and ?_ | refine br_or ?_ | refine br_d (fun _ => ?_) fun _ => ?_ | refine vM (fun _ => ?_) fun _ => ?_)
    exact h
  · obtain ⟨e1, e2⟩ := jr_jT (jT_ne h0)
    repeat' ((conv => whnf); first | refine vA ?_ | with_reducible first | refine v8 ?_ | refine Sp.mk ?_ ?_ | refine vS ?_ | refine vR ?_ | refine vB ?_ | refine br_nt ?_ | refine br_tt ?_ | refine br_ff ?_ | refine vP ?_ | refine vQ ?_ | refine vT ?_ | refine vF ?_ | refine br_and ?_ | refine br_or ?_ | refine br_d (fun _ => ?_) fun _ => ?_ | refine vM (fun _ => ?_) fun _ => ?_)
    refine ⟨_, _, [], [], rfl, ?_, ?_, jT m, rfl, rfl, ⟨by omega⟩, ?_⟩
    · repeat' ((conv => whnf); first | with_reducible exact True.intro | exact vW | with_reducible refine And.intro ?_ ?_)
    · repeat' ((conv => whnf); first | with_reducible exact True.intro | exact vW | with_reducible refine And.intro ?_ ?_)
    dsimp only
    rw [e1, e2]
    repeat' ((conv => whnf); first | refine vA ?_ | with_reducible first | refine v8 ?_ | refine Sp.mk ?_ ?_ | refine vS ?_ | refine vR ?_ | refine vB ?_ | refine br_nt ?_ | refine br_tt ?_ | refine br_ff ?_ | refine vP ?_ | refine vQ ?_ | refine vT ?_ | refine vF ?_ | refine br_and ?_ | refine br_or ?_ | refine br_d (fun _ => ?_) fun _ => ?_ | refine vM (fun _ => ?_) fun _ => ?_)
    refine ⟨m, ?_, ⟨by omega⟩, ?_⟩
    · repeat' ((conv => whnf); first | with_reducible exact True.intro | exact vW | with_reducible refine And.intro ?_ ?_)
      all_goals exact Chk.mk ⟨rfl, fun i _ => by dsimp only; (try rw [Nat.zero_add]); try rfl⟩
    repeat' ((conv => whnf); first | refine vA ?_ | with_reducible first | refine v8 ?_ | refine Sp.mk ?_ ?_ | refine vS ?_ | refine vR ?_ | refine vB ?_ | refine br_nt ?_ | refine br_tt ?_ | refine br_ff ?_ | refine vP ?_ | refine vQ ?_ | refine vT ?_ | refine vF ?_ | refine br_and ?_ | refine br_or ?_ | refine br_d (fun _ => ?_) fun _ => ?_ | refine vM (fun _ => ?_) fun _ => ?_)
    simpa using h
def C234 : List AV → (AV → Prop) → Prop := con (X := ByteArray) (fun s => [.str s]) (fun s => s.size < 9223372036854775808) fun _ K => K (.bool true)
theorem F234 : FF 6 C234 := by
  refine fitX [(27, C246), (29, C115), (31, C249)] (by simp only [List.mem_cons, List.not_mem_nil, or_false]; rintro _ (rfl | rfl | rfl) <;> first | exact F246 | exact F115 | exact F249) [(28, C247g), (30, C248)] (by simp only [List.mem_cons, List.not_mem_nil, or_false]; rintro _ (rfl | rfl) <;> first | exact F247g | exact F248) Tryd.f6 ⟨rfl, by decide +kernel, by decide +kernel⟩ (by intro x K K2 hk h; (try dsimp only at h ⊢); intros; apply hk; first | exact h | (apply h <;> assumption)) ?_
  rintro s K hs h
  refine ⟨Nat.le_of_ble_eq_true rfl, ?_⟩
  repeat' ((conv => whnf); first | refine vA ?_ | with_reducible first | refine v8 ?_ | refine Sp.mk ?_ ?_ | refine vS ?_ | refine vR ?_ | refine vB ?_ | refine br_nt ?_ | refine br_tt ?_ | refine br_ff ?_ | refine vP ?_ | refine vQ ?_ | refine vT ?_ | refine vF ?_ | refine br_and ?_ | refine br_or ?_ | refine br_d (fun _ => ?_) fun _ => ?_ | refine vM (fun _ => ?_) fun _ => ?_)
  · exact h
  rename_i hl
  have hlen := jr_len s
  refine ⟨s, ?_, ⟨by omega⟩, ?_⟩
  · repeat' ((conv => whnf); first | with_reducible exact True.intro | exact vW | with_reducible refine And.intro ?_ ?_)
  repeat' ((conv => whnf); first | refine vA ?_ | with_reducible first | refine v8 ?_ | refine Sp.mk ?_ ?_ | refine vS ?_ | refine vR ?_ | refine vB ?_ | refine br_nt ?_ | refine br_tt ?_ | refine br_ff ?_ | refine vP ?_ | refine vQ ?_ | refine vT ?_ | refine vF ?_ | refine br_and ?_ | refine br_or ?_ | refine br_d (fun _ => ?_) fun _ => ?_ | refine vM (fun _ => ?_) fun _ => ?_)
  refine ⟨_, _, [], [], rfl, ?_, ?_, s, rfl, rfl, ⟨by omega⟩, ?_⟩
  · repeat' ((conv => whnf); first | with_reducible exact True.intro | exact vW | with_reducible refine And.intro ?_ ?_)
  · repeat' ((conv => whnf); first | with_reducible exact True.intro | exact vW | with_reducible refine And.intro ?_ ?_)
  dsimp only
  repeat' ((conv => whnf); first | refine vA ?_ | with_reducible first | refine v8 ?_ | refine Sp.mk ?_ ?_ | refine vS ?_ | refine vR ?_ | refine vB ?_ | refine br_nt ?_ | refine br_tt ?_ | refine br_ff ?_ | refine vP ?_ | refine vQ ?_ | refine vT ?_ | refine vF ?_ | refine br_and ?_ | refine br_or ?_ | refine br_d (fun _ => ?_) fun _ => ?_ | refine vM (fun _ => ?_) fun _ => ?_)
  refine ⟨jr s, ?_, ⟨by omega⟩, ?_⟩
  · repeat' ((conv => whnf); first | with_reducible exact True.intro | exact vW | with_reducible refine And.intro ?_ ?_)
    all_goals exact Chk.mk ⟨rfl, fun i _ => by dsimp only; (try rw [Nat.zero_add]); try rfl⟩
  repeat' ((conv => whnf); first | refine vA ?_ | with_reducible first | refine v8 ?_ | refine Sp.mk ?_ ?_ | refine vS ?_ | refine vR ?_ | refine vB ?_ | refine br_nt ?_ | refine br_tt ?_ | refine br_ff ?_ | refine vP ?_ | refine vQ ?_ | refine vT ?_ | refine vF ?_ | refine br_and ?_ | refine br_or ?_ | refine br_d (fun _ => ?_) fun _ => ?_ | refine vM (fun _ => ?_) fun _ => ?_)
  refine ⟨_, _, [0], [], rfl, ?_, ?_, ⟨jr s, 1⟩, rfl, rfl, ⟨by dsimp only; omega, by dsimp only; omega, by dsimp only; omega⟩, ?_⟩
  · repeat' ((conv => whnf); first | with_reducible exact True.intro | exact vW | with_reducible refine And.intro ?_ ?_)
  · repeat' ((conv => whnf); first | with_reducible exact True.intro | exact vW | with_reducible refine And.intro ?_ ?_)
  dsimp only
  have hm : (jr s).length = (mkDs 1 (jr s).length).length ∧ ∀ i, i < (jr s).length → encD ((mkDs 1 (jr s).length).getD (0 + i) default) = encD ((mkDs 1 (jr s).length).getD i default) := ⟨(mkDs_len _ _).symm, fun i _ => by rw [Nat.zero_add]⟩
  repeat' ((conv => whnf); first | refine vA ?_ | with_reducible first | refine v8 ?_ | refine Sp.mk ?_ ?_ | refine vS ?_ | refine vR ?_ | refine vB ?_ | refine br_nt ?_ | refine br_tt ?_ | refine br_ff ?_ | refine vP ?_ | refine vQ ?_ | refine vT ?_ | refine vF ?_ | refine br_and ?_ | refine br_or ?_ | refine br_d (fun _ => ?_) fun _ => ?_ | refine vM (fun _ => ?_) fun _ => ?_)
  refine ⟨⟨(jr s).length, 1⟩, ?_, ⟨by dsimp only; omega, by dsimp only; omega, by dsimp only; omega⟩, ?_⟩
  · repeat' ((conv => whnf); first | with_reducible exact True.intro | exact vW | with_reducible refine And.intro ?_ ?_)
    all_goals exact Chk.mk hm
  dsimp only
  repeat' ((conv => whnf); first | refine vA ?_ | with_reducible first | refine v8 ?_ | refine Sp.mk ?_ ?_ | refine vS ?_ | refine vR ?_ | refine vB ?_ | refine br_nt ?_ | refine br_tt ?_ | refine br_ff ?_ | refine vP ?_ | refine vQ ?_ | refine vT ?_ | refine vF ?_ | refine br_and ?_ | refine br_or ?_ | refine br_d (fun _ => ?_) fun _ => ?_ | refine vM (fun _ => ?_) fun _ => ?_)
  refine ⟨_, _, [], [], rfl, ?_, ?_, s, rfl, rfl, ⟨by omega⟩, ?_⟩
  · repeat' ((conv => whnf); first | with_reducible exact True.intro | exact vW | with_reducible refine And.intro ?_ ?_)
  · repeat' ((conv => whnf); first | with_reducible exact True.intro | exact vW | with_reducible refine And.intro ?_ ?_)
  dsimp only
  repeat' ((conv => whnf); first | refine vA ?_ | with_reducible first | refine v8 ?_ | refine Sp.mk ?_ ?_ | refine vS ?_ | refine vR ?_ | refine vB ?_ | refine br_nt ?_ | refine br_tt ?_ | refine br_ff ?_ | refine vP ?_ | refine vQ ?_ | refine vT ?_ | refine vF ?_ | refine br_and ?_ | refine br_or ?_ | refine br_d (fun _ => ?_) fun _ => ?_ | refine vM (fun _ => ?_) fun _ => ?_)
  refine ⟨jr s, ?_, ⟨by omega⟩, ?_⟩
  · repeat' ((conv => whnf); first | with_reducible exact True.intro | exact vW | with_reducible refine And.intro ?_ ?_)
    all_goals exact Chk.mk ⟨rfl, fun i _ => by dsimp only; (try rw [Nat.zero_add]); try rfl⟩
  repeat' ((conv => whnf); first | refine vA ?_ | with_reducible first | refine v8 ?_ | refine Sp.mk ?_ ?_ | refine vS ?_ | refine vR ?_ | refine vB ?_ | refine br_nt ?_ | refine br_tt ?_ | refine br_ff ?_ | refine vP ?_ | refine vQ ?_ | refine vT ?_ | refine vF ?_ | refine br_and ?_ | refine br_or ?_ | refine br_d (fun _ => ?_) fun _ => ?_ | refine vM (fun _ => ?_) fun _ => ?_)
  refine ⟨⟨(jr s).length, 1⟩, ?_, ⟨by dsimp only; omega, by dsimp only; omega, by dsimp only; omega⟩, ?_⟩
  · repeat' ((conv => whnf); first | with_reducible exact True.intro | exact vW | with_reducible refine And.intro ?_ ?_)
    all_goals exact Chk.mk hm
  dsimp only
  repeat' ((conv => whnf); first | refine vA ?_ | with_reducible first | refine v8 ?_ | refine Sp.mk ?_ ?_ | refine vS ?_ | refine vR ?_ | refine vB ?_ | refine br_nt ?_ | refine br_tt ?_ | refine br_ff ?_ | refine vP ?_ | refine vQ ?_ | refine vT ?_ | refine vF ?_ | refine br_and ?_ | refine br_or ?_ | refine br_d (fun _ => ?_) fun _ => ?_ | refine vM (fun _ => ?_) fun _ => ?_)
  exact h
end Go.Proofs.YtjefkdhecccfpaaDoor.Vc
end
section
/- The row of FnExactReadJournal: for every input it returns true. -/
namespace Go.Proofs.YtjefkdhecccfpaaDoor.Vc
open Go.Proofs Go.ChangeShapes Go.WideShapes Go.ChangeAt Go.RowKit
open Go.Proofs.YtjefkdhecccfpaaDoor
set_option maxRecDepth 100000
theorem metFnExactReadJournal (os : Os) (args : Array Value) : laidMet Tryd.prog Rows.fnExactReadJournalRow.laid ((World.laidAll Tryd.prog os Rows.fnExactReadJournalRow.laid).forCall (fun _ _ => 0) ⟨#[], args, []⟩).memory :=
  laidMet_laidAll args (by kernel_rfl) (by kernel_rfl)
theorem goodFnExactReadJournal {W : World} (h : laidMet Tryd.prog Rows.fnExactReadJournalRow.laid W) (hs : W.ShapedOpen Tryd.prog) : Good W :=
  ⟨Lib.tabIs_of_head (rest := []) rfl rfl rfl rfl (by kernel_rfl) (by kernel_rfl) (h.filter fun x => x.1 == "internal/strconv.uint64pow10"),
  hold_len (g := 0) (zero := #[.int .i64 0]) (t := 3) hs (by kernel_rfl) (of_decide_eq_true (by kernel_rfl)) (by kernel_rfl) rfl (by kernel_rfl) (by kernel_rfl) Tryd.underlying3,
  (hold_err (g := 1) (r := []) (ti := 130) (tp := 182) (te := 184) (ts := 9) (h.filter fun x => x.1 == "strconv.ErrSyntax") (by kernel_rfl) (by kernel_rfl) Tryd.underlying130 (by rw [star]; kernel_rfl) (by kernel_rfl) Tryd.underlying182 Tryd.underlying184 rfl rfl Tryd.underlying9 (by kernel_rfl) (by kernel_rfl)),
  (hold_err (g := 2) (r := []) (ti := 130) (tp := 182) (te := 184) (ts := 9) (h.filter fun x => x.1 == "strconv.ErrRange") (by kernel_rfl) (by kernel_rfl) Tryd.underlying130 (by rw [star]; kernel_rfl) (by kernel_rfl) Tryd.underlying182 Tryd.underlying184 rfl rfl Tryd.underlying9 (by kernel_rfl) (by kernel_rfl))⟩
theorem liftedFnExactReadJournal (os : Os) (started : os.Started) (H : Type) (enc : TypeId × Value → H) :
    ReturnsInHanded {} Tryd.checked os 6 .any (fun w args => (Rows.fnExactReadJournalSpec.pre enc Tryd.prog Tryd.f6 [] false w args ∧ laidMet Tryd.prog Rows.fnExactReadJournalRow.laid w) ∧ sizedMet enc Tryd.prog Tryd.f6 (OpenSpec.ofChange Rows.fnExactReadJournalSpec) false w args)
      (Rows.fnExactReadJournalSpec.post enc Tryd.prog Tryd.f6 false true false false) := by
  refine returns_and_shaped (C := Tryd.checked) (X := fun w _ => laidMet Tryd.prog Rows.fnExactReadJournalRow.laid w) (fun _ _ _ hh h => h.of_heap hh) own started (by kernel_rfl) Tryd.func6
    (ChangeSpec.witness_at (enc := enc) (C := Tryd.checked) (os := os) (X := fun w _ => laidMet Tryd.prog Rows.fnExactReadJournalRow.laid w) false (World.laidAll Tryd.prog os Rows.fnExactReadJournalRow.laid) #[.string ⟨#[]⟩] 8 (World.laidAll_os _ _ _) (by kernel_rfl) (by kernel_rfl) (by kernel_rfl) (by kernel_rfl) (by kernel_rfl) (metFnExactReadJournal os _)) ?_
  intro W base args ds gs before hval0 hW hsh hL
  have hval : ∀ (j : Nat) t v, Tryd.f6.params[j]? = some t → args[j]? = some v → Value.okWide Tryd.prog W .any base t v := hval0
  have hW' := hW
  obtain ⟨p, q, hA0, hV, rfl, hfz, hnd⟩ := hW
  have hA : DataW.TrodAll enc Tryd.prog W 0 (fun _ => true) true Tryd.f6.params.toList args.toList ds p := hA0
  rw [Tryd.params6] at hA hval
  obtain ⟨v0, vs0, d0, ds0, p0, q0, hargs, rfl, rfl, h0, r0⟩ := trodAll_cons hA
  obtain ⟨rfl, rfl, rfl⟩ := trodAll_nil r0
  obtain rfl : args = #[v0] := by cases args; simp_all
  obtain ⟨rfl, rfl⟩ := trodVars_none hV
  have lt0 : ∀ x ∈ p0, x.block < W.heap.size := by obtain ⟨m, hm⟩ := h0; exact DataW.trod_lt m _ _ _ hm
  obtain ⟨x0, rfl, b0⟩ := op_str Tryd.underlying9 (hval 0 9 v0 rfl rfl) h0
  refine (FF.below F234 (us := [.str x0]) (b := true) ⟨x0, ?_, ⟨b0⟩, rfl⟩ (goodFnExactReadJournal hL hsh) ⟨rfl, fun j hj => ?_⟩).mono fun e W' ⟨he, bel⟩ => ?_
  · repeat' ((conv => whnf); first | with_reducible exact True.intro | exact vW | with_reducible refine And.intro ?_ ?_)
  · match j, hj with
    | 0, _ => exact .data (.str _)
  subst he
  exact ⟨_, rfl, _, _, _, [], _, [], hW', trodAll_mk1 (shut_bool Tryd.underlying4 _), (trodAll_cons_mk (Below.trod laidOut (by kernel_rfl) (of_decide_eq_true (by kernel_rfl)) h0 bel lt0) trodAll_mk0), rfl, bel.frame _, fun h => by cases h⟩
theorem FnExactReadJournal_holds : Rows.FnExactReadJournalSaid :=
  OpenClaim.holds_of_wide 6 Tryd.f6 rfl rfl rfl rfl rfl rfl rfl ⟨rfl, rfl, rfl, rfl, rfl⟩ rfl rfl rfl rfl rfl (by kernel_rfl) Tryd.func6 (by kernel_rfl)
    (of_decide_eq_true (by kernel_rfl)) (by unfold Func.isWrapper; first | (rw [if_pos (by decide +kernel)]; kernel_rfl) | (rw [if_neg (by decide +kernel)]; exact ⟨rfl, rfl⟩))
    (fun os started H enc _ => liftedFnExactReadJournal os started H enc)
end Go.Proofs.YtjefkdhecccfpaaDoor.Vc
end
