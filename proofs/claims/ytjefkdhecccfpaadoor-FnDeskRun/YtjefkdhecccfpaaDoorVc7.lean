/- Part XK: a deed at a desk, by the implementation. -/
import Derived.Test.YtjefkdhecccfpaaDoorVc6
section
namespace Go.Proofs.YtjefkdhecccfpaaDoor.Vc
open Go.Proofs
set_option maxRecDepth 10000
set_option maxHeartbeats 4000000
def C261 : GC := conG (X := Desk) (fun d => [enDe d]) (fun _ => []) shortD fun d K => K (deG d) [psO d.past]
theorem F261 : GG 77 C261 := by
  refine fitG [(104, C157)] (by simp only [List.mem_cons, List.not_mem_nil, or_false]; rintro _ rfl <;> first | exact F157) [] (by simp) Tryd.f77 ⟨rfl, by decide +kernel, by decide +kernel⟩ (by intro x K K2 hk h; (try dsimp only at h ⊢); intros; apply hk; first | exact h | (apply h <;> assumption)) ?_
  rintro ⟨⟨p, bs, rs⟩, l⟩ K ⟨h1, h2, h3⟩ h
  refine ⟨Nat.le_of_ble_eq_true rfl, ?_⟩
  unfold deG psO at h
  dsimp only [enDe, deC] at h h1 h2 h3 ⊢
  repeat' ((conv => whnf); first | refine vA ?_ | with_reducible first | refine v8 ?_ | refine Sp.mk ?_ ?_ | refine vS ?_ | refine vR ?_ | refine vB ?_ | refine br_nt ?_ | refine br_tt ?_ | refine br_ff ?_ | refine vP ?_ | refine vQ ?_ | refine vT ?_ | refine vF ?_ | refine br_and ?_ | refine br_or ?_ | refine br_d (fun _ => ?_) fun _ => ?_ | refine vM (fun _ => ?_) fun _ => ?_)
  refine ⟨⟨p, bs, rs⟩, ?_, ⟨h1⟩, ?_⟩
  · repeat' ((conv => whnf); first | with_reducible exact True.intro | exact vW | with_reducible refine And.intro ?_ ?_)
  dsimp only [enPl, plC]
  repeat' ((conv => whnf); first | refine vA ?_ | with_reducible first | refine v8 ?_ | refine Sp.mk ?_ ?_ | refine vS ?_ | refine vR ?_ | refine vB ?_ | refine br_nt ?_ | refine br_tt ?_ | refine br_ff ?_ | refine vP ?_ | refine vQ ?_ | refine vT ?_ | refine vF ?_ | refine br_and ?_ | refine br_or ?_ | refine br_d (fun _ => ?_) fun _ => ?_ | refine vM (fun _ => ?_) fun _ => ?_)
  refine Lp.mk ⟨Nat, fun i => [(1, .ptr 0 0), (2, .ptr 1 0), (3, .ptr 2 0), (11, slP l), (12, .int .i64 l.length), (13, .int .i64 i)], fun i => [.box (deC ⟨⟨p, bs, rs⟩, l⟩), .box [.int .i64 0, .nils, .nils, .nils], .box [.int .i64 p, slI bs, slS rs, .row 3 3 0 (l.take i).length], psO (l.take i)], fun i => i ≤ l.length, fun i => l.length - i, ⟨0, Nat.zero_le _, ⟨⟨[some 0, some 1, some 2, none], [], rfl, rfl, ?_, ?_⟩⟩⟩, ?_⟩
  · repeat' ((conv => whnf); first | with_reducible exact True.intro | exact vW | with_reducible refine And.intro ?_ ?_)
  · repeat' ((conv => whnf); first | with_reducible exact True.intro | exact vW | with_reducible refine And.intro ?_ ?_)
  intro i i1
  dsimp only [deC, psO]
  have hti : (l.take i).length ≤ 100000 := by rw [List.length_take]; omega
  repeat' ((conv => whnf); first | refine vA ?_ | with_reducible first | refine v8 ?_ | refine Sp.mk ?_ ?_ | refine vS ?_ | refine vR ?_ | refine vB ?_ | refine br_nt ?_ | refine br_tt ?_ | refine br_ff ?_ | refine vP ?_ | refine vQ ?_ | refine vT ?_ | refine vF ?_ | refine br_and ?_ | refine br_or ?_ | refine br_d (fun _ => ?_) fun _ => ?_ | refine vM (fun _ => ?_) fun _ => ?_)
  · rename_i hi
    have hi : i < l.length := by omega
    have hsn : l.take (i + 1) = l.take i ++ [l.getD i default] := take_succ' default hi
    refine Dr.mk ⟨(.rd 0 (.rd 1 (.rd 2 (.ef 3 (.ef 4 (.ef 5 (.rd 6 (.ef 7 .dn .no)) .no) .no) .no)))), by decide +kernel, ?_⟩
    repeat' ((conv => whnf); first | refine vA ?_ | with_reducible first | refine v8 ?_ | refine Sp.mk ?_ ?_ | refine vS ?_ | refine vR ?_ | refine vB ?_ | refine br_nt ?_ | refine br_tt ?_ | refine br_ff ?_ | refine vP ?_ | refine vQ ?_ | refine vT ?_ | refine vF ?_ | refine br_and ?_ | refine br_or ?_ | refine br_d (fun _ => ?_) fun _ => ?_ | refine vM (fun _ => ?_) fun _ => ?_)
    all_goals
      refine ⟨l.getD i default, ?_, ⟨h3 _ (getD_mem' hi)⟩, ?_⟩
      · repeat' ((conv => whnf); first | with_reducible exact True.intro | exact vW | with_reducible refine And.intro ?_ ?_)
      dsimp only [enPl, plC]
      repeat' ((conv => whnf); first | refine vA ?_ | with_reducible first | refine v8 ?_ | refine Sp.mk ?_ ?_ | refine vS ?_ | refine vR ?_ | refine vB ?_ | refine br_nt ?_ | refine br_tt ?_ | refine br_ff ?_ | refine vP ?_ | refine vQ ?_ | refine vT ?_ | refine vF ?_ | refine br_and ?_ | refine br_or ?_ | refine br_d (fun _ => ?_) fun _ => ?_ | refine vM (fun _ => ?_) fun _ => ?_)
    all_goals
      refine ⟨i + 1, by omega, by omega, ?_⟩
      first | (refine ⟨⟨[some 0, some 1, some 2, some 6], [], rfl, rfl, ?_, ?_⟩⟩ <;> (repeat' ((conv => whnf); first | with_reducible exact True.intro | exact vW | with_reducible refine And.intro ?_ ?_ | exact Chk.mk ⟨rfl, by rw [hsn, List.length_append]; rfl⟩ | exact Chk.mk (by rw [hsn]; exact ext_push (enc := plC) (d := default) (l := l.take i) (x := l.getD i default) rfl))) <;> fail) | (refine ⟨⟨[some 0, some 1, some 2, some 5], [], rfl, rfl, ?_, ?_⟩⟩ <;> (repeat' ((conv => whnf); first | with_reducible exact True.intro | exact vW | with_reducible refine And.intro ?_ ?_ | exact Chk.mk ⟨rfl, by rw [hsn, List.length_append]; rfl⟩ | exact Chk.mk (by rw [hsn]; exact ext_push (enc := plC) (d := default) (l := l.take i) (x := l.getD i default) rfl))) <;> fail) | (refine ⟨⟨[some 0, some 1, some 2, some 4], [], rfl, rfl, ?_, ?_⟩⟩ <;> (repeat' ((conv => whnf); first | with_reducible exact True.intro | exact vW | with_reducible refine And.intro ?_ ?_ | exact Chk.mk ⟨rfl, by rw [hsn, List.length_append]; rfl⟩ | exact Chk.mk (by rw [hsn]; exact ext_push (enc := plC) (d := default) (l := l.take i) (x := l.getD i default) rfl))) <;> fail)
  · rename_i hi
    rw [List.take_of_length_le (by omega)]
    repeat' ((conv => whnf); first | refine vA ?_ | with_reducible first | refine v8 ?_ | refine Sp.mk ?_ ?_ | refine vS ?_ | refine vR ?_ | refine vB ?_ | refine br_nt ?_ | refine br_tt ?_ | refine br_ff ?_ | refine vP ?_ | refine vQ ?_ | refine vT ?_ | refine vF ?_ | refine br_and ?_ | refine br_or ?_ | refine br_d (fun _ => ?_) fun _ => ?_ | refine vM (fun _ => ?_) fun _ => ?_)
    refine ⟨_, _, [some 3], [], rfl, rfl, ?_, ?_, h⟩
    · repeat' ((conv => whnf); first | with_reducible exact True.intro | exact vW | with_reducible refine And.intro ?_ ?_)
    · repeat' ((conv => whnf); first | with_reducible exact True.intro | exact vW | with_reducible refine And.intro ?_ ?_)
theorem doD_back0 {d : Desk} (h : d.past.length = 0) : doD d backD = none := by
  unfold doD
  rw [if_neg (by omega), show madeP d.now backD = default from made_n (by decide) (by decide) (by decide) (by decide), if_neg fun q => no_place q.1]
theorem doD_back1 {d : Desk} (h : 0 < d.past.length) : doD d backD = some ⟨d.past.getD (d.past.length - 1) default, d.past.take (d.past.length - 1)⟩ := if_pos ⟨rfl, h⟩
theorem doD_bad {d : Desk} {a : Dd} (ha : a ≠ backD) (h : ¬ placeOk (madeP d.now a)) : doD d a = none := by
  unfold doD
  rw [if_neg fun q => ha q.1, if_neg fun q => h q.1]
theorem doD_same {d : Desk} {a : Dd} (ha : a ≠ backD) (h : madeP d.now a = d.now) : doD d a = none := by
  unfold doD
  rw [if_neg fun q => ha q.1, h, if_neg fun q => q.2 rfl]
theorem doD_new {d : Desk} {a : Dd} (ha : a ≠ backD) (hO : placeOk d.now) (h : placeOk (madeP d.now a)) (hn : madeP d.now a ≠ d.now) : doD d a = some ⟨madeP d.now a, pushP d.past d.now⟩ := by
  unfold doD
  rw [if_neg fun q => ha q.1, if_pos ⟨h, fun e => hn (plT_inj h hO (by unfold ptext at e; rwa [if_pos h, if_pos hO] at e))⟩]
theorem takeP_get {L : List Place} {n i : Nat} (h : i < n) : (L.take n).getD i default = L.getD i default := by
  rw [List.getD_eq_getElem?_getD, List.getD_eq_getElem?_getD, List.getElem?_take_of_lt h]
theorem takeP_ext {l : List Place} {n : Nat} (hn : n ≤ l.length) : (l.take n).length = n - Int.toNat 0 ∧ ∀ i, i < (l.take n).length → plC ((l.take n).getD i default) = plC (l.getD (Int.toNat 0 + i) default) := ⟨by rw [List.length_take]; show _ = n - 0; omega, fun i hi => by
  rw [List.length_take] at hi
  rw [takeP_get (by omega)]
  show _ = plC (l.getD (0 + i) default)
  rw [Nat.zero_add]⟩
theorem pushP_ext {l : List Place} {x : Place} {g : Nat → List AV} (hg : g 0 = plC x) (h : l.length + 1 > 8) : (pushP l x).length = ((l.length + 1 : Nat) : Int).toNat - Int.toNat 1 ∧ ∀ i, i < (pushP l x).length → plC ((pushP l x).getD i default) = appF l.length (fun i => plC (l.getD i default)) g (0 + Int.toNat 1 + i) := by
  have e : pushP l x = (l ++ [x]).drop 1 := if_pos (by rw [List.length_append]; exact h)
  have := ext_dropV (enc := plC) (d := default) (l := l) (x := x) (g := g) hg
  rw [e]
  exact ⟨this.1.symm, fun i hi => (this.2 i (by rw [this.1]; exact hi)).symm⟩
theorem pushP_ext' {l : List Place} {x : Place} {g : Nat → List AV} (hg : g 0 = plC x) (h : ¬ l.length + 1 > 8) : (pushP l x).length = l.length + 1 ∧ ∀ i, i < (pushP l x).length → plC ((pushP l x).getD i default) = appF l.length (fun i => plC (l.getD i default)) g (0 + i) := by
  have e : pushP l x = l ++ [x] := if_neg (by rw [List.length_append]; exact h)
  have := ext_push (enc := plC) (d := default) (l := l) (x := x) (g := g) hg
  rw [e]
  exact ⟨this.1, fun i hi => by rw [Nat.zero_add]; exact this.2 i hi⟩
def C254 : List AV → (AV → Prop) → Prop := con (X := De) (fun x => [enDe x.d, ded x.a]) (fun x => deskI x.d ∧ deskOk x.d ∧ dedI x.a) fun x K => K (.tup [enDe ((doD x.d x.a).getD x.d), .bool (doD x.d x.a).isSome])
theorem F254 : FF 44 C254 := by
  refine fitXE [(78, C262), (74, C152), (79, C263)] (by simp only [List.mem_cons, List.not_mem_nil, or_false]; rintro _ (rfl | rfl | rfl) <;> first | exact F262 | exact F152 | exact F263) [(77, C261)] (by simp only [List.mem_cons, List.not_mem_nil, or_false]; rintro _ rfl; exact F261) Tryd.f44 ⟨rfl, by decide +kernel, by decide +kernel⟩ (fun _ _ _ hk h => hk _ h) ?_
  rintro ⟨⟨⟨p, bs, rs⟩, l⟩, ⟨k, a, b, w⟩⟩ K ⟨hI, hO, ha⟩ h
  refine ⟨Nat.le_of_ble_eq_true rfl, ?_⟩
  have hs := deskOk_short hO
  have hs2 := hO.2.1
  dsimp only [enDe, deC, ded, encD] at hI ha hs2 ⊢
  repeat' ((conv => whnf); first | refine vA ?_ | with_reducible first | refine v8 ?_ | refine Sp.mk ?_ ?_ | refine vS ?_ | refine vR ?_ | refine vB ?_ | refine br_nt ?_ | refine br_tt ?_ | refine br_ff ?_ | refine vP ?_ | refine vQ ?_ | refine vT ?_ | refine vF ?_ | refine br_and ?_ | refine br_or ?_ | refine br_d (fun _ => ?_) fun _ => ?_ | refine vM (fun _ => ?_) fun _ => ?_)
  refine ⟨_, _, [], [], rfl, ?_, ?_, ⟨⟨p, bs, rs⟩, l⟩, rfl, rfl, ⟨hs⟩, ?_⟩
  · repeat' ((conv => whnf); first | with_reducible exact True.intro | exact vW | with_reducible refine And.intro ?_ ?_)
  · repeat' ((conv => whnf); first | with_reducible exact True.intro | exact vW | with_reducible refine And.intro ?_ ?_)
  dsimp only [deG, psO]
  replace h : K (.tup [enDe ((doD ⟨⟨p, bs, rs⟩, l⟩ ⟨k, a, b, w⟩).getD ⟨⟨p, bs, rs⟩, l⟩), .bool (doD ⟨⟨p, bs, rs⟩, l⟩ ⟨k, a, b, w⟩).isSome]) := h
  repeat' ((conv => whnf); first | with_reducible refine wk_at 4 ?_ | with_reducible refine wk_at1 4 ?_ | with_reducible refine wk_at2 4 ?_ | refine vA ?_ | with_reducible first | refine v8 ?_ | refine Sp.mk ?_ ?_ | refine vS ?_ | refine vR ?_ | refine vB ?_ | refine br_nt ?_ | refine br_tt ?_ | refine br_ff ?_ | refine vP ?_ | refine vQ ?_ | refine vT ?_ | refine vF ?_ | refine br_and ?_ | refine br_or ?_ | refine br_d (fun _ => ?_) fun _ => ?_ | refine vM (fun _ => ?_) fun _ => ?_)
  · rename_i q1 q2 q3 q4
    obtain rfl : k = 4 := q1
    obtain rfl : a = 0 := q2
    obtain rfl : b = 0 := q3
    obtain rfl : w = ⟨#[]⟩ := q4
    refine ⟨Wk.go [(4, .ptr 0 0), (6, .ptr 1 0), (7, .int .i64 ((l.length : Int) - 1))] [.box [.int .i64 0, .nils, .nils, .nils], .box (deC ⟨⟨p, bs, rs⟩, l⟩)] ⟨⟨[some 2, some 4], [3], rfl, rfl, ?_, ?_⟩⟩ ?_⟩
    · repeat' ((conv => whnf); first | with_reducible exact True.intro | exact vW | with_reducible refine And.intro ?_ ?_)
    · repeat' ((conv => whnf); first | with_reducible exact True.intro | exact vW | with_reducible refine And.intro ?_ ?_)
      all_goals exact Chk.mk ⟨rfl, by omega, fun i _ => by dsimp only; (try rw [Nat.zero_add]); try rfl⟩
    dsimp only [deC]
    by_cases hl : l.length = 0
    · rw [show doD ⟨⟨p, bs, rs⟩, l⟩ ⟨4, 0, 0, ⟨#[]⟩⟩ = none from doD_back0 hl] at h
      repeat' ((conv => whnf); first | refine vA ?_ | with_reducible first | refine v8 ?_ | refine Sp.mk ?_ ?_ | refine vS ?_ | refine vR ?_ | refine vB ?_ | refine br_nt ?_ | refine br_tt ?_ | refine br_ff ?_ | refine vP ?_ | refine vQ ?_ | refine vT ?_ | refine vF ?_ | refine br_and ?_ | refine br_or ?_ | refine br_d (fun _ => ?_) fun _ => ?_ | refine vM (fun _ => ?_) fun _ => ?_)
      refine ⟨_, ?_, h⟩
      repeat' ((conv => whnf); first | with_reducible exact True.intro | exact vW | with_reducible refine And.intro ?_ ?_)
    · have hlp : 0 < l.length := by omega
      have hm : l.getD (l.length - 1) default ∈ l := getD_mem' (by omega)
      rw [show doD ⟨⟨p, bs, rs⟩, l⟩ ⟨4, 0, 0, ⟨#[]⟩⟩ = some _ from doD_back1 hlp] at h
      have e1 : ((l.length : Int) - 1).toNat = l.length - 1 := by omega
      repeat' ((conv => whnf); first | refine vA ?_ | with_reducible first | refine v8 ?_ | refine Sp.mk ?_ ?_ | refine vS ?_ | refine vR ?_ | refine vB ?_ | refine br_nt ?_ | refine br_tt ?_ | refine br_ff ?_ | refine vP ?_ | refine vQ ?_ | refine vT ?_ | refine vF ?_ | refine br_and ?_ | refine br_or ?_ | refine br_d (fun _ => ?_) fun _ => ?_ | refine vM (fun _ => ?_) fun _ => ?_)
      refine Dr.mk ⟨(.rd 0 (.rd 1 (.rd 2 (.rd 3 (.rd 4 (.rd 5 (.rd 6 (.rd 7 (.rd 8 (.rd 9 (.ef 10 (.ef 11 (.rd 12 .dn) .no) .no))))))))))), by decide +kernel, ?_⟩
      repeat' ((conv => whnf); first | refine vA ?_ | with_reducible first | refine v8 ?_ | refine Sp.mk ?_ ?_ | refine vS ?_ | refine vR ?_ | refine vB ?_ | refine br_nt ?_ | refine br_tt ?_ | refine br_ff ?_ | refine vP ?_ | refine vQ ?_ | refine vT ?_ | refine vF ?_ | refine br_and ?_ | refine br_or ?_ | refine br_d (fun _ => ?_) fun _ => ?_ | refine vM (fun _ => ?_) fun _ => ?_)
      refine ⟨_, _, [], [], rfl, ?_, ?_, ⟨l.getD (l.length - 1) default, l.take (l.length - 1)⟩, rfl, rfl, ⟨⟨hs.2.2 _ hm, by dsimp only; rw [List.length_take]; omega, fun x hx => hs.2.2 x (List.mem_of_mem_take hx)⟩⟩, ?_⟩
      · rw [e1]
        repeat' ((conv => whnf); first | with_reducible exact True.intro | exact vW | with_reducible refine And.intro ?_ ?_)
        all_goals exact Chk.mk (takeP_ext (by omega))
      · repeat' ((conv => whnf); first | with_reducible exact True.intro | exact vW | with_reducible refine And.intro ?_ ?_)
      dsimp only [deG, psO]
      repeat' ((conv => whnf); first | refine vA ?_ | with_reducible first | refine v8 ?_ | refine Sp.mk ?_ ?_ | refine vS ?_ | refine vR ?_ | refine vB ?_ | refine br_nt ?_ | refine br_tt ?_ | refine br_ff ?_ | refine vP ?_ | refine vQ ?_ | refine vT ?_ | refine vF ?_ | refine br_and ?_ | refine br_or ?_ | refine br_d (fun _ => ?_) fun _ => ?_ | refine vM (fun _ => ?_) fun _ => ?_)
      refine ⟨_, ?_, h⟩
      repeat' ((conv => whnf); first | with_reducible exact True.intro | exact vW | with_reducible refine And.intro ?_ ?_)
      all_goals exact Chk.mk ⟨rfl, fun i _ => by dsimp only; (try rw [Nat.zero_add]); try rfl⟩
  all_goals
    have hnb : (⟨k, a, b, w⟩ : Dd) ≠ backD := by
      intro e
      have e3 := congrArg Dd.kind e
      have e4 := congrArg Dd.a e
      have e5 := congrArg Dd.b e
      have e6 := congrArg Dd.words e
      dsimp only [backD] at e3 e4 e5 e6
      first | omega | exact absurd e6 (by assumption)
    have hMI := madeP_I (a := ⟨k, a, b, w⟩) hI.1 hs.1 ha
    refine ⟨⟨⟨p, bs, rs⟩, ⟨k, a, b, w⟩⟩, ?_, ⟨hI.1, hO.1, ha⟩, ?_⟩
    · repeat' ((conv => whnf); first | with_reducible exact True.intro | exact vW | with_reducible refine And.intro ?_ ?_)
    intro y ok hy1 hy2
    dsimp only at hy1 hy2
    cases ok
    · have hno : doD ⟨⟨p, bs, rs⟩, l⟩ ⟨k, a, b, w⟩ = none := doD_bad hnb (by dsimp only; rw [hy2 rfl]; exact no_place)
      rw [hno] at h
      obtain ⟨yp, yb, yr⟩ := y
      dsimp only [enPl, plC]
      repeat' ((conv => whnf); first | refine vA ?_ | with_reducible first | refine v8 ?_ | refine Sp.mk ?_ ?_ | refine vS ?_ | refine vR ?_ | refine vB ?_ | refine br_nt ?_ | refine br_tt ?_ | refine br_ff ?_ | refine vP ?_ | refine vQ ?_ | refine vT ?_ | refine vF ?_ | refine br_and ?_ | refine br_or ?_ | refine br_d (fun _ => ?_) fun _ => ?_ | refine vM (fun _ => ?_) fun _ => ?_)
      refine ⟨_, ?_, h⟩
      repeat' ((conv => whnf); first | with_reducible exact True.intro | exact vW | with_reducible refine And.intro ?_ ?_)
      all_goals exact Chk.mk ⟨rfl, fun i _ => by dsimp only; (try rw [Nat.zero_add]); try rfl⟩
    · have hy := hy1 rfl
      rw [← hy] at hMI
      have eB := @doD_bad ⟨⟨p, bs, rs⟩, l⟩ ⟨k, a, b, w⟩ hnb
      have eS := @doD_same ⟨⟨p, bs, rs⟩, l⟩ ⟨k, a, b, w⟩ hnb
      have eN := @doD_new ⟨⟨p, bs, rs⟩, l⟩ ⟨k, a, b, w⟩ hnb hO.1
      dsimp only at eB eS eN
      rw [← hy] at eB eS eN
      obtain ⟨yp, yb, yr⟩ := y
      clear hy hy1 hy2
      dsimp only [enPl, plC]
      by_cases hp : placeOk ⟨yp, yb, yr⟩
      · repeat' ((conv => whnf); first | refine vA ?_ | with_reducible first | refine v8 ?_ | refine Sp.mk ?_ ?_ | refine vS ?_ | refine vR ?_ | refine vB ?_ | refine br_nt ?_ | refine br_tt ?_ | refine br_ff ?_ | refine vP ?_ | refine vQ ?_ | refine vT ?_ | refine vF ?_ | refine br_and ?_ | refine br_or ?_ | refine br_d (fun _ => ?_) fun _ => ?_ | refine vM (fun _ => ?_) fun _ => ?_)
        refine ⟨⟨yp, yb, yr⟩, ?_, ⟨hMI⟩, ?_⟩
        · repeat' ((conv => whnf); first | with_reducible exact True.intro | exact vW | with_reducible refine And.intro ?_ ?_)
        repeat' ((conv => whnf); first | refine vA ?_ | with_reducible first | refine v8 ?_ | refine Sp.mk ?_ ?_ | refine vS ?_ | refine vR ?_ | refine vB ?_ | refine br_nt ?_ | refine br_tt ?_ | refine br_ff ?_ | refine vP ?_ | refine vQ ?_ | refine vT ?_ | refine vF ?_ | refine br_and ?_ | refine br_or ?_ | refine br_d (fun _ => ?_) fun _ => ?_ | refine vM (fun _ => ?_) fun _ => ?_)
        refine ⟨⟨⟨yp, yb, yr⟩, ⟨p, bs, rs⟩⟩, ?_, ⟨hMI.1.2, hMI.2.1⟩, ?_⟩
        · repeat' ((conv => whnf); first | with_reducible exact True.intro | exact vW | with_reducible refine And.intro ?_ ?_)
        intro same hsame
        dsimp only at hsame
        cases same
        · have hne : (⟨yp, yb, yr⟩ : Place) ≠ ⟨p, bs, rs⟩ := fun e => by have := hsame.2 e; cases this
          rw [eN hp hne] at h
          have hpl : (pushP l ⟨p, bs, rs⟩).length ≤ 8 := pushP_len hs2
          have hpm := @pushP_mem l ⟨p, bs, rs⟩
          repeat' ((conv => whnf); first | with_reducible refine wk_at 13 ?_ | with_reducible refine wk_at1 13 ?_ | with_reducible refine wk_at2 13 ?_ | refine vA ?_ | with_reducible first | refine v8 ?_ | refine Sp.mk ?_ ?_ | refine vS ?_ | refine vR ?_ | refine vB ?_ | refine br_nt ?_ | refine br_tt ?_ | refine br_ff ?_ | refine vP ?_ | refine vQ ?_ | refine vT ?_ | refine vF ?_ | refine br_and ?_ | refine br_or ?_ | refine br_d (fun _ => ?_) fun _ => ?_ | refine vM (fun _ => ?_) fun _ => ?_)
          · rename_i h8
            have hx := pushP_ext (l := l) (x := ⟨p, bs, rs⟩) (g := fun i => (fun i => [plC ⟨p, bs, rs⟩].getD i (lookT TT 28).z) (0 + i)) rfl (by omega)
            generalize pushP l ⟨p, bs, rs⟩ = M at hpl hpm hx h ⊢
            refine ⟨Wk.go [(4, .ptr 0 0), (8, .ptr 1 0), (10, slP M)] [.box [.int .i64 0, .nils, .nils, .nils], .box [.int .i64 yp, slI yb, slS yr]] ⟨⟨[some 2, some 5], [7], rfl, rfl, ?_, ?_⟩⟩ ?_⟩
            · repeat' ((conv => whnf); first | with_reducible exact True.intro | exact vW | with_reducible refine And.intro ?_ ?_)
              all_goals exact Chk.mk ⟨hx.1, by omega, hx.2⟩
            · repeat' ((conv => whnf); first | with_reducible exact True.intro | exact vW | with_reducible refine And.intro ?_ ?_)
            repeat' ((conv => whnf); first | refine vA ?_ | with_reducible first | refine v8 ?_ | refine Sp.mk ?_ ?_ | refine vS ?_ | refine vR ?_ | refine vB ?_ | refine br_nt ?_ | refine br_tt ?_ | refine br_ff ?_ | refine vP ?_ | refine vQ ?_ | refine vT ?_ | refine vF ?_ | refine br_and ?_ | refine br_or ?_ | refine br_d (fun _ => ?_) fun _ => ?_ | refine vM (fun _ => ?_) fun _ => ?_)
            refine ⟨_, _, [], [], rfl, ?_, ?_, ⟨⟨yp, yb, yr⟩, M⟩, rfl, rfl, ⟨⟨placeOk_short hp, by dsimp only; omega, fun x hx => (hpm x hx).elim (hs.2.2 x) fun e => e ▸ hs.1⟩⟩, ?_⟩
            · repeat' ((conv => whnf); first | with_reducible exact True.intro | exact vW | with_reducible refine And.intro ?_ ?_)
            · repeat' ((conv => whnf); first | with_reducible exact True.intro | exact vW | with_reducible refine And.intro ?_ ?_)
            dsimp only [deG, psO]
            repeat' ((conv => whnf); first | refine vA ?_ | with_reducible first | refine v8 ?_ | refine Sp.mk ?_ ?_ | refine vS ?_ | refine vR ?_ | refine vB ?_ | refine br_nt ?_ | refine br_tt ?_ | refine br_ff ?_ | refine vP ?_ | refine vQ ?_ | refine vT ?_ | refine vF ?_ | refine br_and ?_ | refine br_or ?_ | refine br_d (fun _ => ?_) fun _ => ?_ | refine vM (fun _ => ?_) fun _ => ?_)
            refine ⟨_, ?_, h⟩
            repeat' ((conv => whnf); first | with_reducible exact True.intro | exact vW | with_reducible refine And.intro ?_ ?_)
            all_goals exact Chk.mk ⟨rfl, fun i _ => by dsimp only; (try rw [Nat.zero_add]); try rfl⟩
          · rename_i h8
            have hx := pushP_ext' (l := l) (x := ⟨p, bs, rs⟩) (g := fun i => (fun i => [plC ⟨p, bs, rs⟩].getD i (lookT TT 28).z) (0 + i)) rfl (by omega)
            generalize pushP l ⟨p, bs, rs⟩ = M at hpl hpm hx h ⊢
            refine ⟨Wk.go [(4, .ptr 0 0), (8, .ptr 1 0), (10, slP M)] [.box [.int .i64 0, .nils, .nils, .nils], .box [.int .i64 yp, slI yb, slS yr]] ⟨⟨[some 2, some 5], [7], rfl, rfl, ?_, ?_⟩⟩ ?_⟩
            · repeat' ((conv => whnf); first | with_reducible exact True.intro | exact vW | with_reducible refine And.intro ?_ ?_)
              all_goals exact Chk.mk ⟨hx.1, by omega, hx.2⟩
            · repeat' ((conv => whnf); first | with_reducible exact True.intro | exact vW | with_reducible refine And.intro ?_ ?_)
            repeat' ((conv => whnf); first | refine vA ?_ | with_reducible first | refine v8 ?_ | refine Sp.mk ?_ ?_ | refine vS ?_ | refine vR ?_ | refine vB ?_ | refine br_nt ?_ | refine br_tt ?_ | refine br_ff ?_ | refine vP ?_ | refine vQ ?_ | refine vT ?_ | refine vF ?_ | refine br_and ?_ | refine br_or ?_ | refine br_d (fun _ => ?_) fun _ => ?_ | refine vM (fun _ => ?_) fun _ => ?_)
            refine ⟨_, _, [], [], rfl, ?_, ?_, ⟨⟨yp, yb, yr⟩, M⟩, rfl, rfl, ⟨⟨placeOk_short hp, by dsimp only; omega, fun x hx => (hpm x hx).elim (hs.2.2 x) fun e => e ▸ hs.1⟩⟩, ?_⟩
            · repeat' ((conv => whnf); first | with_reducible exact True.intro | exact vW | with_reducible refine And.intro ?_ ?_)
            · repeat' ((conv => whnf); first | with_reducible exact True.intro | exact vW | with_reducible refine And.intro ?_ ?_)
            dsimp only [deG, psO]
            repeat' ((conv => whnf); first | refine vA ?_ | with_reducible first | refine v8 ?_ | refine Sp.mk ?_ ?_ | refine vS ?_ | refine vR ?_ | refine vB ?_ | refine br_nt ?_ | refine br_tt ?_ | refine br_ff ?_ | refine vP ?_ | refine vQ ?_ | refine vT ?_ | refine vF ?_ | refine br_and ?_ | refine br_or ?_ | refine br_d (fun _ => ?_) fun _ => ?_ | refine vM (fun _ => ?_) fun _ => ?_)
            refine ⟨_, ?_, h⟩
            repeat' ((conv => whnf); first | with_reducible exact True.intro | exact vW | with_reducible refine And.intro ?_ ?_)
            all_goals exact Chk.mk ⟨rfl, fun i _ => by dsimp only; (try rw [Nat.zero_add]); try rfl⟩
        · rw [eS (hsame.1 rfl)] at h
          repeat' ((conv => whnf); first | refine vA ?_ | with_reducible first | refine v8 ?_ | refine Sp.mk ?_ ?_ | refine vS ?_ | refine vR ?_ | refine vB ?_ | refine br_nt ?_ | refine br_tt ?_ | refine br_ff ?_ | refine vP ?_ | refine vQ ?_ | refine vT ?_ | refine vF ?_ | refine br_and ?_ | refine br_or ?_ | refine br_d (fun _ => ?_) fun _ => ?_ | refine vM (fun _ => ?_) fun _ => ?_)
          refine ⟨_, ?_, h⟩
          repeat' ((conv => whnf); first | with_reducible exact True.intro | exact vW | with_reducible refine And.intro ?_ ?_)
          all_goals exact Chk.mk ⟨rfl, fun i _ => by dsimp only; (try rw [Nat.zero_add]); try rfl⟩
      · rw [eB hp] at h
        repeat' ((conv => whnf); first | refine vA ?_ | with_reducible first | refine v8 ?_ | refine Sp.mk ?_ ?_ | refine vS ?_ | refine vR ?_ | refine vB ?_ | refine br_nt ?_ | refine br_tt ?_ | refine br_ff ?_ | refine vP ?_ | refine vQ ?_ | refine vT ?_ | refine vF ?_ | refine br_and ?_ | refine br_or ?_ | refine br_d (fun _ => ?_) fun _ => ?_ | refine vM (fun _ => ?_) fun _ => ?_)
        refine ⟨⟨yp, yb, yr⟩, ?_, ⟨hMI⟩, ?_⟩
        · repeat' ((conv => whnf); first | with_reducible exact True.intro | exact vW | with_reducible refine And.intro ?_ ?_)
        repeat' ((conv => whnf); first | refine vA ?_ | with_reducible first | refine v8 ?_ | refine Sp.mk ?_ ?_ | refine vS ?_ | refine vR ?_ | refine vB ?_ | refine br_nt ?_ | refine br_tt ?_ | refine br_ff ?_ | refine vP ?_ | refine vQ ?_ | refine vT ?_ | refine vF ?_ | refine br_and ?_ | refine br_or ?_ | refine br_d (fun _ => ?_) fun _ => ?_ | refine vM (fun _ => ?_) fun _ => ?_)
        refine ⟨_, ?_, h⟩
        repeat' ((conv => whnf); first | with_reducible exact True.intro | exact vW | with_reducible refine And.intro ?_ ?_)
        all_goals exact Chk.mk ⟨rfl, fun i _ => by dsimp only; (try rw [Nat.zero_add]); try rfl⟩
end Go.Proofs.YtjefkdhecccfpaaDoor.Vc
end
section
/- Part XC: deeds that are read, by both sides. -/
namespace Go.Proofs.YtjefkdhecccfpaaDoor.Vc
open Go.Proofs
set_option maxRecDepth 10000
set_option maxHeartbeats 4000000
/-! ### slices.Index -/
/-! ### The implementation's -/
end Go.Proofs.YtjefkdhecccfpaaDoor.Vc
end
section
/- Part XD: deeds that are read, by the reference. -/
namespace Go.Proofs.YtjefkdhecccfpaaDoor.Vc
open Go.Proofs
set_option maxRecDepth 10000
set_option maxHeartbeats 4000000
section
variable {x : Dd} {L : List ByteArray} (hL : L = kindB x.kind :: ((numsOf x).map num ++ wordsOf x)) (h : okDd x)
include hL h
end
end Go.Proofs.YtjefkdhecccfpaaDoor.Vc
end
section
/- Part XF: journals that are read, by both sides. -/
namespace Go.Proofs.YtjefkdhecccfpaaDoor.Vc
open Go.Proofs
set_option maxRecDepth 10000
set_option maxHeartbeats 4000000
/-! ### strings.Cut -/
/-! ### What has been read -/
structure jrI (s : ByteArray) (l : List Dd) (n : Nat) : Prop where
  ok : ∀ x ∈ l, okDd x
  nn : n = (jl l).length
  le : n ≤ s.size
  eq : s.data.toList = jl l ++ s.data.toList.drop n
theorem jrI.end {s : ByteArray} {l : List Dd} {n : Nat} (h : jrI s l n) (hs : ∀ x t, okDd x → s.data.toList.drop n ≠ lineL x ++ t) : jr s = l ∧ jn s = n := by
  obtain ⟨e1, e2⟩ := jr_of ⟨h.ok, h.eq, hs⟩
  exact ⟨e1, e2.trans h.nn.symm⟩
theorem jrI.step {s : ByteArray} {l : List Dd} {n : Nat} {p : ByteArray} {x : Dd} {r : List UInt8} (h : jrI s l n) (hp : s.data.toList.drop n = p.data.toList ++ 10 :: r) (hx : isDd p x) : jrI s (l ++ [x]) (n + (p.size + 1)) := by
  have hl : lineL x = p.data.toList ++ [10] := by unfold lineL; rw [hx.2]
  have hn : (lineL x).length = p.size + 1 := by rw [line_len, hx.2]
  have hlen : (s.data.toList.drop n).length = s.size - n := by rw [List.length_drop, Array.length_toList]; rfl
  refine ⟨fun y hy => (List.mem_append.1 hy).elim (h.ok y) fun q => by rw [List.mem_singleton.1 q]; exact hx.1, ?_, ?_, ?_⟩
  · rw [jl_app, jl_one, List.length_append, ← h.nn, hn]
  · have := congrArg List.length hp
    rw [hlen, List.length_append, Array.length_toList] at this
    simp only [List.length_cons] at this
    have hps : p.size = p.data.size := rfl
    have := h.le
    omega
  · have e2 : s.data.toList.drop (n + (p.size + 1)) = r := by
      rw [← List.drop_drop, hp, show p.data.toList ++ 10 :: r = (p.data.toList ++ [10]) ++ r by simp]
      exact List.drop_left' (by rw [List.length_append, Array.length_toList]; rfl)
    rw [e2, jl_app, jl_one, hl]
    have := h.eq
    rw [hp] at this
    rw [this]
    simp
/-! ### The implementation's -/
end Go.Proofs.YtjefkdhecccfpaaDoor.Vc
end
section
/- Part UM: marks in memory of one's own. -/
namespace Go.Proofs.YtjefkdhecccfpaaDoor.Vc
open Go.Proofs
set_option maxRecDepth 10000
set_option maxHeartbeats 4000000
end Go.Proofs.YtjefkdhecccfpaaDoor.Vc
end
section
/- Part XG: journals, by the reference; marks of deeds. -/
namespace Go.Proofs.YtjefkdhecccfpaaDoor.Vc
open Go.Proofs
set_option maxRecDepth 10000
set_option maxHeartbeats 4000000
/-! ### Marks -/
end Go.Proofs.YtjefkdhecccfpaaDoor.Vc
end
section
/- Part UE: places that are read, by the reference. -/
namespace Go.Proofs.YtjefkdhecccfpaaDoor.Vc
open Go.Proofs
set_option maxRecDepth 10000
set_option maxHeartbeats 4000000
def isPt (s : ByteArray) (x : Place) : Prop := placeOk x ∧ plT x = s
def rpPost (s : ByteArray) (K : AV → Prop) : Prop := (∀ x, isPt s x → K (.tup [enPl x, .bool true])) ∧ ((¬ ∃ x, isPt s x) → K (.tup [enPl default, .bool false]))
theorem rpPost.mono {s : ByteArray} {K K2 : AV → Prop} (hk : ∀ r, K r → K2 r) (h : rpPost s K) : rpPost s K2 := ⟨fun x q => hk _ (h.1 x q), fun q => hk _ (h.2 q)⟩
end Go.Proofs.YtjefkdhecccfpaaDoor.Vc
end
section
/- Part UF: places that are read, by the implementation. -/
namespace Go.Proofs.YtjefkdhecccfpaaDoor.Vc
open Go.Proofs
set_option maxRecDepth 10000
set_option maxHeartbeats 4000000
end Go.Proofs.YtjefkdhecccfpaaDoor.Vc
end
section
/- Part UG: texts of places are read: the law. -/
namespace Go.Proofs.YtjefkdhecccfpaaDoor.Vc
open Go.Proofs
set_option maxRecDepth 10000
set_option maxHeartbeats 4000000
end Go.Proofs.YtjefkdhecccfpaaDoor.Vc
end
section
/- Part UH: read texts are canonical: the law. -/
namespace Go.Proofs.YtjefkdhecccfpaaDoor.Vc
open Go.Proofs
set_option maxRecDepth 10000
set_option maxHeartbeats 4000000
theorem I_of {x : Place} (h : placeOk x) : placeI x := by
  have hb := placeOk_small h
  exact ⟨⟨⟨⟨by have := hb.2.1; show -9223372036854775808 ≤ x.p; omega, by have := hb.2.2.1; show x.p ≤ 9223372036854775807; omega⟩, fun b q => by have := hb.1.2 b q; exact ⟨by omega, by omega⟩⟩, by have := hb.1.1; show x.bs.length < _; omega⟩, by have := h.2.1.2; omega, fun r q => by have := hb.2.2.2 r q; omega⟩
end Go.Proofs.YtjefkdhecccfpaaDoor.Vc
end
section
/- Part XE: the laws on texts of deeds that are read. -/
namespace Go.Proofs.YtjefkdhecccfpaaDoor.Vc
open Go.Proofs
set_option maxRecDepth 10000
set_option maxHeartbeats 4000000
theorem drawnP.S {x : Place} (h : drawnP x) : placeS x := ⟨h.I, h.bl, Nat.le_trans h.rl (by decide)⟩
end Go.Proofs.YtjefkdhecccfpaaDoor.Vc
end
section
/- Part XH: deeds that are drawn; the laws on journals. -/
namespace Go.Proofs.YtjefkdhecccfpaaDoor.Vc
open Go.Proofs
set_option maxRecDepth 10000
set_option maxHeartbeats 4000000
def C255 : GC := conG (X := Pr) (fun x => [.ptr 0 0, enPl x.x]) (fun x => [rdO x.r.b x.r.p]) (fun x => x.r.okn 449000000 ∧ placeS x.x) fun x K => ∀ (l : List Dd) (p' : Int), x.r.p ≤ p' → p' ≤ x.r.p + 2000 → l.length ≤ 5 → (∀ a ∈ l, drawnA a) → K (.row 1 4 0 l.length) [rdO x.r.b p', .row 4 l.length fun i => encD (l.getD i default)]
theorem F255 : GG 56 C255 := by
  refine fitG [] (by simp) [(68, C52), (42, C184)] (by simp only [List.mem_cons, List.not_mem_nil, or_false]; rintro _ (rfl | rfl) <;> first | exact F52 | exact F184) Tryd.f56 ⟨rfl, by decide +kernel, by decide +kernel⟩ (by intro x K K2 hk h; (try dsimp only at h ⊢); intros; apply hk; first | exact h | (apply h <;> assumption)) ?_
  rintro ⟨⟨b, p⟩, ⟨q, bs, rs⟩⟩ K ⟨⟨h1, h2, h3, h4⟩, hS⟩ h
  refine ⟨Nat.le_of_ble_eq_true rfl, ?_⟩
  dsimp only [enPl, plC] at h h1 h2 h3 h4 ⊢
  repeat' ((conv => whnf); first | refine vA ?_ | with_reducible first | refine v8 ?_ | refine Sp.mk ?_ ?_ | refine vS ?_ | refine vR ?_ | refine vB ?_ | refine br_nt ?_ | refine br_tt ?_ | refine br_ff ?_ | refine vP ?_ | refine vQ ?_ | refine vT ?_ | refine vF ?_ | refine br_and ?_ | refine br_or ?_ | refine br_d (fun _ => ?_) fun _ => ?_ | refine vM (fun _ => ?_) fun _ => ?_)
  refine ⟨_, _, [0], [], rfl, ?_, ?_, (⟨b, p⟩, 6), rfl, rfl, ⟨⟨h1, h2, ?_, ?_⟩, ?_⟩, ?_⟩
  · repeat' ((conv => whnf); first | with_reducible exact True.intro | exact vW | with_reducible refine And.intro ?_ ?_)
    try exact Chk.mk (by rw [pw_sh (by assumption)])
  · repeat' ((conv => whnf); first | with_reducible exact True.intro | exact vW | with_reducible refine And.intro ?_ ?_)
  · dsimp only; omega
  · dsimp only; omega
  · unfold i64r; dsimp only; omega
  intro k p1 a0 a1 a2
  dsimp only at a0 a1 a2
  repeat' ((conv => whnf); first | refine vA ?_ | with_reducible first | refine v8 ?_ | refine Sp.mk ?_ ?_ | refine vS ?_ | refine vR ?_ | refine vB ?_ | refine br_nt ?_ | refine br_tt ?_ | refine br_ff ?_ | refine vP ?_ | refine vQ ?_ | refine vT ?_ | refine vF ?_ | refine br_and ?_ | refine br_or ?_ | refine br_d (fun _ => ?_) fun _ => ?_ | refine vM (fun _ => ?_) fun _ => ?_)
  refine Lp.mk ⟨List Dd × Int × Int, fun x => [(0, .ptr 0 0), (3, .ptr 1 0), (5, .row 2 4 0 x.1.length), (6, .int .i64 x.2.1)], fun x => [rdO b x.2.2, .box [.int .i64 q, slI bs, slS rs], .row 4 x.1.length fun i => encD (x.1.getD i default)],
    fun x => 0 ≤ x.2.1 ∧ x.2.1 + x.1.length = k ∧ p1 ≤ x.2.2 ∧ x.2.2 ≤ p1 + 250 * x.1.length ∧ ∀ a ∈ x.1, drawnA a, fun x => x.2.1.toNat, ⟨([], k, p1), ⟨by dsimp only; omega, by simp, by dsimp only; omega, by simp, (fun _ g => by cases g)⟩, ⟨⟨[some 0, some 1, none], [], rfl, rfl, ?_, ?_⟩⟩⟩, ?_⟩
  · repeat' ((conv => whnf); first | with_reducible exact True.intro | exact vW | with_reducible refine And.intro ?_ ?_)
  · repeat' ((conv => whnf); first | with_reducible exact True.intro | exact vW | with_reducible refine And.intro ?_ ?_)
  rintro ⟨l, j, p2⟩ ⟨i1, i2, i3, i4, i5⟩
  dsimp only at i1 i2 i3 i4 i5 ⊢
  repeat' ((conv => whnf); first | refine vA ?_ | with_reducible first | refine v8 ?_ | refine Sp.mk ?_ ?_ | refine vS ?_ | refine vR ?_ | refine vB ?_ | refine br_nt ?_ | refine br_tt ?_ | refine br_ff ?_ | refine vP ?_ | refine vQ ?_ | refine vT ?_ | refine vF ?_ | refine br_and ?_ | refine br_or ?_ | refine br_d (fun _ => ?_) fun _ => ?_ | refine vM (fun _ => ?_) fun _ => ?_)
  · refine ⟨_, _, [0], [], rfl, ?_, ?_, ⟨⟨b, p2⟩, ⟨q, bs, rs⟩⟩, rfl, rfl, ⟨⟨h1, h2, by dsimp only; omega, by dsimp only; omega⟩, hS⟩, ?_⟩
    · repeat' ((conv => whnf); first | with_reducible exact True.intro | exact vW | with_reducible refine And.intro ?_ ?_)
    · repeat' ((conv => whnf); first | with_reducible exact True.intro | exact vW | with_reducible refine And.intro ?_ ?_)
    rintro ⟨k', a, b', w⟩ p3 a1 a2 ha
    dsimp only [ded, encD] at a1 a2 ⊢
    repeat' ((conv => whnf); first | refine vA ?_ | with_reducible first | refine v8 ?_ | refine Sp.mk ?_ ?_ | refine vS ?_ | refine vR ?_ | refine vB ?_ | refine br_nt ?_ | refine br_tt ?_ | refine br_ff ?_ | refine vP ?_ | refine vQ ?_ | refine vT ?_ | refine vF ?_ | refine br_and ?_ | refine br_or ?_ | refine br_d (fun _ => ?_) fun _ => ?_ | refine vM (fun _ => ?_) fun _ => ?_)
    refine ⟨(l ++ [⟨k', a, b', w⟩], j - 1, p3), ⟨by dsimp only; omega, by simp only [List.length_append, List.length_cons, List.length_nil]; omega, by dsimp only; omega, by simp only [List.length_append, List.length_cons, List.length_nil]; omega, fun y hy => (List.mem_append.1 hy).elim (i5 y) fun g => by rw [List.mem_singleton.1 g]; exact ha⟩, by dsimp only; omega, ?_⟩
    first | (refine ⟨⟨[some 0, some 1, some 4], [], rfl, rfl, ?_, ?_⟩⟩ <;> (repeat' ((conv => whnf); first | with_reducible exact True.intro | exact vW | with_reducible refine And.intro ?_ ?_ | exact Chk.mk ⟨rfl, by rw [List.length_append]; rfl⟩ | exact Chk.mk (ext_push (enc := encD) (d := default) (l := l) (x := ⟨k', a, b', w⟩) rfl))) <;> fail) | (refine ⟨⟨[some 0, some 1, some 5], [], rfl, rfl, ?_, ?_⟩⟩ <;> (repeat' ((conv => whnf); first | with_reducible exact True.intro | exact vW | with_reducible refine And.intro ?_ ?_ | exact Chk.mk ⟨rfl, by rw [List.length_append]; rfl⟩ | exact Chk.mk (ext_push (enc := encD) (d := default) (l := l) (x := ⟨k', a, b', w⟩) rfl))) <;> fail) | (refine ⟨⟨[some 0, some 1, some 3], [], rfl, rfl, ?_, ?_⟩⟩ <;> (repeat' ((conv => whnf); first | with_reducible exact True.intro | exact vW | with_reducible refine And.intro ?_ ?_ | exact Chk.mk ⟨rfl, by rw [List.length_append]; rfl⟩ | exact Chk.mk (ext_push (enc := encD) (d := default) (l := l) (x := ⟨k', a, b', w⟩) rfl))) <;> fail)
  · refine ⟨_, _, [some 0, some 2], [], rfl, rfl, ?_, ?_, h l p2 (by omega) (by omega) (by omega) i5⟩
    · repeat' ((conv => whnf); first | with_reducible exact True.intro | exact vW | with_reducible refine And.intro ?_ ?_)
    · repeat' ((conv => whnf); first | with_reducible exact True.intro | exact vW | with_reducible refine And.intro ?_ ?_)
def drawnL (l : List Dd) : Prop := l.length ≤ 6 ∧ ∀ a ∈ l, drawnA a
theorem wsum_le {l : List Dd} {M : Nat} (h : ∀ a ∈ l, a.words.size ≤ M) : ∀ i, i ≤ l.length → wsum l i ≤ M * i
  | 0, _ => Nat.le_refl _
  | i + 1, hi => by
    have h1 := wsum_le h i (by omega)
    have h2 := h _ (getD_mem' (d := default) hi)
    show wsum l i + _ ≤ _
    rw [Nat.mul_add, Nat.mul_one]
    omega
theorem drawnL.j {l : List Dd} (h : drawnL l) : jOk l := by
  have := wsum_le (M := 10000) (fun a ha => (h.2 a ha).w0) _ (Nat.le_refl l.length)
  have := h.1
  unfold jOk
  omega
end Go.Proofs.YtjefkdhecccfpaaDoor.Vc
end
section
/- Part TP: desks whose past is a row of one's own. -/
namespace Go.Proofs.YtjefkdhecccfpaaDoor.Vc
open Go.Proofs
set_option maxRecDepth 10000
set_option maxHeartbeats 4000000
structure Dk where
  x : Place
  L : List Place
  n : Nat
def Dk.d (k : Dk) : Desk := ⟨k.x, k.L.take k.n⟩
def dkV (k : Dk) (id : Nat) : AV := .agg [.int .i64 k.x.p, slI k.x.bs, slS k.x.rules, .row id 3 0 k.n]
theorem take_get {L : List Place} {n i : Nat} (h : i < n) : (L.take n).getD i default = L.getD i default := by
  rw [List.getD_eq_getElem?_getD, List.getD_eq_getElem?_getD, List.getElem?_take_of_lt h]
def C139r : GC := conG (X := Dk) (fun k => [dkV k 0]) (fun k => [psO k.L]) (fun k => deskI k.d ∧ k.n ≤ k.L.length) fun k K => K (.bool (decide (deskOk k.d))) [psO k.L]
theorem F139r : GG 22 C139r := by
  refine fitG [(47, C127)] (by simp only [List.mem_cons, List.not_mem_nil, or_false]; rintro _ rfl <;> first | exact F127) [] (by simp) Tryd.f22 ⟨rfl, by decide +kernel, by decide +kernel⟩ (by intro x K K2 hk h; (try dsimp only at h ⊢); intros; apply hk; first | exact h | (apply h <;> assumption)) ?_
  rintro ⟨⟨p, bs, rs⟩, L, n⟩ K ⟨hI, hn⟩ h
  refine ⟨Nat.le_of_ble_eq_true rfl, ?_⟩
  obtain ⟨l, hl⟩ : ∃ l, L.take n = l := ⟨_, rfl⟩
  have hll : l.length = n := by rw [← hl, List.length_take]; exact Nat.min_eq_left hn
  have hget : ∀ i, i < n → L.getD i default = l.getD i default := fun i hi => by rw [← hl, take_get hi]
  replace hI : deskI ⟨⟨p, bs, rs⟩, l⟩ := by rw [← hl]; exact hI
  replace h : K (.bool (decide (deskOk ⟨⟨p, bs, rs⟩, l⟩))) [psO L] := by rw [← hl]; exact h
  have hI1 := hI.1
  have hI2 := hI.2.2
  have hI3 := hI.2.1
  dsimp only [dkV, psO] at h hI1 hI2 hI3 hn ⊢
  repeat' ((conv => whnf); first | refine vA ?_ | with_reducible first | refine v8 ?_ | refine Sp.mk ?_ ?_ | refine vS ?_ | refine vR ?_ | refine vB ?_ | refine br_nt ?_ | refine br_tt ?_ | refine br_ff ?_ | refine vP ?_ | refine vQ ?_ | refine vT ?_ | refine vF ?_ | refine br_and ?_ | refine br_or ?_ | refine br_d (fun _ => ?_) fun _ => ?_ | refine vM (fun _ => ?_) fun _ => ?_)
  refine Lp.mk ⟨Nat, fun i => [(1, .ptr 1 0), (3, .int .i64 i)], fun _ => [psO L, .box [.int .i64 p, slI bs, slS rs, .row 0 3 0 n]], fun i => i ≤ l.length ∧ ∀ j, j < i → placeOk (l.getD j default), fun i => l.length - i, ⟨0, ⟨Nat.zero_le _, fun j hj => absurd hj (Nat.not_lt_zero _)⟩, ⟨⟨[some 0, some 1], [], rfl, rfl, ?_, ?_⟩⟩⟩, ?_⟩
  · repeat' ((conv => whnf); first | with_reducible exact True.intro | exact vW | with_reducible refine And.intro ?_ ?_)
  · repeat' ((conv => whnf); first | with_reducible exact True.intro | exact vW | with_reducible refine And.intro ?_ ?_)
  rintro i ⟨i1, i2⟩
  dsimp only [psO]
  repeat' ((conv => whnf); first | refine vA ?_ | with_reducible first | refine v8 ?_ | refine Sp.mk ?_ ?_ | refine vS ?_ | refine vR ?_ | refine vB ?_ | refine br_nt ?_ | refine br_tt ?_ | refine br_ff ?_ | refine vP ?_ | refine vQ ?_ | refine vT ?_ | refine vF ?_ | refine br_and ?_ | refine br_or ?_ | refine br_d (fun _ => ?_) fun _ => ?_ | refine vM (fun _ => ?_) fun _ => ?_)
  · rename_i hi
    have hi : i < l.length := by omega
    refine ⟨L.getD i default, ?_, ⟨by rw [hget i (by omega)]; exact hI2 _ (getD_mem' hi)⟩, ?_⟩
    · repeat' ((conv => whnf); first | with_reducible exact True.intro | exact vW | with_reducible refine And.intro ?_ ?_)
    rw [hget i (by omega)]
    repeat' ((conv => whnf); first | refine vA ?_ | with_reducible first | refine v8 ?_ | refine Sp.mk ?_ ?_ | refine vS ?_ | refine vR ?_ | refine vB ?_ | refine br_nt ?_ | refine br_tt ?_ | refine br_ff ?_ | refine vP ?_ | refine vQ ?_ | refine vT ?_ | refine vF ?_ | refine br_and ?_ | refine br_or ?_ | refine br_d (fun _ => ?_) fun _ => ?_ | refine vM (fun _ => ?_) fun _ => ?_)
    · rename_i hb
      refine ⟨i + 1, ⟨by omega, fun j hj => ?_⟩, by omega, ⟨⟨[some 0, some 1], [], rfl, rfl, ?_, ?_⟩⟩⟩
      · by_cases e : j = i
        · subst e; exact hb
        · exact i2 j (by omega)
      · repeat' ((conv => whnf); first | with_reducible exact True.intro | exact vW | with_reducible refine And.intro ?_ ?_)
      · repeat' ((conv => whnf); first | with_reducible exact True.intro | exact vW | with_reducible refine And.intro ?_ ?_)
    · rename_i hb
      rw [decide_eq_false fun q : deskOk ⟨⟨p, bs, rs⟩, l⟩ => hb (q.2.2 _ (getD_mem' hi))] at h
      refine ⟨_, _, [some 0], [], rfl, rfl, ?_, ?_, h⟩
      · repeat' ((conv => whnf); first | with_reducible exact True.intro | exact vW | with_reducible refine And.intro ?_ ?_)
      · repeat' ((conv => whnf); first | with_reducible exact True.intro | exact vW | with_reducible refine And.intro ?_ ?_)
  · rename_i hi
    have hall : ∀ p ∈ l, placeOk p := all_of_getD (d := default) fun j hj => i2 j (by omega)
    refine ⟨⟨p, bs, rs⟩, ?_, ⟨hI1⟩, ?_⟩
    · repeat' ((conv => whnf); first | with_reducible exact True.intro | exact vW | with_reducible refine And.intro ?_ ?_)
    repeat' ((conv => whnf); first | refine vA ?_ | with_reducible first | refine v8 ?_ | refine Sp.mk ?_ ?_ | refine vS ?_ | refine vR ?_ | refine vB ?_ | refine br_nt ?_ | refine br_tt ?_ | refine br_ff ?_ | refine vP ?_ | refine vQ ?_ | refine vT ?_ | refine vF ?_ | refine br_and ?_ | refine br_or ?_ | refine br_d (fun _ => ?_) fun _ => ?_ | refine vM (fun _ => ?_) fun _ => ?_)
    · rename_i hO
      have e : decide (deskOk ⟨⟨p, bs, rs⟩, l⟩) = decide ((n : Int) ≤ 8) := decide_eq_decide.2 ⟨fun q => by have := q.2.1; dsimp only at this; omega, fun q => ⟨hO, by dsimp only; omega, hall⟩⟩
      rw [e] at h
      refine ⟨_, _, [some 0], [], rfl, rfl, ?_, ?_, h⟩
      · repeat' ((conv => whnf); first | with_reducible exact True.intro | exact vW | with_reducible refine And.intro ?_ ?_)
      · repeat' ((conv => whnf); first | with_reducible exact True.intro | exact vW | with_reducible refine And.intro ?_ ?_)
    · rename_i hO
      rw [decide_eq_false fun q : deskOk ⟨⟨p, bs, rs⟩, l⟩ => hO q.1] at h
      refine ⟨_, _, [some 0], [], rfl, rfl, ?_, ?_, h⟩
      · repeat' ((conv => whnf); first | with_reducible exact True.intro | exact vW | with_reducible refine And.intro ?_ ?_)
      · repeat' ((conv => whnf); first | with_reducible exact True.intro | exact vW | with_reducible refine And.intro ?_ ?_)
def C198r : GC := conG (X := Dk) (fun k => [dkV k 0]) (fun k => [psO k.L]) (fun k => shortD k.d ∧ k.n ≤ k.L.length) fun k K => K (dkV k 1) [psO k.L, psO (k.L.take k.n)]
theorem F198r : GG 45 C198r := by
  refine fitG [(80, C158)] (by simp only [List.mem_cons, List.not_mem_nil, or_false]; rintro _ rfl <;> first | exact F158) [] (by simp) Tryd.f45 ⟨rfl, by decide +kernel, by decide +kernel⟩ (by intro x K K2 hk h; (try dsimp only at h ⊢); intros; apply hk; first | exact h | (apply h <;> assumption)) ?_
  rintro ⟨⟨p, bs, rs⟩, L, n⟩ K ⟨hs, hn⟩ h
  refine ⟨Nat.le_of_ble_eq_true rfl, ?_⟩
  obtain ⟨l, hl⟩ : ∃ l, L.take n = l := ⟨_, rfl⟩
  have hll : l.length = n := by rw [← hl, List.length_take]; exact Nat.min_eq_left hn
  have hget : ∀ i, i < n → L.getD i default = l.getD i default := fun i hi => by rw [← hl, take_get hi]
  replace hs : shortD ⟨⟨p, bs, rs⟩, l⟩ := by rw [← hl]; exact hs
  dsimp only [dkV] at h
  rw [hl] at h
  obtain ⟨h1, h2, h3⟩ := hs
  unfold psO at h
  dsimp only [dkV, psO] at h h1 h2 h3 hn ⊢
  repeat' ((conv => whnf); first | refine vA ?_ | with_reducible first | refine v8 ?_ | refine Sp.mk ?_ ?_ | refine vS ?_ | refine vR ?_ | refine vB ?_ | refine br_nt ?_ | refine br_tt ?_ | refine br_ff ?_ | refine vP ?_ | refine vQ ?_ | refine vT ?_ | refine vF ?_ | refine br_and ?_ | refine br_or ?_ | refine br_d (fun _ => ?_) fun _ => ?_ | refine vM (fun _ => ?_) fun _ => ?_)
  refine ⟨⟨p, bs, rs⟩, ?_, ⟨h1⟩, ?_⟩
  · repeat' ((conv => whnf); first | with_reducible exact True.intro | exact vW | with_reducible refine And.intro ?_ ?_)
  dsimp only [enPl, plC]
  repeat' ((conv => whnf); first | refine vA ?_ | with_reducible first | refine v8 ?_ | refine Sp.mk ?_ ?_ | refine vS ?_ | refine vR ?_ | refine vB ?_ | refine br_nt ?_ | refine br_tt ?_ | refine br_ff ?_ | refine vP ?_ | refine vQ ?_ | refine vT ?_ | refine vF ?_ | refine br_and ?_ | refine br_or ?_ | refine br_d (fun _ => ?_) fun _ => ?_ | refine vM (fun _ => ?_) fun _ => ?_)
  refine Lp.mk ⟨Nat, fun i => [(1, .ptr 1 0), (2, .ptr 2 0), (3, .ptr 3 0), (4, .int .i64 i)], fun i => [psO L, .box [.int .i64 p, slI bs, slS rs, .row 0 3 0 n], .box [.int .i64 0, .nils, .nils, .nils], .box [.int .i64 p, slI bs, slS rs, .row 4 3 0 (l.take i).length], psO (l.take i)], fun i => i ≤ l.length, fun i => l.length - i, ⟨0, Nat.zero_le _, ⟨⟨[some 0, some 1, some 2, some 3, none], [], rfl, rfl, ?_, ?_⟩⟩⟩, ?_⟩
  · repeat' ((conv => whnf); first | with_reducible exact True.intro | exact vW | with_reducible refine And.intro ?_ ?_)
  · repeat' ((conv => whnf); first | with_reducible exact True.intro | exact vW | with_reducible refine And.intro ?_ ?_)
  intro i i1
  dsimp only [psO]
  have hti : (l.take i).length ≤ 100000 := by rw [List.length_take]; omega
  repeat' ((conv => whnf); first | refine vA ?_ | with_reducible first | refine v8 ?_ | refine Sp.mk ?_ ?_ | refine vS ?_ | refine vR ?_ | refine vB ?_ | refine br_nt ?_ | refine br_tt ?_ | refine br_ff ?_ | refine vP ?_ | refine vQ ?_ | refine vT ?_ | refine vF ?_ | refine br_and ?_ | refine br_or ?_ | refine br_d (fun _ => ?_) fun _ => ?_ | refine vM (fun _ => ?_) fun _ => ?_)
  · rename_i hi
    have hi : i < l.length := by omega
    have hsn : l.take (i + 1) = l.take i ++ [l.getD i default] := take_succ' default hi
    refine Dr.mk ⟨(.rd 0 (.rd 1 (.rd 2 (.rd 3 (.rd 4 (.rd 5 (.rd 6 (.ef 7 (.ef 8 (.ef 9 (.rd 10 (.ef 11 .dn .no)) .no) .no) .no)))))))), by decide +kernel, ?_⟩
    repeat' ((conv => whnf); first | refine vA ?_ | with_reducible first | refine v8 ?_ | refine Sp.mk ?_ ?_ | refine vS ?_ | refine vR ?_ | refine vB ?_ | refine br_nt ?_ | refine br_tt ?_ | refine br_ff ?_ | refine vP ?_ | refine vQ ?_ | refine vT ?_ | refine vF ?_ | refine br_and ?_ | refine br_or ?_ | refine br_d (fun _ => ?_) fun _ => ?_ | refine vM (fun _ => ?_) fun _ => ?_)
    refine ⟨l.getD i default, ?_, ⟨h3 _ (getD_mem' hi)⟩, ?_⟩
    · rw [← hget i (by omega)]
      repeat' ((conv => whnf); first | with_reducible exact True.intro | exact vW | with_reducible refine And.intro ?_ ?_)
    dsimp only [enPl, plC]
    repeat' ((conv => whnf); first | refine vA ?_ | with_reducible first | refine v8 ?_ | refine Sp.mk ?_ ?_ | refine vS ?_ | refine vR ?_ | refine vB ?_ | refine br_nt ?_ | refine br_tt ?_ | refine br_ff ?_ | refine vP ?_ | refine vQ ?_ | refine vT ?_ | refine vF ?_ | refine br_and ?_ | refine br_or ?_ | refine br_d (fun _ => ?_) fun _ => ?_ | refine vM (fun _ => ?_) fun _ => ?_)
    refine ⟨i + 1, by omega, by omega, ⟨⟨[some 0, some 1, some 2, some 3, some 6], [], rfl, rfl, ?_, ?_⟩⟩⟩
    · repeat' ((conv => whnf); first | with_reducible exact True.intro | exact vW | with_reducible refine And.intro ?_ ?_)
    · repeat' ((conv => whnf); first | with_reducible exact True.intro | exact vW | with_reducible refine And.intro ?_ ?_)
      all_goals first | exact Chk.mk ⟨rfl, by rw [hsn, List.length_append]; rfl⟩ | exact Chk.mk (by rw [hsn]; exact ext_push (enc := plC) (d := default) (l := l.take i) (x := l.getD i default) rfl)
  · rename_i hi
    rw [List.take_of_length_le (by omega)]
    rw [← hll] at h
    repeat' ((conv => whnf); first | refine vA ?_ | with_reducible first | refine v8 ?_ | refine Sp.mk ?_ ?_ | refine vS ?_ | refine vR ?_ | refine vB ?_ | refine br_nt ?_ | refine br_tt ?_ | refine br_ff ?_ | refine vP ?_ | refine vQ ?_ | refine vT ?_ | refine vF ?_ | refine br_and ?_ | refine br_or ?_ | refine br_d (fun _ => ?_) fun _ => ?_ | refine vM (fun _ => ?_) fun _ => ?_)
    refine ⟨_, _, [some 0, some 4], [], rfl, rfl, ?_, ?_, h⟩
    · repeat' ((conv => whnf); first | with_reducible exact True.intro | exact vW | with_reducible refine And.intro ?_ ?_)
    · repeat' ((conv => whnf); first | with_reducible exact True.intro | exact vW | with_reducible refine And.intro ?_ ?_)
structure Dj where
  k : Dk
  a : Dd
def C183r : GC := conG (X := Dj) (fun x => [dkV x.k 0, ded x.a]) (fun x => [psO x.k.L]) (fun x => deskI x.k.d ∧ x.k.n ≤ x.k.L.length ∧ x.k.n ≤ 7 ∧ dedI x.a) fun x K =>
  (¬ deskOk x.k.d → K (.tup [.agg [.int .i64 0, .nils, .nils, .nils], .bool false]) [psO x.k.L]) ∧
  (deskOk x.k.d → ∀ y L' n', n' ≤ L'.length → afterD x.k.d x.a = ⟨y, L'.take n'⟩ → K (.tup [dkV ⟨y, L', n'⟩ 1, .bool (canD x.k.d x.a)]) [psO x.k.L, psO L'])
theorem F183r : GG 12 C183r := by
  refine fitG [(47, C127), (48, C142), (46, C199)] (by simp only [List.mem_cons, List.not_mem_nil, or_false]; rintro _ (rfl | rfl | rfl) <;> first | exact F127 | exact F142 | exact F199) [(22, C139r), (45, C198r)] (by simp only [List.mem_cons, List.not_mem_nil, or_false]; rintro _ (rfl | rfl) <;> first | exact F139r | exact F198r) Tryd.f12 ⟨rfl, by decide +kernel, by decide +kernel⟩ (by rintro x K K2 hk ⟨ha, hb⟩; exact ⟨fun q => hk _ _ (ha q), fun q y L' n' g1 g2 => hk _ _ (hb q y L' n' g1 g2)⟩) ?_
  rintro ⟨⟨⟨p, bs, rs⟩, L, n⟩, ⟨k, a, b, w⟩⟩ K ⟨hI, hn, hn7, ha⟩ ⟨hno, h⟩
  refine ⟨Nat.le_of_ble_eq_true rfl, ?_⟩
  obtain ⟨l, hl⟩ : ∃ l, L.take n = l := ⟨_, rfl⟩
  have hll : l.length = n := by rw [← hl, List.length_take]; exact Nat.min_eq_left hn
  have hdk : Dk.d ⟨⟨p, bs, rs⟩, L, n⟩ = ⟨⟨p, bs, rs⟩, l⟩ := by rw [← hl]; rfl
  dsimp only at hI h hno hn hn7 ha
  rw [hdk] at hI h hno
  dsimp only [dkV, ded, encD]
  unfold dkV at h
  dsimp only at h
  repeat' ((conv => whnf); first | refine vA ?_ | with_reducible first | refine v8 ?_ | refine Sp.mk ?_ ?_ | refine vS ?_ | refine vR ?_ | refine vB ?_ | refine br_nt ?_ | refine br_tt ?_ | refine br_ff ?_ | refine vP ?_ | refine vQ ?_ | refine vT ?_ | refine vF ?_ | refine br_and ?_ | refine br_or ?_ | refine br_d (fun _ => ?_) fun _ => ?_ | refine vM (fun _ => ?_) fun _ => ?_)
  refine ⟨_, _, [0], [], rfl, ?_, ?_, ⟨⟨p, bs, rs⟩, L, n⟩, rfl, rfl, ⟨by rw [hdk]; exact hI, hn⟩, ?_⟩
  · repeat' ((conv => whnf); first | with_reducible exact True.intro | exact vW | with_reducible refine And.intro ?_ ?_)
  · repeat' ((conv => whnf); first | with_reducible exact True.intro | exact vW | with_reducible refine And.intro ?_ ?_)
  dsimp only
  rw [hdk]
  by_cases hO : deskOk ⟨⟨p, bs, rs⟩, l⟩
  · have hs := deskOk_short hO
    have hs2 := hs.2.1
    dsimp only at hs2
    replace h := h hO
    dsimp only [psO]
    repeat' ((conv => whnf); first | refine vA ?_ | with_reducible first | refine v8 ?_ | refine Sp.mk ?_ ?_ | refine vS ?_ | refine vR ?_ | refine vB ?_ | refine br_nt ?_ | refine br_tt ?_ | refine br_ff ?_ | refine vP ?_ | refine vQ ?_ | refine vT ?_ | refine vF ?_ | refine br_and ?_ | refine br_or ?_ | refine br_d (fun _ => ?_) fun _ => ?_ | refine vM (fun _ => ?_) fun _ => ?_)
    refine ⟨_, _, [0], [], rfl, ?_, ?_, ⟨⟨p, bs, rs⟩, L, n⟩, rfl, rfl, ⟨by rw [hdk]; exact hs, hn⟩, ?_⟩
    · repeat' ((conv => whnf); first | with_reducible exact True.intro | exact vW | with_reducible refine And.intro ?_ ?_)
    · repeat' ((conv => whnf); first | with_reducible exact True.intro | exact vW | with_reducible refine And.intro ?_ ?_)
    dsimp only [dkV, psO]
    rw [hl]
    repeat' ((conv => whnf); first | with_reducible refine wk_at 9 ?_ | with_reducible refine wk_at1 9 ?_ | with_reducible refine wk_at2 9 ?_ | refine vA ?_ | with_reducible first | refine v8 ?_ | refine Sp.mk ?_ ?_ | refine vS ?_ | refine vR ?_ | refine vB ?_ | refine br_nt ?_ | refine br_tt ?_ | refine br_ff ?_ | refine vP ?_ | refine vQ ?_ | refine vT ?_ | refine vF ?_ | refine br_and ?_ | refine br_or ?_ | refine br_d (fun _ => ?_) fun _ => ?_ | refine vM (fun _ => ?_) fun _ => ?_)
    · rename_i q1 q2 q3 q4 q5
      have hlp : 0 < l.length := by omega
      have e0 : doD ⟨⟨p, bs, rs⟩, l⟩ ⟨k, a, b, w⟩ = some ⟨l.getD (l.length - 1) default, l.take (l.length - 1)⟩ := if_pos ⟨by subst q1; subst q2; subst q3; subst q4; rfl, hlp⟩
      replace h := h (l.getD (l.length - 1) default) l (l.length - 1) (by omega) (afterD_some hO e0)
      rw [canD_some hO e0] at h
      have e1 : ((n : Int) - 1).toNat = l.length - 1 := by omega
      rw [e1, Nat.zero_add]
      refine ⟨_, _, [some 0, some 4], [], rfl, rfl, ?_, ?_, h⟩
      · repeat' ((conv => whnf); first | with_reducible exact True.intro | exact vW | with_reducible refine And.intro ?_ ?_)
      · repeat' ((conv => whnf); first | with_reducible exact True.intro | exact vW | with_reducible refine And.intro ?_ ?_)
    all_goals
      have hnb : ¬ ((⟨k, a, b, w⟩ : Dd) = backD ∧ 0 < l.length) := by
        rintro ⟨e, e2⟩
        have e3 := congrArg Dd.kind e
        have e4 := congrArg Dd.a e
        have e5 := congrArg Dd.b e
        have e6 := congrArg Dd.words e
        dsimp only [backD] at e3 e4 e5 e6
        first | omega | exact absurd e6 (by assumption)
      refine ⟨Wk.go [(2, .ptr 1 0), (3, .ptr 2 0), (4, .ptr 3 0), (6, .ptr 4 0)] [psO L, .box [.int .i64 p, slI bs, slS rs, .row 0 3 0 n], .box (encD ⟨k, a, b, w⟩), .box [.int .i64 0, .nils, .nils, .nils], .box [.int .i64 p, slI bs, slS rs, .row 5 3 0 n], psO l] ⟨⟨[some 0, some 1, some 2, some 3, some 5, some 4], [], rfl, rfl, ?_, ?_⟩⟩ ?_⟩
      · repeat' ((conv => whnf); first | with_reducible exact True.intro | exact vW | with_reducible refine And.intro ?_ ?_)
      · repeat' ((conv => whnf); first | with_reducible exact True.intro | exact vW | with_reducible refine And.intro ?_ ?_)
      dsimp only [encD, psO]
      repeat' ((conv => whnf); first | refine vA ?_ | with_reducible first | refine v8 ?_ | refine Sp.mk ?_ ?_ | refine vS ?_ | refine vR ?_ | refine vB ?_ | refine br_nt ?_ | refine br_tt ?_ | refine br_ff ?_ | refine vP ?_ | refine vQ ?_ | refine vT ?_ | refine vF ?_ | refine br_and ?_ | refine br_or ?_ | refine br_d (fun _ => ?_) fun _ => ?_ | refine vM (fun _ => ?_) fun _ => ?_)
      refine ⟨⟨⟨p, bs, rs⟩, ⟨k, a, b, w⟩⟩, ?_, ⟨hI.1, hs.1, ha⟩, ?_⟩
      · repeat' ((conv => whnf); first | with_reducible exact True.intro | exact vW | with_reducible refine And.intro ?_ ?_)
      have hMI := madeP_I (a := ⟨k, a, b, w⟩) hI.1 hs.1 ha
      have eD : doD ⟨⟨p, bs, rs⟩, l⟩ ⟨k, a, b, w⟩ = _ := if_neg hnb
      dsimp only at hMI eD ⊢
      generalize madeP ⟨p, bs, rs⟩ ⟨k, a, b, w⟩ = M at hMI eD ⊢
      obtain ⟨mp, mb, mr⟩ := M
      dsimp only [enPl, plC]
      repeat' ((conv => whnf); first | refine vA ?_ | with_reducible first | refine v8 ?_ | refine Sp.mk ?_ ?_ | refine vS ?_ | refine vR ?_ | refine vB ?_ | refine br_nt ?_ | refine br_tt ?_ | refine br_ff ?_ | refine vP ?_ | refine vQ ?_ | refine vT ?_ | refine vF ?_ | refine br_and ?_ | refine br_or ?_ | refine br_d (fun _ => ?_) fun _ => ?_ | refine vM (fun _ => ?_) fun _ => ?_)
      refine Dr.mk ⟨(.rd 0 (.ef 1 (.rd 2 (.rd 3 (.rd 4 (.rd 6 (.rd 7 (.ef 5 (.ef 8 (.rd 9 (.rd 10 .dn)) .no) .no)))))) .no)), by decide +kernel, ?_⟩
      repeat' ((conv => whnf); first | refine vA ?_ | with_reducible first | refine v8 ?_ | refine Sp.mk ?_ ?_ | refine vS ?_ | refine vR ?_ | refine vB ?_ | refine br_nt ?_ | refine br_tt ?_ | refine br_ff ?_ | refine vP ?_ | refine vQ ?_ | refine vT ?_ | refine vF ?_ | refine br_and ?_ | refine br_or ?_ | refine br_d (fun _ => ?_) fun _ => ?_ | refine vM (fun _ => ?_) fun _ => ?_)
      refine ⟨⟨mp, mb, mr⟩, ?_, ⟨hMI⟩, ?_⟩
      · repeat' ((conv => whnf); first | with_reducible exact True.intro | exact vW | with_reducible refine And.intro ?_ ?_)
      repeat' ((conv => whnf); first | refine vA ?_ | with_reducible first | refine v8 ?_ | refine Sp.mk ?_ ?_ | refine vS ?_ | refine vR ?_ | refine vB ?_ | refine br_nt ?_ | refine br_tt ?_ | refine br_ff ?_ | refine vP ?_ | refine vQ ?_ | refine vT ?_ | refine vF ?_ | refine br_and ?_ | refine br_or ?_ | refine br_d (fun _ => ?_) fun _ => ?_ | refine vM (fun _ => ?_) fun _ => ?_)
      · rename_i hp
        replace hp : placeOk ⟨mp, mb, mr⟩ := hp
        refine ⟨⟨mp, mb, mr⟩, ?_, ⟨hMI⟩, ?_⟩
        · repeat' ((conv => whnf); first | with_reducible exact True.intro | exact vW | with_reducible refine And.intro ?_ ?_)
        repeat' ((conv => whnf); first | refine vA ?_ | with_reducible first | refine v8 ?_ | refine Sp.mk ?_ ?_ | refine vS ?_ | refine vR ?_ | refine vB ?_ | refine br_nt ?_ | refine br_tt ?_ | refine br_ff ?_ | refine vP ?_ | refine vQ ?_ | refine vT ?_ | refine vF ?_ | refine br_and ?_ | refine br_or ?_ | refine br_d (fun _ => ?_) fun _ => ?_ | refine vM (fun _ => ?_) fun _ => ?_)
        refine ⟨⟨p, bs, rs⟩, ?_, ⟨hI.1⟩, ?_⟩
        · repeat' ((conv => whnf); first | with_reducible exact True.intro | exact vW | with_reducible refine And.intro ?_ ?_)
        by_cases he : ptext ⟨mp, mb, mr⟩ = ptext ⟨p, bs, rs⟩
        · replace eD : doD ⟨⟨p, bs, rs⟩, l⟩ ⟨k, a, b, w⟩ = none := eD.trans (if_neg fun q => q.2 he)
          replace h := h ⟨p, bs, rs⟩ l n (by omega) ((afterD_none hO eD).trans (by rw [← hll, List.take_length]))
          rw [canD_none eD] at h
          repeat' ((conv => whnf); first | refine vA ?_ | with_reducible first | refine v8 ?_ | refine Sp.mk ?_ ?_ | refine vS ?_ | refine vR ?_ | refine vB ?_ | refine br_nt ?_ | refine br_tt ?_ | refine br_ff ?_ | refine vP ?_ | refine vQ ?_ | refine vT ?_ | refine vF ?_ | refine br_and ?_ | refine br_or ?_ | refine br_d (fun _ => ?_) fun _ => ?_ | refine vM (fun _ => ?_) fun _ => ?_)
          refine ⟨_, _, [some 0, some 5], [], rfl, rfl, ?_, ?_, h⟩
          · repeat' ((conv => whnf); first | with_reducible exact True.intro | exact vW | with_reducible refine And.intro ?_ ?_)
          · repeat' ((conv => whnf); first | with_reducible exact True.intro | exact vW | with_reducible refine And.intro ?_ ?_)
        · replace eD : doD ⟨⟨p, bs, rs⟩, l⟩ ⟨k, a, b, w⟩ = some ⟨⟨mp, mb, mr⟩, pushP l ⟨p, bs, rs⟩⟩ := eD.trans (if_pos ⟨hp, he⟩)
          have h8 : ¬ 8 < (l ++ [(⟨p, bs, rs⟩ : Place)]).length := by
            simp only [List.length_append, List.length_cons, List.length_nil]
            omega
          rw [show pushP l ⟨p, bs, rs⟩ = l ++ [(⟨p, bs, rs⟩ : Place)] from if_neg h8] at eD
          replace h := h ⟨mp, mb, mr⟩ (l ++ [⟨p, bs, rs⟩]) (n + 1) (by rw [List.length_append, hll]; exact Nat.le_refl _) ((afterD_some hO eD).trans (by rw [List.take_of_length_le (by rw [List.length_append, hll]; exact Nat.le_refl _)]))
          rw [canD_some hO eD] at h
          repeat' ((conv => whnf); first | refine vA ?_ | with_reducible first | refine v8 ?_ | refine Sp.mk ?_ ?_ | refine vS ?_ | refine vR ?_ | refine vB ?_ | refine br_nt ?_ | refine br_tt ?_ | refine br_ff ?_ | refine vP ?_ | refine vQ ?_ | refine vT ?_ | refine vF ?_ | refine br_and ?_ | refine br_or ?_ | refine br_d (fun _ => ?_) fun _ => ?_ | refine vM (fun _ => ?_) fun _ => ?_)
          refine ⟨_, _, [some 0, some 8], [], rfl, rfl, ?_, ?_, h⟩
          · repeat' ((conv => whnf); first | with_reducible exact True.intro | exact vW | with_reducible refine And.intro ?_ ?_)
          · subst hll
            repeat' ((conv => whnf); first | with_reducible exact True.intro | exact vW | with_reducible refine And.intro ?_ ?_)
            all_goals exact Chk.mk (ext_push (enc := plC) (d := default) (l := l) (x := ⟨p, bs, rs⟩) rfl)
      · rename_i hp
        replace hp : ¬ placeOk ⟨mp, mb, mr⟩ := hp
        replace eD : doD ⟨⟨p, bs, rs⟩, l⟩ ⟨k, a, b, w⟩ = none := eD.trans (if_neg fun q => hp q.1)
        replace h := h ⟨p, bs, rs⟩ l n (by omega) ((afterD_none hO eD).trans (by rw [← hll, List.take_length]))
        rw [canD_none eD] at h
        refine ⟨_, _, [some 0, some 5], [], rfl, rfl, ?_, ?_, h⟩
        · repeat' ((conv => whnf); first | with_reducible exact True.intro | exact vW | with_reducible refine And.intro ?_ ?_)
        · repeat' ((conv => whnf); first | with_reducible exact True.intro | exact vW | with_reducible refine And.intro ?_ ?_)
  · rw [decide_eq_false hO]
    replace hno := hno hO
    dsimp only [psO] at hno ⊢
    repeat' ((conv => whnf); first | refine vA ?_ | with_reducible first | refine v8 ?_ | refine Sp.mk ?_ ?_ | refine vS ?_ | refine vR ?_ | refine vB ?_ | refine br_nt ?_ | refine br_tt ?_ | refine br_ff ?_ | refine vP ?_ | refine vQ ?_ | refine vT ?_ | refine vF ?_ | refine br_and ?_ | refine br_or ?_ | refine br_d (fun _ => ?_) fun _ => ?_ | refine vM (fun _ => ?_) fun _ => ?_)
    refine ⟨_, _, [some 0], [], rfl, rfl, ?_, ?_, hno⟩
    · repeat' ((conv => whnf); first | with_reducible exact True.intro | exact vW | with_reducible refine And.intro ?_ ?_)
    · repeat' ((conv => whnf); first | with_reducible exact True.intro | exact vW | with_reducible refine And.intro ?_ ?_)
end Go.Proofs.YtjefkdhecccfpaaDoor.Vc
end
section
/- Part TQ: desks that are drawn. -/
namespace Go.Proofs.YtjefkdhecccfpaaDoor.Vc
open Go.Proofs
set_option maxRecDepth 10000
set_option maxHeartbeats 4000000
def C133n : List AV → (AV → Prop) → Prop := con (X := Place) (fun x => [enPl x]) placeI fun x K => (placeOk x → K (.tup [.agg [.int .i64 x.p, slI x.bs, slS x.rules, .nils], .bool true])) ∧ (¬ placeOk x → K (.tup [.agg [.int .i64 0, .nils, .nils, .nils], .bool false]))
theorem F133n : FF 71 C133n := by
  refine fitX [(47, C127), (80, C158)] (by simp only [List.mem_cons, List.not_mem_nil, or_false]; rintro _ (rfl | rfl) <;> first | exact F127 | exact F158) [] (by simp) Tryd.f71 ⟨rfl, by decide +kernel, by decide +kernel⟩ (fun _ _ _ hk h => ⟨fun q => hk _ (h.1 q), fun q => hk _ (h.2 q)⟩) ?_
  rintro ⟨p, bs, rs⟩ K hI ⟨h, hno⟩
  refine ⟨Nat.le_of_ble_eq_true rfl, ?_⟩
  dsimp only [enPl, plC] at h hno ⊢
  repeat' ((conv => whnf); first | refine vA ?_ | with_reducible first | refine v8 ?_ | refine Sp.mk ?_ ?_ | refine vS ?_ | refine vR ?_ | refine vB ?_ | refine br_nt ?_ | refine br_tt ?_ | refine br_ff ?_ | refine vP ?_ | refine vQ ?_ | refine vT ?_ | refine vF ?_ | refine br_and ?_ | refine br_or ?_ | refine br_d (fun _ => ?_) fun _ => ?_ | refine vM (fun _ => ?_) fun _ => ?_)
  refine ⟨⟨p, bs, rs⟩, ?_, ⟨hI⟩, ?_⟩
  · repeat' ((conv => whnf); first | with_reducible exact True.intro | exact vW | with_reducible refine And.intro ?_ ?_)
  repeat' ((conv => whnf); first | refine vA ?_ | with_reducible first | refine v8 ?_ | refine Sp.mk ?_ ?_ | refine vS ?_ | refine vR ?_ | refine vB ?_ | refine br_nt ?_ | refine br_tt ?_ | refine br_ff ?_ | refine vP ?_ | refine vQ ?_ | refine vT ?_ | refine vF ?_ | refine br_and ?_ | refine br_or ?_ | refine br_d (fun _ => ?_) fun _ => ?_ | refine vM (fun _ => ?_) fun _ => ?_)
  · rename_i hO
    replace hO : placeOk ⟨p, bs, rs⟩ := hO
    refine ⟨⟨p, bs, rs⟩, ?_, ⟨placeOk_short hO⟩, ?_⟩
    · repeat' ((conv => whnf); first | with_reducible exact True.intro | exact vW | with_reducible refine And.intro ?_ ?_)
    dsimp only [enPl, plC]
    repeat' ((conv => whnf); first | refine vA ?_ | with_reducible first | refine v8 ?_ | refine Sp.mk ?_ ?_ | refine vS ?_ | refine vR ?_ | refine vB ?_ | refine br_nt ?_ | refine br_tt ?_ | refine br_ff ?_ | refine vP ?_ | refine vQ ?_ | refine vT ?_ | refine vF ?_ | refine br_and ?_ | refine br_or ?_ | refine br_d (fun _ => ?_) fun _ => ?_ | refine vM (fun _ => ?_) fun _ => ?_)
    exact h hO
  · rename_i hO
    exact hno hO
theorem afterD_len (d : Desk) (a : Dd) : (afterD d a).past.length ≤ d.past.length + 1 := by
  unfold afterD
  split
  · unfold doD
    split
    · show (d.past.take _).length ≤ _
      rw [List.length_take]; omega
    · split
      · show (pushP d.past d.now).length ≤ _
        unfold pushP
        split
        · rw [List.length_drop, List.length_append]; exact Nat.le_trans (Nat.sub_le _ _) (Nat.le_refl _)
        · rw [List.length_append]; exact Nat.le_refl _
      · exact Nat.le_succ _
  · exact Nat.zero_le _
theorem take_len' {L : List Place} {n : Nat} (h : n ≤ L.length) : (L.take n).length = n := by rw [List.length_take]; exact Nat.min_eq_left h
def sameC (f : Nat → List AV) (l : List Place) : Prop := ∀ i, i < l.length → ∀ j, j < 3 → cellE ((f i).getD j .undef) ((plC (l.getD i default)).getD j .undef)
theorem sameC_rfl (l : List Place) : sameC (fun i => plC (l.getD i default)) l := fun _ _ _ _ => .inl rfl
theorem sameC_snoc {L l : List Place} {m : Nat} {z : List AV} (hm : m ≤ L.length) (hl : L.take m = l) : sameC (fun i => appF m (fun i => plC (L.getD i default)) (fun i => (fun i => [[AV.int .i64 0, .nils, .nils]].getD i z) (0 + i)) (0 + i)) (l ++ [default]) := by
  have hll : l.length = m := by rw [← hl]; exact take_len' hm
  intro i hi j hj
  rw [List.length_append] at hi
  replace hi : i < l.length + 1 := hi
  dsimp only
  rw [Nat.zero_add, List.getD_eq_getElem?_getD (l := l ++ [default])]
  by_cases e : i < m
  · have e' : Nat.blt i m = true := Nat.ble_eq_true_of_le e
    rw [List.getElem?_append_left (by omega), ← List.getD_eq_getElem?_getD]
    unfold appF
    rw [e', cond_true, ← hl, take_get e]
    exact .inl rfl
  · obtain rfl : i = m := by omega
    have e' : Nat.blt i i = false := by
      cases h : Nat.blt i i with
      | false => rfl
      | true => exact absurd (blt_t h) (Nat.lt_irrefl _)
    subst hll
    rw [List.getElem?_append_right (Nat.le_refl _), Nat.sub_self]
    unfold appF
    rw [e', cond_false, Nat.sub_self]
    rcases (show j = 0 ∨ j = 1 ∨ j = 2 by omega) with rfl | rfl | rfl
    · exact .inl rfl
    · exact .inr ⟨rfl, _, _, rfl⟩
    · exact .inr ⟨rfl, _, _, rfl⟩
def C167 : GC := conG (X := Rd × Int) (fun x => [.ptr 0 0, .int .i64 x.2]) (fun x => [rdO x.1.b x.1.p]) (fun x => x.1.okn 300000000 ∧ i64r x.2) fun x K => ∀ (d : Desk) (p' : Int) (f : Nat → List AV), x.1.p ≤ p' → p' ≤ x.1.p + 5000 → drawnD d → sameC f d.past → K (.agg [.int .i64 d.now.p, slI d.now.bs, slS d.now.rules, .sl 3 d.past.length f]) [rdO x.1.b p']
theorem F167 : GG 41 C167 := by
  refine fitG [(71, C133n)] (by simp only [List.mem_cons, List.not_mem_nil, or_false]; rintro _ rfl <;> first | exact F133n) [(68, C52), (55, C53), (64, C151), (42, C184), (12, C183r)] (by simp only [List.mem_cons, List.not_mem_nil, or_false]; rintro _ (rfl | rfl | rfl | rfl | rfl) <;> first | exact F52 | exact F53 | exact F151 | exact F184 | exact F183r) Tryd.f41 ⟨rfl, by decide +kernel, by decide +kernel⟩ (by intro x K K2 hk h; (try dsimp only at h ⊢); intros; apply hk; first | exact h | (apply h <;> assumption)) ?_
  rintro ⟨⟨b, p⟩, n⟩ K ⟨⟨h1, h2, h3, h4⟩, h5⟩ h
  refine ⟨Nat.le_of_ble_eq_true rfl, ?_⟩
  dsimp only at h h1 h2 h3 h4 h5 ⊢
  repeat' ((conv => whnf); first | refine vA ?_ | with_reducible first | refine v8 ?_ | refine Sp.mk ?_ ?_ | refine vS ?_ | refine vR ?_ | refine vB ?_ | refine br_nt ?_ | refine br_tt ?_ | refine br_ff ?_ | refine vP ?_ | refine vQ ?_ | refine vT ?_ | refine vF ?_ | refine br_and ?_ | refine br_or ?_ | refine br_d (fun _ => ?_) fun _ => ?_ | refine vM (fun _ => ?_) fun _ => ?_)
  refine ⟨_, _, [0], [], rfl, ?_, ?_, (⟨b, p⟩, 0), rfl, rfl, ⟨⟨h1, h2, h3, by dsimp only; omega⟩, by unfold i64r; dsimp only; omega⟩, ?_⟩
  · repeat' ((conv => whnf); first | with_reducible exact True.intro | exact vW | with_reducible refine And.intro ?_ ?_)
  · repeat' ((conv => whnf); first | with_reducible exact True.intro | exact vW | with_reducible refine And.intro ?_ ?_)
  intro y p1 y1 y2 hy
  dsimp only at y1 y2 ⊢
  repeat' ((conv => whnf); first | refine vA ?_ | with_reducible first | refine v8 ?_ | refine Sp.mk ?_ ?_ | refine vS ?_ | refine vR ?_ | refine vB ?_ | refine br_nt ?_ | refine br_tt ?_ | refine br_ff ?_ | refine vP ?_ | refine vQ ?_ | refine vT ?_ | refine vF ?_ | refine br_and ?_ | refine br_or ?_ | refine br_d (fun _ => ?_) fun _ => ?_ | refine vM (fun _ => ?_) fun _ => ?_)
  refine ⟨y, ?_, ⟨hy.I⟩, ?_⟩
  · repeat' ((conv => whnf); first | with_reducible exact True.intro | exact vW | with_reducible refine And.intro ?_ ?_)
  have hg := newDe_good hy
  unfold newDe at hg
  obtain ⟨P, bs, rs⟩ := y
  dsimp only
  apply later
  · intro key
    refine ⟨fun hO => ?_, fun hO => ?_⟩
    · rw [if_pos hO] at hg
      repeat' ((conv => whnf); first | with_reducible refine wk_at 2 ?_ | with_reducible refine wk_at1 2 ?_ | with_reducible refine wk_at2 2 ?_ | refine vA ?_ | with_reducible first | refine v8 ?_ | refine Sp.mk ?_ ?_ | refine vS ?_ | refine vR ?_ | refine vB ?_ | refine br_nt ?_ | refine br_tt ?_ | refine br_ff ?_ | refine vP ?_ | refine vQ ?_ | refine vT ?_ | refine vF ?_ | refine br_and ?_ | refine br_or ?_ | refine br_d (fun _ => ?_) fun _ => ?_ | refine vM (fun _ => ?_) fun _ => ?_)
      obtain ⟨x, hx⟩ : ∃ x : Place, (⟨P,bs,rs⟩:Place) = x := ⟨_, rfl⟩
      refine ⟨Wk.go [(0, .ptr 0 0), (1, .int .i64 n), (4, .ptr 1 0), (5, .ptr 2 0)] [rdO b p1, .box [.int .i64 0, .nils, .nils, .nils], .box [.int .i64 x.p, slI x.bs, slS x.rules, .row 3 3 0 0], psO []] ⟨⟨[some 0, some 1, some 2, none], [], rfl, rfl, ?_, ?_⟩⟩ ?_⟩
      · repeat' ((conv => whnf); first | with_reducible exact True.intro | exact vW | with_reducible refine And.intro ?_ ?_)
      · subst hx
        repeat' ((conv => whnf); first | with_reducible exact True.intro | exact vW | with_reducible refine And.intro ?_ ?_)
      have hgx : goodD ⟨x, []⟩ := hx ▸ hg
      clear hx
      revert x
      exact key.t
    · rw [if_neg hO] at hg
      repeat' ((conv => whnf); first | with_reducible refine wk_at 2 ?_ | with_reducible refine wk_at1 2 ?_ | with_reducible refine wk_at2 2 ?_ | refine vA ?_ | with_reducible first | refine v8 ?_ | refine Sp.mk ?_ ?_ | refine vS ?_ | refine vR ?_ | refine vB ?_ | refine br_nt ?_ | refine br_tt ?_ | refine br_ff ?_ | refine vP ?_ | refine vQ ?_ | refine vT ?_ | refine vF ?_ | refine br_and ?_ | refine br_or ?_ | refine br_d (fun _ => ?_) fun _ => ?_ | refine vM (fun _ => ?_) fun _ => ?_)
      obtain ⟨x, hx⟩ : ∃ x : Place, (default:Place) = x := ⟨_, rfl⟩
      refine ⟨Wk.go [(0, .ptr 0 0), (1, .int .i64 n), (4, .ptr 1 0), (5, .ptr 2 0)] [rdO b p1, .box [.int .i64 0, .nils, .nils, .nils], .box [.int .i64 x.p, slI x.bs, slS x.rules, .row 3 3 0 0], psO []] ⟨⟨[some 0, some 1, some 2, none], [], rfl, rfl, ?_, ?_⟩⟩ ?_⟩
      · repeat' ((conv => whnf); first | with_reducible exact True.intro | exact vW | with_reducible refine And.intro ?_ ?_)
      · subst hx
        repeat' ((conv => whnf); first | with_reducible exact True.intro | exact vW | with_reducible refine And.intro ?_ ?_)
      have hgx : goodD ⟨x, []⟩ := hx ▸ hg
      clear hx
      revert x
      exact key.t
  intro x hg
  clear hy
  repeat' ((conv => whnf); first | refine vA ?_ | with_reducible first | refine v8 ?_ | refine Sp.mk ?_ ?_ | refine vS ?_ | refine vR ?_ | refine vB ?_ | refine br_nt ?_ | refine br_tt ?_ | refine br_ff ?_ | refine vP ?_ | refine vQ ?_ | refine vT ?_ | refine vF ?_ | refine br_and ?_ | refine br_or ?_ | refine br_d (fun _ => ?_) fun _ => ?_ | refine vM (fun _ => ?_) fun _ => ?_)
  refine ⟨_, _, [0], [], rfl, ?_, ?_, (⟨b, p1⟩, 5), rfl, rfl, ⟨⟨h1, h2, ?_, ?_⟩, ?_⟩, ?_⟩
  · repeat' ((conv => whnf); first | with_reducible exact True.intro | exact vW | with_reducible refine And.intro ?_ ?_)
    try exact Chk.mk (by rw [pw_sh (by assumption)])
  · repeat' ((conv => whnf); first | with_reducible exact True.intro | exact vW | with_reducible refine And.intro ?_ ?_)
  · dsimp only; omega
  · dsimp only; omega
  · unfold i64r; dsimp only; omega
  intro k1 p2 a0 a1 a2
  dsimp only at a0 a1 a2
  repeat' ((conv => whnf); first | refine vA ?_ | with_reducible first | refine v8 ?_ | refine Sp.mk ?_ ?_ | refine vS ?_ | refine vR ?_ | refine vB ?_ | refine br_nt ?_ | refine br_tt ?_ | refine br_ff ?_ | refine vP ?_ | refine vQ ?_ | refine vT ?_ | refine vF ?_ | refine br_and ?_ | refine br_or ?_ | refine br_d (fun _ => ?_) fun _ => ?_ | refine vM (fun _ => ?_) fun _ => ?_)
  refine Lp.mk ⟨Dk × Int × Int, fun x => [(0, .ptr 0 0), (1, .int .i64 n), (4, .ptr 1 0), (5, .ptr 2 0), (7, .int .i64 x.2.1)],
    fun x => [rdO b x.2.2, .box [.int .i64 0, .nils, .nils, .nils], .box [.int .i64 x.1.x.p, slI x.1.x.bs, slS x.1.x.rules, .row 3 3 0 x.1.n], psO x.1.L],
    fun x => 0 ≤ x.2.1 ∧ x.2.1 + x.1.n ≤ 5 ∧ p2 ≤ x.2.2 ∧ x.2.2 + 300 * x.2.1 ≤ p2 + 1500 ∧ goodD x.1.d ∧ x.1.n ≤ x.1.L.length, fun x => x.2.1.toNat, ⟨(⟨x, [], 0⟩, k1, p2), ⟨by dsimp only; omega, by dsimp only; omega, by dsimp only; omega, by dsimp only; omega, hg, Nat.zero_le _⟩, ⟨⟨[some 0, some 1, some 2, some 3], [], rfl, rfl, ?_, ?_⟩⟩⟩, ?_⟩
  · repeat' ((conv => whnf); first | with_reducible exact True.intro | exact vW | with_reducible refine And.intro ?_ ?_)
  · repeat' ((conv => whnf); first | with_reducible exact True.intro | exact vW | with_reducible refine And.intro ?_ ?_)
  rintro ⟨⟨⟨P', bs', rs'⟩, L, m⟩, j, q⟩ ⟨i1, i2, i3, i4, hg, hm⟩
  dsimp only at i1 i2 i3 i4 hm ⊢
  obtain ⟨l, hl⟩ : ∃ l, L.take m = l := ⟨_, rfl⟩
  have hll : l.length = m := by rw [← hl]; exact take_len' hm
  have hdk : Dk.d ⟨⟨P', bs', rs'⟩, L, m⟩ = ⟨⟨P', bs', rs'⟩, l⟩ := by rw [← hl]; rfl
  replace hg : goodD ⟨⟨P', bs', rs'⟩, l⟩ := by rw [← hdk]; exact hg
  have hD := hg.1
  have hq := hD.1
  repeat' ((conv => whnf); first | refine vA ?_ | with_reducible first | refine v8 ?_ | refine Sp.mk ?_ ?_ | refine vS ?_ | refine vR ?_ | refine vB ?_ | refine br_nt ?_ | refine br_tt ?_ | refine br_ff ?_ | refine vP ?_ | refine vQ ?_ | refine vT ?_ | refine vF ?_ | refine br_and ?_ | refine br_or ?_ | refine br_d (fun _ => ?_) fun _ => ?_ | refine vM (fun _ => ?_) fun _ => ?_)
  · rename_i hj
    refine Dr.mk ⟨(.rd 0 (.rd 1 (.rd 2 (.rd 3 (.ef 4 (.ef 5 (.rd 6 (.rd 7 (.rd 8 (.ef 9 (.ef 10 (.rd 11 .dn) .no) .no)))) (.ef 9 (.ef 5 (.rd 6 (.rd 7 (.rd 8 (.ef 10 (.rd 11 .dn) .no)))) .no) .no)) (.ef 9 (.ef 4 (.ef 5 (.rd 6 (.rd 7 (.rd 8 (.ef 10 (.rd 11 .dn) .no)))) .no) .no) .no)))))), by decide +kernel, ?_⟩
    repeat' ((conv => whnf); first | refine vA ?_ | with_reducible first | refine v8 ?_ | refine Sp.mk ?_ ?_ | refine vS ?_ | refine vR ?_ | refine vB ?_ | refine br_nt ?_ | refine br_tt ?_ | refine br_ff ?_ | refine vP ?_ | refine vQ ?_ | refine vT ?_ | refine vF ?_ | refine br_and ?_ | refine br_or ?_ | refine br_d (fun _ => ?_) fun _ => ?_ | refine vM (fun _ => ?_) fun _ => ?_)
    all_goals
      refine ⟨_, _, [0], [], rfl, ?_, ?_, ⟨⟨b, q⟩, ⟨P', bs', rs'⟩⟩, rfl, rfl, ⟨⟨h1, h2, by dsimp only; omega, by dsimp only; omega⟩, hq.i, hq.bl, Nat.le_trans hq.rl (by decide)⟩, ?_⟩
      · repeat' ((conv => whnf); first | with_reducible exact True.intro | exact vW | with_reducible refine And.intro ?_ ?_)
      · repeat' ((conv => whnf); first | with_reducible exact True.intro | exact vW | with_reducible refine And.intro ?_ ?_)
      rintro ⟨k, a, b', w⟩ q' q1 q2 ha
      dsimp only [ded, encD] at q1 q2 ⊢
      repeat' ((conv => whnf); first | refine vA ?_ | with_reducible first | refine v8 ?_ | refine Sp.mk ?_ ?_ | refine vS ?_ | refine vR ?_ | refine vB ?_ | refine br_nt ?_ | refine br_tt ?_ | refine br_ff ?_ | refine vP ?_ | refine vQ ?_ | refine vT ?_ | refine vF ?_ | refine br_and ?_ | refine br_or ?_ | refine br_d (fun _ => ?_) fun _ => ?_ | refine vM (fun _ => ?_) fun _ => ?_)
    all_goals
      refine ⟨_, _, [3], [], rfl, ?_, ?_, ⟨⟨⟨P', bs', rs'⟩, L, m⟩, ⟨k, a, b', w⟩⟩, rfl, rfl, ⟨by rw [hdk]; exact hD.I, hm, by dsimp only; omega, ha.I⟩, ?_⟩
      · repeat' ((conv => whnf); first | with_reducible exact True.intro | exact vW | with_reducible refine And.intro ?_ ?_)
      · repeat' ((conv => whnf); first | with_reducible exact True.intro | exact vW | with_reducible refine And.intro ?_ ?_)
      dsimp only
      rw [hdk]
      refine ⟨fun hO => ?_, fun hO y L' n' hn' he => ?_⟩
      · repeat' ((conv => whnf); first | refine vA ?_ | with_reducible first | refine v8 ?_ | refine Sp.mk ?_ ?_ | refine vS ?_ | refine vR ?_ | refine vB ?_ | refine br_nt ?_ | refine br_tt ?_ | refine br_ff ?_ | refine vP ?_ | refine vQ ?_ | refine vT ?_ | refine vF ?_ | refine br_and ?_ | refine br_or ?_ | refine br_d (fun _ => ?_) fun _ => ?_ | refine vM (fun _ => ?_) fun _ => ?_)
        refine ⟨(⟨⟨P', bs', rs'⟩, L, m⟩, j - 1, q'), ⟨by dsimp only; omega, by dsimp only; omega, by dsimp only; omega, by dsimp only; omega, by rw [hdk]; exact hg, hm⟩, by dsimp only; omega, ?_⟩
        first | (refine ⟨⟨[some 0, some 1, some 2, some 3], [], rfl, rfl, ?_, ?_⟩⟩ <;> (repeat' ((conv => whnf); first | with_reducible exact True.intro | exact vW | with_reducible refine And.intro ?_ ?_)) <;> fail)
      · have hA : canD ⟨⟨P', bs', rs'⟩, l⟩ ⟨k, a, b', w⟩ = true → goodD (Dk.d ⟨y, L', n'⟩) := fun hc => by
          obtain ⟨e, e1, e2, e3⟩ := canD_t hc
          have := doD_good hD e1 ha e2
          rw [← e3, he] at this
          exact this
        have hn2 : n' ≤ m + 1 := by
          have h1 := afterD_len ⟨⟨P', bs', rs'⟩, l⟩ ⟨k, a, b', w⟩
          rw [he] at h1
          have h2 := take_len' hn'
          dsimp only at h1
          omega
        generalize canD ⟨⟨P', bs', rs'⟩, l⟩ ⟨k, a, b', w⟩ = c at hA ⊢
        obtain ⟨yp, yb, yr⟩ := y
        dsimp only [dkV]
        cases c
        · repeat' ((conv => whnf); first | refine vA ?_ | with_reducible first | refine v8 ?_ | refine Sp.mk ?_ ?_ | refine vS ?_ | refine vR ?_ | refine vB ?_ | refine br_nt ?_ | refine br_tt ?_ | refine br_ff ?_ | refine vP ?_ | refine vQ ?_ | refine vT ?_ | refine vF ?_ | refine br_and ?_ | refine br_or ?_ | refine br_d (fun _ => ?_) fun _ => ?_ | refine vM (fun _ => ?_) fun _ => ?_)
          refine ⟨(⟨⟨P', bs', rs'⟩, L, m⟩, j - 1, q'), ⟨by dsimp only; omega, by dsimp only; omega, by dsimp only; omega, by dsimp only; omega, by rw [hdk]; exact hg, hm⟩, by dsimp only; omega, ?_⟩
          first | (refine ⟨⟨[some 0, some 1, some 2, some 3], [], rfl, rfl, ?_, ?_⟩⟩ <;> (repeat' ((conv => whnf); first | with_reducible exact True.intro | exact vW | with_reducible refine And.intro ?_ ?_)) <;> fail)
        · have hg' := hA rfl
          repeat' ((conv => whnf); first | refine vA ?_ | with_reducible first | refine v8 ?_ | refine Sp.mk ?_ ?_ | refine vS ?_ | refine vR ?_ | refine vB ?_ | refine br_nt ?_ | refine br_tt ?_ | refine br_ff ?_ | refine vP ?_ | refine vQ ?_ | refine vT ?_ | refine vF ?_ | refine br_and ?_ | refine br_or ?_ | refine br_d (fun _ => ?_) fun _ => ?_ | refine vM (fun _ => ?_) fun _ => ?_)
          refine ⟨(⟨⟨yp, yb, yr⟩, L', n'⟩, j - 1, q'), ⟨by dsimp only; omega, by dsimp only; omega, by dsimp only; omega, by dsimp only; omega, hg', hn'⟩, by dsimp only; omega, ?_⟩
          first | (refine ⟨⟨[some 0, some 1, some 2, some 4], [], rfl, rfl, ?_, ?_⟩⟩ <;> (repeat' ((conv => whnf); first | with_reducible exact True.intro | exact vW | with_reducible refine And.intro ?_ ?_)) <;> fail) | (refine ⟨⟨[some 0, some 1, some 2, some 5], [], rfl, rfl, ?_, ?_⟩⟩ <;> (repeat' ((conv => whnf); first | with_reducible exact True.intro | exact vW | with_reducible refine And.intro ?_ ?_)) <;> fail)
  · repeat' ((conv => whnf); first | refine vA ?_ | with_reducible first | refine v8 ?_ | refine Sp.mk ?_ ?_ | refine vS ?_ | refine vR ?_ | refine vB ?_ | refine br_nt ?_ | refine br_tt ?_ | refine br_ff ?_ | refine vP ?_ | refine vQ ?_ | refine vT ?_ | refine vF ?_ | refine br_and ?_ | refine br_or ?_ | refine br_d (fun _ => ?_) fun _ => ?_ | refine vM (fun _ => ?_) fun _ => ?_)
    refine ⟨_, _, [0], [], rfl, ?_, ?_, (⟨b, q⟩, n), rfl, rfl, ⟨⟨h1, h2, by dsimp only; omega, by dsimp only; omega⟩, h5⟩, ?_⟩
    · repeat' ((conv => whnf); first | with_reducible exact True.intro | exact vW | with_reducible refine And.intro ?_ ?_)
    · repeat' ((conv => whnf); first | with_reducible exact True.intro | exact vW | with_reducible refine And.intro ?_ ?_)
    intro v p' v1 v2
    dsimp only at v1 v2 ⊢
    have hsl : l.length = m ∧ 0 + m ≤ L.length ∧ ∀ i, i < l.length → plC (l.getD i default) = plC (L.getD (0 + i) default) := ⟨hll, by omega, fun i hi => by rw [Nat.zero_add, ← hl, take_get (by omega)]⟩
    repeat' ((conv => whnf); first | refine vA ?_ | with_reducible first | refine v8 ?_ | refine Sp.mk ?_ ?_ | refine vS ?_ | refine vR ?_ | refine vB ?_ | refine br_nt ?_ | refine br_tt ?_ | refine br_ff ?_ | refine vP ?_ | refine vQ ?_ | refine vT ?_ | refine vF ?_ | refine br_and ?_ | refine br_or ?_ | refine br_d (fun _ => ?_) fun _ => ?_ | refine vM (fun _ => ?_) fun _ => ?_)
    · refine ⟨_, _, [0], [], rfl, ?_, ?_, (⟨b, p'⟩, 3), rfl, rfl, ⟨⟨h1, h2, ?_, ?_⟩, ?_⟩, ?_⟩
      · repeat' ((conv => whnf); first | with_reducible exact True.intro | exact vW | with_reducible refine And.intro ?_ ?_)
        try exact Chk.mk (by rw [pw_sh (by assumption)])
      · repeat' ((conv => whnf); first | with_reducible exact True.intro | exact vW | with_reducible refine And.intro ?_ ?_)
      · dsimp only; omega
      · dsimp only; omega
      · unfold i64r; dsimp only; omega
      intro k5 p5 e0 e1 e2
      dsimp only at e0 e1 e2
      repeat' ((conv => whnf); first | refine vA ?_ | with_reducible first | refine v8 ?_ | refine Sp.mk ?_ ?_ | refine vS ?_ | refine vR ?_ | refine vB ?_ | refine br_nt ?_ | refine br_tt ?_ | refine br_ff ?_ | refine vP ?_ | refine vQ ?_ | refine vT ?_ | refine vF ?_ | refine br_and ?_ | refine br_or ?_ | refine br_d (fun _ => ?_) fun _ => ?_ | refine vM (fun _ => ?_) fun _ => ?_)
      · refine ⟨_, _, [some 0], [3], rfl, rfl, ?_, ?_, h ⟨⟨P', bs', []⟩, l⟩ p5 _ (by omega) (by omega) ⟨⟨⟨hq.i.1, (by decide : 0 < 9223372036854775808), fun _ hb => by cases hb⟩, hq.bl, (by decide : 0 ≤ 4), fun _ hb => by cases hb⟩, hD.2⟩ (sameC_rfl _)⟩
        · repeat' ((conv => whnf); first | with_reducible exact True.intro | exact vW | with_reducible refine And.intro ?_ ?_)
          all_goals exact Chk.mk hsl
        · repeat' ((conv => whnf); first | with_reducible exact True.intro | exact vW | with_reducible refine And.intro ?_ ?_)
      · obtain ⟨lp, l9, lq⟩ := hD
        dsimp only at lp l9 lq
        have hx : (l ++ [(default : Place)]).length = m + 1 := by rw [List.length_append, hll]; rfl
        refine ⟨_, _, [some 0], [5], rfl, rfl, ?_, ?_, h ⟨⟨P', bs', rs'⟩, l ++ [default]⟩ p5 _ (by omega) (by omega) ⟨lp, by dsimp only; rw [List.length_append]; show l.length + 1 ≤ 9; omega, fun z hz => (List.mem_append.1 hz).elim (fun k => lq z k) fun k => by rw [List.mem_singleton.1 k]; exact drawnQ0⟩ (sameC_snoc hm hl (z := (lookT TT 28).z))⟩
        · repeat' ((conv => whnf); first | with_reducible exact True.intro | exact vW | with_reducible refine And.intro ?_ ?_)
          all_goals exact Chk.mk ⟨hx, by omega, fun i hi => rfl⟩
        · repeat' ((conv => whnf); first | with_reducible exact True.intro | exact vW | with_reducible refine And.intro ?_ ?_)
      · refine ⟨_, _, [some 0], [], rfl, rfl, ?_, ?_, h default p5 _ (by omega) (by omega) drawnD0 (sameC_rfl _)⟩
        · repeat' ((conv => whnf); first | with_reducible exact True.intro | exact vW | with_reducible refine And.intro ?_ ?_)
        · repeat' ((conv => whnf); first | with_reducible exact True.intro | exact vW | with_reducible refine And.intro ?_ ?_)
    · refine ⟨_, _, [some 0], [3], rfl, rfl, ?_, ?_, h ⟨⟨P', bs', rs'⟩, l⟩ p' _ (by omega) (by omega) hD (sameC_rfl _)⟩
      · repeat' ((conv => whnf); first | with_reducible exact True.intro | exact vW | with_reducible refine And.intro ?_ ?_)
        all_goals exact Chk.mk hsl
      · repeat' ((conv => whnf); first | with_reducible exact True.intro | exact vW | with_reducible refine And.intro ?_ ?_)
end Go.Proofs.YtjefkdhecccfpaaDoor.Vc
end
section
/- Part TR: the law of desks. -/
namespace Go.Proofs.YtjefkdhecccfpaaDoor.Vc
open Go.Proofs
set_option maxRecDepth 10000
set_option maxHeartbeats 4000000
theorem desk_sem (d : Desk) {f : Nat → List AV} (h : sameC f d.past) : semE (.agg [.int .i64 d.now.p, slI d.now.bs, slS d.now.rules, .sl 3 d.past.length f]) (enDe d) := by
  refine agg_sem rfl fun j hj => ?_
  replace hj : j < 4 := hj
  rcases (show j = 0 ∨ j = 1 ∨ j = 2 ∨ j = 3 by omega) with rfl | rfl | rfl | rfl
  · exact semE_rfl _
  · exact semE_rfl _
  · exact semE_rfl _
  · exact sl_sem (fun i _ => rfl) h
end Go.Proofs.YtjefkdhecccfpaaDoor.Vc
end
section
/- Part XL: deeds at desks, one and many, by both sides; drawn ones. -/
namespace Go.Proofs.YtjefkdhecccfpaaDoor.Vc
open Go.Proofs
set_option maxRecDepth 10000
set_option maxHeartbeats 4000000
theorem deskOk_I {d : Desk} (h : deskOk d) : deskI d := ⟨I_of h.1, by have := h.2.1; omega, fun p hp => I_of (h.2.2 p hp)⟩
structure Rn where
  d : Desk
  l : List Dd
structure Ri where
  i : Nat
  e : Desk
  n : Nat
def rnPre (x : Rn) : Prop := deskOk x.d ∧ (∀ a ∈ x.l, dedI a) ∧ x.l.length ≤ 1048576
def C257 : List AV → (AV → Prop) → Prop := con (X := Rn) (fun x => [enDe x.d, slD x.l]) rnPre fun x K => K (.tup [enDe (runD x.d x.l).1, .int .i64 ((runD x.d x.l).2 : Nat)])
theorem F257 : FF 58 C257 := by
  refine fitXE [(12, C183)] (by simp only [List.mem_cons, List.not_mem_nil, or_false]; rintro _ rfl; exact F183) [(45, C198)] (by simp only [List.mem_cons, List.not_mem_nil, or_false]; rintro _ rfl; exact F198) Tryd.f58 ⟨rfl, by decide +kernel, by decide +kernel⟩ (fun _ _ _ hk h => hk _ h) ?_
  rintro ⟨⟨⟨p, bs, rs⟩, past⟩, l⟩ K ⟨hO, hl, hll⟩ h
  refine ⟨Nat.le_of_ble_eq_true rfl, ?_⟩
  dsimp only at hO hl hll h
  have hs := deskOk_short hO
  dsimp only [enDe, deC] at h ⊢
  repeat' ((conv => whnf); first | refine vA ?_ | with_reducible first | refine v8 ?_ | refine Sp.mk ?_ ?_ | refine vS ?_ | refine vR ?_ | refine vB ?_ | refine br_nt ?_ | refine br_tt ?_ | refine br_ff ?_ | refine vP ?_ | refine vQ ?_ | refine vT ?_ | refine vF ?_ | refine br_and ?_ | refine br_or ?_ | refine br_d (fun _ => ?_) fun _ => ?_ | refine vM (fun _ => ?_) fun _ => ?_)
  refine ⟨_, _, [], [], rfl, ?_, ?_, ⟨⟨p, bs, rs⟩, past⟩, rfl, rfl, ⟨hs⟩, ?_⟩
  · repeat' ((conv => whnf); first | with_reducible exact True.intro | exact vW | with_reducible refine And.intro ?_ ?_)
  · repeat' ((conv => whnf); first | with_reducible exact True.intro | exact vW | with_reducible refine And.intro ?_ ?_)
  dsimp only [deG, psO]
  repeat' ((conv => whnf); first | refine vA ?_ | with_reducible first | refine v8 ?_ | refine Sp.mk ?_ ?_ | refine vS ?_ | refine vR ?_ | refine vB ?_ | refine br_nt ?_ | refine br_tt ?_ | refine br_ff ?_ | refine vP ?_ | refine vQ ?_ | refine vT ?_ | refine vF ?_ | refine br_and ?_ | refine br_or ?_ | refine br_d (fun _ => ?_) fun _ => ?_ | refine vM (fun _ => ?_) fun _ => ?_)
  refine Lp.mk ⟨Ri, fun x => [(1, slD l), (4, .ptr 0 0), (6, .ptr 1 0), (7, .int .i64 x.n), (8, .int .i64 x.i)], fun x => [.box [.int .i64 0, .nils, .nils, .nils], .box [.int .i64 x.e.now.p, slI x.e.now.bs, slS x.e.now.rules, slP x.e.past]], fun x => x.i ≤ l.length ∧ runD ⟨⟨p, bs, rs⟩, past⟩ (l.take x.i) = (x.e, x.n), fun x => l.length - x.i, ⟨⟨0, ⟨⟨p, bs, rs⟩, past⟩, 0⟩, ⟨Nat.zero_le _, rfl⟩, ?_⟩, ?_⟩
  · first | (refine ⟨⟨[some 1, some 3], [2], rfl, rfl, ?_, ?_⟩⟩ <;> (repeat' ((conv => whnf); first | with_reducible exact True.intro | exact vW | with_reducible refine And.intro ?_ ?_ | exact Chk.mk ⟨rfl, by dsimp only; omega, fun i _ => by dsimp only; (try rw [Nat.zero_add]); try rfl⟩)) <;> fail) | (refine ⟨⟨[some 1, some 2], [3], rfl, rfl, ?_, ?_⟩⟩ <;> (repeat' ((conv => whnf); first | with_reducible exact True.intro | exact vW | with_reducible refine And.intro ?_ ?_ | exact Chk.mk ⟨rfl, by dsimp only; omega, fun i _ => by dsimp only; (try rw [Nat.zero_add]); try rfl⟩)) <;> fail)
  rintro ⟨i, ⟨⟨ep, eb, er⟩, el⟩, n⟩ ⟨i1, i2⟩
  dsimp only at i1 i2 ⊢
  have hOe : deskOk ⟨⟨ep, eb, er⟩, el⟩ := by have := runD_ok hO (l.take i); rw [i2] at this; exact this
  have hn := runD_le ⟨⟨p, bs, rs⟩, past⟩ (l.take i)
  rw [i2, List.length_take] at hn
  dsimp only at hn
  by_cases hi : i < l.length
  · have hst := take_step hi
    have ha := hl _ (getD_mem' (d := default) hi)
    generalize hA : l.getD i default = A at ha hst
    have hA' : l.getD (i : Int).toNat default = A := hA
    repeat' ((conv => whnf); first | refine vA ?_ | with_reducible first | refine v8 ?_ | refine Sp.mk ?_ ?_ | refine vS ?_ | refine vR ?_ | refine vB ?_ | refine br_nt ?_ | refine br_tt ?_ | refine br_ff ?_ | refine vP ?_ | refine vQ ?_ | refine vT ?_ | refine vF ?_ | refine br_and ?_ | refine br_or ?_ | refine br_d (fun _ => ?_) fun _ => ?_ | refine vM (fun _ => ?_) fun _ => ?_)
    refine Dr.mk ⟨(.rd 0 (.rd 1 (.rd 2 (.rd 3 (.rd 4 (.ef 5 (.rd 6 (.rd 7 (.rd 8 (.ef 9 (.ef 10 (.rd 11 .dn) .no) .no)))) (.ef 9 (.ef 5 (.rd 6 (.rd 7 (.rd 8 (.ef 10 (.rd 11 .dn) .no)))) .no) .no))))))), by decide +kernel, ?_⟩
    repeat' ((conv => whnf); first | refine vA ?_ | with_reducible first | refine v8 ?_ | refine Sp.mk ?_ ?_ | refine vS ?_ | refine vR ?_ | refine vB ?_ | refine br_nt ?_ | refine br_tt ?_ | refine br_ff ?_ | refine vP ?_ | refine vQ ?_ | refine vT ?_ | refine vF ?_ | refine br_and ?_ | refine br_or ?_ | refine br_d (fun _ => ?_) fun _ => ?_ | refine vM (fun _ => ?_) fun _ => ?_)
    all_goals
      refine ⟨⟨⟨⟨ep, eb, er⟩, el⟩, A⟩, ?_, ⟨deskOk_I hOe, ha⟩, ?_⟩
      · repeat' ((conv => whnf); first | with_reducible exact True.intro | exact vW | with_reducible refine And.intro ?_ ?_)
        all_goals first | exact Chk.mk (by rw [hA'])
      dsimp only
      cases hd : doD ⟨⟨ep, eb, er⟩, el⟩ A with
      | none =>
        have hr : runD ⟨⟨p, bs, rs⟩, past⟩ (l.take (i + 1)) = (⟨⟨ep, eb, er⟩, el⟩, n) := by rw [hst, runD_none (by rw [i2]; exact hd), i2]
        rw [afterD_none hOe hd, canD_none hd]
        dsimp only [enDe, deC]
        repeat' ((conv => whnf); first | refine vA ?_ | with_reducible first | refine v8 ?_ | refine Sp.mk ?_ ?_ | refine vS ?_ | refine vR ?_ | refine vB ?_ | refine br_nt ?_ | refine br_tt ?_ | refine br_ff ?_ | refine vP ?_ | refine vQ ?_ | refine vT ?_ | refine vF ?_ | refine br_and ?_ | refine br_or ?_ | refine br_d (fun _ => ?_) fun _ => ?_ | refine vM (fun _ => ?_) fun _ => ?_)
        refine ⟨⟨i + 1, ⟨⟨ep, eb, er⟩, el⟩, n⟩, ⟨by dsimp only; omega, hr⟩, by dsimp only; omega, ?_⟩
        first | (refine ⟨⟨[some 0, some 1], [], rfl, rfl, ?_, ?_⟩⟩ <;> (repeat' ((conv => whnf); first | with_reducible exact True.intro | exact vW | with_reducible refine And.intro ?_ ?_)) <;> fail)
      | some e =>
        have hr : runD ⟨⟨p, bs, rs⟩, past⟩ (l.take (i + 1)) = (e, n + 1) := by rw [hst, runD_some (by rw [i2]; exact hd), i2]
        rw [afterD_some hOe hd, canD_some hOe hd]
        obtain ⟨⟨fp, fb, fr⟩, fl⟩ := e
        dsimp only [enDe, deC]
        repeat' ((conv => whnf); first | refine vA ?_ | with_reducible first | refine v8 ?_ | refine Sp.mk ?_ ?_ | refine vS ?_ | refine vR ?_ | refine vB ?_ | refine br_nt ?_ | refine br_tt ?_ | refine br_ff ?_ | refine vP ?_ | refine vQ ?_ | refine vT ?_ | refine vF ?_ | refine br_and ?_ | refine br_or ?_ | refine br_d (fun _ => ?_) fun _ => ?_ | refine vM (fun _ => ?_) fun _ => ?_)
        refine ⟨⟨i + 1, ⟨⟨fp, fb, fr⟩, fl⟩, n + 1⟩, ⟨by dsimp only; omega, hr⟩, by dsimp only; omega, ?_⟩
        first | (refine ⟨⟨[some 0, some 1], [], rfl, rfl, ?_, ?_⟩⟩ <;> (repeat' ((conv => whnf); first | with_reducible exact True.intro | exact vW | with_reducible refine And.intro ?_ ?_)) <;> fail)
  · obtain rfl : i = l.length := by omega
    rw [List.take_length] at i2
    rw [i2] at h
    repeat' ((conv => whnf); first | refine vA ?_ | with_reducible first | refine v8 ?_ | refine Sp.mk ?_ ?_ | refine vS ?_ | refine vR ?_ | refine vB ?_ | refine br_nt ?_ | refine br_tt ?_ | refine br_ff ?_ | refine vP ?_ | refine vQ ?_ | refine vT ?_ | refine vF ?_ | refine br_and ?_ | refine br_or ?_ | refine br_d (fun _ => ?_) fun _ => ?_ | refine vM (fun _ => ?_) fun _ => ?_)
    refine ⟨_, ?_, h⟩
    repeat' ((conv => whnf); first | with_reducible exact True.intro | exact vW | with_reducible refine And.intro ?_ ?_)
def C256 := C257
theorem F256 : FF 57 C256 := by
  refine fitXE [(44, C254)] (by simp only [List.mem_cons, List.not_mem_nil, or_false]; rintro _ rfl; exact F254) [(77, C261)] (by simp only [List.mem_cons, List.not_mem_nil, or_false]; rintro _ rfl; exact F261) Tryd.f57 ⟨rfl, by decide +kernel, by decide +kernel⟩ (fun _ _ _ hk h => hk _ h) ?_
  rintro ⟨⟨⟨p, bs, rs⟩, past⟩, l⟩ K ⟨hO, hl, hll⟩ h
  refine ⟨Nat.le_of_ble_eq_true rfl, ?_⟩
  dsimp only at hO hl hll h
  have hs := deskOk_short hO
  dsimp only [enDe, deC] at h ⊢
  repeat' ((conv => whnf); first | refine vA ?_ | with_reducible first | refine v8 ?_ | refine Sp.mk ?_ ?_ | refine vS ?_ | refine vR ?_ | refine vB ?_ | refine br_nt ?_ | refine br_tt ?_ | refine br_ff ?_ | refine vP ?_ | refine vQ ?_ | refine vT ?_ | refine vF ?_ | refine br_and ?_ | refine br_or ?_ | refine br_d (fun _ => ?_) fun _ => ?_ | refine vM (fun _ => ?_) fun _ => ?_)
  refine ⟨_, _, [], [], rfl, ?_, ?_, ⟨⟨p, bs, rs⟩, past⟩, rfl, rfl, ⟨hs⟩, ?_⟩
  · repeat' ((conv => whnf); first | with_reducible exact True.intro | exact vW | with_reducible refine And.intro ?_ ?_)
  · repeat' ((conv => whnf); first | with_reducible exact True.intro | exact vW | with_reducible refine And.intro ?_ ?_)
  dsimp only [deG, psO]
  repeat' ((conv => whnf); first | refine vA ?_ | with_reducible first | refine v8 ?_ | refine Sp.mk ?_ ?_ | refine vS ?_ | refine vR ?_ | refine vB ?_ | refine br_nt ?_ | refine br_tt ?_ | refine br_ff ?_ | refine vP ?_ | refine vQ ?_ | refine vT ?_ | refine vF ?_ | refine br_and ?_ | refine br_or ?_ | refine br_d (fun _ => ?_) fun _ => ?_ | refine vM (fun _ => ?_) fun _ => ?_)
  refine Lp.mk ⟨Ri, fun x => [(2, .ptr 1 0), (4, .ptr 0 0), (6, .int .i64 x.n), (13, slD l), (14, .int .i64 l.length), (15, .int .i64 x.i)], fun x => [.box [.int .i64 0, .nils, .nils, .nils], .box [.int .i64 x.e.now.p, slI x.e.now.bs, slS x.e.now.rules, slP x.e.past]], fun x => x.i ≤ l.length ∧ runD ⟨⟨p, bs, rs⟩, past⟩ (l.take x.i) = (x.e, x.n), fun x => l.length - x.i, ⟨⟨0, ⟨⟨p, bs, rs⟩, past⟩, 0⟩, ⟨Nat.zero_le _, rfl⟩, ?_⟩, ?_⟩
  · first | (refine ⟨⟨[some 1, some 0], [2], rfl, rfl, ?_, ?_⟩⟩ <;> (repeat' ((conv => whnf); first | with_reducible exact True.intro | exact vW | with_reducible refine And.intro ?_ ?_ | exact Chk.mk ⟨rfl, by dsimp only; omega, fun i _ => by dsimp only; (try rw [Nat.zero_add]); try rfl⟩)) <;> fail)
  rintro ⟨i, ⟨⟨ep, eb, er⟩, el⟩, n⟩ ⟨i1, i2⟩
  dsimp only at i1 i2 ⊢
  have hOe : deskOk ⟨⟨ep, eb, er⟩, el⟩ := by have := runD_ok hO (l.take i); rw [i2] at this; exact this
  have hn := runD_le ⟨⟨p, bs, rs⟩, past⟩ (l.take i)
  rw [i2, List.length_take] at hn
  dsimp only at hn
  by_cases hi : i < l.length
  · have hst := take_step hi
    have ha := hl _ (getD_mem' (d := default) hi)
    generalize hA : l.getD i default = A at ha hst
    have hA' : l.getD (i : Int).toNat default = A := hA
    repeat' ((conv => whnf); first | refine vA ?_ | with_reducible first | refine v8 ?_ | refine Sp.mk ?_ ?_ | refine vS ?_ | refine vR ?_ | refine vB ?_ | refine br_nt ?_ | refine br_tt ?_ | refine br_ff ?_ | refine vP ?_ | refine vQ ?_ | refine vT ?_ | refine vF ?_ | refine br_and ?_ | refine br_or ?_ | refine br_d (fun _ => ?_) fun _ => ?_ | refine vM (fun _ => ?_) fun _ => ?_)
    refine ⟨⟨⟨⟨ep, eb, er⟩, el⟩, A⟩, ?_, ⟨deskOk_I hOe, hOe, ha⟩, ?_⟩
    · repeat' ((conv => whnf); first | with_reducible exact True.intro | exact vW | with_reducible refine And.intro ?_ ?_)
      all_goals first | exact Chk.mk (by rw [hA'])
    dsimp only
    cases hd : doD ⟨⟨ep, eb, er⟩, el⟩ A with
    | none =>
      have hr : runD ⟨⟨p, bs, rs⟩, past⟩ (l.take (i + 1)) = (⟨⟨ep, eb, er⟩, el⟩, n) := by rw [hst, runD_none (by rw [i2]; exact hd), i2]
      dsimp only [enDe, deC, Option.getD_none, Option.isSome_none]
      repeat' ((conv => whnf); first | refine vA ?_ | with_reducible first | refine v8 ?_ | refine Sp.mk ?_ ?_ | refine vS ?_ | refine vR ?_ | refine vB ?_ | refine br_nt ?_ | refine br_tt ?_ | refine br_ff ?_ | refine vP ?_ | refine vQ ?_ | refine vT ?_ | refine vF ?_ | refine br_and ?_ | refine br_or ?_ | refine br_d (fun _ => ?_) fun _ => ?_ | refine vM (fun _ => ?_) fun _ => ?_)
      refine ⟨⟨i + 1, ⟨⟨ep, eb, er⟩, el⟩, n⟩, ⟨by dsimp only; omega, hr⟩, by dsimp only; omega, ?_⟩
      first | (refine ⟨⟨[some 0, some 1], [], rfl, rfl, ?_, ?_⟩⟩ <;> (repeat' ((conv => whnf); first | with_reducible exact True.intro | exact vW | with_reducible refine And.intro ?_ ?_)) <;> fail)
    | some e =>
      have hr : runD ⟨⟨p, bs, rs⟩, past⟩ (l.take (i + 1)) = (e, n + 1) := by rw [hst, runD_some (by rw [i2]; exact hd), i2]
      obtain ⟨⟨fp, fb, fr⟩, fl⟩ := e
      dsimp only [enDe, deC, Option.getD_some, Option.isSome_some]
      repeat' ((conv => whnf); first | refine vA ?_ | with_reducible first | refine v8 ?_ | refine Sp.mk ?_ ?_ | refine vS ?_ | refine vR ?_ | refine vB ?_ | refine br_nt ?_ | refine br_tt ?_ | refine br_ff ?_ | refine vP ?_ | refine vQ ?_ | refine vT ?_ | refine vF ?_ | refine br_and ?_ | refine br_or ?_ | refine br_d (fun _ => ?_) fun _ => ?_ | refine vM (fun _ => ?_) fun _ => ?_)
      refine ⟨⟨i + 1, ⟨⟨fp, fb, fr⟩, fl⟩, n + 1⟩, ⟨by dsimp only; omega, hr⟩, by dsimp only; omega, ?_⟩
      first | (refine ⟨⟨[some 0, some 1], [], rfl, rfl, ?_, ?_⟩⟩ <;> (repeat' ((conv => whnf); first | with_reducible exact True.intro | exact vW | with_reducible refine And.intro ?_ ?_)) <;> fail)
  · obtain rfl : i = l.length := by omega
    rw [List.take_length] at i2
    rw [i2] at h
    repeat' ((conv => whnf); first | refine vA ?_ | with_reducible first | refine v8 ?_ | refine Sp.mk ?_ ?_ | refine vS ?_ | refine vR ?_ | refine vB ?_ | refine br_nt ?_ | refine br_tt ?_ | refine br_ff ?_ | refine vP ?_ | refine vQ ?_ | refine vT ?_ | refine vF ?_ | refine br_and ?_ | refine br_or ?_ | refine br_d (fun _ => ?_) fun _ => ?_ | refine vM (fun _ => ?_) fun _ => ?_)
    refine ⟨_, ?_, h⟩
    repeat' ((conv => whnf); first | with_reducible exact True.intro | exact vW | with_reducible refine And.intro ?_ ?_)
open Classical in
/-- DeskRun. -/
noncomputable def runX (d : Desk) (l : List Dd) : Desk × Nat := if deskOk d ∧ l.length ≤ 40 then runD d l else (default, 0)
def C242 : List AV → (AV → Prop) → Prop := con (X := Rn) (fun x => [enDe x.d, slD x.l]) (fun x => deskI x.d ∧ (∀ a ∈ x.l, dedI a) ∧ x.l.length ≤ 1048576) fun x K => K (.tup [enDe (runX x.d x.l).1, .int .i64 ((runX x.d x.l).2 : Nat)])
theorem F242 : FF 20 C242 := by
  refine fitXE [(43, C159), (57, C256)] (by simp only [List.mem_cons, List.not_mem_nil, or_false]; rintro _ (rfl | rfl) <;> first | exact F159 | exact F256) [] (by simp) Tryd.f20 ⟨rfl, by decide +kernel, by decide +kernel⟩ (by intro x K K2 hk h; (try dsimp only at h ⊢); intros; apply hk; first | exact h | (apply h <;> assumption)) ?_
  rintro ⟨⟨⟨p, bs, rs⟩, past⟩, l⟩ K ⟨hI, hl, hll⟩ h
  refine ⟨Nat.le_of_ble_eq_true rfl, ?_⟩
  dsimp only at hI hl hll h
  unfold runX at h
  dsimp only [enDe, deC] at h ⊢
  repeat' ((conv => whnf); first | refine vA ?_ | with_reducible first | refine v8 ?_ | refine Sp.mk ?_ ?_ | refine vS ?_ | refine vR ?_ | refine vB ?_ | refine br_nt ?_ | refine br_tt ?_ | refine br_ff ?_ | refine vP ?_ | refine vQ ?_ | refine vT ?_ | refine vF ?_ | refine br_and ?_ | refine br_or ?_ | refine br_d (fun _ => ?_) fun _ => ?_ | refine vM (fun _ => ?_) fun _ => ?_)
  refine ⟨⟨⟨p, bs, rs⟩, past⟩, ?_, ⟨hI⟩, ?_⟩
  · repeat' ((conv => whnf); first | with_reducible exact True.intro | exact vW | with_reducible refine And.intro ?_ ?_)
  by_cases hO : deskOk ⟨⟨p, bs, rs⟩, past⟩
  · by_cases h40 : l.length ≤ 40
    · rw [if_pos ⟨hO, h40⟩] at h
      repeat' ((conv => whnf); first | refine vA ?_ | with_reducible first | refine v8 ?_ | refine Sp.mk ?_ ?_ | refine vS ?_ | refine vR ?_ | refine vB ?_ | refine br_nt ?_ | refine br_tt ?_ | refine br_ff ?_ | refine vP ?_ | refine vQ ?_ | refine vT ?_ | refine vF ?_ | refine br_and ?_ | refine br_or ?_ | refine br_d (fun _ => ?_) fun _ => ?_ | refine vM (fun _ => ?_) fun _ => ?_)
      refine ⟨⟨⟨⟨p, bs, rs⟩, past⟩, l⟩, ?_, ⟨hO, hl, hll⟩, ?_⟩
      · repeat' ((conv => whnf); first | with_reducible exact True.intro | exact vW | with_reducible refine And.intro ?_ ?_)
      dsimp only
      generalize runD ⟨⟨p, bs, rs⟩, past⟩ l = r at h ⊢
      obtain ⟨⟨⟨ep, eb, er⟩, el⟩, n⟩ := r
      dsimp only [enDe, deC]
      repeat' ((conv => whnf); first | refine vA ?_ | with_reducible first | refine v8 ?_ | refine Sp.mk ?_ ?_ | refine vS ?_ | refine vR ?_ | refine vB ?_ | refine br_nt ?_ | refine br_tt ?_ | refine br_ff ?_ | refine vP ?_ | refine vQ ?_ | refine vT ?_ | refine vF ?_ | refine br_and ?_ | refine br_or ?_ | refine br_d (fun _ => ?_) fun _ => ?_ | refine vM (fun _ => ?_) fun _ => ?_)
      refine ⟨_, ?_, h⟩
      repeat' ((conv => whnf); first | with_reducible exact True.intro | exact vW | with_reducible refine And.intro ?_ ?_)
    · rw [if_neg fun q => h40 q.2] at h
      repeat' ((conv => whnf); first | refine vA ?_ | with_reducible first | refine v8 ?_ | refine Sp.mk ?_ ?_ | refine vS ?_ | refine vR ?_ | refine vB ?_ | refine br_nt ?_ | refine br_tt ?_ | refine br_ff ?_ | refine vP ?_ | refine vQ ?_ | refine vT ?_ | refine vF ?_ | refine br_and ?_ | refine br_or ?_ | refine br_d (fun _ => ?_) fun _ => ?_ | refine vM (fun _ => ?_) fun _ => ?_)
      refine ⟨_, ?_, h⟩
      repeat' ((conv => whnf); first | with_reducible exact True.intro | exact vW | with_reducible refine And.intro ?_ ?_)
  · rw [if_neg fun q => hO q.1] at h
    repeat' ((conv => whnf); first | refine vA ?_ | with_reducible first | refine v8 ?_ | refine Sp.mk ?_ ?_ | refine vS ?_ | refine vR ?_ | refine vB ?_ | refine br_nt ?_ | refine br_tt ?_ | refine br_ff ?_ | refine vP ?_ | refine vQ ?_ | refine vT ?_ | refine vF ?_ | refine br_and ?_ | refine br_or ?_ | refine br_d (fun _ => ?_) fun _ => ?_ | refine vM (fun _ => ?_) fun _ => ?_)
    refine ⟨_, ?_, h⟩
    repeat' ((conv => whnf); first | with_reducible exact True.intro | exact vW | with_reducible refine And.intro ?_ ?_)
def C243 := C242
theorem F243 : FF 21 C243 := by
  refine fitXE [(22, C139), (58, C257)] (by simp only [List.mem_cons, List.not_mem_nil, or_false]; rintro _ (rfl | rfl) <;> first | exact F139 | exact F257) [] (by simp) Tryd.f21 ⟨rfl, by decide +kernel, by decide +kernel⟩ (by intro x K K2 hk h; (try dsimp only at h ⊢); intros; apply hk; first | exact h | (apply h <;> assumption)) ?_
  rintro ⟨⟨⟨p, bs, rs⟩, past⟩, l⟩ K ⟨hI, hl, hll⟩ h
  refine ⟨Nat.le_of_ble_eq_true rfl, ?_⟩
  dsimp only at hI hl hll h
  unfold runX at h
  dsimp only [enDe, deC] at h ⊢
  repeat' ((conv => whnf); first | refine vA ?_ | with_reducible first | refine v8 ?_ | refine Sp.mk ?_ ?_ | refine vS ?_ | refine vR ?_ | refine vB ?_ | refine br_nt ?_ | refine br_tt ?_ | refine br_ff ?_ | refine vP ?_ | refine vQ ?_ | refine vT ?_ | refine vF ?_ | refine br_and ?_ | refine br_or ?_ | refine br_d (fun _ => ?_) fun _ => ?_ | refine vM (fun _ => ?_) fun _ => ?_)
  refine ⟨⟨⟨p, bs, rs⟩, past⟩, ?_, ⟨hI⟩, ?_⟩
  · repeat' ((conv => whnf); first | with_reducible exact True.intro | exact vW | with_reducible refine And.intro ?_ ?_)
  by_cases hO : deskOk ⟨⟨p, bs, rs⟩, past⟩
  · by_cases h40 : l.length ≤ 40
    · rw [if_pos ⟨hO, h40⟩] at h
      repeat' ((conv => whnf); first | refine vA ?_ | with_reducible first | refine v8 ?_ | refine Sp.mk ?_ ?_ | refine vS ?_ | refine vR ?_ | refine vB ?_ | refine br_nt ?_ | refine br_tt ?_ | refine br_ff ?_ | refine vP ?_ | refine vQ ?_ | refine vT ?_ | refine vF ?_ | refine br_and ?_ | refine br_or ?_ | refine br_d (fun _ => ?_) fun _ => ?_ | refine vM (fun _ => ?_) fun _ => ?_)
      refine ⟨⟨⟨⟨p, bs, rs⟩, past⟩, l⟩, ?_, ⟨hO, hl, hll⟩, ?_⟩
      · repeat' ((conv => whnf); first | with_reducible exact True.intro | exact vW | with_reducible refine And.intro ?_ ?_)
      dsimp only
      generalize runD ⟨⟨p, bs, rs⟩, past⟩ l = r at h ⊢
      obtain ⟨⟨⟨ep, eb, er⟩, el⟩, n⟩ := r
      dsimp only [enDe, deC]
      repeat' ((conv => whnf); first | refine vA ?_ | with_reducible first | refine v8 ?_ | refine Sp.mk ?_ ?_ | refine vS ?_ | refine vR ?_ | refine vB ?_ | refine br_nt ?_ | refine br_tt ?_ | refine br_ff ?_ | refine vP ?_ | refine vQ ?_ | refine vT ?_ | refine vF ?_ | refine br_and ?_ | refine br_or ?_ | refine br_d (fun _ => ?_) fun _ => ?_ | refine vM (fun _ => ?_) fun _ => ?_)
      refine ⟨_, ?_, h⟩
      repeat' ((conv => whnf); first | with_reducible exact True.intro | exact vW | with_reducible refine And.intro ?_ ?_)
    · rw [if_neg fun q => h40 q.2] at h
      repeat' ((conv => whnf); first | refine vA ?_ | with_reducible first | refine v8 ?_ | refine Sp.mk ?_ ?_ | refine vS ?_ | refine vR ?_ | refine vB ?_ | refine br_nt ?_ | refine br_tt ?_ | refine br_ff ?_ | refine vP ?_ | refine vQ ?_ | refine vT ?_ | refine vF ?_ | refine br_and ?_ | refine br_or ?_ | refine br_d (fun _ => ?_) fun _ => ?_ | refine vM (fun _ => ?_) fun _ => ?_)
      refine ⟨_, ?_, h⟩
      repeat' ((conv => whnf); first | with_reducible exact True.intro | exact vW | with_reducible refine And.intro ?_ ?_)
  · rw [if_neg fun q => hO q.1] at h
    repeat' ((conv => whnf); first | refine vA ?_ | with_reducible first | refine v8 ?_ | refine Sp.mk ?_ ?_ | refine vS ?_ | refine vR ?_ | refine vB ?_ | refine br_nt ?_ | refine br_tt ?_ | refine br_ff ?_ | refine vP ?_ | refine vQ ?_ | refine vT ?_ | refine vF ?_ | refine br_and ?_ | refine br_or ?_ | refine br_d (fun _ => ?_) fun _ => ?_ | refine vM (fun _ => ?_) fun _ => ?_)
    refine ⟨_, ?_, h⟩
    repeat' ((conv => whnf); first | with_reducible exact True.intro | exact vW | with_reducible refine And.intro ?_ ?_)
end Go.Proofs.YtjefkdhecccfpaaDoor.Vc
end
section
/- Part XM: comparisons of whatever desks; desks and deeds that are drawn. -/
namespace Go.Proofs.YtjefkdhecccfpaaDoor.Vc
open Go.Proofs
set_option maxRecDepth 10000
set_option maxHeartbeats 4000000
theorem deskOk_len {d : Desk} (h : deskOk d) : lenD d := ⟨⟨Nat.le_trans h.1.1.2.1 (by decide), Nat.lt_of_le_of_lt h.1.2.1.2 (by decide)⟩, Nat.lt_of_le_of_lt h.2.1 (by decide), fun x hx => ⟨Nat.le_trans (h.2.2 x hx).1.2.1 (by decide), Nat.lt_of_le_of_lt (h.2.2 x hx).2.1.2 (by decide)⟩⟩
theorem drawnQ.len {x : Place} (h : drawnQ x) : lenI x := ⟨Nat.le_trans h.bl (by decide), Nat.lt_of_le_of_lt h.rl (by decide)⟩
theorem drawnD.len {d : Desk} (h : drawnD d) : lenD d := ⟨h.1.len, Nat.lt_of_le_of_lt h.2.1 (by decide), fun x hx => (h.2.2 x hx).len⟩
theorem drawnQ.S {x : Place} (h : drawnQ x) : placeS x := ⟨h.i, h.bl, Nat.le_trans h.rl (by decide)⟩
theorem tup2_sem {a a' b b' : AV} (h1 : semE a a') (h2 : semE b b') : semE (.tup [a, b]) (.tup [a', b']) := by
  intro R w x hx
  cases hx with
  | data hd => cases hd
  | tup _ xs g1 g2 =>
    refine .tup [a', b'] xs g1 fun j hj => ?_
    replace hj : j < 2 := hj
    rcases (show j = 0 ∨ j = 1 by omega) with rfl | rfl
    · exact h1 R w _ (g2 0 (Nat.zero_lt_succ _))
    · exact h2 R w _ (g2 1 (Nat.lt_succ_self _))
theorem ext_sem {s n m : Nat} {f g : Nat → List AV} (h : n = m ∧ ∀ i, i < n → f i = g i) : semE (.sl s n f) (.sl s m g) := by
  intro R w x hx
  cases hx with
  | data hd => exact .data (hd.ext' h.1 h.2)
def drawnM (l : List Dd) : Prop := l.length ≤ 41 ∧ ∀ a ∈ l, drawnA a
def C241 : List AV → (AV → Prop) → Prop := con (X := List Int) (fun l => [slB l]) bytesI fun _ K => ∀ (d : Desk) (l : List Dd), drawnD d → drawnM l → K (.tup [enDe d, slD l])
theorem drawnA0 : drawnA default := ⟨⟨by decide, by decide⟩, ⟨by decide, by decide⟩, ⟨by decide, by decide⟩, Nat.zero_le _⟩
theorem F241 : FF 19 C241 := by
  refine fitXS [] (by simp) [(40, C42), (55, C53), (41, C167), (56, C255)] (by simp only [List.mem_cons, List.not_mem_nil, or_false]; rintro _ (rfl | rfl | rfl | rfl) <;> first | exact F42 | exact F53 | exact F167 | exact F255) Tryd.f19 ⟨rfl, by decide +kernel, by decide +kernel⟩ (fun _ _ _ hk h d a h1 h2 => hk _ (h d a h1 h2)) ?_
  rintro l K hl h
  refine ⟨Nat.le_of_ble_eq_true rfl, ?_⟩
  repeat' ((conv => whnf); first | refine vA ?_ | with_reducible first | refine v8 ?_ | refine Sp.mk ?_ ?_ | refine vS ?_ | refine vR ?_ | refine vB ?_ | refine br_nt ?_ | refine br_tt ?_ | refine br_ff ?_ | refine vP ?_ | refine vQ ?_ | refine vT ?_ | refine vF ?_ | refine br_and ?_ | refine br_or ?_ | refine br_d (fun _ => ?_) fun _ => ?_ | refine vM (fun _ => ?_) fun _ => ?_)
  refine ⟨_, _, [], [], rfl, ?_, ?_, l, rfl, rfl, ⟨hl⟩, ?_⟩
  · repeat' ((conv => whnf); first | with_reducible exact True.intro | exact vW | with_reducible refine And.intro ?_ ?_)
  · repeat' ((conv => whnf); first | with_reducible exact True.intro | exact vW | with_reducible refine And.intro ?_ ?_)
  rintro b ⟨h1, h2, h3, h4⟩
  dsimp only
  repeat' ((conv => whnf); first | refine vA ?_ | with_reducible first | refine v8 ?_ | refine Sp.mk ?_ ?_ | refine vS ?_ | refine vR ?_ | refine vB ?_ | refine br_nt ?_ | refine br_tt ?_ | refine br_ff ?_ | refine vP ?_ | refine vQ ?_ | refine vT ?_ | refine vF ?_ | refine br_and ?_ | refine br_or ?_ | refine br_d (fun _ => ?_) fun _ => ?_ | refine vM (fun _ => ?_) fun _ => ?_)
  refine ⟨_, _, [1], [], rfl, ?_, ?_, (⟨b, 0⟩, 12), rfl, rfl, ⟨⟨h1, h2, by dsimp only; omega, by dsimp only; omega⟩, by unfold i64r; dsimp only; omega⟩, ?_⟩
  · repeat' ((conv => whnf); first | with_reducible exact True.intro | exact vW | with_reducible refine And.intro ?_ ?_)
  · repeat' ((conv => whnf); first | with_reducible exact True.intro | exact vW | with_reducible refine And.intro ?_ ?_)
  rintro ⟨⟨p, bs, rs⟩, past⟩ p1 f a1 a2 hd hf
  dsimp only at a1 a2 ⊢
  repeat' ((conv => whnf); first | refine vA ?_ | with_reducible first | refine v8 ?_ | refine Sp.mk ?_ ?_ | refine vS ?_ | refine vR ?_ | refine vB ?_ | refine br_nt ?_ | refine br_tt ?_ | refine br_ff ?_ | refine vP ?_ | refine vQ ?_ | refine vT ?_ | refine vF ?_ | refine br_and ?_ | refine br_or ?_ | refine br_d (fun _ => ?_) fun _ => ?_ | refine vM (fun _ => ?_) fun _ => ?_)
  refine ⟨_, _, [1], [], rfl, ?_, ?_, (⟨b, p1⟩, 30), rfl, rfl, ⟨⟨h1, h2, by dsimp only; omega, by dsimp only; omega⟩, by unfold i64r; dsimp only; omega⟩, ?_⟩
  · repeat' ((conv => whnf); first | with_reducible exact True.intro | exact vW | with_reducible refine And.intro ?_ ?_)
  · repeat' ((conv => whnf); first | with_reducible exact True.intro | exact vW | with_reducible refine And.intro ?_ ?_)
  intro v p2 v1 v2
  dsimp only at v1 v2 ⊢
  repeat' ((conv => whnf); first | refine vA ?_ | with_reducible first | refine v8 ?_ | refine Sp.mk ?_ ?_ | refine vS ?_ | refine vR ?_ | refine vB ?_ | refine br_nt ?_ | refine br_tt ?_ | refine br_ff ?_ | refine vP ?_ | refine vQ ?_ | refine vT ?_ | refine vF ?_ | refine br_and ?_ | refine br_or ?_ | refine br_d (fun _ => ?_) fun _ => ?_ | refine vM (fun _ => ?_) fun _ => ?_)
  · refine Dr.mk ⟨(.rd 0 (.ef 1 (.ef 2 (.rd 3 .dn) .no) (.ef 2 (.ef 1 (.rd 3 .dn) .no) .no))), by decide +kernel, ?_⟩
    repeat' ((conv => whnf); first | ((with_reducible refine And.intro (Chk.mk ?_) ?_); (focus (refine ⟨rfl, ?_, ?_, ?_⟩; (focus decide); (focus decide); (focus decide)))) | refine vA ?_ | with_reducible first | refine v8 ?_ | refine Sp.mk ?_ ?_ | refine vS ?_ | refine vR ?_ | refine vB ?_ | refine br_nt ?_ | refine br_tt ?_ | refine br_ff ?_ | refine vP ?_ | refine vQ ?_ | refine vT ?_ | refine vF ?_ | refine br_and ?_ | refine br_or ?_ | refine br_d (fun _ => ?_) fun _ => ?_ | refine vM (fun _ => ?_) fun _ => ?_)
    all_goals
      refine ⟨_, tup2_sem (desk_sem ⟨⟨p, bs, rs⟩, past⟩ hf) (ext_sem ?_), h _ (List.replicate 41 default) hd ⟨by rw [List.length_replicate]; exact Nat.le_refl _, fun a ha => by rw [List.eq_of_mem_replicate ha]; exact drawnA0⟩⟩
      refine ⟨by rw [List.length_replicate]; rfl, fun i hi => ?_⟩
      replace hi : i < 41 := hi
      rw [List.getD_eq_getElem?_getD, List.getElem?_replicate, if_pos hi]
      rfl
  · refine Dr.mk ⟨(.rd 0 (.rd 1 (.rd 2 (.rd 3 (.ef 4 (.ef 5 (.rd 6 .dn) .no) .no))))), by decide +kernel, ?_⟩
    repeat' ((conv => whnf); first | refine vA ?_ | with_reducible first | refine v8 ?_ | refine Sp.mk ?_ ?_ | refine vS ?_ | refine vR ?_ | refine vB ?_ | refine br_nt ?_ | refine br_tt ?_ | refine br_ff ?_ | refine vP ?_ | refine vQ ?_ | refine vT ?_ | refine vF ?_ | refine br_and ?_ | refine br_or ?_ | refine br_d (fun _ => ?_) fun _ => ?_ | refine vM (fun _ => ?_) fun _ => ?_)
    all_goals
      refine ⟨_, _, [1], [], rfl, ?_, ?_, ⟨⟨b, p2⟩, ⟨p, bs, rs⟩⟩, rfl, rfl, ⟨⟨h1, h2, by dsimp only; omega, by dsimp only; omega⟩, hd.1.S⟩, ?_⟩
      · repeat' ((conv => whnf); first | with_reducible exact True.intro | exact vW | with_reducible refine And.intro ?_ ?_)
      · repeat' ((conv => whnf); first | with_reducible exact True.intro | exact vW | with_reducible refine And.intro ?_ ?_)
      rintro m p3 m1 m2 m3 hm
      dsimp only at m1 m2 ⊢
      repeat' ((conv => whnf); first | refine vA ?_ | with_reducible first | refine v8 ?_ | refine Sp.mk ?_ ?_ | refine vS ?_ | refine vR ?_ | refine vB ?_ | refine br_nt ?_ | refine br_tt ?_ | refine br_ff ?_ | refine vP ?_ | refine vQ ?_ | refine vT ?_ | refine vF ?_ | refine br_and ?_ | refine br_or ?_ | refine br_d (fun _ => ?_) fun _ => ?_ | refine vM (fun _ => ?_) fun _ => ?_)
    all_goals exact ⟨_, tup2_sem (desk_sem ⟨⟨p, bs, rs⟩, past⟩ hf) (ext_sem ⟨rfl, fun i _ => by dsimp only; (try rw [Nat.zero_add]); try rfl⟩), h _ m hd ⟨by omega, hm⟩⟩
end Go.Proofs.YtjefkdhecccfpaaDoor.Vc
end
section
/- Part XO: the law of many deeds at desks. -/
namespace Go.Proofs.YtjefkdhecccfpaaDoor.Vc
open Go.Proofs
set_option maxRecDepth 100000
set_option maxHeartbeats 4000000
theorem runX_ok {d : Desk} {l : List Dd} (h : deskOk d) (h40 : l.length ≤ 40) : runX d l = runD d l := if_pos ⟨h, h40⟩
theorem runX_no {d : Desk} {l : List Dd} (h : ¬ (deskOk d ∧ l.length ≤ 40)) : runX d l = (default, 0) := if_neg h
theorem takeD_ext {l : List Dd} {n : Nat} (hn : n ≤ l.length) : n - Int.toNat 0 = (l.take n).length ∧ ∀ i, i < n - Int.toNat 0 → encD (l.getD (Int.toNat 0 + i) default) = encD ((l.take n).getD i default) := ⟨by rw [List.length_take]; show n - 0 = _; omega, fun i hi => by
  replace hi : i < n := hi
  rw [show Int.toNat 0 + i = i from Nat.zero_add i, List.getD_eq_getElem?_getD, List.getD_eq_getElem?_getD, List.getElem?_take_of_lt hi]⟩
theorem dropD_ext {l : List Dd} {n : Nat} : (l.length : Int).toNat - n = (l.drop n).length ∧ ∀ i, i < (l.length : Int).toNat - n → encD (l.getD (n + i) default) = encD ((l.drop n).getD i default) := ⟨by rw [List.length_drop]; rfl, fun i _ => by
  rw [List.getD_eq_getElem?_getD, List.getD_eq_getElem?_getD, List.getElem?_drop]⟩
def C232 : List AV → (AV → Prop) → Prop := con (X := List Int) (fun l => [slB l]) bytesI fun _ K => K (.bool true)
theorem F232 : FF 4 C232 := by
  refine fitX [(19, C241), (20, C242), (21, C243), (13, C134), (22, C139), (23, C135), (14, C136), (15, C22)] (by simp only [List.mem_cons, List.not_mem_nil, or_false]; rintro _ (rfl | rfl | rfl | rfl | rfl | rfl | rfl | rfl) <;> first | exact F241 | exact F242 | exact F243 | exact F134 | exact F139 | exact F135 | exact F136 | exact F22) [] (by simp) Tryd.f4 ⟨rfl, by decide +kernel, by decide +kernel⟩ (by intro x K K2 hk h; (try dsimp only at h ⊢); intros; apply hk; first | exact h | (apply h <;> assumption)) ?_
  rintro L K hL h
  refine ⟨Nat.le_of_ble_eq_true rfl, ?_⟩
  have hll := hL.2
  repeat' ((conv => whnf); first | refine vA ?_ | with_reducible first | refine v8 ?_ | refine Sp.mk ?_ ?_ | refine vS ?_ | refine vR ?_ | refine vB ?_ | refine br_nt ?_ | refine br_tt ?_ | refine br_ff ?_ | refine vP ?_ | refine vQ ?_ | refine vT ?_ | refine vF ?_ | refine br_and ?_ | refine br_or ?_ | refine br_d (fun _ => ?_) fun _ => ?_ | refine vM (fun _ => ?_) fun _ => ?_)
  · exact h
  refine ⟨L, ?_, ⟨hL⟩, ?_⟩
  · repeat' ((conv => whnf); first | with_reducible exact True.intro | exact vW | with_reducible refine And.intro ?_ ?_)
  rintro ⟨⟨p, bs, rs⟩, past⟩ l hd hl
  have hI := hd.I
  have hlen := hd.len
  have hl1 := hl.1
  have hla : ∀ a ∈ l, dedI a := fun a ha => (hl.2 a ha).I
  have hn0 := runD_le ⟨⟨p, bs, rs⟩, past⟩ l
  dsimp only [enDe, deC]
  repeat' ((conv => whnf); first | refine vA ?_ | with_reducible first | refine v8 ?_ | refine Sp.mk ?_ ?_ | refine vS ?_ | refine vR ?_ | refine vB ?_ | refine br_nt ?_ | refine br_tt ?_ | refine br_ff ?_ | refine vP ?_ | refine vQ ?_ | refine vT ?_ | refine vF ?_ | refine br_and ?_ | refine br_or ?_ | refine br_d (fun _ => ?_) fun _ => ?_ | refine vM (fun _ => ?_) fun _ => ?_)
  refine ⟨⟨⟨⟨p, bs, rs⟩, past⟩, l⟩, ?_, ⟨hI, hla, by dsimp only; omega⟩, ?_⟩
  · repeat' ((conv => whnf); first | with_reducible exact True.intro | exact vW | with_reducible refine And.intro ?_ ?_)
  obtain ⟨r, hr⟩ : ∃ r, runX ⟨⟨p, bs, rs⟩, past⟩ l = r := ⟨_, rfl⟩
  have hrl : lenD r.1 := by
    rw [← hr]
    by_cases q : deskOk ⟨⟨p, bs, rs⟩, past⟩ ∧ l.length ≤ 40
    · rw [runX_ok q.1 q.2]
      exact deskOk_len (runD_ok q.1 l)
    · rw [runX_no q]
      exact lenD0
  dsimp only
  rw [hr]
  obtain ⟨⟨⟨xp, xb, xr⟩, xl⟩, n⟩ := r
  dsimp only [enDe, deC] at hrl ⊢
  repeat' ((conv => whnf); first | refine vA ?_ | with_reducible first | refine v8 ?_ | refine Sp.mk ?_ ?_ | refine vS ?_ | refine vR ?_ | refine vB ?_ | refine br_nt ?_ | refine br_tt ?_ | refine br_ff ?_ | refine vP ?_ | refine vQ ?_ | refine vT ?_ | refine vF ?_ | refine br_and ?_ | refine br_or ?_ | refine br_d (fun _ => ?_) fun _ => ?_ | refine vM (fun _ => ?_) fun _ => ?_)
  refine ⟨⟨⟨⟨p, bs, rs⟩, past⟩, l⟩, ?_, ⟨hI, hla, by dsimp only; omega⟩, ?_⟩
  · repeat' ((conv => whnf); first | with_reducible exact True.intro | exact vW | with_reducible refine And.intro ?_ ?_)
  dsimp only
  rw [hr]
  dsimp only [enDe, deC]
  repeat' ((conv => whnf); first | refine vA ?_ | with_reducible first | refine v8 ?_ | refine Sp.mk ?_ ?_ | refine vS ?_ | refine vR ?_ | refine vB ?_ | refine br_nt ?_ | refine br_tt ?_ | refine br_ff ?_ | refine vP ?_ | refine vQ ?_ | refine vT ?_ | refine vF ?_ | refine br_and ?_ | refine br_or ?_ | refine br_d (fun _ => ?_) fun _ => ?_ | refine vM (fun _ => ?_) fun _ => ?_)
  refine ⟨⟨⟨xp, xb, xr⟩, xl⟩, ?_, ⟨hrl⟩, ?_⟩
  · repeat' ((conv => whnf); first | with_reducible exact True.intro | exact vW | with_reducible refine And.intro ?_ ?_)
  repeat' ((conv => whnf); first | refine vA ?_ | with_reducible first | refine v8 ?_ | refine Sp.mk ?_ ?_ | refine vS ?_ | refine vR ?_ | refine vB ?_ | refine br_nt ?_ | refine br_tt ?_ | refine br_ff ?_ | refine vP ?_ | refine vQ ?_ | refine vT ?_ | refine vF ?_ | refine br_and ?_ | refine br_or ?_ | refine br_d (fun _ => ?_) fun _ => ?_ | refine vM (fun _ => ?_) fun _ => ?_)
  refine ⟨⟨⟨p, bs, rs⟩, past⟩, ?_, ⟨hI⟩, ?_⟩
  · repeat' ((conv => whnf); first | with_reducible exact True.intro | exact vW | with_reducible refine And.intro ?_ ?_)
  by_cases q : deskOk ⟨⟨p, bs, rs⟩, past⟩ ∧ l.length ≤ 40
  · obtain ⟨hO, h40⟩ := q
    rw [runX_ok hO h40] at hr
    have e2 := Int.tdiv_eq_ediv_of_nonneg (a := (l.length : Int)) (b := 2) (by omega)
    have e3 : ((l.length : Int).tdiv 2).toNat = l.length / 2 := by omega
    have hx := runD_app ⟨⟨p, bs, rs⟩, past⟩ (l.take (l.length / 2)) (l.drop (l.length / 2))
    rw [List.take_append_drop, hr] at hx
    have ht1 := takeD_ext (l := l) (n := l.length / 2) (by omega)
    have ht2 := dropD_ext (l := l) (n := l.length / 2)
    have hOx : deskOk ⟨⟨xp, xb, xr⟩, xl⟩ := by have := runD_ok hO l; rw [hr] at this; exact this
    have hle1 := runD_le ⟨⟨p, bs, rs⟩, past⟩ (l.take (l.length / 2))
    have hlt : (l.take (l.length / 2)).length ≤ 40 := by rw [List.length_take]; omega
    have hld : (l.drop (l.length / 2)).length ≤ 40 := by rw [List.length_drop]; omega
    repeat' ((conv => whnf); first | refine vA ?_ | with_reducible first | refine v8 ?_ | refine Sp.mk ?_ ?_ | refine vS ?_ | refine vR ?_ | refine vB ?_ | refine br_nt ?_ | refine br_tt ?_ | refine br_ff ?_ | refine vP ?_ | refine vQ ?_ | refine vT ?_ | refine vF ?_ | refine br_and ?_ | refine br_or ?_ | refine br_d (fun _ => ?_) fun _ => ?_ | refine vM (fun _ => ?_) fun _ => ?_)
    refine Dr.mk ⟨(.rd 0 (.rd 1 (.rd 2 (.rd 3 (.ef 4 (.rd 5 (.rd 6 (.rd 7 (.ef 8 (.ef 9 (.rd 10 .dn) .no) .no)))) (.ef 8 (.ef 4 (.rd 5 (.rd 6 (.rd 7 (.ef 9 (.rd 10 .dn) .no)))) .no) .no)))))), by decide +kernel, ?_⟩
    repeat' ((conv => whnf); first | refine vA ?_ | with_reducible first | refine v8 ?_ | refine Sp.mk ?_ ?_ | refine vS ?_ | refine vR ?_ | refine vB ?_ | refine br_nt ?_ | refine br_tt ?_ | refine br_ff ?_ | refine vP ?_ | refine vQ ?_ | refine vT ?_ | refine vF ?_ | refine br_and ?_ | refine br_or ?_ | refine br_d (fun _ => ?_) fun _ => ?_ | refine vM (fun _ => ?_) fun _ => ?_)
    all_goals
      rw [e3]
      refine ⟨⟨⟨⟨p, bs, rs⟩, past⟩, l.take (l.length / 2)⟩, ?_, ⟨hI, fun a ha => hla a (List.mem_of_mem_take ha), by dsimp only; omega⟩, ?_⟩
      · repeat' ((conv => whnf); first | with_reducible exact True.intro | exact vW | with_reducible refine And.intro ?_ ?_)
        all_goals exact Chk.mk ht1
      dsimp only
      rw [runX_ok hO hlt]
      have hO1 := runD_ok hO (l.take (l.length / 2))
      generalize runD ⟨⟨p, bs, rs⟩, past⟩ (l.take (l.length / 2)) = r1 at hx hO1 hle1 ⊢
      obtain ⟨⟨⟨ap, ab, ar⟩, al⟩, n1⟩ := r1
      dsimp only [enDe, deC] at hx hO1 hle1 ⊢
      repeat' ((conv => whnf); first | refine vA ?_ | with_reducible first | refine v8 ?_ | refine Sp.mk ?_ ?_ | refine vS ?_ | refine vR ?_ | refine vB ?_ | refine br_nt ?_ | refine br_tt ?_ | refine br_ff ?_ | refine vP ?_ | refine vQ ?_ | refine vT ?_ | refine vF ?_ | refine br_and ?_ | refine br_or ?_ | refine br_d (fun _ => ?_) fun _ => ?_ | refine vM (fun _ => ?_) fun _ => ?_)
    all_goals
      refine Dr.mk ⟨(.rd 0 (.rd 1 (.rd 2 (.rd 3 (.ef 4 (.rd 5 (.rd 6 (.rd 7 (.ef 8 (.ef 9 (.rd 10 .dn) .no) .no)))) (.ef 8 (.ef 4 (.rd 5 (.rd 6 (.rd 7 (.ef 9 (.rd 10 .dn) .no)))) .no) .no)))))), by decide +kernel, ?_⟩
      repeat' ((conv => whnf); first | refine vA ?_ | with_reducible first | refine v8 ?_ | refine Sp.mk ?_ ?_ | refine vS ?_ | refine vR ?_ | refine vB ?_ | refine br_nt ?_ | refine br_tt ?_ | refine br_ff ?_ | refine vP ?_ | refine vQ ?_ | refine vT ?_ | refine vF ?_ | refine br_and ?_ | refine br_or ?_ | refine br_d (fun _ => ?_) fun _ => ?_ | refine vM (fun _ => ?_) fun _ => ?_)
    all_goals
      try rw [e3]
      refine ⟨⟨⟨⟨ap, ab, ar⟩, al⟩, l.drop (l.length / 2)⟩, ?_, ⟨deskOk_I hO1, fun a ha => hla a (List.mem_of_mem_drop ha), by dsimp only; omega⟩, ?_⟩
      · repeat' ((conv => whnf); first | with_reducible exact True.intro | exact vW | with_reducible refine And.intro ?_ ?_)
        all_goals exact Chk.mk ht2
      dsimp only
      rw [runX_ok hO1 hld]
      have hle2 := runD_le ⟨⟨ap, ab, ar⟩, al⟩ (l.drop (l.length / 2))
      generalize runD ⟨⟨ap, ab, ar⟩, al⟩ (l.drop (l.length / 2)) = r2 at hx hle2 ⊢
      obtain ⟨e, n2⟩ := r2
      dsimp only at hx hle2
      injection hx with hx1 hx2
      subst hx1
      dsimp only [enDe, deC]
      repeat' ((conv => whnf); first | refine vA ?_ | with_reducible first | refine v8 ?_ | refine Sp.mk ?_ ?_ | refine vS ?_ | refine vR ?_ | refine vB ?_ | refine br_nt ?_ | refine br_tt ?_ | refine br_ff ?_ | refine vP ?_ | refine vQ ?_ | refine vT ?_ | refine vF ?_ | refine br_and ?_ | refine br_or ?_ | refine br_d (fun _ => ?_) fun _ => ?_ | refine vM (fun _ => ?_) fun _ => ?_)
    all_goals
      refine ⟨⟨⟨xp, xb, xr⟩, xl⟩, ?_, ⟨deskOk_I hOx⟩, ?_⟩
      · repeat' ((conv => whnf); first | with_reducible exact True.intro | exact vW | with_reducible refine And.intro ?_ ?_)
      repeat' ((conv => whnf); first | refine vA ?_ | with_reducible first | refine v8 ?_ | refine Sp.mk ?_ ?_ | refine vS ?_ | refine vR ?_ | refine vB ?_ | refine br_nt ?_ | refine br_tt ?_ | refine br_ff ?_ | refine vP ?_ | refine vQ ?_ | refine vT ?_ | refine vF ?_ | refine br_and ?_ | refine br_or ?_ | refine br_d (fun _ => ?_) fun _ => ?_ | refine vM (fun _ => ?_) fun _ => ?_)
      refine ⟨⟨⟨xp, xb, xr⟩, xl⟩, ?_, ⟨hrl⟩, ?_⟩
      · repeat' ((conv => whnf); first | with_reducible exact True.intro | exact vW | with_reducible refine And.intro ?_ ?_)
      repeat' ((conv => whnf); first | refine vA ?_ | with_reducible first | refine v8 ?_ | refine Sp.mk ?_ ?_ | refine vS ?_ | refine vR ?_ | refine vB ?_ | refine br_nt ?_ | refine br_tt ?_ | refine br_ff ?_ | refine vP ?_ | refine vQ ?_ | refine vT ?_ | refine vF ?_ | refine br_and ?_ | refine br_or ?_ | refine br_d (fun _ => ?_) fun _ => ?_ | refine vM (fun _ => ?_) fun _ => ?_)
      rw [decide_eq_true (by omega)]
      exact h
  · rw [runX_no q] at hr
    cases hr
    by_cases hO : deskOk ⟨⟨p, bs, rs⟩, past⟩
    · have h40 : ¬ l.length ≤ 40 := fun g => q ⟨hO, g⟩
      repeat' ((conv => whnf); first | refine vA ?_ | with_reducible first | refine v8 ?_ | refine Sp.mk ?_ ?_ | refine vS ?_ | refine vR ?_ | refine vB ?_ | refine br_nt ?_ | refine br_tt ?_ | refine br_ff ?_ | refine vP ?_ | refine vQ ?_ | refine vT ?_ | refine vF ?_ | refine br_and ?_ | refine br_or ?_ | refine br_d (fun _ => ?_) fun _ => ?_ | refine vM (fun _ => ?_) fun _ => ?_)
      refine ⟨(), ?_, ⟨trivial⟩, ?_⟩
      · repeat' ((conv => whnf); first | with_reducible exact True.intro | exact vW | with_reducible refine And.intro ?_ ?_)
      repeat' ((conv => whnf); first | refine vA ?_ | with_reducible first | refine v8 ?_ | refine Sp.mk ?_ ?_ | refine vS ?_ | refine vR ?_ | refine vB ?_ | refine br_nt ?_ | refine br_tt ?_ | refine br_ff ?_ | refine vP ?_ | refine vQ ?_ | refine vT ?_ | refine vF ?_ | refine br_and ?_ | refine br_or ?_ | refine br_d (fun _ => ?_) fun _ => ?_ | refine vM (fun _ => ?_) fun _ => ?_)
      refine ⟨(), ?_, ⟨trivial⟩, ?_⟩
      · repeat' ((conv => whnf); first | with_reducible exact True.intro | exact vW | with_reducible refine And.intro ?_ ?_)
      repeat' ((conv => whnf); first | refine vA ?_ | with_reducible first | refine v8 ?_ | refine Sp.mk ?_ ?_ | refine vS ?_ | refine vR ?_ | refine vB ?_ | refine br_nt ?_ | refine br_tt ?_ | refine br_ff ?_ | refine vP ?_ | refine vQ ?_ | refine vT ?_ | refine vF ?_ | refine br_and ?_ | refine br_or ?_ | refine br_d (fun _ => ?_) fun _ => ?_ | refine vM (fun _ => ?_) fun _ => ?_)
      exact h
    · repeat' ((conv => whnf); first | refine vA ?_ | with_reducible first | refine v8 ?_ | refine Sp.mk ?_ ?_ | refine vS ?_ | refine vR ?_ | refine vB ?_ | refine br_nt ?_ | refine br_tt ?_ | refine br_ff ?_ | refine vP ?_ | refine vQ ?_ | refine vT ?_ | refine vF ?_ | refine br_and ?_ | refine br_or ?_ | refine br_d (fun _ => ?_) fun _ => ?_ | refine vM (fun _ => ?_) fun _ => ?_)
      refine ⟨(), ?_, ⟨trivial⟩, ?_⟩
      · repeat' ((conv => whnf); first | with_reducible exact True.intro | exact vW | with_reducible refine And.intro ?_ ?_)
      repeat' ((conv => whnf); first | refine vA ?_ | with_reducible first | refine v8 ?_ | refine Sp.mk ?_ ?_ | refine vS ?_ | refine vR ?_ | refine vB ?_ | refine br_nt ?_ | refine br_tt ?_ | refine br_ff ?_ | refine vP ?_ | refine vQ ?_ | refine vT ?_ | refine vF ?_ | refine br_and ?_ | refine br_or ?_ | refine br_d (fun _ => ?_) fun _ => ?_ | refine vM (fun _ => ?_) fun _ => ?_)
      refine ⟨(), ?_, ⟨trivial⟩, ?_⟩
      · repeat' ((conv => whnf); first | with_reducible exact True.intro | exact vW | with_reducible refine And.intro ?_ ?_)
      repeat' ((conv => whnf); first | refine vA ?_ | with_reducible first | refine v8 ?_ | refine Sp.mk ?_ ?_ | refine vS ?_ | refine vR ?_ | refine vB ?_ | refine br_nt ?_ | refine br_tt ?_ | refine br_ff ?_ | refine vP ?_ | refine vQ ?_ | refine vT ?_ | refine vF ?_ | refine br_and ?_ | refine br_or ?_ | refine br_d (fun _ => ?_) fun _ => ?_ | refine vM (fun _ => ?_) fun _ => ?_)
      exact h
end Go.Proofs.YtjefkdhecccfpaaDoor.Vc
end
section
/- The row of FnDeskRun: for every input it returns true. -/
namespace Go.Proofs.YtjefkdhecccfpaaDoor.Vc
open Go.Proofs Go.ChangeShapes Go.WideShapes Go.ChangeAt Go.RowKit
open Go.Proofs.YtjefkdhecccfpaaDoor
set_option maxRecDepth 100000
theorem metFnDeskRun (os : Os) (args : Array Value) : laidMet Tryd.prog Rows.fnDeskRunRow.laid ((World.laidAll Tryd.prog os Rows.fnDeskRunRow.laid).forCall (fun _ _ => 0) ⟨#[], args, []⟩).memory :=
  laidMet_laidAll args (by kernel_rfl) (by kernel_rfl)
theorem goodFnDeskRun {W : World} (h : laidMet Tryd.prog Rows.fnDeskRunRow.laid W) : Good W :=
  ⟨Lib.tabIs_of_head (rest := []) rfl rfl rfl rfl (by kernel_rfl) (by kernel_rfl) (h.filter fun x => x.1 == "internal/strconv.uint64pow10")⟩
theorem liftedFnDeskRun (os : Os) (started : os.Started) (H : Type) (enc : TypeId × Value → H) :
    ReturnsInHanded {} Tryd.checked os 4 .any (fun w args => (Rows.fnDeskRunSpec.pre enc Tryd.prog Tryd.f4 [] false w args ∧ laidMet Tryd.prog Rows.fnDeskRunRow.laid w) ∧ sizedMet enc Tryd.prog Tryd.f4 (OpenSpec.ofChange Rows.fnDeskRunSpec) false w args)
      (Rows.fnDeskRunSpec.post enc Tryd.prog Tryd.f4 false true false false) := by
  refine returnsInHanded_of_change_and (C := Tryd.checked) (X := fun w _ => laidMet Tryd.prog Rows.fnDeskRunRow.laid w) (fun _ _ _ hh h => h.of_heap hh) own started (by kernel_rfl) Tryd.func4
    (ChangeSpec.witness_at (enc := enc) (C := Tryd.checked) (os := os) (X := fun w _ => laidMet Tryd.prog Rows.fnDeskRunRow.laid w) false (World.laidAll Tryd.prog os Rows.fnDeskRunRow.laid) #[.slice none 0 0] 8 (World.laidAll_os _ _ _) (by kernel_rfl) (by kernel_rfl) (by kernel_rfl) (by kernel_rfl) (by kernel_rfl) (metFnDeskRun os _)) ?_
  intro W base args ds gs before hval0 hW _ _ hL _
  have hval : ∀ (j : Nat) t v, Tryd.f4.params[j]? = some t → args[j]? = some v → Value.okWide Tryd.prog W .any base t v := hval0
  have hW' := hW
  obtain ⟨p, q, hA0, hV, rfl, hfz, hnd⟩ := hW
  have hA : DataW.TrodAll enc Tryd.prog W 0 (fun _ => true) true Tryd.f4.params.toList args.toList ds p := hA0
  rw [Tryd.params4] at hA hval
  obtain ⟨v0, vs0, d0, ds0, p0, q0, hargs, rfl, rfl, h0, r0⟩ := trodAll_cons hA
  obtain ⟨rfl, rfl, rfl⟩ := trodAll_nil r0
  obtain rfl : args = #[v0] := by cases args; simp_all
  obtain ⟨rfl, rfl⟩ := trodVars_none hV
  have lt0 : ∀ x ∈ p0, x.block < W.heap.size := by obtain ⟨m, hm⟩ := h0; exact DataW.trod_lt m _ _ _ hm
  obtain ⟨m0, l0, k0, e0⟩ := okWide_slice Tryd.underlying22 (hval 0 22 v0 rfl rfl)
  subst e0
  obtain ⟨x0, a0, b0, c0⟩ : ∃ l : List Int, DR (Rw0 W) W (slB l) (.slice m0 l0 k0) ∧ (∀ n ∈ l, u8r n) ∧ l.length < 9223372036854775808 := by
    obtain ⟨fuel, hf⟩ := h0
    exact op_bytes Tryd.underlying22 Tryd.underlying5 (by kernel_rfl) hf
  refine (FF.below F232 (us := [slB x0]) (b := true) ⟨x0, ?_, ⟨⟨b0, c0⟩⟩, rfl⟩ (goodFnDeskRun hL) ⟨rfl, fun j hj => ?_⟩).mono fun e W' ⟨he, bel⟩ => ?_
  · repeat' ((conv => whnf); first | with_reducible exact True.intro | exact vW | with_reducible refine And.intro ?_ ?_)
  · match j, hj with
    | 0, _ => exact .data a0
  subst he
  exact ⟨_, rfl, _, _, _, [], _, [], hW', trodAll_mk1 (shut_bool Tryd.underlying4 _), (trodAll_cons_mk (Below.trod laidOut (by kernel_rfl) (of_decide_eq_true (by kernel_rfl)) h0 bel lt0) trodAll_mk0), rfl, bel.frame _, fun h => by cases h⟩
theorem FnDeskRun_holds : Rows.FnDeskRunSaid :=
  OpenClaim.holds_of_wide 4 Tryd.f4 rfl rfl rfl rfl rfl rfl rfl ⟨rfl, rfl, rfl, rfl, rfl⟩ rfl rfl rfl rfl rfl (by kernel_rfl) Tryd.func4 (by kernel_rfl)
    (of_decide_eq_true (by kernel_rfl)) (by unfold Func.isWrapper; first | (rw [if_pos (by decide +kernel)]; kernel_rfl) | (rw [if_neg (by decide +kernel)]; exact ⟨rfl, rfl⟩))
    (fun os started H enc _ => liftedFnDeskRun os started H enc)
end Go.Proofs.YtjefkdhecccfpaaDoor.Vc
end
