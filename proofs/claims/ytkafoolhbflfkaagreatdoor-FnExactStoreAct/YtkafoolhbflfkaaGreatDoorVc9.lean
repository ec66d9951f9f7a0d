/- Part YD: stores that are drawn. -/
import Derived.Test.YtkafoolhbflfkaaGreatDoorVc8
section
namespace Go.Proofs.YtkafoolhbflfkaaGreatDoor.Vc
open Go.Proofs
set_option maxRecDepth 100000
set_option maxHeartbeats 4000000
def drawnS (s : Store) : Prop := s.saved.size ≤ 20010 ∧ s.log.size ≤ 1010 ∧ -10 ≤ s.sure ∧ s.sure ≤ 2000
def goodS (s : Store) : Prop := isSt s ∨ s = default
theorem isSt_sizes {s : Store} (h : isSt s) : s.saved.size ≤ 20000 ∧ s.log.size ≤ 1000 ∧ 0 ≤ s.sure ∧ s.sure ≤ s.log.size := by
 obtain ⟨x, hx⟩ := h.1
 have h1 := plT_size hx.1
 rw [hx.2] at h1
 exact ⟨h1, h.2.1, h.2.2⟩
theorem goodS.n {s : Store} (h : goodS s) : s.saved.size ≤ 20000 ∧ s.log.size ≤ 1000 ∧ 0 ≤ s.sure ∧ s.sure ≤ s.log.size := by
 rcases h with h | rfl
 ·exact isSt_sizes h
 ·exact ⟨by decide, by decide, by decide, by decide⟩
theorem goodS.P {s : Store} (h : goodS s) : storeP s := by
 have := h.n
 exact ⟨⟨by omega, by omega, ⟨by omega, by omega⟩⟩, by omega⟩
theorem newSt_good (x : Place) : goodS (newSt x) := by
 unfold newSt ptext
 split
 ·rename_i h
  exact .inl (isSt_new h)
 ·exact .inr rfl
theorem placeOk_S {x : Place} (h : placeOk x) : placeS x := ⟨I_of h, h.1.2.1, Nat.le_trans h.2.1.2 (by decide)⟩
theorem open_S (s : Store) : placeS ((openS s).getD default).now := by
 unfold openS
 split
 ·rename_i h
  exact placeOk_S (opD_ok h).1
 ·exact ⟨placeI0, by decide, by decide⟩
theorem act_good {s : Store} (h : goodS s) (a : Dd) : goodS (actR s a) := by
 unfold actR
 split
 ·split
  ·rename_i h1 h2
   exact .inl (isSt_add h1 h2)
  ·exact h
 ·exact .inr rfl
theorem sync_good (s : Store) : goodS ((syncS s).getD default) := by
 unfold syncS
 split
 ·rename_i h
  exact .inl (isSt_sync h)
 ·exact .inr rfl
theorem ext_le {s : ByteArray} {n : Nat} : (s.extract 0 n).size ≤ s.size ∧ (n ≤ s.size → (s.extract 0 n).size = n) := by
 rw [ByteArray.size_extract]
 omega
theorem crash_good (s : Store) (n : Int) : goodS ((crashS s n).getD default) := by
 unfold crashS
 split
 ·rename_i h
  obtain ⟨h, h1, h2⟩ := h
  have h3 := h.2.2.1
  have h4 := h.2.1
  have e := ext_le (s := s.log) (n := n.toNat)
  have e2 := e.2 (by omega)
  exact .inl ⟨h.1, by show (s.log.extract 0 n.toNat).size ≤ 1000; omega, h3, by show s.sure ≤ ((s.log.extract 0 n.toNat).size : Int); omega⟩
 ·exact .inr rfl
theorem sure_good {a b : ByteArray} {c m : Int} (h : goodS ⟨a, b, c⟩) (h1 : 0 ≤ m) (h2 : m ≤ b.size) : goodS ⟨a, b, m⟩ := by
 rcases h with h | h
 ·exact .inl ⟨h.1, h.2.1, h1, h2⟩
 ·cases h
  obtain rfl : m = 0 := by
   have : ((default : ByteArray).size : Int) = 0 := rfl
   omega
  exact .inr rfl
theorem goodS.d {s : Store} (h : goodS s) : drawnS s := by
 have := h.n
 exact ⟨by omega, by omega, by omega, by omega⟩
def C288 : GC := conG (X := Rd × Int) (fun x => [.ptr 0 0, .int .i64 x.2]) (fun x => [rdO x.1.b x.1.p]) (fun x => x.1.okn 300000000 ∧ i64r x.2) fun x K => ∀ (s : Store) (p' : Int), x.1.p ≤ p' → p' ≤ x.1.p + 5000 → drawnS s → K (enSt s) [rdO x.1.b p']
theorem F288 : GG 58 C288 := by
 refine fitG [(27, C144), (43, C283), (37, C285), (24, C277), (21, C275)] (by simp only [List.mem_cons, List.not_mem_nil, or_false]; rintro _ (rfl | rfl | rfl | rfl | rfl) <;> first | exact F144 | exact F283 | exact F285 | exact F277 | exact F275) [(65, C151), (64, C52), (89, C53), (82, C184), (90, C217)] (by simp only [List.mem_cons, List.not_mem_nil, or_false]; rintro _ (rfl | rfl | rfl | rfl | rfl) <;> first | exact F151 | exact F52 | exact F53 | exact F184 | exact F217) Tryz.f58 ⟨rfl, by decide +kernel, by decide +kernel⟩ (by intro x K K2 hk h; (try dsimp only at h ⊢); intros; apply hk; first | exact h | (apply h <;> assumption)) ?_
 rintro ⟨⟨b, p⟩, n⟩ K ⟨⟨h1, h2, h3, h4⟩, h5⟩ h
 refine ⟨Nat.le_of_ble_eq_true rfl, ?_⟩
 dsimp only at h h1 h2 h3 h4 h5 ⊢
 repeat' ((conv=>whnf);first|refine vA ?_|with_reducible first|refine v8 ?_|refine Sp.mk ?_ ?_|refine vS ?_|refine vR ?_|refine vB ?_|refine br_nt ?_|refine br_tt ?_|refine br_ff ?_|refine vP ?_|refine vQ ?_|refine vT ?_|refine vF ?_|refine br_and ?_|refine br_or ?_|refine br_d (fun _=>?_) fun _=>?_|refine vM (fun _=>?_) fun _=>?_)
 refine ⟨_, _, [0], [], rfl, ?_, ?_, (⟨b, p⟩, 0), rfl, rfl, ⟨⟨h1, h2, h3, by dsimp only; omega⟩, by unfold i64r; dsimp only; omega⟩, ?_⟩
 ·repeat' ((conv=>whnf);first|with_reducible exact True.intro|exact vW|with_reducible refine And.intro ?_ ?_)
 ·repeat' ((conv=>whnf);first|with_reducible exact True.intro|exact vW|with_reducible refine And.intro ?_ ?_)
 intro y p1 y1 y2 hy
 dsimp only at y1 y2 ⊢
 repeat' ((conv=>whnf);first|refine vA ?_|with_reducible first|refine v8 ?_|refine Sp.mk ?_ ?_|refine vS ?_|refine vR ?_|refine vB ?_|refine br_nt ?_|refine br_tt ?_|refine br_ff ?_|refine vP ?_|refine vQ ?_|refine vT ?_|refine vF ?_|refine br_and ?_|refine br_or ?_|refine br_d (fun _=>?_) fun _=>?_|refine vM (fun _=>?_) fun _=>?_)
 refine ⟨y, ?_, ⟨hy.I⟩, ?_⟩
 ·repeat' ((conv=>whnf);first|with_reducible exact True.intro|exact vW|with_reducible refine And.intro ?_ ?_)
 have hg := newSt_good y
 dsimp only
 generalize newSt y = s at hg ⊢
 obtain ⟨sa, sb, sc⟩ := s
 dsimp only [enSt, stC]
 repeat' ((conv=>whnf);first|refine vA ?_|with_reducible first|refine v8 ?_|refine Sp.mk ?_ ?_|refine vS ?_|refine vR ?_|refine vB ?_|refine br_nt ?_|refine br_tt ?_|refine br_ff ?_|refine vP ?_|refine vQ ?_|refine vT ?_|refine vF ?_|refine br_and ?_|refine br_or ?_|refine br_d (fun _=>?_) fun _=>?_|refine vM (fun _=>?_) fun _=>?_)
 refine ⟨_, _, [0], [], rfl, ?_, ?_, (⟨b, p1⟩, 7), rfl, rfl, ⟨⟨h1, h2, ?_, ?_⟩, ?_⟩, ?_⟩
 ·repeat' ((conv=>whnf);first|with_reducible exact True.intro|exact vW|with_reducible refine And.intro ?_ ?_)
  try exact Chk.mk (by rw [pw_sh (by assumption)])
 ·repeat' ((conv=>whnf);first|with_reducible exact True.intro|exact vW|with_reducible refine And.intro ?_ ?_)
 ·dsimp only; omega
 ·dsimp only; omega
 ·unfold i64r; dsimp only; omega
 intro k1 p2 a0 a1 a2
 dsimp only at a0 a1 a2
 repeat' ((conv=>whnf);first|refine vA ?_|with_reducible first|refine v8 ?_|refine Sp.mk ?_ ?_|refine vS ?_|refine vR ?_|refine vB ?_|refine br_nt ?_|refine br_tt ?_|refine br_ff ?_|refine vP ?_|refine vQ ?_|refine vT ?_|refine vF ?_|refine br_and ?_|refine br_or ?_|refine br_d (fun _=>?_) fun _=>?_|refine vM (fun _=>?_) fun _=>?_)
 refine Lp.mk ⟨Store × Int × Int, fun x => [(0, .ptr 0 0), (1, .int .i64 n), (4, .ptr 1 0), (5, .ptr 2 0), (7, .int .i64 x.2.1)],
  fun x => [rdO b x.2.2, .box [.str ⟨#[]⟩, .str ⟨#[]⟩, .int .i64 0], .box (stC x.1)],
  fun x => 0 ≤ x.2.1 ∧ x.2.1 ≤ 6 ∧ p2 ≤ x.2.2 ∧ x.2.2 + 300 * x.2.1 ≤ p2 + 1800 ∧ goodS x.1, fun x => x.2.1.toNat, ⟨(⟨sa, sb, sc⟩, k1, p2), ⟨by dsimp only; omega, by dsimp only; omega, by dsimp only; omega, by dsimp only; omega, hg⟩, ⟨⟨[some 0, some 1, some 2], [], rfl, rfl, ?_, ?_⟩⟩⟩, ?_⟩
 ·repeat' ((conv=>whnf);first|with_reducible exact True.intro|exact vW|with_reducible refine And.intro ?_ ?_)
 ·repeat' ((conv=>whnf);first|with_reducible exact True.intro|exact vW|with_reducible refine And.intro ?_ ?_)
 clear hg
 clear sa sb sc
 rintro ⟨⟨sa, sb, sc⟩, j, q⟩ ⟨i1, i2, i3, i4, hg⟩
 have hP := hg.P
 have hn := hg.n
 dsimp only [stC] at i1 i2 i3 i4 hn ⊢
 repeat' ((conv=>whnf);first|refine vA ?_|with_reducible first|refine v8 ?_|refine Sp.mk ?_ ?_|refine vS ?_|refine vR ?_|refine vB ?_|refine br_nt ?_|refine br_tt ?_|refine br_ff ?_|refine vP ?_|refine vQ ?_|refine vT ?_|refine vF ?_|refine br_and ?_|refine br_or ?_|refine br_d (fun _=>?_) fun _=>?_|refine vM (fun _=>?_) fun _=>?_)
 ·rename_i hj
  refine ⟨⟨sa, sb, sc⟩, ?_, ⟨hP⟩, ?_⟩
  ·repeat' ((conv=>whnf);first|with_reducible exact True.intro|exact vW|with_reducible refine And.intro ?_ ?_)
  have hS := open_S ⟨sa, sb, sc⟩
  dsimp only
  generalize (openS ⟨sa, sb, sc⟩).getD default = D at hS ⊢
  generalize (openS ⟨sa, sb, sc⟩).isSome = o
  obtain ⟨⟨ep, eb, er⟩, el⟩ := D
  dsimp only [enDe, deC] at hS ⊢
  repeat' ((conv=>whnf);first|refine vA ?_|with_reducible first|refine v8 ?_|refine Sp.mk ?_ ?_|refine vS ?_|refine vR ?_|refine vB ?_|refine br_nt ?_|refine br_tt ?_|refine br_ff ?_|refine vP ?_|refine vQ ?_|refine vT ?_|refine vF ?_|refine br_and ?_|refine br_or ?_|refine br_d (fun _=>?_) fun _=>?_|refine vM (fun _=>?_) fun _=>?_)
  refine Dr.mk ⟨(.rd 0 (.rd 1 (.rd 2 (.rd 3 (.ef 4 (.ef 5 (.rd 6 (.rd 7 (.rd 8 (.ef 9 (.ef 10 (.rd 11 .dn) .no) .no)))) (.ef 9 (.ef 5 (.rd 6 (.rd 7 (.rd 8 (.ef 10 (.rd 11 .dn) .no)))) .no) .no)) (.ef 9 (.ef 4 (.ef 5 (.rd 6 (.rd 7 (.rd 8 (.ef 10 (.rd 11 .dn) .no)))) .no) .no) .no)))))), by decide +kernel, ?_⟩
  repeat' ((conv=>whnf);first|refine vA ?_|with_reducible first|refine v8 ?_|refine Sp.mk ?_ ?_|refine vS ?_|refine vR ?_|refine vB ?_|refine br_nt ?_|refine br_tt ?_|refine br_ff ?_|refine vP ?_|refine vQ ?_|refine vT ?_|refine vF ?_|refine br_and ?_|refine br_or ?_|refine br_d (fun _=>?_) fun _=>?_|refine vM (fun _=>?_) fun _=>?_)
  all_goals
   refine ⟨_, _, [0], [], rfl, ?_, ?_, ⟨⟨b, q⟩, ⟨ep, eb, er⟩⟩, rfl, rfl, ⟨⟨h1, h2, by dsimp only; omega, by dsimp only; omega⟩, hS⟩, ?_⟩
   ·repeat' ((conv=>whnf);first|with_reducible exact True.intro|exact vW|with_reducible refine And.intro ?_ ?_)
   ·repeat' ((conv=>whnf);first|with_reducible exact True.intro|exact vW|with_reducible refine And.intro ?_ ?_)
   rintro ⟨k, x, y, w⟩ q' q1 q2 ha
   have hAI := ha.I
   have hw : w.size ≤ 1048576 := by have := ha.w0; dsimp only at this; omega
   dsimp only [ded, encD] at q1 q2 ⊢
   repeat' ((conv=>whnf);first|refine vA ?_|with_reducible first|refine v8 ?_|refine Sp.mk ?_ ?_|refine vS ?_|refine vR ?_|refine vB ?_|refine br_nt ?_|refine br_tt ?_|refine br_ff ?_|refine vP ?_|refine vQ ?_|refine vT ?_|refine vF ?_|refine br_and ?_|refine br_or ?_|refine br_d (fun _=>?_) fun _=>?_|refine vM (fun _=>?_) fun _=>?_)
  all_goals
   refine ⟨⟨⟨sa, sb, sc⟩, ⟨k, x, y, w⟩⟩, ?_, ⟨hP, hAI, hw⟩, ?_⟩
   ·repeat' ((conv=>whnf);first|with_reducible exact True.intro|exact vW|with_reducible refine And.intro ?_ ?_)
   have hg2 := act_good hg ⟨k, x, y, w⟩
   dsimp only
   generalize actR ⟨sa, sb, sc⟩ ⟨k, x, y, w⟩ = s2 at hg2 ⊢
   generalize (actS ⟨sa, sb, sc⟩ ⟨k, x, y, w⟩).isSome = o2
   obtain ⟨ta, tb, tc⟩ := s2
   dsimp only [enSt, stC]
   cases o2
   ·repeat' ((conv=>whnf);first|refine vA ?_|with_reducible first|refine v8 ?_|refine Sp.mk ?_ ?_|refine vS ?_|refine vR ?_|refine vB ?_|refine br_nt ?_|refine br_tt ?_|refine br_ff ?_|refine vP ?_|refine vQ ?_|refine vT ?_|refine vF ?_|refine br_and ?_|refine br_or ?_|refine br_d (fun _=>?_) fun _=>?_|refine vM (fun _=>?_) fun _=>?_)
    have hn2 := hg.n
    dsimp only at hn2
    refine ⟨_, _, [0], [], rfl, ?_, ?_, (⟨b, q'⟩, 6), rfl, rfl, ⟨⟨h1, h2, ?_, ?_⟩, ?_⟩, ?_⟩
    ·repeat' ((conv=>whnf);first|with_reducible exact True.intro|exact vW|with_reducible refine And.intro ?_ ?_)
     try exact Chk.mk (by rw [pw_sh (by assumption)])
    ·repeat' ((conv=>whnf);first|with_reducible exact True.intro|exact vW|with_reducible refine And.intro ?_ ?_)
    ·dsimp only; omega
    ·dsimp only; omega
    ·unfold i64r; dsimp only; omega
    intro k2 q2 e0 e1 e2
    dsimp only at e0 e1 e2
    repeat' ((conv=>whnf);first|refine vA ?_|with_reducible first|refine v8 ?_|refine Sp.mk ?_ ?_|refine vS ?_|refine vR ?_|refine vB ?_|refine br_nt ?_|refine br_tt ?_|refine br_ff ?_|refine vP ?_|refine vQ ?_|refine vT ?_|refine vF ?_|refine br_and ?_|refine br_or ?_|refine br_d (fun _=>?_) fun _=>?_|refine vM (fun _=>?_) fun _=>?_)
    ·refine ⟨⟨sa, sb, sc⟩, ?_, ⟨hg.P⟩, ?_⟩
     ·repeat' ((conv=>whnf);first|with_reducible exact True.intro|exact vW|with_reducible refine And.intro ?_ ?_)
     have hg3 := sync_good ⟨sa, sb, sc⟩
     unfold optS
     dsimp only
     generalize (syncS ⟨sa, sb, sc⟩).getD default = s3 at hg3 ⊢
     generalize (syncS ⟨sa, sb, sc⟩).isSome = o3
     obtain ⟨ua, ub, uc⟩ := s3
     dsimp only [enSt, stC]
     repeat' ((conv=>whnf);first|refine vA ?_|with_reducible first|refine v8 ?_|refine Sp.mk ?_ ?_|refine vS ?_|refine vR ?_|refine vB ?_|refine br_nt ?_|refine br_tt ?_|refine br_ff ?_|refine vP ?_|refine vQ ?_|refine vT ?_|refine vF ?_|refine br_and ?_|refine br_or ?_|refine br_d (fun _=>?_) fun _=>?_|refine vM (fun _=>?_) fun _=>?_)
     refine ⟨((⟨ua, ub, uc⟩:Store), j - 1, q2), ⟨by dsimp only; omega, by dsimp only; omega, by dsimp only; omega, by dsimp only; omega, hg3⟩, by dsimp only; omega, ?_⟩
     first | (refine ⟨⟨[some 0, some 1, some 2], [], rfl, rfl, ?_, ?_⟩⟩ <;> (repeat' ((conv=>whnf);first|with_reducible exact True.intro|exact vW|with_reducible refine And.intro ?_ ?_)) <;> fail)
    ·refine Dr.mk ⟨(.rd 0 (.rd 1 (.rd 2 (.rd 3 (.rd 4 (.rd 5 (.ef 6 (.rd 7 (.rd 8 (.rd 9 (.ef 10 .dn .no)))) .no))))))), by decide +kernel, ?_⟩
     repeat' ((conv=>whnf);first|refine vA ?_|with_reducible first|refine v8 ?_|refine Sp.mk ?_ ?_|refine vS ?_|refine vR ?_|refine vB ?_|refine br_nt ?_|refine br_tt ?_|refine br_ff ?_|refine vP ?_|refine vQ ?_|refine vT ?_|refine vF ?_|refine br_and ?_|refine br_or ?_|refine br_d (fun _=>?_) fun _=>?_|refine vM (fun _=>?_) fun _=>?_)
     all_goals
      refine ⟨_, _, [0], [], rfl, ?_, ?_, (⟨b, q2⟩, 20), rfl, rfl, ⟨⟨h1, h2, ?_, ?_⟩, ?_⟩, ?_⟩
      ·repeat' ((conv=>whnf);first|with_reducible exact True.intro|exact vW|with_reducible refine And.intro ?_ ?_)
       try exact Chk.mk (by rw [pw_sh (by assumption)])
      ·repeat' ((conv=>whnf);first|with_reducible exact True.intro|exact vW|with_reducible refine And.intro ?_ ?_)
      ·dsimp only; omega
      ·dsimp only; omega
      ·unfold i64r; dsimp only; omega
      intro k3 q3 f0 f1 f2
      dsimp only at f0 f1 f2
      have f3 := f1 (by decide)
      repeat' ((conv=>whnf);first|refine vA ?_|with_reducible first|refine v8 ?_|refine Sp.mk ?_ ?_|refine vS ?_|refine vR ?_|refine vB ?_|refine br_nt ?_|refine br_tt ?_|refine br_ff ?_|refine vP ?_|refine vQ ?_|refine vT ?_|refine vF ?_|refine br_and ?_|refine br_or ?_|refine br_d (fun _=>?_) fun _=>?_|refine vM (fun _=>?_) fun _=>?_)
     all_goals
      have hg4 : goodS ⟨sa, sb, if sc + k3 < (sb.size : Int) then sc + k3 else (sb.size : Int)⟩ := sure_good hg (by split <;> omega) (by split <;> omega)
      refine ⟨((⟨sa, sb, if sc + k3 < (sb.size : Int) then sc + k3 else (sb.size : Int)⟩:Store), j - 1, q3), ⟨by dsimp only; omega, by dsimp only; omega, by dsimp only; omega, by dsimp only; omega, hg4⟩, by dsimp only; omega, ?_⟩
      first | (refine ⟨⟨[some 0, some 1, some 2], [], rfl, rfl, ?_, ?_⟩⟩ <;> (repeat' ((conv=>whnf);first|with_reducible exact True.intro|exact vW|with_reducible refine And.intro ?_ ?_)) <;> fail)
    ·refine ⟨((⟨sa, sb, sc⟩:Store), j - 1, q2), ⟨by dsimp only; omega, by dsimp only; omega, by dsimp only; omega, by dsimp only; omega, hg⟩, by dsimp only; omega, ?_⟩
     first | (refine ⟨⟨[some 0, some 1, some 2], [], rfl, rfl, ?_, ?_⟩⟩ <;> (repeat' ((conv=>whnf);first|with_reducible exact True.intro|exact vW|with_reducible refine And.intro ?_ ?_)) <;> fail)
   ·repeat' ((conv=>whnf);first|refine vA ?_|with_reducible first|refine v8 ?_|refine Sp.mk ?_ ?_|refine vS ?_|refine vR ?_|refine vB ?_|refine br_nt ?_|refine br_tt ?_|refine br_ff ?_|refine vP ?_|refine vQ ?_|refine vT ?_|refine vF ?_|refine br_and ?_|refine br_or ?_|refine br_d (fun _=>?_) fun _=>?_|refine vM (fun _=>?_) fun _=>?_)
    have hn2 := hg2.n
    dsimp only at hn2
    refine ⟨_, _, [0], [], rfl, ?_, ?_, (⟨b, q'⟩, 6), rfl, rfl, ⟨⟨h1, h2, ?_, ?_⟩, ?_⟩, ?_⟩
    ·repeat' ((conv=>whnf);first|with_reducible exact True.intro|exact vW|with_reducible refine And.intro ?_ ?_)
     try exact Chk.mk (by rw [pw_sh (by assumption)])
    ·repeat' ((conv=>whnf);first|with_reducible exact True.intro|exact vW|with_reducible refine And.intro ?_ ?_)
    ·dsimp only; omega
    ·dsimp only; omega
    ·unfold i64r; dsimp only; omega
    intro k2 q2 e0 e1 e2
    dsimp only at e0 e1 e2
    repeat' ((conv=>whnf);first|refine vA ?_|with_reducible first|refine v8 ?_|refine Sp.mk ?_ ?_|refine vS ?_|refine vR ?_|refine vB ?_|refine br_nt ?_|refine br_tt ?_|refine br_ff ?_|refine vP ?_|refine vQ ?_|refine vT ?_|refine vF ?_|refine br_and ?_|refine br_or ?_|refine br_d (fun _=>?_) fun _=>?_|refine vM (fun _=>?_) fun _=>?_)
    ·refine ⟨⟨ta, tb, tc⟩, ?_, ⟨hg2.P⟩, ?_⟩
     ·repeat' ((conv=>whnf);first|with_reducible exact True.intro|exact vW|with_reducible refine And.intro ?_ ?_)
     have hg3 := sync_good ⟨ta, tb, tc⟩
     unfold optS
     dsimp only
     generalize (syncS ⟨ta, tb, tc⟩).getD default = s3 at hg3 ⊢
     generalize (syncS ⟨ta, tb, tc⟩).isSome = o3
     obtain ⟨ua, ub, uc⟩ := s3
     dsimp only [enSt, stC]
     repeat' ((conv=>whnf);first|refine vA ?_|with_reducible first|refine v8 ?_|refine Sp.mk ?_ ?_|refine vS ?_|refine vR ?_|refine vB ?_|refine br_nt ?_|refine br_tt ?_|refine br_ff ?_|refine vP ?_|refine vQ ?_|refine vT ?_|refine vF ?_|refine br_and ?_|refine br_or ?_|refine br_d (fun _=>?_) fun _=>?_|refine vM (fun _=>?_) fun _=>?_)
     refine ⟨((⟨ua, ub, uc⟩:Store), j - 1, q2), ⟨by dsimp only; omega, by dsimp only; omega, by dsimp only; omega, by dsimp only; omega, hg3⟩, by dsimp only; omega, ?_⟩
     first | (refine ⟨⟨[some 0, some 1, some 2], [], rfl, rfl, ?_, ?_⟩⟩ <;> (repeat' ((conv=>whnf);first|with_reducible exact True.intro|exact vW|with_reducible refine And.intro ?_ ?_)) <;> fail)
    ·refine Dr.mk ⟨(.rd 0 (.rd 1 (.rd 2 (.rd 3 (.rd 4 (.rd 5 (.ef 6 (.rd 7 (.rd 8 (.rd 9 (.ef 10 .dn .no)))) .no))))))), by decide +kernel, ?_⟩
     repeat' ((conv=>whnf);first|refine vA ?_|with_reducible first|refine v8 ?_|refine Sp.mk ?_ ?_|refine vS ?_|refine vR ?_|refine vB ?_|refine br_nt ?_|refine br_tt ?_|refine br_ff ?_|refine vP ?_|refine vQ ?_|refine vT ?_|refine vF ?_|refine br_and ?_|refine br_or ?_|refine br_d (fun _=>?_) fun _=>?_|refine vM (fun _=>?_) fun _=>?_)
     all_goals
      refine ⟨_, _, [0], [], rfl, ?_, ?_, (⟨b, q2⟩, 20), rfl, rfl, ⟨⟨h1, h2, ?_, ?_⟩, ?_⟩, ?_⟩
      ·repeat' ((conv=>whnf);first|with_reducible exact True.intro|exact vW|with_reducible refine And.intro ?_ ?_)
       try exact Chk.mk (by rw [pw_sh (by assumption)])
      ·repeat' ((conv=>whnf);first|with_reducible exact True.intro|exact vW|with_reducible refine And.intro ?_ ?_)
      ·dsimp only; omega
      ·dsimp only; omega
      ·unfold i64r; dsimp only; omega
      intro k3 q3 f0 f1 f2
      dsimp only at f0 f1 f2
      have f3 := f1 (by decide)
      repeat' ((conv=>whnf);first|refine vA ?_|with_reducible first|refine v8 ?_|refine Sp.mk ?_ ?_|refine vS ?_|refine vR ?_|refine vB ?_|refine br_nt ?_|refine br_tt ?_|refine br_ff ?_|refine vP ?_|refine vQ ?_|refine vT ?_|refine vF ?_|refine br_and ?_|refine br_or ?_|refine br_d (fun _=>?_) fun _=>?_|refine vM (fun _=>?_) fun _=>?_)
     all_goals
      have hg4 : goodS ⟨ta, tb, if tc + k3 < (tb.size : Int) then tc + k3 else (tb.size : Int)⟩ := sure_good hg2 (by split <;> omega) (by split <;> omega)
      refine ⟨((⟨ta, tb, if tc + k3 < (tb.size : Int) then tc + k3 else (tb.size : Int)⟩:Store), j - 1, q3), ⟨by dsimp only; omega, by dsimp only; omega, by dsimp only; omega, by dsimp only; omega, hg4⟩, by dsimp only; omega, ?_⟩
      first | (refine ⟨⟨[some 0, some 1, some 2], [], rfl, rfl, ?_, ?_⟩⟩ <;> (repeat' ((conv=>whnf);first|with_reducible exact True.intro|exact vW|with_reducible refine And.intro ?_ ?_)) <;> fail)
    ·refine ⟨((⟨ta, tb, tc⟩:Store), j - 1, q2), ⟨by dsimp only; omega, by dsimp only; omega, by dsimp only; omega, by dsimp only; omega, hg2⟩, by dsimp only; omega, ?_⟩
     first | (refine ⟨⟨[some 0, some 1, some 2], [], rfl, rfl, ?_, ?_⟩⟩ <;> (repeat' ((conv=>whnf);first|with_reducible exact True.intro|exact vW|with_reducible refine And.intro ?_ ?_)) <;> fail)
 ·refine ⟨_, _, [0], [], rfl, ?_, ?_, (⟨b, q⟩, 4), rfl, rfl, ⟨⟨h1, h2, ?_, ?_⟩, ?_⟩, ?_⟩
  ·repeat' ((conv=>whnf);first|with_reducible exact True.intro|exact vW|with_reducible refine And.intro ?_ ?_)
   try exact Chk.mk (by rw [pw_sh (by assumption)])
  ·repeat' ((conv=>whnf);first|with_reducible exact True.intro|exact vW|with_reducible refine And.intro ?_ ?_)
  ·dsimp only; omega
  ·dsimp only; omega
  ·unfold i64r; dsimp only; omega
  intro k4 q4 d0 d1 d2
  dsimp only at d0 d1 d2
  repeat' ((conv=>whnf);first|refine vA ?_|with_reducible first|refine v8 ?_|refine Sp.mk ?_ ?_|refine vS ?_|refine vR ?_|refine vB ?_|refine br_nt ?_|refine br_tt ?_|refine br_ff ?_|refine vP ?_|refine vQ ?_|refine vT ?_|refine vF ?_|refine br_and ?_|refine br_or ?_|refine br_d (fun _=>?_) fun _=>?_|refine vM (fun _=>?_) fun _=>?_)
  ·refine Dr.mk ⟨(.rd 0 (.rd 1 (.rd 2 (.rd 3 (.rd 4 (.rd 5 (.rd 6 (.rd 7 (.rd 8 (.rd 9 (.rd 10 (.ef 11 (.rd 12 (.ef 13 (.rd 14 (.rd 15 (.rd 16 (.ef 17 .dn .no)))) .no)) .no)))))))))))), by decide +kernel, ?_⟩
   repeat' ((conv=>whnf);first|refine vA ?_|with_reducible first|refine v8 ?_|refine Sp.mk ?_ ?_|refine vS ?_|refine vR ?_|refine vB ?_|refine br_nt ?_|refine br_tt ?_|refine br_ff ?_|refine vP ?_|refine vQ ?_|refine vT ?_|refine vF ?_|refine br_and ?_|refine br_or ?_|refine br_d (fun _=>?_) fun _=>?_|refine vM (fun _=>?_) fun _=>?_)
   all_goals
    refine ⟨_, _, [0], [], rfl, ?_, ?_, (⟨b, q4⟩, (sb.size : Int) - sc + 1), rfl, rfl, ⟨⟨h1, h2, ?_, ?_⟩, ?_⟩, ?_⟩
    ·repeat' ((conv=>whnf);first|with_reducible exact True.intro|exact vW|with_reducible refine And.intro ?_ ?_)
     try exact Chk.mk (by rw [pw_sh (by assumption)])
    ·repeat' ((conv=>whnf);first|with_reducible exact True.intro|exact vW|with_reducible refine And.intro ?_ ?_)
    ·dsimp only; omega
    ·dsimp only; omega
    ·unfold i64r; dsimp only; omega
    intro k5 q5 e0 e1 e2
    dsimp only at e0 e1 e2
    have e3 := e1 (by omega)
    repeat' ((conv=>whnf);first|refine vA ?_|with_reducible first|refine v8 ?_|refine Sp.mk ?_ ?_|refine vS ?_|refine vR ?_|refine vB ?_|refine br_nt ?_|refine br_tt ?_|refine br_ff ?_|refine vP ?_|refine vQ ?_|refine vT ?_|refine vF ?_|refine br_and ?_|refine br_or ?_|refine br_d (fun _=>?_) fun _=>?_|refine vM (fun _=>?_) fun _=>?_)
   all_goals
    refine ⟨(⟨sa, sb, sc⟩, sc + k5), ?_, ⟨hP, by unfold i64r; dsimp only; omega⟩, ?_⟩
    ·repeat' ((conv=>whnf);first|with_reducible exact True.intro|exact vW|with_reducible refine And.intro ?_ ?_)
    have hg3 := crash_good ⟨sa, sb, sc⟩ (sc + k5)
    unfold optS
    dsimp only
    generalize (crashS ⟨sa, sb, sc⟩ (sc + k5)).getD default = s3 at hg3 ⊢
    generalize (crashS ⟨sa, sb, sc⟩ (sc + k5)).isSome = o3
    obtain ⟨ua, ub, uc⟩ := s3
    dsimp only [enSt, stC]
    repeat' ((conv=>whnf);first|refine vA ?_|with_reducible first|refine v8 ?_|refine Sp.mk ?_ ?_|refine vS ?_|refine vR ?_|refine vB ?_|refine br_nt ?_|refine br_tt ?_|refine br_ff ?_|refine vP ?_|refine vQ ?_|refine vT ?_|refine vF ?_|refine br_and ?_|refine br_or ?_|refine br_d (fun _=>?_) fun _=>?_|refine vM (fun _=>?_) fun _=>?_)
    have hn3 := hg3.n
    dsimp only at hn3
    refine ⟨_, _, [0], [], rfl, ?_, ?_, (⟨b, q5⟩, n), rfl, rfl, ⟨⟨h1, h2, by dsimp only; omega, by dsimp only; omega⟩, h5⟩, ?_⟩
    ·repeat' ((conv=>whnf);first|with_reducible exact True.intro|exact vW|with_reducible refine And.intro ?_ ?_)
    ·repeat' ((conv=>whnf);first|with_reducible exact True.intro|exact vW|with_reducible refine And.intro ?_ ?_)
    intro v p6 v1 v2
    dsimp only at v1 v2 ⊢
    repeat' ((conv=>whnf);first|refine vA ?_|with_reducible first|refine v8 ?_|refine Sp.mk ?_ ?_|refine vS ?_|refine vR ?_|refine vB ?_|refine br_nt ?_|refine br_tt ?_|refine br_ff ?_|refine vP ?_|refine vQ ?_|refine vT ?_|refine vF ?_|refine br_and ?_|refine br_or ?_|refine br_d (fun _=>?_) fun _=>?_|refine vM (fun _=>?_) fun _=>?_)
    ·refine ⟨_, _, [0], [], rfl, ?_, ?_, (⟨b, p6⟩, 3), rfl, rfl, ⟨⟨h1, h2, ?_, ?_⟩, ?_⟩, ?_⟩
     ·repeat' ((conv=>whnf);first|with_reducible exact True.intro|exact vW|with_reducible refine And.intro ?_ ?_)
      try exact Chk.mk (by rw [pw_sh (by assumption)])
     ·repeat' ((conv=>whnf);first|with_reducible exact True.intro|exact vW|with_reducible refine And.intro ?_ ?_)
     ·dsimp only; omega
     ·dsimp only; omega
     ·unfold i64r; dsimp only; omega
     intro k7 p7 f0 f1 f2
     dsimp only at f0 f1 f2
     repeat' ((conv=>whnf);first|refine vA ?_|with_reducible first|refine v8 ?_|refine Sp.mk ?_ ?_|refine vS ?_|refine vR ?_|refine vB ?_|refine br_nt ?_|refine br_tt ?_|refine br_ff ?_|refine vP ?_|refine vQ ?_|refine vT ?_|refine vF ?_|refine br_and ?_|refine br_or ?_|refine br_d (fun _=>?_) fun _=>?_|refine vM (fun _=>?_) fun _=>?_)
     ·refine ⟨_, _, [0], [], rfl, ?_, ?_, ⟨⟨b, p7⟩, ua⟩, rfl, rfl, ⟨⟨h1, h2, by dsimp only; omega, by dsimp only; omega⟩, by dsimp only; omega⟩, ?_⟩
      ·repeat' ((conv=>whnf);first|with_reducible exact True.intro|exact vW|with_reducible refine And.intro ?_ ?_)
      ·repeat' ((conv=>whnf);first|with_reducible exact True.intro|exact vW|with_reducible refine And.intro ?_ ?_)
      intro u p8 u1 u2 u3
      dsimp only at u1 u2 u3 ⊢
      repeat' ((conv=>whnf);first|refine vA ?_|with_reducible first|refine v8 ?_|refine Sp.mk ?_ ?_|refine vS ?_|refine vR ?_|refine vB ?_|refine br_nt ?_|refine br_tt ?_|refine br_ff ?_|refine vP ?_|refine vQ ?_|refine vT ?_|refine vF ?_|refine br_and ?_|refine br_or ?_|refine br_d (fun _=>?_) fun _=>?_|refine vM (fun _=>?_) fun _=>?_)
      refine ⟨_, _, [some 0], [], rfl, rfl, ?_, ?_, h ⟨u, ub, uc⟩ p8 (by omega) (by omega) ⟨by dsimp only; omega, by dsimp only; omega, by dsimp only; omega, by dsimp only; omega⟩⟩
      ·repeat' ((conv=>whnf);first|with_reducible exact True.intro|exact vW|with_reducible refine And.intro ?_ ?_)
      ·repeat' ((conv=>whnf);first|with_reducible exact True.intro|exact vW|with_reducible refine And.intro ?_ ?_)
     ·refine ⟨_, _, [some 0], [], rfl, rfl, ?_, ?_, h ⟨ua, ub, ub.size + 1⟩ p7 (by omega) (by omega) ⟨by dsimp only; omega, by dsimp only; omega, by dsimp only; omega, by dsimp only; omega⟩⟩
      ·repeat' ((conv=>whnf);first|with_reducible exact True.intro|exact vW|with_reducible refine And.intro ?_ ?_)
      ·repeat' ((conv=>whnf);first|with_reducible exact True.intro|exact vW|with_reducible refine And.intro ?_ ?_)
     ·refine ⟨_, _, [0], [], rfl, ?_, ?_, ⟨⟨b, p7⟩, ub⟩, rfl, rfl, ⟨⟨h1, h2, by dsimp only; omega, by dsimp only; omega⟩, by dsimp only; omega⟩, ?_⟩
      ·repeat' ((conv=>whnf);first|with_reducible exact True.intro|exact vW|with_reducible refine And.intro ?_ ?_)
      ·repeat' ((conv=>whnf);first|with_reducible exact True.intro|exact vW|with_reducible refine And.intro ?_ ?_)
      intro u p8 u1 u2 u3
      dsimp only at u1 u2 u3 ⊢
      repeat' ((conv=>whnf);first|refine vA ?_|with_reducible first|refine v8 ?_|refine Sp.mk ?_ ?_|refine vS ?_|refine vR ?_|refine vB ?_|refine br_nt ?_|refine br_tt ?_|refine br_ff ?_|refine vP ?_|refine vQ ?_|refine vT ?_|refine vF ?_|refine br_and ?_|refine br_or ?_|refine br_d (fun _=>?_) fun _=>?_|refine vM (fun _=>?_) fun _=>?_)
      refine ⟨_, _, [some 0], [], rfl, rfl, ?_, ?_, h ⟨ua, u, uc⟩ p8 (by omega) (by omega) ⟨by dsimp only; omega, by dsimp only; omega, by dsimp only; omega, by dsimp only; omega⟩⟩
      ·repeat' ((conv=>whnf);first|with_reducible exact True.intro|exact vW|with_reducible refine And.intro ?_ ?_)
      ·repeat' ((conv=>whnf);first|with_reducible exact True.intro|exact vW|with_reducible refine And.intro ?_ ?_)
    ·refine ⟨_, _, [some 0], [], rfl, rfl, ?_, ?_, h ⟨ua, ub, uc⟩ p6 (by omega) (by omega) hg3.d⟩
     ·repeat' ((conv=>whnf);first|with_reducible exact True.intro|exact vW|with_reducible refine And.intro ?_ ?_)
     ·repeat' ((conv=>whnf);first|with_reducible exact True.intro|exact vW|with_reducible refine And.intro ?_ ?_)
  ·have hn3 := hg.n
   dsimp only at hn3
   refine ⟨_, _, [0], [], rfl, ?_, ?_, (⟨b, q4⟩, n), rfl, rfl, ⟨⟨h1, h2, by dsimp only; omega, by dsimp only; omega⟩, h5⟩, ?_⟩
   ·repeat' ((conv=>whnf);first|with_reducible exact True.intro|exact vW|with_reducible refine And.intro ?_ ?_)
   ·repeat' ((conv=>whnf);first|with_reducible exact True.intro|exact vW|with_reducible refine And.intro ?_ ?_)
   intro v p6 v1 v2
   dsimp only at v1 v2 ⊢
   repeat' ((conv=>whnf);first|refine vA ?_|with_reducible first|refine v8 ?_|refine Sp.mk ?_ ?_|refine vS ?_|refine vR ?_|refine vB ?_|refine br_nt ?_|refine br_tt ?_|refine br_ff ?_|refine vP ?_|refine vQ ?_|refine vT ?_|refine vF ?_|refine br_and ?_|refine br_or ?_|refine br_d (fun _=>?_) fun _=>?_|refine vM (fun _=>?_) fun _=>?_)
   ·refine ⟨_, _, [0], [], rfl, ?_, ?_, (⟨b, p6⟩, 3), rfl, rfl, ⟨⟨h1, h2, ?_, ?_⟩, ?_⟩, ?_⟩
    ·repeat' ((conv=>whnf);first|with_reducible exact True.intro|exact vW|with_reducible refine And.intro ?_ ?_)
     try exact Chk.mk (by rw [pw_sh (by assumption)])
    ·repeat' ((conv=>whnf);first|with_reducible exact True.intro|exact vW|with_reducible refine And.intro ?_ ?_)
    ·dsimp only; omega
    ·dsimp only; omega
    ·unfold i64r; dsimp only; omega
    intro k7 p7 f0 f1 f2
    dsimp only at f0 f1 f2
    repeat' ((conv=>whnf);first|refine vA ?_|with_reducible first|refine v8 ?_|refine Sp.mk ?_ ?_|refine vS ?_|refine vR ?_|refine vB ?_|refine br_nt ?_|refine br_tt ?_|refine br_ff ?_|refine vP ?_|refine vQ ?_|refine vT ?_|refine vF ?_|refine br_and ?_|refine br_or ?_|refine br_d (fun _=>?_) fun _=>?_|refine vM (fun _=>?_) fun _=>?_)
    ·refine ⟨_, _, [0], [], rfl, ?_, ?_, ⟨⟨b, p7⟩, sa⟩, rfl, rfl, ⟨⟨h1, h2, by dsimp only; omega, by dsimp only; omega⟩, by dsimp only; omega⟩, ?_⟩
     ·repeat' ((conv=>whnf);first|with_reducible exact True.intro|exact vW|with_reducible refine And.intro ?_ ?_)
     ·repeat' ((conv=>whnf);first|with_reducible exact True.intro|exact vW|with_reducible refine And.intro ?_ ?_)
     intro u p8 u1 u2 u3
     dsimp only at u1 u2 u3 ⊢
     repeat' ((conv=>whnf);first|refine vA ?_|with_reducible first|refine v8 ?_|refine Sp.mk ?_ ?_|refine vS ?_|refine vR ?_|refine vB ?_|refine br_nt ?_|refine br_tt ?_|refine br_ff ?_|refine vP ?_|refine vQ ?_|refine vT ?_|refine vF ?_|refine br_and ?_|refine br_or ?_|refine br_d (fun _=>?_) fun _=>?_|refine vM (fun _=>?_) fun _=>?_)
     refine ⟨_, _, [some 0], [], rfl, rfl, ?_, ?_, h ⟨u, sb, sc⟩ p8 (by omega) (by omega) ⟨by dsimp only; omega, by dsimp only; omega, by dsimp only; omega, by dsimp only; omega⟩⟩
     ·repeat' ((conv=>whnf);first|with_reducible exact True.intro|exact vW|with_reducible refine And.intro ?_ ?_)
     ·repeat' ((conv=>whnf);first|with_reducible exact True.intro|exact vW|with_reducible refine And.intro ?_ ?_)
    ·refine ⟨_, _, [some 0], [], rfl, rfl, ?_, ?_, h ⟨sa, sb, sb.size + 1⟩ p7 (by omega) (by omega) ⟨by dsimp only; omega, by dsimp only; omega, by dsimp only; omega, by dsimp only; omega⟩⟩
     ·repeat' ((conv=>whnf);first|with_reducible exact True.intro|exact vW|with_reducible refine And.intro ?_ ?_)
     ·repeat' ((conv=>whnf);first|with_reducible exact True.intro|exact vW|with_reducible refine And.intro ?_ ?_)
    ·refine ⟨_, _, [0], [], rfl, ?_, ?_, ⟨⟨b, p7⟩, sb⟩, rfl, rfl, ⟨⟨h1, h2, by dsimp only; omega, by dsimp only; omega⟩, by dsimp only; omega⟩, ?_⟩
     ·repeat' ((conv=>whnf);first|with_reducible exact True.intro|exact vW|with_reducible refine And.intro ?_ ?_)
     ·repeat' ((conv=>whnf);first|with_reducible exact True.intro|exact vW|with_reducible refine And.intro ?_ ?_)
     intro u p8 u1 u2 u3
     dsimp only at u1 u2 u3 ⊢
     repeat' ((conv=>whnf);first|refine vA ?_|with_reducible first|refine v8 ?_|refine Sp.mk ?_ ?_|refine vS ?_|refine vR ?_|refine vB ?_|refine br_nt ?_|refine br_tt ?_|refine br_ff ?_|refine vP ?_|refine vQ ?_|refine vT ?_|refine vF ?_|refine br_and ?_|refine br_or ?_|refine br_d (fun _=>?_) fun _=>?_|refine vM (fun _=>?_) fun _=>?_)
     refine ⟨_, _, [some 0], [], rfl, rfl, ?_, ?_, h ⟨sa, u, sc⟩ p8 (by omega) (by omega) ⟨by dsimp only; omega, by dsimp only; omega, by dsimp only; omega, by dsimp only; omega⟩⟩
     ·repeat' ((conv=>whnf);first|with_reducible exact True.intro|exact vW|with_reducible refine And.intro ?_ ?_)
     ·repeat' ((conv=>whnf);first|with_reducible exact True.intro|exact vW|with_reducible refine And.intro ?_ ?_)
   ·refine ⟨_, _, [some 0], [], rfl, rfl, ?_, ?_, h ⟨sa, sb, sc⟩ p6 (by omega) (by omega) hg.d⟩
    ·repeat' ((conv=>whnf);first|with_reducible exact True.intro|exact vW|with_reducible refine And.intro ?_ ?_)
    ·repeat' ((conv=>whnf);first|with_reducible exact True.intro|exact vW|with_reducible refine And.intro ?_ ?_)
end Go.Proofs.YtkafoolhbflfkaaGreatDoor.Vc
end
section
/- Part YDD: what the draws of stores yield. -/
namespace Go.Proofs.YtkafoolhbflfkaaGreatDoor.Vc
open Go.Proofs
set_option maxRecDepth 100000
set_option maxHeartbeats 4000000
def C289 : List AV → (AV → Prop) → Prop := con (X := List Int) (fun l => [slB l]) bytesI fun _ K => ∀ s : Store, drawnS s → K (enSt s)
theorem F289 : FF 15 C289 := by
 refine fitX [] (by simp) [(59, C42), (58, C288)] (by simp only [List.mem_cons, List.not_mem_nil, or_false]; rintro _ (rfl | rfl) <;> first | exact F42 | exact F288) Tryz.f15 ⟨rfl, by decide +kernel, by decide +kernel⟩ (fun _ _ _ hk h s hs => hk _ (h s hs)) ?_
 rintro l K hl h
 refine ⟨Nat.le_of_ble_eq_true rfl, ?_⟩
 repeat' ((conv=>whnf);first|refine vA ?_|with_reducible first|refine v8 ?_|refine Sp.mk ?_ ?_|refine vS ?_|refine vR ?_|refine vB ?_|refine br_nt ?_|refine br_tt ?_|refine br_ff ?_|refine vP ?_|refine vQ ?_|refine vT ?_|refine vF ?_|refine br_and ?_|refine br_or ?_|refine br_d (fun _=>?_) fun _=>?_|refine vM (fun _=>?_) fun _=>?_)
 refine ⟨_, _, [], [], rfl, ?_, ?_, l, rfl, rfl, ⟨hl⟩, ?_⟩
 ·repeat' ((conv=>whnf);first|with_reducible exact True.intro|exact vW|with_reducible refine And.intro ?_ ?_)
 ·repeat' ((conv=>whnf);first|with_reducible exact True.intro|exact vW|with_reducible refine And.intro ?_ ?_)
 intro b hb
 dsimp only
 repeat' ((conv=>whnf);first|refine vA ?_|with_reducible first|refine v8 ?_|refine Sp.mk ?_ ?_|refine vS ?_|refine vR ?_|refine vB ?_|refine br_nt ?_|refine br_tt ?_|refine br_ff ?_|refine vP ?_|refine vQ ?_|refine vT ?_|refine vF ?_|refine br_and ?_|refine br_or ?_|refine br_d (fun _=>?_) fun _=>?_|refine vM (fun _=>?_) fun _=>?_)
 refine ⟨_, _, [1], [], rfl, ?_, ?_, (⟨b, 0⟩, 2), rfl, rfl, ⟨⟨hb.1, hb.2.1, by dsimp only; omega, by dsimp only; omega⟩, by unfold i64r; dsimp only; omega⟩, ?_⟩
 ·repeat' ((conv=>whnf);first|with_reducible exact True.intro|exact vW|with_reducible refine And.intro ?_ ?_)
 ·repeat' ((conv=>whnf);first|with_reducible exact True.intro|exact vW|with_reducible refine And.intro ?_ ?_)
 intro s p' _ _ hs
 repeat' ((conv=>whnf);first|refine vA ?_|with_reducible first|refine v8 ?_|refine Sp.mk ?_ ?_|refine vS ?_|refine vR ?_|refine vB ?_|refine br_nt ?_|refine br_tt ?_|refine br_ff ?_|refine vP ?_|refine vQ ?_|refine vT ?_|refine vF ?_|refine br_and ?_|refine br_or ?_|refine br_d (fun _=>?_) fun _=>?_|refine vM (fun _=>?_) fun _=>?_)
 exact h s hs
def C290 := C125
theorem F290 : FF 25 C290 := by
 refine fitX [] (by simp) [(59, C42), (65, C151)] (by simp only [List.mem_cons, List.not_mem_nil, or_false]; rintro _ (rfl | rfl) <;> first | exact F42 | exact F151) Tryz.f25 ⟨rfl, by decide +kernel, by decide +kernel⟩ (fun _ _ _ hk h s hs => hk _ (h s hs)) ?_
 rintro l K hl h
 refine ⟨Nat.le_of_ble_eq_true rfl, ?_⟩
 repeat' ((conv=>whnf);first|refine vA ?_|with_reducible first|refine v8 ?_|refine Sp.mk ?_ ?_|refine vS ?_|refine vR ?_|refine vB ?_|refine br_nt ?_|refine br_tt ?_|refine br_ff ?_|refine vP ?_|refine vQ ?_|refine vT ?_|refine vF ?_|refine br_and ?_|refine br_or ?_|refine br_d (fun _=>?_) fun _=>?_|refine vM (fun _=>?_) fun _=>?_)
 refine ⟨_, _, [], [], rfl, ?_, ?_, l, rfl, rfl, ⟨hl⟩, ?_⟩
 ·repeat' ((conv=>whnf);first|with_reducible exact True.intro|exact vW|with_reducible refine And.intro ?_ ?_)
 ·repeat' ((conv=>whnf);first|with_reducible exact True.intro|exact vW|with_reducible refine And.intro ?_ ?_)
 intro b hb
 dsimp only
 repeat' ((conv=>whnf);first|refine vA ?_|with_reducible first|refine v8 ?_|refine Sp.mk ?_ ?_|refine vS ?_|refine vR ?_|refine vB ?_|refine br_nt ?_|refine br_tt ?_|refine br_ff ?_|refine vP ?_|refine vQ ?_|refine vT ?_|refine vF ?_|refine br_and ?_|refine br_or ?_|refine br_d (fun _=>?_) fun _=>?_|refine vM (fun _=>?_) fun _=>?_)
 refine ⟨_, _, [1], [], rfl, ?_, ?_, (⟨b, 0⟩, 4), rfl, rfl, ⟨⟨hb.1, hb.2.1, by dsimp only; omega, by dsimp only; omega⟩, by unfold i64r; dsimp only; omega⟩, ?_⟩
 ·repeat' ((conv=>whnf);first|with_reducible exact True.intro|exact vW|with_reducible refine And.intro ?_ ?_)
 ·repeat' ((conv=>whnf);first|with_reducible exact True.intro|exact vW|with_reducible refine And.intro ?_ ?_)
 intro s p' _ _ hs
 repeat' ((conv=>whnf);first|refine vA ?_|with_reducible first|refine v8 ?_|refine Sp.mk ?_ ?_|refine vS ?_|refine vR ?_|refine vB ?_|refine br_nt ?_|refine br_tt ?_|refine br_ff ?_|refine vP ?_|refine vQ ?_|refine vT ?_|refine vF ?_|refine br_and ?_|refine br_or ?_|refine br_d (fun _=>?_) fun _=>?_|refine vM (fun _=>?_) fun _=>?_)
 exact h s hs
def C291 := C289
theorem F291 : FF 42 C291 := by
 refine fitX [] (by simp) [(59, C42), (58, C288)] (by simp only [List.mem_cons, List.not_mem_nil, or_false]; rintro _ (rfl | rfl) <;> first | exact F42 | exact F288) Tryz.f42 ⟨rfl, by decide +kernel, by decide +kernel⟩ (fun _ _ _ hk h s hs => hk _ (h s hs)) ?_
 rintro l K hl h
 refine ⟨Nat.le_of_ble_eq_true rfl, ?_⟩
 repeat' ((conv=>whnf);first|refine vA ?_|with_reducible first|refine v8 ?_|refine Sp.mk ?_ ?_|refine vS ?_|refine vR ?_|refine vB ?_|refine br_nt ?_|refine br_tt ?_|refine br_ff ?_|refine vP ?_|refine vQ ?_|refine vT ?_|refine vF ?_|refine br_and ?_|refine br_or ?_|refine br_d (fun _=>?_) fun _=>?_|refine vM (fun _=>?_) fun _=>?_)
 refine ⟨_, _, [], [], rfl, ?_, ?_, l, rfl, rfl, ⟨hl⟩, ?_⟩
 ·repeat' ((conv=>whnf);first|with_reducible exact True.intro|exact vW|with_reducible refine And.intro ?_ ?_)
 ·repeat' ((conv=>whnf);first|with_reducible exact True.intro|exact vW|with_reducible refine And.intro ?_ ?_)
 intro b hb
 dsimp only
 repeat' ((conv=>whnf);first|refine vA ?_|with_reducible first|refine v8 ?_|refine Sp.mk ?_ ?_|refine vS ?_|refine vR ?_|refine vB ?_|refine br_nt ?_|refine br_tt ?_|refine br_ff ?_|refine vP ?_|refine vQ ?_|refine vT ?_|refine vF ?_|refine br_and ?_|refine br_or ?_|refine br_d (fun _=>?_) fun _=>?_|refine vM (fun _=>?_) fun _=>?_)
 refine ⟨_, _, [1], [], rfl, ?_, ?_, (⟨b, 0⟩, 9), rfl, rfl, ⟨⟨hb.1, hb.2.1, by dsimp only; omega, by dsimp only; omega⟩, by unfold i64r; dsimp only; omega⟩, ?_⟩
 ·repeat' ((conv=>whnf);first|with_reducible exact True.intro|exact vW|with_reducible refine And.intro ?_ ?_)
 ·repeat' ((conv=>whnf);first|with_reducible exact True.intro|exact vW|with_reducible refine And.intro ?_ ?_)
 intro s p' _ _ hs
 repeat' ((conv=>whnf);first|refine vA ?_|with_reducible first|refine v8 ?_|refine Sp.mk ?_ ?_|refine vS ?_|refine vR ?_|refine vB ?_|refine br_nt ?_|refine br_tt ?_|refine br_ff ?_|refine vP ?_|refine vQ ?_|refine vT ?_|refine vF ?_|refine br_and ?_|refine br_or ?_|refine br_d (fun _=>?_) fun _=>?_|refine vM (fun _=>?_) fun _=>?_)
 exact h s hs
def C293 := C289
theorem F293 : FF 22 C293 := by
 refine fitX [] (by simp) [(59, C42), (58, C288)] (by simp only [List.mem_cons, List.not_mem_nil, or_false]; rintro _ (rfl | rfl) <;> first | exact F42 | exact F288) Tryz.f22 ⟨rfl, by decide +kernel, by decide +kernel⟩ (fun _ _ _ hk h s hs => hk _ (h s hs)) ?_
 rintro l K hl h
 refine ⟨Nat.le_of_ble_eq_true rfl, ?_⟩
 repeat' ((conv=>whnf);first|refine vA ?_|with_reducible first|refine v8 ?_|refine Sp.mk ?_ ?_|refine vS ?_|refine vR ?_|refine vB ?_|refine br_nt ?_|refine br_tt ?_|refine br_ff ?_|refine vP ?_|refine vQ ?_|refine vT ?_|refine vF ?_|refine br_and ?_|refine br_or ?_|refine br_d (fun _=>?_) fun _=>?_|refine vM (fun _=>?_) fun _=>?_)
 refine ⟨_, _, [], [], rfl, ?_, ?_, l, rfl, rfl, ⟨hl⟩, ?_⟩
 ·repeat' ((conv=>whnf);first|with_reducible exact True.intro|exact vW|with_reducible refine And.intro ?_ ?_)
 ·repeat' ((conv=>whnf);first|with_reducible exact True.intro|exact vW|with_reducible refine And.intro ?_ ?_)
 intro b hb
 dsimp only
 repeat' ((conv=>whnf);first|refine vA ?_|with_reducible first|refine v8 ?_|refine Sp.mk ?_ ?_|refine vS ?_|refine vR ?_|refine vB ?_|refine br_nt ?_|refine br_tt ?_|refine br_ff ?_|refine vP ?_|refine vQ ?_|refine vT ?_|refine vF ?_|refine br_and ?_|refine br_or ?_|refine br_d (fun _=>?_) fun _=>?_|refine vM (fun _=>?_) fun _=>?_)
 refine ⟨_, _, [1], [], rfl, ?_, ?_, (⟨b, 0⟩, 9), rfl, rfl, ⟨⟨hb.1, hb.2.1, by dsimp only; omega, by dsimp only; omega⟩, by unfold i64r; dsimp only; omega⟩, ?_⟩
 ·repeat' ((conv=>whnf);first|with_reducible exact True.intro|exact vW|with_reducible refine And.intro ?_ ?_)
 ·repeat' ((conv=>whnf);first|with_reducible exact True.intro|exact vW|with_reducible refine And.intro ?_ ?_)
 intro s p' _ _ hs
 repeat' ((conv=>whnf);first|refine vA ?_|with_reducible first|refine v8 ?_|refine Sp.mk ?_ ?_|refine vS ?_|refine vR ?_|refine vB ?_|refine br_nt ?_|refine br_tt ?_|refine br_ff ?_|refine vP ?_|refine vQ ?_|refine vT ?_|refine vF ?_|refine br_and ?_|refine br_or ?_|refine br_d (fun _=>?_) fun _=>?_|refine vM (fun _=>?_) fun _=>?_)
 exact h s hs
def C292 : List AV → (AV → Prop) → Prop := con (X := List Int) (fun l => [slB l]) bytesI fun _ K => ∀ (s : Store) (a : Dd), drawnS s → drawnA a → K (.tup [enSt s, ded a])
theorem F292 : FF 47 C292 := by
 refine fitX [(43, C283)] (by simp only [List.mem_cons, List.not_mem_nil, or_false]; rintro _ rfl <;> first | exact F283) [(59, C42), (58, C288), (82, C184)] (by simp only [List.mem_cons, List.not_mem_nil, or_false]; rintro _ (rfl | rfl | rfl) <;> first | exact F42 | exact F288 | exact F184) Tryz.f47 ⟨rfl, by decide +kernel, by decide +kernel⟩ (fun _ _ _ hk h s a h1 h2 => hk _ (h s a h1 h2)) ?_
 rintro l K hl h
 refine ⟨Nat.le_of_ble_eq_true rfl, ?_⟩
 repeat' ((conv=>whnf);first|refine vA ?_|with_reducible first|refine v8 ?_|refine Sp.mk ?_ ?_|refine vS ?_|refine vR ?_|refine vB ?_|refine br_nt ?_|refine br_tt ?_|refine br_ff ?_|refine vP ?_|refine vQ ?_|refine vT ?_|refine vF ?_|refine br_and ?_|refine br_or ?_|refine br_d (fun _=>?_) fun _=>?_|refine vM (fun _=>?_) fun _=>?_)
 refine ⟨_, _, [], [], rfl, ?_, ?_, l, rfl, rfl, ⟨hl⟩, ?_⟩
 ·repeat' ((conv=>whnf);first|with_reducible exact True.intro|exact vW|with_reducible refine And.intro ?_ ?_)
 ·repeat' ((conv=>whnf);first|with_reducible exact True.intro|exact vW|with_reducible refine And.intro ?_ ?_)
 intro b hb
 dsimp only
 repeat' ((conv=>whnf);first|refine vA ?_|with_reducible first|refine v8 ?_|refine Sp.mk ?_ ?_|refine vS ?_|refine vR ?_|refine vB ?_|refine br_nt ?_|refine br_tt ?_|refine br_ff ?_|refine vP ?_|refine vQ ?_|refine vT ?_|refine vF ?_|refine br_and ?_|refine br_or ?_|refine br_d (fun _=>?_) fun _=>?_|refine vM (fun _=>?_) fun _=>?_)
 refine ⟨_, _, [2], [], rfl, ?_, ?_, (⟨b, 0⟩, 9), rfl, rfl, ⟨⟨hb.1, hb.2.1, by dsimp only; omega, by dsimp only; omega⟩, by unfold i64r; dsimp only; omega⟩, ?_⟩
 ·repeat' ((conv=>whnf);first|with_reducible exact True.intro|exact vW|with_reducible refine And.intro ?_ ?_)
 ·repeat' ((conv=>whnf);first|with_reducible exact True.intro|exact vW|with_reducible refine And.intro ?_ ?_)
 rintro ⟨sa, sb, sc⟩ p' p1 p2 hs
 dsimp only [enSt, stC] at p1 p2 ⊢
 repeat' ((conv=>whnf);first|refine vA ?_|with_reducible first|refine v8 ?_|refine Sp.mk ?_ ?_|refine vS ?_|refine vR ?_|refine vB ?_|refine br_nt ?_|refine br_tt ?_|refine br_ff ?_|refine vP ?_|refine vQ ?_|refine vT ?_|refine vF ?_|refine br_and ?_|refine br_or ?_|refine br_d (fun _=>?_) fun _=>?_|refine vM (fun _=>?_) fun _=>?_)
 refine ⟨⟨sa, sb, sc⟩, ?_, ⟨⟨⟨by have := hs.1; dsimp only at this ⊢; omega, by have := hs.2.1; dsimp only at this ⊢; omega, ⟨by have := hs.2.2.1; dsimp only at this ⊢; omega, by have := hs.2.2.2; dsimp only at this ⊢; omega⟩⟩, by have := hs.1; dsimp only at this ⊢; omega⟩⟩, ?_⟩
 ·repeat' ((conv=>whnf);first|with_reducible exact True.intro|exact vW|with_reducible refine And.intro ?_ ?_)
 have hS := open_S ⟨sa, sb, sc⟩
 dsimp only
 generalize (openS ⟨sa, sb, sc⟩).getD default = D at hS ⊢
 generalize (openS ⟨sa, sb, sc⟩).isSome = o
 obtain ⟨⟨ep, eb, er⟩, el⟩ := D
 dsimp only [enDe, deC] at hS ⊢
 repeat' ((conv=>whnf);first|refine vA ?_|with_reducible first|refine v8 ?_|refine Sp.mk ?_ ?_|refine vS ?_|refine vR ?_|refine vB ?_|refine br_nt ?_|refine br_tt ?_|refine br_ff ?_|refine vP ?_|refine vQ ?_|refine vT ?_|refine vF ?_|refine br_and ?_|refine br_or ?_|refine br_d (fun _=>?_) fun _=>?_|refine vM (fun _=>?_) fun _=>?_)
 refine Dr.mk ⟨(.rd 0 (.rd 1 (.rd 2 (.rd 3 (.ef 4 (.ef 5 (.ef 6 .dn .no) .no) .no))))), by decide +kernel, ?_⟩
 repeat' ((conv=>whnf);first|refine vA ?_|with_reducible first|refine v8 ?_|refine Sp.mk ?_ ?_|refine vS ?_|refine vR ?_|refine vB ?_|refine br_nt ?_|refine br_tt ?_|refine br_ff ?_|refine vP ?_|refine vQ ?_|refine vT ?_|refine vF ?_|refine br_and ?_|refine br_or ?_|refine br_d (fun _=>?_) fun _=>?_|refine vM (fun _=>?_) fun _=>?_)
 all_goals
  refine ⟨_, _, [2], [], rfl, ?_, ?_, ⟨⟨b, p'⟩, ⟨ep, eb, er⟩⟩, rfl, rfl, ⟨⟨hb.1, hb.2.1, by dsimp only; omega, by dsimp only; omega⟩, hS⟩, ?_⟩
  ·repeat' ((conv=>whnf);first|with_reducible exact True.intro|exact vW|with_reducible refine And.intro ?_ ?_)
  ·repeat' ((conv=>whnf);first|with_reducible exact True.intro|exact vW|with_reducible refine And.intro ?_ ?_)
  intro a q' q1 q2 ha
  obtain ⟨k, x, y, w⟩ := a
  dsimp only [ded, encD] at q1 q2 ⊢
  repeat' ((conv=>whnf);first|refine vA ?_|with_reducible first|refine v8 ?_|refine Sp.mk ?_ ?_|refine vS ?_|refine vR ?_|refine vB ?_|refine br_nt ?_|refine br_tt ?_|refine br_ff ?_|refine vP ?_|refine vQ ?_|refine vT ?_|refine vF ?_|refine br_and ?_|refine br_or ?_|refine br_d (fun _=>?_) fun _=>?_|refine vM (fun _=>?_) fun _=>?_)
 all_goals exact h ⟨sa, sb, sc⟩ ⟨k, x, y, w⟩ hs ha
def C295 : List AV → (AV → Prop) → Prop := con (X := List Int) (fun l => [slB l]) bytesI fun _ K => ∀ (s : Store) (n : Int), drawnS s → i64r n → K (.tup [enSt s, .int .i64 n])
theorem F295 : FF 19 C295 := by
 refine fitX [] (by simp) [(59, C42), (58, C288), (64, C52)] (by simp only [List.mem_cons, List.not_mem_nil, or_false]; rintro _ (rfl | rfl | rfl) <;> first | exact F42 | exact F288 | exact F52) Tryz.f19 ⟨rfl, by decide +kernel, by decide +kernel⟩ (fun _ _ _ hk h s n h1 h2 => hk _ (h s n h1 h2)) ?_
 rintro l K hl h
 refine ⟨Nat.le_of_ble_eq_true rfl, ?_⟩
 repeat' ((conv=>whnf);first|refine vA ?_|with_reducible first|refine v8 ?_|refine Sp.mk ?_ ?_|refine vS ?_|refine vR ?_|refine vB ?_|refine br_nt ?_|refine br_tt ?_|refine br_ff ?_|refine vP ?_|refine vQ ?_|refine vT ?_|refine vF ?_|refine br_and ?_|refine br_or ?_|refine br_d (fun _=>?_) fun _=>?_|refine vM (fun _=>?_) fun _=>?_)
 refine ⟨_, _, [], [], rfl, ?_, ?_, l, rfl, rfl, ⟨hl⟩, ?_⟩
 ·repeat' ((conv=>whnf);first|with_reducible exact True.intro|exact vW|with_reducible refine And.intro ?_ ?_)
 ·repeat' ((conv=>whnf);first|with_reducible exact True.intro|exact vW|with_reducible refine And.intro ?_ ?_)
 intro b hb
 dsimp only
 repeat' ((conv=>whnf);first|refine vA ?_|with_reducible first|refine v8 ?_|refine Sp.mk ?_ ?_|refine vS ?_|refine vR ?_|refine vB ?_|refine br_nt ?_|refine br_tt ?_|refine br_ff ?_|refine vP ?_|refine vQ ?_|refine vT ?_|refine vF ?_|refine br_and ?_|refine br_or ?_|refine br_d (fun _=>?_) fun _=>?_|refine vM (fun _=>?_) fun _=>?_)
 refine ⟨_, _, [1], [], rfl, ?_, ?_, (⟨b, 0⟩, 9), rfl, rfl, ⟨⟨hb.1, hb.2.1, by dsimp only; omega, by dsimp only; omega⟩, by unfold i64r; dsimp only; omega⟩, ?_⟩
 ·repeat' ((conv=>whnf);first|with_reducible exact True.intro|exact vW|with_reducible refine And.intro ?_ ?_)
 ·repeat' ((conv=>whnf);first|with_reducible exact True.intro|exact vW|with_reducible refine And.intro ?_ ?_)
 rintro ⟨sa, sb, sc⟩ p' p1 p2 hs
 have hs0 := hs
 obtain ⟨s1, s2, s3, s4⟩ := hs
 obtain ⟨h1, h2, _, _⟩ := hb
 dsimp only [enSt, stC] at p1 p2 s1 s2 s3 s4 ⊢
 repeat' ((conv=>whnf);first|refine vA ?_|with_reducible first|refine v8 ?_|refine Sp.mk ?_ ?_|refine vS ?_|refine vR ?_|refine vB ?_|refine br_nt ?_|refine br_tt ?_|refine br_ff ?_|refine vP ?_|refine vQ ?_|refine vT ?_|refine vF ?_|refine br_and ?_|refine br_or ?_|refine br_d (fun _=>?_) fun _=>?_|refine vM (fun _=>?_) fun _=>?_)
 refine Dr.mk ⟨(.rd 0 (.rd 1 (.rd 2 (.rd 3 (.rd 4 (.rd 5 (.rd 6 (.rd 7 (.rd 8 (.rd 9 (.rd 10 (.rd 11 (.rd 14 (.rd 18 (.ef 12 (.rd 13 (.ef 15 (.rd 16 (.rd 17 (.ef 19 (.rd 20 (.rd 21 (.rd 22 (.ef 23 (.rd 24 .dn) .no)))) .no))) .no)) .no))))))))))))))), by decide +kernel, ?_⟩
 repeat' ((conv=>whnf);first|refine vA ?_|with_reducible first|refine v8 ?_|refine Sp.mk ?_ ?_|refine vS ?_|refine vR ?_|refine vB ?_|refine br_nt ?_|refine br_tt ?_|refine br_ff ?_|refine vP ?_|refine vQ ?_|refine vT ?_|refine vF ?_|refine br_and ?_|refine br_or ?_|refine br_d (fun _=>?_) fun _=>?_|refine vM (fun _=>?_) fun _=>?_)
 have hif : 0 ≤ (if 0 > (sb.size : Int) - sc then 0 else (sb.size : Int) - sc) ∧ (if 0 > (sb.size : Int) - sc then 0 else (sb.size : Int) - sc) ≤ 2000 := by split <;> omega
 refine ⟨_, _, [1], [], rfl, ?_, ?_, (⟨b, p'⟩, (if 0 > (sb.size : Int) - sc then 0 else (sb.size : Int) - sc) + 1), rfl, rfl, ⟨⟨h1, h2, ?_, ?_⟩, ?_⟩, ?_⟩
 ·repeat' ((conv=>whnf);first|with_reducible exact True.intro|exact vW|with_reducible refine And.intro ?_ ?_)
  try exact Chk.mk (by rw [pw_sh (by assumption)])
 ·repeat' ((conv=>whnf);first|with_reducible exact True.intro|exact vW|with_reducible refine And.intro ?_ ?_)
 ·dsimp only; omega
 ·dsimp only; omega
 ·unfold i64r; dsimp only; omega
 intro k1 q1 e0 e1 e2
 dsimp only at e0 e1 e2
 have e3 := e1 (by omega)
 repeat' ((conv=>whnf);first|refine vA ?_|with_reducible first|refine v8 ?_|refine Sp.mk ?_ ?_|refine vS ?_|refine vR ?_|refine vB ?_|refine br_nt ?_|refine br_tt ?_|refine br_ff ?_|refine vP ?_|refine vQ ?_|refine vT ?_|refine vF ?_|refine br_and ?_|refine br_or ?_|refine br_d (fun _=>?_) fun _=>?_|refine vM (fun _=>?_) fun _=>?_)
 refine ⟨_, _, [1], [], rfl, ?_, ?_, (⟨b, q1⟩, 30), rfl, rfl, ⟨⟨h1, h2, ?_, ?_⟩, ?_⟩, ?_⟩
 ·repeat' ((conv=>whnf);first|with_reducible exact True.intro|exact vW|with_reducible refine And.intro ?_ ?_)
  try exact Chk.mk (by rw [pw_sh (by assumption)])
 ·repeat' ((conv=>whnf);first|with_reducible exact True.intro|exact vW|with_reducible refine And.intro ?_ ?_)
 ·dsimp only; omega
 ·dsimp only; omega
 ·unfold i64r; dsimp only; omega
 intro k2 q2 f0 f1 f2
 dsimp only at f0 f1 f2
 have f3 := f1 (by decide)
 have f4 := Int.tdiv_eq_ediv_of_nonneg (a := k2) (b := 29) f3.1
 repeat' ((conv=>whnf);first|refine vA ?_|with_reducible first|refine v8 ?_|refine Sp.mk ?_ ?_|refine vS ?_|refine vR ?_|refine vB ?_|refine br_nt ?_|refine br_tt ?_|refine br_ff ?_|refine vP ?_|refine vQ ?_|refine vT ?_|refine vF ?_|refine br_and ?_|refine br_or ?_|refine br_d (fun _=>?_) fun _=>?_|refine vM (fun _=>?_) fun _=>?_)
 refine ⟨_, _, [1], [], rfl, ?_, ?_, (⟨b, q2⟩, 30), rfl, rfl, ⟨⟨h1, h2, ?_, ?_⟩, ?_⟩, ?_⟩
 ·repeat' ((conv=>whnf);first|with_reducible exact True.intro|exact vW|with_reducible refine And.intro ?_ ?_)
  try exact Chk.mk (by rw [pw_sh (by assumption)])
 ·repeat' ((conv=>whnf);first|with_reducible exact True.intro|exact vW|with_reducible refine And.intro ?_ ?_)
 ·dsimp only; omega
 ·dsimp only; omega
 ·unfold i64r; dsimp only; omega
 intro k3 q3 g0 g1 g2
 dsimp only at g0 g1 g2
 have g3 := g1 (by decide)
 have g4 := Int.tdiv_eq_ediv_of_nonneg (a := k3) (b := 29) g3.1
 repeat' ((conv=>whnf);first|refine vA ?_|with_reducible first|refine v8 ?_|refine Sp.mk ?_ ?_|refine vS ?_|refine vR ?_|refine vB ?_|refine br_nt ?_|refine br_tt ?_|refine br_ff ?_|refine vP ?_|refine vQ ?_|refine vT ?_|refine vF ?_|refine br_and ?_|refine br_or ?_|refine br_d (fun _=>?_) fun _=>?_|refine vM (fun _=>?_) fun _=>?_)
 exact h ⟨sa, sb, sc⟩ _ hs0 (by unfold i64r; omega)
end Go.Proofs.YtkafoolhbflfkaaGreatDoor.Vc
end
section
/- Part ZT0: duals, plain (as ZT, for seats without swings). -/
namespace Go.Proofs.YtkafoolhbflfkaaGreatDoor.Vc
set_option maxRecDepth 10000
set_option maxHeartbeats 4000000
def full (p : Int) : Int := pw p - 1
section
variable {p : Int} {bs : List Int}
end
end Go.Proofs.YtkafoolhbflfkaaGreatDoor.Vc
end
section
/- Part YL: laws on stores: plain. -/
namespace Go.Proofs.YtkafoolhbflfkaaGreatDoor.Vc
open Go.Proofs
set_option maxRecDepth 10000
set_option maxHeartbeats 4000000
/-! ### Texts of terms are short -/
/-! ### The dual of the first rule can be put in its place, if it is another -/
/-! ### Logs that break off -/
theorem ext_ext {s : ByteArray} {n m : Nat} (h : m ≤ n) : (s.extract 0 n).extract 0 m = s.extract 0 m := by
 apply bytes_inj
 rw [ext_take0, ext_take0, ext_take0, List.take_take, Nat.min_eq_left h]
theorem ext_size {s : ByteArray} {n : Nat} (h : n ≤ s.size) : (s.extract 0 n).size = n := by
 rw [ByteArray.size_extract]
 omega
theorem jr_pre (s : ByteArray) (n : Nat) : jr (s.extract 0 n) = (jr s).take (jr (s.extract 0 n)).length ∧ (jr (s.extract 0 n)).length ≤ (jr s).length ∧ jn (s.extract 0 n) ≤ n := by
 obtain ⟨r, hr⟩ := jr_spec s
 obtain ⟨t, ht⟩ := jr_spec (s.extract 0 n)
 rw [ext_take0] at ht
 exact isJr_take hr ht
theorem jr_mono {s : ByteArray} {n m : Nat} (h : n ≤ m) : (jr (s.extract 0 n)).length ≤ (jr (s.extract 0 m)).length := by
 have := (jr_pre (s.extract 0 m) n).2.1
 rw [ext_ext h] at this
 exact this
structure endI (s x : Store) (k : Nat) : Prop where
 st : isSt x
 all : jn x.log = x.log.size
 desk : opD x = (runD ⟨plOf s.saved, []⟩ ((jr s.log).take k)).1
 len : x.log.size ≤ (jl ((jr s.log).take k)).length
theorem end_0 {s : Store} {n : Nat} (h : isSt ⟨s.saved, s.log.extract 0 n, s.sure⟩) : endI s (mended ⟨s.saved, s.log.extract 0 n, s.sure⟩) (jr (mended ⟨s.saved, s.log.extract 0 n, s.sure⟩).log).length ∧ (jr (mended ⟨s.saved, s.log.extract 0 n, s.sure⟩).log).length ≤ (jr s.log).length := by
 have e := (jr_cut (s.log.extract 0 n)).1
 have e2 := (jr_cut (s.log.extract 0 n)).2.2
 have p := jr_pre s.log n
 have hl : (mended ⟨s.saved, s.log.extract 0 n, s.sure⟩).log = (s.log.extract 0 n).extract 0 (jn (s.log.extract 0 n)) := rfl
 refine ⟨⟨isSt_mended h, mended_all _, ?_, ?_⟩, ?_⟩
 ·rw [opD_mended, hl, e, ← p.1]
  rfl
 ·rw [hl, e2, e, ← p.1]
  exact Nat.le_refl _
 ·rw [hl, e]
  exact p.2.1
theorem jl_take_le (l : List Dd) (k : Nat) : (jl (l.take k)).length ≤ (jl l).length := by
 conv => rhs; rw [← List.take_append_drop k l, jl_app, List.length_append]
 omega
theorem end_len {s x : Store} {k : Nat} (h : endI s x k) (hk : k < (jr s.log).length) : x.log.size + (deedT ((jr s.log).getD k default)).size + 1 ≤ (jl ((jr s.log).take (k + 1))).length := by
 rw [take_step hk, jl_app, jl_one, List.length_append]
 have := h.len
 have e : (lineL ((jr s.log).getD k default)).length = (deedT ((jr s.log).getD k default)).size + 1 := by
  unfold lineL
  rw [List.length_append, Array.length_toList]
  rfl
 omega
theorem end_yes {s x : Store} {k : Nat} (h : endI s x k) (hk : k < (jr s.log).length) (hc : canAct x ((jr s.log).getD k default)) : endI s (addL x ((jr s.log).getD k default)) (k + 1) := by
 obtain ⟨e, he⟩ := canAct_do hc
 refine ⟨isSt_add h.st hc, (jr_add h.all hc.ok).2, ?_, ?_⟩
 ·rw [opD_add hc he, take_step hk]
  rw [h.desk] at he
  rw [runD_some he]
 ·rw [add_size]
  exact end_len h hk
theorem end_no {s x : Store} {k : Nat} (hs : isSt s) (h : endI s x k) (hk : k < (jr s.log).length) (hc : ¬ canAct x ((jr s.log).getD k default)) : endI s x (k + 1) := by
 have hn : doD (opD x) ((jr s.log).getD k default) = none := by
  cases e : doD (opD x) ((jr s.log).getD k default) with
  |none => rfl
  |some f =>
   refine absurd ⟨h.all, by rw [e]; rfl, (jr_mem (getD_mem' hk)).1, ?_⟩ hc
   have h1 := end_len h hk
   have h2 := jl_take_le (jr s.log) (k + 1)
   have h3 := jn_le s.log
   have h4 := hs.2.1
   unfold jn at h3
   omega
 refine ⟨h.st, h.all, ?_, ?_⟩
 ·rw [take_step hk]
  rw [h.desk] at hn
  rw [runD_none hn]
  exact h.desk
 ·have := end_len h hk
  omega
theorem end_all {s x : Store} (h : endI s x (jr s.log).length) : opD x = opD s := by
 rw [h.desk, List.take_length]
 rfl
end Go.Proofs.YtkafoolhbflfkaaGreatDoor.Vc
end
section
/- Part YE: laws on stores: breaking down, being made sure, being stores. -/
namespace Go.Proofs.YtkafoolhbflfkaaGreatDoor.Vc
open Go.Proofs
set_option maxRecDepth 100000
set_option maxHeartbeats 4000000
theorem isSt_bare {s : Store} (h : isSt s) : isSt ⟨s.saved, ⟨#[]⟩, 0⟩ := ⟨h.1, (by decide : 0 ≤ 1000), Int.le_refl 0, Int.le_refl 0⟩
theorem isSt_zero {s : Store} (h : isSt s) : isSt ⟨s.saved, s.log, 0⟩ := ⟨h.1, h.2.1, Int.le_refl 0, by show (0 : Int) ≤ (s.log.size : Int); omega⟩
theorem no_store : ¬ isSt default := fun h => by
 obtain ⟨x, hx⟩ := h.1
 exact isPt_ne hx rfl
theorem no_store' : ¬ isSt ⟨⟨#[]⟩, ⟨#[]⟩, 0⟩ := no_store
theorem crashS_yes {s : Store} {n : Int} (h : isSt s) (h1 : s.sure ≤ n) (h2 : n ≤ s.log.size) : crashS s n = some ⟨s.saved, s.log.extract 0 n.toNat, s.sure⟩ := if_pos ⟨h, h1, h2⟩
theorem crashS_no {s : Store} {n : Int} (h : ¬ (isSt s ∧ s.sure ≤ n ∧ n ≤ s.log.size)) : crashS s n = none := if_neg h
theorem isSt_crash {s : Store} {n : Int} (h : isSt s) (h1 : s.sure ≤ n) (h2 : n ≤ s.log.size) : isSt ⟨s.saved, s.log.extract 0 n.toNat, s.sure⟩ ∧ (s.log.extract 0 n.toNat).size = n.toNat := by
 have h3 := h.2.2.1
 have h4 := h.2.1
 have e : (s.log.extract 0 n.toNat).size = n.toNat := ext_size (by omega)
 exact ⟨⟨h.1, by show (s.log.extract 0 n.toNat).size ≤ 1000; omega, h3, by show s.sure ≤ ((s.log.extract 0 n.toNat).size : Int); omega⟩, e⟩
theorem drawnS.P {s : Store} (h : drawnS s) : storeP s := ⟨⟨by have := h.1; omega, by have := h.2.1; omega, ⟨by have := h.2.2.1; omega, by have := h.2.2.2; omega⟩⟩, by have := h.1; omega⟩
theorem storeP0 : storeP default := ⟨⟨by decide, by decide, by decide, by decide⟩, by decide⟩
def C297 : List AV → (AV → Prop) → Prop := con (X := List Int) (fun l => [slB l]) bytesI fun _ K => K (.bool true)
theorem F297 : FF 3 C297 := by
 refine fitX [(15, C289), (16, C221), (17, C222), (18, C22)] (by simp only [List.mem_cons, List.not_mem_nil, or_false]; rintro _ (rfl | rfl | rfl | rfl) <;> first | exact F289 | exact F221 | exact F222 | exact F22) [] (by simp) Tryz.f3 ⟨rfl, by decide +kernel, by decide +kernel⟩ (by intro x K K2 hk h; (try dsimp only at h ⊢); intros; apply hk; first | exact h | (apply h <;> assumption)) ?_
 rintro L K hL h
 refine ⟨Nat.le_of_ble_eq_true rfl, ?_⟩
 have hll := hL.2
 repeat' ((conv=>whnf);first|refine vA ?_|with_reducible first|refine v8 ?_|refine Sp.mk ?_ ?_|refine vS ?_|refine vR ?_|refine vB ?_|refine br_nt ?_|refine br_tt ?_|refine br_ff ?_|refine vP ?_|refine vQ ?_|refine vT ?_|refine vF ?_|refine br_and ?_|refine br_or ?_|refine br_d (fun _=>?_) fun _=>?_|refine vM (fun _=>?_) fun _=>?_)
 ·exact h
 refine ⟨L, ?_, ⟨hL⟩, ?_⟩
 ·repeat' ((conv=>whnf);first|with_reducible exact True.intro|exact vW|with_reducible refine And.intro ?_ ?_)
 rintro ⟨a, b, c⟩ hd
 have hP := hd.P
 have ha := hd.1
 have hb := hd.2.1
 have hn0 := no_store'
 dsimp only [enSt, stC] at ha hb ⊢
 repeat' ((conv=>whnf);first|refine vA ?_|with_reducible first|refine v8 ?_|refine Sp.mk ?_ ?_|refine vS ?_|refine vR ?_|refine vB ?_|refine br_nt ?_|refine br_tt ?_|refine br_ff ?_|refine vP ?_|refine vQ ?_|refine vT ?_|refine vF ?_|refine br_and ?_|refine br_or ?_|refine br_d (fun _=>?_) fun _=>?_|refine vM (fun _=>?_) fun _=>?_)
 refine ⟨⟨a, b, c⟩, ?_, ⟨hP⟩, ?_⟩
 ·repeat' ((conv=>whnf);first|with_reducible exact True.intro|exact vW|with_reducible refine And.intro ?_ ?_)
 intro o ho
 repeat' ((conv=>whnf);first|refine vA ?_|with_reducible first|refine v8 ?_|refine Sp.mk ?_ ?_|refine vS ?_|refine vR ?_|refine vB ?_|refine br_nt ?_|refine br_tt ?_|refine br_ff ?_|refine vP ?_|refine vQ ?_|refine vT ?_|refine vF ?_|refine br_and ?_|refine br_or ?_|refine br_d (fun _=>?_) fun _=>?_|refine vM (fun _=>?_) fun _=>?_)
 refine ⟨⟨a, b, c⟩, ?_, ⟨hP⟩, ?_⟩
 ·repeat' ((conv=>whnf);first|with_reducible exact True.intro|exact vW|with_reducible refine And.intro ?_ ?_)
 intro o2 ho2
 obtain rfl : o = o2 := Bool.eq_iff_iff.2 (ho.trans ho2.symm)
 have hbb : (o == o) = true := beq_self_eq_true _
 have hI := hP.1
 have hP1 : storeP ⟨a, ⟨#[]⟩, 0⟩ := ⟨⟨hI.1, (by decide : 0 < 9223372036854775808), (⟨by decide, by decide⟩ : i64r 0)⟩, hP.2⟩
 have hP2 : storeP ⟨a, b, 0⟩ := ⟨⟨hI.1, hI.2.1, (⟨by decide, by decide⟩ : i64r 0)⟩, hP.2⟩
 cases o
 ·repeat' ((conv=>whnf);first|refine vA ?_|with_reducible first|refine v8 ?_|refine Sp.mk ?_ ?_|refine vS ?_|refine vR ?_|refine vB ?_|refine br_nt ?_|refine br_tt ?_|refine br_ff ?_|refine vP ?_|refine vQ ?_|refine vT ?_|refine vF ?_|refine br_and ?_|refine br_or ?_|refine br_d (fun _=>?_) fun _=>?_|refine vM (fun _=>?_) fun _=>?_)
  refine ⟨default, ?_, ⟨storeP0⟩, ?_⟩
  ·repeat' ((conv=>whnf);first|with_reducible exact True.intro|exact vW|with_reducible refine And.intro ?_ ?_)
  intro o3 ho3
  obtain rfl := isf ho3 no_store
  repeat' ((conv=>whnf);first|refine vA ?_|with_reducible first|refine v8 ?_|refine Sp.mk ?_ ?_|refine vS ?_|refine vR ?_|refine vB ?_|refine br_nt ?_|refine br_tt ?_|refine br_ff ?_|refine vP ?_|refine vQ ?_|refine vT ?_|refine vF ?_|refine br_and ?_|refine br_or ?_|refine br_d (fun _=>?_) fun _=>?_|refine vM (fun _=>?_) fun _=>?_)
  refine ⟨(), ?_, ⟨trivial⟩, ?_⟩
  ·repeat' ((conv=>whnf);first|with_reducible exact True.intro|exact vW|with_reducible refine And.intro ?_ ?_)
  repeat' ((conv=>whnf);first|refine vA ?_|with_reducible first|refine v8 ?_|refine Sp.mk ?_ ?_|refine vS ?_|refine vR ?_|refine vB ?_|refine br_nt ?_|refine br_tt ?_|refine br_ff ?_|refine vP ?_|refine vQ ?_|refine vT ?_|refine vF ?_|refine br_and ?_|refine br_or ?_|refine br_d (fun _=>?_) fun _=>?_|refine vM (fun _=>?_) fun _=>?_)
  exact h
 ·have hS := ho.1 rfl
  repeat' ((conv=>whnf);first|refine vA ?_|with_reducible first|refine v8 ?_|refine Sp.mk ?_ ?_|refine vS ?_|refine vR ?_|refine vB ?_|refine br_nt ?_|refine br_tt ?_|refine br_ff ?_|refine vP ?_|refine vQ ?_|refine vT ?_|refine vF ?_|refine br_and ?_|refine br_or ?_|refine br_d (fun _=>?_) fun _=>?_|refine vM (fun _=>?_) fun _=>?_)
  refine ⟨⟨a, ⟨#[]⟩, 0⟩, ?_, ⟨hP1⟩, ?_⟩
  ·repeat' ((conv=>whnf);first|with_reducible exact True.intro|exact vW|with_reducible refine And.intro ?_ ?_)
  intro o3 ho3
  obtain rfl := ho3.2 (isSt_bare hS)
  repeat' ((conv=>whnf);first|refine vA ?_|with_reducible first|refine v8 ?_|refine Sp.mk ?_ ?_|refine vS ?_|refine vR ?_|refine vB ?_|refine br_nt ?_|refine br_tt ?_|refine br_ff ?_|refine vP ?_|refine vQ ?_|refine vT ?_|refine vF ?_|refine br_and ?_|refine br_or ?_|refine br_d (fun _=>?_) fun _=>?_|refine vM (fun _=>?_) fun _=>?_)
  refine ⟨⟨a, b, 0⟩, ?_, ⟨hP2⟩, ?_⟩
  ·repeat' ((conv=>whnf);first|with_reducible exact True.intro|exact vW|with_reducible refine And.intro ?_ ?_)
  intro o4 ho4
  obtain rfl := ho4.2 (isSt_zero hS)
  repeat' ((conv=>whnf);first|refine vA ?_|with_reducible first|refine v8 ?_|refine Sp.mk ?_ ?_|refine vS ?_|refine vR ?_|refine vB ?_|refine br_nt ?_|refine br_tt ?_|refine br_ff ?_|refine vP ?_|refine vQ ?_|refine vT ?_|refine vF ?_|refine br_and ?_|refine br_or ?_|refine br_d (fun _=>?_) fun _=>?_|refine vM (fun _=>?_) fun _=>?_)
  refine ⟨default, ?_, ⟨storeP0⟩, ?_⟩
  ·repeat' ((conv=>whnf);first|with_reducible exact True.intro|exact vW|with_reducible refine And.intro ?_ ?_)
  intro o5 ho5
  obtain rfl := isf ho5 no_store
  repeat' ((conv=>whnf);first|refine vA ?_|with_reducible first|refine v8 ?_|refine Sp.mk ?_ ?_|refine vS ?_|refine vR ?_|refine vB ?_|refine br_nt ?_|refine br_tt ?_|refine br_ff ?_|refine vP ?_|refine vQ ?_|refine vT ?_|refine vF ?_|refine br_and ?_|refine br_or ?_|refine br_d (fun _=>?_) fun _=>?_|refine vM (fun _=>?_) fun _=>?_)
  refine ⟨(), ?_, ⟨trivial⟩, ?_⟩
  ·repeat' ((conv=>whnf);first|with_reducible exact True.intro|exact vW|with_reducible refine And.intro ?_ ?_)
  repeat' ((conv=>whnf);first|refine vA ?_|with_reducible first|refine v8 ?_|refine Sp.mk ?_ ?_|refine vS ?_|refine vR ?_|refine vB ?_|refine br_nt ?_|refine br_tt ?_|refine br_ff ?_|refine vP ?_|refine vQ ?_|refine vT ?_|refine vF ?_|refine br_and ?_|refine br_or ?_|refine br_d (fun _=>?_) fun _=>?_|refine vM (fun _=>?_) fun _=>?_)
  exact h
def C298 : List AV → (AV → Prop) → Prop := con (X := List Int) (fun l => [slB l]) bytesI fun _ K => K (.bool true)
theorem F298 : FF 4 C298 := by
 refine fitX [(19, C295), (21, C275), (20, C276), (16, C221), (18, C22)] (by simp only [List.mem_cons, List.not_mem_nil, or_false]; rintro _ (rfl | rfl | rfl | rfl | rfl) <;> first | exact F295 | exact F275 | exact F276 | exact F221 | exact F22) [] (by simp) Tryz.f4 ⟨rfl, by decide +kernel, by decide +kernel⟩ (by intro x K K2 hk h; (try dsimp only at h ⊢); intros; apply hk; first | exact h | (apply h <;> assumption)) ?_
 rintro L K hL h
 refine ⟨Nat.le_of_ble_eq_true rfl, ?_⟩
 have hll := hL.2
 have htt : (true == true) = true := rfl
 have hff : (false == false) = true := rfl
 have hee : (⟨#[]⟩ : ByteArray) = ⟨#[]⟩ := rfl
 repeat' ((conv=>whnf);first|refine vA ?_|with_reducible first|refine v8 ?_|refine Sp.mk ?_ ?_|refine vS ?_|refine vR ?_|refine vB ?_|refine br_nt ?_|refine br_tt ?_|refine br_ff ?_|refine vP ?_|refine vQ ?_|refine vT ?_|refine vF ?_|refine br_and ?_|refine br_or ?_|refine br_d (fun _=>?_) fun _=>?_|refine vM (fun _=>?_) fun _=>?_)
 ·exact h
 refine ⟨L, ?_, ⟨hL⟩, ?_⟩
 ·repeat' ((conv=>whnf);first|with_reducible exact True.intro|exact vW|with_reducible refine And.intro ?_ ?_)
 rintro ⟨a, b, c⟩ n hd hn
 have hP := hd.P
 have ha := hd.1
 have hb := hd.2.1
 have haa : a = a := rfl
 have hbb : b = b := rfl
 dsimp only [enSt, stC] at ha hb ⊢
 repeat' ((conv=>whnf);first|refine vA ?_|with_reducible first|refine v8 ?_|refine Sp.mk ?_ ?_|refine vS ?_|refine vR ?_|refine vB ?_|refine br_nt ?_|refine br_tt ?_|refine br_ff ?_|refine vP ?_|refine vQ ?_|refine vT ?_|refine vF ?_|refine br_and ?_|refine br_or ?_|refine br_d (fun _=>?_) fun _=>?_|refine vM (fun _=>?_) fun _=>?_)
 refine ⟨(⟨a, b, c⟩, n), ?_, ⟨hP, hn⟩, ?_⟩
 ·repeat' ((conv=>whnf);first|with_reducible exact True.intro|exact vW|with_reducible refine And.intro ?_ ?_)
 unfold optS
 dsimp only
 by_cases hg : isSt ⟨a, b, c⟩ ∧ c ≤ n ∧ n ≤ b.size
 ·obtain ⟨hS, g1, g2⟩ := hg
  have h0 := hS.2.2
  dsimp only at h0
  obtain ⟨hS2, hsz⟩ := isSt_crash hS g1 g2
  have eC := crashS_yes hS g1 g2
  have eF := crashS_yes hS (Int.le_refl _) h0.2
  have eA := crashS_yes hS2 g1 (by dsimp only at hsz ⊢; omega)
  have eL := crashS_yes hS2 (Int.le_refl _) (by dsimp only at hsz ⊢; omega)
  dsimp only at hS2 hsz eC eF eA eL
  rw [ext_ext (Nat.le_refl _)] at eA
  rw [ext_ext (by omega)] at eL
  generalize b.extract 0 n.toNat = u at hS2 hsz eC eA eL
  generalize b.extract 0 c.toNat = v at eF eL
  have huu : u = u := rfl
  have hvv : v = v := rfl
  have hP2 : storeP ⟨a, u, c⟩ := ⟨⟨hP.1.1, by show u.size < _; omega, hP.1.2.2⟩, hP.2⟩
  rw [eC]
  dsimp only [Option.getD_some, Option.isSome_some, enSt, stC]
  repeat' ((conv=>whnf);first|refine vA ?_|with_reducible first|refine v8 ?_|refine Sp.mk ?_ ?_|refine vS ?_|refine vR ?_|refine vB ?_|refine br_nt ?_|refine br_tt ?_|refine br_ff ?_|refine vP ?_|refine vQ ?_|refine vT ?_|refine vF ?_|refine br_and ?_|refine br_or ?_|refine br_d (fun _=>?_) fun _=>?_|refine vM (fun _=>?_) fun _=>?_)
  refine ⟨(⟨a, b, c⟩, n), ?_, ⟨hP, hn⟩, ?_⟩
  ·repeat' ((conv=>whnf);first|with_reducible exact True.intro|exact vW|with_reducible refine And.intro ?_ ?_)
  unfold optS
  dsimp only
  rw [eC]
  dsimp only [Option.getD_some, Option.isSome_some, enSt, stC]
  repeat' ((conv=>whnf);first|refine vA ?_|with_reducible first|refine v8 ?_|refine Sp.mk ?_ ?_|refine vS ?_|refine vR ?_|refine vB ?_|refine br_nt ?_|refine br_tt ?_|refine br_ff ?_|refine vP ?_|refine vQ ?_|refine vT ?_|refine vF ?_|refine br_and ?_|refine br_or ?_|refine br_d (fun _=>?_) fun _=>?_|refine vM (fun _=>?_) fun _=>?_)
  refine ⟨(⟨a, u, c⟩, n), ?_, ⟨hP2, hn⟩, ?_⟩
  ·repeat' ((conv=>whnf);first|with_reducible exact True.intro|exact vW|with_reducible refine And.intro ?_ ?_)
  unfold optS
  dsimp only
  rw [eA]
  dsimp only [Option.getD_some, Option.isSome_some, enSt, stC]
  repeat' ((conv=>whnf);first|refine vA ?_|with_reducible first|refine v8 ?_|refine Sp.mk ?_ ?_|refine vS ?_|refine vR ?_|refine vB ?_|refine br_nt ?_|refine br_tt ?_|refine br_ff ?_|refine vP ?_|refine vQ ?_|refine vT ?_|refine vF ?_|refine br_and ?_|refine br_or ?_|refine br_d (fun _=>?_) fun _=>?_|refine vM (fun _=>?_) fun _=>?_)
  refine ⟨(⟨a, u, c⟩, c), ?_, ⟨hP2, hP.1.2.2⟩, ?_⟩
  ·repeat' ((conv=>whnf);first|with_reducible exact True.intro|exact vW|with_reducible refine And.intro ?_ ?_)
  unfold optS
  dsimp only
  rw [eL]
  dsimp only [Option.getD_some, Option.isSome_some, enSt, stC]
  repeat' ((conv=>whnf);first|refine vA ?_|with_reducible first|refine v8 ?_|refine Sp.mk ?_ ?_|refine vS ?_|refine vR ?_|refine vB ?_|refine br_nt ?_|refine br_tt ?_|refine br_ff ?_|refine vP ?_|refine vQ ?_|refine vT ?_|refine vF ?_|refine br_and ?_|refine br_or ?_|refine br_d (fun _=>?_) fun _=>?_|refine vM (fun _=>?_) fun _=>?_)
  refine ⟨(⟨a, b, c⟩, c), ?_, ⟨hP, hP.1.2.2⟩, ?_⟩
  ·repeat' ((conv=>whnf);first|with_reducible exact True.intro|exact vW|with_reducible refine And.intro ?_ ?_)
  unfold optS
  dsimp only
  rw [eF]
  dsimp only [Option.getD_some, Option.isSome_some, enSt, stC]
  repeat' ((conv=>whnf);first|refine vA ?_|with_reducible first|refine v8 ?_|refine Sp.mk ?_ ?_|refine vS ?_|refine vR ?_|refine vB ?_|refine br_nt ?_|refine br_tt ?_|refine br_ff ?_|refine vP ?_|refine vQ ?_|refine vT ?_|refine vF ?_|refine br_and ?_|refine br_or ?_|refine br_d (fun _=>?_) fun _=>?_|refine vM (fun _=>?_) fun _=>?_)
  refine ⟨⟨a, u, c⟩, ?_, ⟨hP2⟩, ?_⟩
  ·repeat' ((conv=>whnf);first|with_reducible exact True.intro|exact vW|with_reducible refine And.intro ?_ ?_)
  intro o ho
  obtain rfl := ho.2 hS2
  repeat' ((conv=>whnf);first|refine vA ?_|with_reducible first|refine v8 ?_|refine Sp.mk ?_ ?_|refine vS ?_|refine vR ?_|refine vB ?_|refine br_nt ?_|refine br_tt ?_|refine br_ff ?_|refine vP ?_|refine vQ ?_|refine vT ?_|refine vF ?_|refine br_and ?_|refine br_or ?_|refine br_d (fun _=>?_) fun _=>?_|refine vM (fun _=>?_) fun _=>?_)
  all_goals first | exact h | simpa using h
 ·have eC := crashS_no hg
  rw [eC]
  dsimp only [Option.getD_none, Option.isSome_none, enSt, stC]
  repeat' ((conv=>whnf);first|refine vA ?_|with_reducible first|refine v8 ?_|refine Sp.mk ?_ ?_|refine vS ?_|refine vR ?_|refine vB ?_|refine br_nt ?_|refine br_tt ?_|refine br_ff ?_|refine vP ?_|refine vQ ?_|refine vT ?_|refine vF ?_|refine br_and ?_|refine br_or ?_|refine br_d (fun _=>?_) fun _=>?_|refine vM (fun _=>?_) fun _=>?_)
  refine ⟨(⟨a, b, c⟩, n), ?_, ⟨hP, hn⟩, ?_⟩
  ·repeat' ((conv=>whnf);first|with_reducible exact True.intro|exact vW|with_reducible refine And.intro ?_ ?_)
  unfold optS
  dsimp only
  rw [eC]
  dsimp only [Option.getD_none, Option.isSome_none, enSt, stC]
  have d1 : (default : Store).saved = ⟨#[]⟩ := rfl
  have d2 : (default : Store).log = ⟨#[]⟩ := rfl
  have d3 : (default : Store).sure = 0 := rfl
  have d4 : (default : Store).saved = (default : Store).saved := rfl
  have d5 : (default : Store).log = (default : Store).log := rfl
  repeat' ((conv=>whnf);first|refine vA ?_|with_reducible first|refine v8 ?_|refine Sp.mk ?_ ?_|refine vS ?_|refine vR ?_|refine vB ?_|refine br_nt ?_|refine br_tt ?_|refine br_ff ?_|refine vP ?_|refine vQ ?_|refine vT ?_|refine vF ?_|refine br_and ?_|refine br_or ?_|refine br_d (fun _=>?_) fun _=>?_|refine vM (fun _=>?_) fun _=>?_)
  refine ⟨(), ?_, ⟨trivial⟩, ?_⟩
  ·repeat' ((conv=>whnf);first|with_reducible exact True.intro|exact vW|with_reducible refine And.intro ?_ ?_)
  repeat' ((conv=>whnf);first|refine vA ?_|with_reducible first|refine v8 ?_|refine Sp.mk ?_ ?_|refine vS ?_|refine vR ?_|refine vB ?_|refine br_nt ?_|refine br_tt ?_|refine br_ff ?_|refine vP ?_|refine vQ ?_|refine vT ?_|refine vF ?_|refine br_and ?_|refine br_or ?_|refine br_d (fun _=>?_) fun _=>?_|refine vM (fun _=>?_) fun _=>?_)
  exact h
def C299 : List AV → (AV → Prop) → Prop := con (X := List Int) (fun l => [slB l]) bytesI fun _ K => K (.bool true)
theorem F299 : FF 5 C299 := by
 refine fitX [(22, C293), (23, C278), (24, C277), (18, C22), (20, C276)] (by simp only [List.mem_cons, List.not_mem_nil, or_false]; rintro _ (rfl | rfl | rfl | rfl | rfl) <;> first | exact F293 | exact F278 | exact F277 | exact F22 | exact F276) [] (by simp) Tryz.f5 ⟨rfl, by decide +kernel, by decide +kernel⟩ (by intro x K K2 hk h; (try dsimp only at h ⊢); intros; apply hk; first | exact h | (apply h <;> assumption)) ?_
 rintro L K hL h
 refine ⟨Nat.le_of_ble_eq_true rfl, ?_⟩
 have hll := hL.2
 have htt : (true == true) = true := rfl
 have hff : (false == false) = true := rfl
 repeat' ((conv=>whnf);first|refine vA ?_|with_reducible first|refine v8 ?_|refine Sp.mk ?_ ?_|refine vS ?_|refine vR ?_|refine vB ?_|refine br_nt ?_|refine br_tt ?_|refine br_ff ?_|refine vP ?_|refine vQ ?_|refine vT ?_|refine vF ?_|refine br_and ?_|refine br_or ?_|refine br_d (fun _=>?_) fun _=>?_|refine vM (fun _=>?_) fun _=>?_)
 ·exact h
 refine ⟨L, ?_, ⟨hL⟩, ?_⟩
 ·repeat' ((conv=>whnf);first|with_reducible exact True.intro|exact vW|with_reducible refine And.intro ?_ ?_)
 rintro ⟨a, b, c⟩ hd
 have hP := hd.P
 have haa : a = a := rfl
 have hbb : b = b := rfl
 dsimp only [enSt, stC]
 repeat' ((conv=>whnf);first|refine vA ?_|with_reducible first|refine v8 ?_|refine Sp.mk ?_ ?_|refine vS ?_|refine vR ?_|refine vB ?_|refine br_nt ?_|refine br_tt ?_|refine br_ff ?_|refine vP ?_|refine vQ ?_|refine vT ?_|refine vF ?_|refine br_and ?_|refine br_or ?_|refine br_d (fun _=>?_) fun _=>?_|refine vM (fun _=>?_) fun _=>?_)
 refine ⟨⟨a, b, c⟩, ?_, ⟨hP⟩, ?_⟩
 ·repeat' ((conv=>whnf);first|with_reducible exact True.intro|exact vW|with_reducible refine And.intro ?_ ?_)
 unfold optS
 dsimp only
 by_cases hS : isSt ⟨a, b, c⟩
 ·have hS2 := isSt_sync hS
  have hl := hS.2.1
  have hP2 : storeP ⟨a, b, b.size⟩ := ⟨⟨hP.1.1, hP.1.2.1, ⟨by dsimp only; omega, by dsimp only at hl ⊢; omega⟩⟩, hP.2⟩
  have eY : syncS ⟨a, b, c⟩ = some ⟨a, b, b.size⟩ := if_pos hS
  have eY2 : syncS ⟨a, b, b.size⟩ = some ⟨a, b, b.size⟩ := if_pos hS2
  have eC : crashS ⟨a, b, b.size⟩ b.size = some ⟨a, b, b.size⟩ := by
   rw [crashS_yes hS2 (Int.le_refl _) (Int.le_refl _)]
   dsimp only
   rw [Int.toNat_natCast, ext_all]
  have eN : ∀ n : Int, n < b.size → crashS ⟨a, b, b.size⟩ n = none := fun n hn => crashS_no fun q => by have := q.2.1; dsimp only at this; omega
  dsimp only at hl
  rw [eY]
  dsimp only [Option.getD_some, Option.isSome_some, enSt, stC]
  repeat' ((conv=>whnf);first|refine vA ?_|with_reducible first|refine v8 ?_|refine Sp.mk ?_ ?_|refine vS ?_|refine vR ?_|refine vB ?_|refine br_nt ?_|refine br_tt ?_|refine br_ff ?_|refine vP ?_|refine vQ ?_|refine vT ?_|refine vF ?_|refine br_and ?_|refine br_or ?_|refine br_d (fun _=>?_) fun _=>?_|refine vM (fun _=>?_) fun _=>?_)
  refine ⟨⟨a, b, c⟩, ?_, ⟨hP⟩, ?_⟩
  ·repeat' ((conv=>whnf);first|with_reducible exact True.intro|exact vW|with_reducible refine And.intro ?_ ?_)
  unfold optS
  dsimp only
  rw [eY]
  dsimp only [Option.getD_some, Option.isSome_some, enSt, stC]
  repeat' ((conv=>whnf);first|refine vA ?_|with_reducible first|refine v8 ?_|refine Sp.mk ?_ ?_|refine vS ?_|refine vR ?_|refine vB ?_|refine br_nt ?_|refine br_tt ?_|refine br_ff ?_|refine vP ?_|refine vQ ?_|refine vT ?_|refine vF ?_|refine br_and ?_|refine br_or ?_|refine br_d (fun _=>?_) fun _=>?_|refine vM (fun _=>?_) fun _=>?_)
  refine Lp.mk ⟨Nat, fun i => [(4, .ptr 0 0), (8, .int .i64 i)], fun _ => [.box [.str a, .str b, .int .i64 (b.size : Nat)]], fun i => i ≤ b.size, fun i => b.size - i, ⟨0, Nat.zero_le _, ⟨⟨[some 1], [], rfl, rfl, ?_, ?_⟩⟩⟩, ?_⟩
  ·repeat' ((conv=>whnf);first|with_reducible exact True.intro|exact vW|with_reducible refine And.intro ?_ ?_)
  ·repeat' ((conv=>whnf);first|with_reducible exact True.intro|exact vW|with_reducible refine And.intro ?_ ?_)
  intro i i1
  dsimp only
  repeat' ((conv=>whnf);first|refine vA ?_|with_reducible first|refine v8 ?_|refine Sp.mk ?_ ?_|refine vS ?_|refine vR ?_|refine vB ?_|refine br_nt ?_|refine br_tt ?_|refine br_ff ?_|refine vP ?_|refine vQ ?_|refine vT ?_|refine vF ?_|refine br_and ?_|refine br_or ?_|refine br_d (fun _=>?_) fun _=>?_|refine vM (fun _=>?_) fun _=>?_)
  ·rename_i hi
   refine ⟨(⟨a, b, b.size⟩, i), ?_, ⟨hP2, by unfold i64r; dsimp only; omega⟩, ?_⟩
   ·repeat' ((conv=>whnf);first|with_reducible exact True.intro|exact vW|with_reducible refine And.intro ?_ ?_)
   unfold optS
   dsimp only
   rw [eN i (by omega)]
   dsimp only [Option.getD_none, Option.isSome_none, enSt, stC]
   repeat' ((conv=>whnf);first|refine vA ?_|with_reducible first|refine v8 ?_|refine Sp.mk ?_ ?_|refine vS ?_|refine vR ?_|refine vB ?_|refine br_nt ?_|refine br_tt ?_|refine br_ff ?_|refine vP ?_|refine vQ ?_|refine vT ?_|refine vF ?_|refine br_and ?_|refine br_or ?_|refine br_d (fun _=>?_) fun _=>?_|refine vM (fun _=>?_) fun _=>?_)
   refine ⟨i + 1, by omega, by omega, ?_⟩
   first | (refine ⟨⟨[some 0], [], rfl, rfl, ?_, ?_⟩⟩ <;> (repeat' ((conv=>whnf);first|with_reducible exact True.intro|exact vW|with_reducible refine And.intro ?_ ?_)) <;> fail)
  ·refine ⟨(⟨a, b, b.size⟩, b.size), ?_, ⟨hP2, by unfold i64r; dsimp only; omega⟩, ?_⟩
   ·repeat' ((conv=>whnf);first|with_reducible exact True.intro|exact vW|with_reducible refine And.intro ?_ ?_)
   unfold optS
   dsimp only
   rw [eC]
   dsimp only [Option.getD_some, Option.isSome_some, enSt, stC]
   repeat' ((conv=>whnf);first|refine vA ?_|with_reducible first|refine v8 ?_|refine Sp.mk ?_ ?_|refine vS ?_|refine vR ?_|refine vB ?_|refine br_nt ?_|refine br_tt ?_|refine br_ff ?_|refine vP ?_|refine vQ ?_|refine vT ?_|refine vF ?_|refine br_and ?_|refine br_or ?_|refine br_d (fun _=>?_) fun _=>?_|refine vM (fun _=>?_) fun _=>?_)
   refine ⟨⟨a, b, b.size⟩, ?_, ⟨hP2⟩, ?_⟩
   ·repeat' ((conv=>whnf);first|with_reducible exact True.intro|exact vW|with_reducible refine And.intro ?_ ?_)
   unfold optS
   dsimp only
   rw [eY2]
   dsimp only [Option.getD_some, Option.isSome_some, enSt, stC]
   repeat' ((conv=>whnf);first|refine vA ?_|with_reducible first|refine v8 ?_|refine Sp.mk ?_ ?_|refine vS ?_|refine vR ?_|refine vB ?_|refine br_nt ?_|refine br_tt ?_|refine br_ff ?_|refine vP ?_|refine vQ ?_|refine vT ?_|refine vF ?_|refine br_and ?_|refine br_or ?_|refine br_d (fun _=>?_) fun _=>?_|refine vM (fun _=>?_) fun _=>?_)
   first | exact h | simpa using h
 ·have eY : syncS ⟨a, b, c⟩ = none := if_neg hS
  rw [eY]
  dsimp only [Option.getD_none, Option.isSome_none, enSt, stC]
  have d1 : (default : Store).saved = ⟨#[]⟩ := rfl
  have d2 : (default : Store).log = ⟨#[]⟩ := rfl
  have d3 : (default : Store).sure = 0 := rfl
  have d4 : (default : Store).saved = (default : Store).saved := rfl
  have d5 : (default : Store).log = (default : Store).log := rfl
  repeat' ((conv=>whnf);first|refine vA ?_|with_reducible first|refine v8 ?_|refine Sp.mk ?_ ?_|refine vS ?_|refine vR ?_|refine vB ?_|refine br_nt ?_|refine br_tt ?_|refine br_ff ?_|refine vP ?_|refine vQ ?_|refine vT ?_|refine vF ?_|refine br_and ?_|refine br_or ?_|refine br_d (fun _=>?_) fun _=>?_|refine vM (fun _=>?_) fun _=>?_)
  refine ⟨⟨a, b, c⟩, ?_, ⟨hP⟩, ?_⟩
  ·repeat' ((conv=>whnf);first|with_reducible exact True.intro|exact vW|with_reducible refine And.intro ?_ ?_)
  unfold optS
  dsimp only
  rw [eY]
  dsimp only [Option.getD_none, Option.isSome_none, enSt, stC]
  repeat' ((conv=>whnf);first|refine vA ?_|with_reducible first|refine v8 ?_|refine Sp.mk ?_ ?_|refine vS ?_|refine vR ?_|refine vB ?_|refine br_nt ?_|refine br_tt ?_|refine br_ff ?_|refine vP ?_|refine vQ ?_|refine vT ?_|refine vF ?_|refine br_and ?_|refine br_or ?_|refine br_d (fun _=>?_) fun _=>?_|refine vM (fun _=>?_) fun _=>?_)
  refine ⟨(), ?_, ⟨trivial⟩, ?_⟩
  ·repeat' ((conv=>whnf);first|with_reducible exact True.intro|exact vW|with_reducible refine And.intro ?_ ?_)
  repeat' ((conv=>whnf);first|refine vA ?_|with_reducible first|refine v8 ?_|refine Sp.mk ?_ ?_|refine vS ?_|refine vR ?_|refine vB ?_|refine br_nt ?_|refine br_tt ?_|refine br_ff ?_|refine vP ?_|refine vQ ?_|refine vT ?_|refine vF ?_|refine br_and ?_|refine br_or ?_|refine br_d (fun _=>?_) fun _=>?_|refine vM (fun _=>?_) fun _=>?_)
  exact h
end Go.Proofs.YtkafoolhbflfkaaGreatDoor.Vc
end
section
/- Part YF0: exact laws on stores: saved, acted at. -/
namespace Go.Proofs.YtkafoolhbflfkaaGreatDoor.Vc
open Go.Proofs
set_option maxRecDepth 100000
set_option maxHeartbeats 4000000
theorem isSt_P {s : Store} (h : isSt s) : storeP s := by
 obtain ⟨x, hx⟩ := h.1
 have h1 := plT_size hx.1
 rw [hx.2] at h1
 have h2 := h.2.1
 have h3 := h.2.2
 exact ⟨⟨by omega, by omega, ⟨by omega, by omega⟩⟩, by omega⟩
def C302 : List AV → (AV → Prop) → Prop := con (X := Store × Dd) (fun x => [enSt x.1, ded x.2]) (fun x => storeI x.1 ∧ dedI x.2) fun _ K => K (.bool true)
theorem F302 : FF 8 C302 := by
 refine fitE [(36, C107), (38, C108), (31, C223), (33, C224), (37, C285), (39, C284), (35, C146)] (by simp only [List.mem_cons, List.not_mem_nil, or_false]; rintro _ (rfl | rfl | rfl | rfl | rfl | rfl | rfl) <;> first | exact F107 | exact F108 | exact F223 | exact F224 | exact F285 | exact F284 | exact F146) Tryz.f8 ⟨rfl, by decide +kernel, by decide +kernel⟩ (fun _ _ _ hk h => hk _ h) ?_
 rintro ⟨⟨a, b, c⟩, ⟨k, x, y, w⟩⟩ K ⟨hI, hD⟩ h
 refine ⟨Nat.le_of_ble_eq_true rfl, ?_⟩
 dsimp only [enSt, stC, ded, encD] at hD ⊢
 repeat' ((conv=>whnf);first|refine vA ?_|with_reducible first|refine v8 ?_|refine Sp.mk ?_ ?_|refine vS ?_|refine vR ?_|refine vB ?_|refine br_nt ?_|refine br_tt ?_|refine br_ff ?_|refine vP ?_|refine vQ ?_|refine vT ?_|refine vF ?_|refine br_and ?_|refine br_or ?_|refine br_d (fun _=>?_) fun _=>?_|refine vM (fun _=>?_) fun _=>?_)
 refine ⟨(⟨a, b, c⟩, 1048576), ?_, ⟨hI, by dsimp only; omega, by dsimp only; omega⟩, ?_⟩
 ·repeat' ((conv=>whnf);first|with_reducible exact True.intro|exact vW|with_reducible refine And.intro ?_ ?_)
 intro v v1 v2 v3
 dsimp only at v2 v3
 repeat' ((conv=>whnf);first|refine vA ?_|with_reducible first|refine v8 ?_|refine Sp.mk ?_ ?_|refine vS ?_|refine vR ?_|refine vB ?_|refine br_nt ?_|refine br_tt ?_|refine br_ff ?_|refine vP ?_|refine vQ ?_|refine vT ?_|refine vF ?_|refine br_and ?_|refine br_or ?_|refine br_d (fun _=>?_) fun _=>?_|refine vM (fun _=>?_) fun _=>?_)
 ·exact h
 rename_i hv
 have hs := v3 (by omega)
 have hp : storeP ⟨a, b, c⟩ := ⟨hI, by dsimp only; omega⟩
 refine ⟨(⟨k, x, y, w⟩, v), ?_, ⟨hD.2.2.2, by dsimp only; omega, by dsimp only; omega⟩, ?_⟩
 ·repeat' ((conv=>whnf);first|with_reducible exact True.intro|exact vW|with_reducible refine And.intro ?_ ?_)
 dsimp only
 by_cases hw : v - w.size < 0
 ·rw [if_pos hw]
  repeat' ((conv=>whnf);first|refine vA ?_|with_reducible first|refine v8 ?_|refine Sp.mk ?_ ?_|refine vS ?_|refine vR ?_|refine vB ?_|refine br_nt ?_|refine br_tt ?_|refine br_ff ?_|refine vP ?_|refine vQ ?_|refine vT ?_|refine vF ?_|refine br_and ?_|refine br_or ?_|refine br_d (fun _=>?_) fun _=>?_|refine vM (fun _=>?_) fun _=>?_)
  exact h
 rw [if_neg hw]
 have hw2 : w.size ≤ 1048576 := by omega
 repeat' ((conv=>whnf);first|refine vA ?_|with_reducible first|refine v8 ?_|refine Sp.mk ?_ ?_|refine vS ?_|refine vR ?_|refine vB ?_|refine br_nt ?_|refine br_tt ?_|refine br_ff ?_|refine vP ?_|refine vQ ?_|refine vT ?_|refine vF ?_|refine br_and ?_|refine br_or ?_|refine br_d (fun _=>?_) fun _=>?_|refine vM (fun _=>?_) fun _=>?_)
 obtain ⟨r, hr⟩ : ∃ r, actR ⟨a, b, c⟩ ⟨k, x, y, w⟩ = r := ⟨_, rfl⟩
 obtain ⟨o, hk⟩ : ∃ o, (actS ⟨a, b, c⟩ ⟨k, x, y, w⟩).isSome = o := ⟨_, rfl⟩
 obtain ⟨ra, rb, rc⟩ := r
 have hbb : (o == o) = true := beq_self_eq_true _
 refine Dr.mk ⟨(.rd 0 (.rd 2 (.ef 1 (.ef 3 (.ef 4 (.rd 5 (.rd 6 (.rd 7 (.ef 8 (.ef 9 (.rd 10 .dn) .no) .no)))) (.ef 8 (.ef 4 (.rd 5 (.rd 6 (.rd 7 (.ef 9 (.rd 10 .dn) .no)))) .no) .no)) (.ef 8 (.ef 3 (.ef 4 (.rd 5 (.rd 6 (.rd 7 (.ef 9 (.rd 10 .dn) .no)))) .no) .no) .no)) (.ef 8 (.ef 1 (.ef 3 (.ef 4 (.rd 5 (.rd 6 (.rd 7 (.ef 9 (.rd 10 .dn) .no)))) .no) .no) .no) .no)))), by decide +kernel, ?_⟩
 repeat' ((conv=>whnf);first|refine vA ?_|with_reducible first|refine v8 ?_|refine Sp.mk ?_ ?_|refine vS ?_|refine vR ?_|refine vB ?_|refine br_nt ?_|refine br_tt ?_|refine br_ff ?_|refine vP ?_|refine vQ ?_|refine vT ?_|refine vF ?_|refine br_and ?_|refine br_or ?_|refine br_d (fun _=>?_) fun _=>?_|refine vM (fun _=>?_) fun _=>?_)
 all_goals
  refine ⟨⟨a, b, c⟩, ?_, ⟨trivial⟩, ?_⟩
  ·repeat' ((conv=>whnf);first|with_reducible exact True.intro|exact vW|with_reducible refine And.intro ?_ ?_)
  dsimp only [enSt, stC]
  repeat' ((conv=>whnf);first|refine vA ?_|with_reducible first|refine v8 ?_|refine Sp.mk ?_ ?_|refine vS ?_|refine vR ?_|refine vB ?_|refine br_nt ?_|refine br_tt ?_|refine br_ff ?_|refine vP ?_|refine vQ ?_|refine vT ?_|refine vF ?_|refine br_and ?_|refine br_or ?_|refine br_d (fun _=>?_) fun _=>?_|refine vM (fun _=>?_) fun _=>?_)
 all_goals
  refine ⟨⟨k, x, y, w⟩, ?_, ⟨trivial⟩, ?_⟩
  ·repeat' ((conv=>whnf);first|with_reducible exact True.intro|exact vW|with_reducible refine And.intro ?_ ?_)
  dsimp only [ded, encD]
  repeat' ((conv=>whnf);first|refine vA ?_|with_reducible first|refine v8 ?_|refine Sp.mk ?_ ?_|refine vS ?_|refine vR ?_|refine vB ?_|refine br_nt ?_|refine br_tt ?_|refine br_ff ?_|refine vP ?_|refine vQ ?_|refine vT ?_|refine vF ?_|refine br_and ?_|refine br_or ?_|refine br_d (fun _=>?_) fun _=>?_|refine vM (fun _=>?_) fun _=>?_)
 all_goals
  refine ⟨⟨⟨a, b, c⟩, ⟨k, x, y, w⟩⟩, ?_, ⟨hp, hD, hw2⟩, ?_⟩
  ·repeat' ((conv=>whnf);first|with_reducible exact True.intro|exact vW|with_reducible refine And.intro ?_ ?_)
  dsimp only
  rw [hr, hk]
  dsimp only [enSt, stC]
  repeat' ((conv=>whnf);first|refine vA ?_|with_reducible first|refine v8 ?_|refine Sp.mk ?_ ?_|refine vS ?_|refine vR ?_|refine vB ?_|refine br_nt ?_|refine br_tt ?_|refine br_ff ?_|refine vP ?_|refine vQ ?_|refine vT ?_|refine vF ?_|refine br_and ?_|refine br_or ?_|refine br_d (fun _=>?_) fun _=>?_|refine vM (fun _=>?_) fun _=>?_)
  refine Dr.mk ⟨(.rd 0 (.rd 2 (.ef 1 (.ef 3 (.ef 4 (.rd 5 (.rd 6 (.rd 7 (.ef 8 (.ef 9 (.rd 10 .dn) .no) .no)))) (.ef 8 (.ef 4 (.rd 5 (.rd 6 (.rd 7 (.ef 9 (.rd 10 .dn) .no)))) .no) .no)) (.ef 8 (.ef 3 (.ef 4 (.rd 5 (.rd 6 (.rd 7 (.ef 9 (.rd 10 .dn) .no)))) .no) .no) .no)) (.ef 8 (.ef 1 (.ef 3 (.ef 4 (.rd 5 (.rd 6 (.rd 7 (.ef 9 (.rd 10 .dn) .no)))) .no) .no) .no) .no)))), by decide +kernel, ?_⟩
  repeat' ((conv=>whnf);first|refine vA ?_|with_reducible first|refine v8 ?_|refine Sp.mk ?_ ?_|refine vS ?_|refine vR ?_|refine vB ?_|refine br_nt ?_|refine br_tt ?_|refine br_ff ?_|refine vP ?_|refine vQ ?_|refine vT ?_|refine vF ?_|refine br_and ?_|refine br_or ?_|refine br_d (fun _=>?_) fun _=>?_|refine vM (fun _=>?_) fun _=>?_)
 all_goals
  refine ⟨⟨a, b, c⟩, ?_, ⟨trivial⟩, ?_⟩
  ·repeat' ((conv=>whnf);first|with_reducible exact True.intro|exact vW|with_reducible refine And.intro ?_ ?_)
  dsimp only [enSt, stC]
  repeat' ((conv=>whnf);first|refine vA ?_|with_reducible first|refine v8 ?_|refine Sp.mk ?_ ?_|refine vS ?_|refine vR ?_|refine vB ?_|refine br_nt ?_|refine br_tt ?_|refine br_ff ?_|refine vP ?_|refine vQ ?_|refine vT ?_|refine vF ?_|refine br_and ?_|refine br_or ?_|refine br_d (fun _=>?_) fun _=>?_|refine vM (fun _=>?_) fun _=>?_)
 all_goals
  refine ⟨⟨k, x, y, w⟩, ?_, ⟨trivial⟩, ?_⟩
  ·repeat' ((conv=>whnf);first|with_reducible exact True.intro|exact vW|with_reducible refine And.intro ?_ ?_)
  dsimp only [ded, encD]
  repeat' ((conv=>whnf);first|refine vA ?_|with_reducible first|refine v8 ?_|refine Sp.mk ?_ ?_|refine vS ?_|refine vR ?_|refine vB ?_|refine br_nt ?_|refine br_tt ?_|refine br_ff ?_|refine vP ?_|refine vQ ?_|refine vT ?_|refine vF ?_|refine br_and ?_|refine br_or ?_|refine br_d (fun _=>?_) fun _=>?_|refine vM (fun _=>?_) fun _=>?_)
 all_goals
  refine ⟨⟨⟨a, b, c⟩, ⟨k, x, y, w⟩⟩, ?_, ⟨hp, hD, hw2⟩, ?_⟩
  ·repeat' ((conv=>whnf);first|with_reducible exact True.intro|exact vW|with_reducible refine And.intro ?_ ?_)
  dsimp only
  rw [hr, hk]
  dsimp only [enSt, stC]
  repeat' ((conv=>whnf);first|refine vA ?_|with_reducible first|refine v8 ?_|refine Sp.mk ?_ ?_|refine vS ?_|refine vR ?_|refine vB ?_|refine br_nt ?_|refine br_tt ?_|refine br_ff ?_|refine vP ?_|refine vQ ?_|refine vT ?_|refine vF ?_|refine br_and ?_|refine br_or ?_|refine br_d (fun _=>?_) fun _=>?_|refine vM (fun _=>?_) fun _=>?_)
 all_goals
  refine ⟨⟨ra, rb, rc⟩, ?_, ⟨trivial⟩, ?_⟩
  ·repeat' ((conv=>whnf);first|with_reducible exact True.intro|exact vW|with_reducible refine And.intro ?_ ?_)
  repeat' ((conv=>whnf);first|refine vA ?_|with_reducible first|refine v8 ?_|refine Sp.mk ?_ ?_|refine vS ?_|refine vR ?_|refine vB ?_|refine br_nt ?_|refine br_tt ?_|refine br_ff ?_|refine vP ?_|refine vQ ?_|refine vT ?_|refine vF ?_|refine br_and ?_|refine br_or ?_|refine br_d (fun _=>?_) fun _=>?_|refine vM (fun _=>?_) fun _=>?_)
  exact h
end Go.Proofs.YtkafoolhbflfkaaGreatDoor.Vc
end
section
/- Part YF: laws on stores: new, saved, opened, acted at. -/
namespace Go.Proofs.YtkafoolhbflfkaaGreatDoor.Vc
open Go.Proofs
set_option maxRecDepth 100000
set_option maxHeartbeats 4000000
theorem deskOk_l {d : Desk} (h : deskOk d) : lenD d := ⟨⟨Nat.le_trans h.1.1.2.1 (by decide), Nat.lt_of_le_of_lt h.1.2.1.2 (by decide)⟩, Nat.lt_of_le_of_lt h.2.1 (by decide), fun x hx => ⟨Nat.le_trans (h.2.2 x hx).1.2.1 (by decide), Nat.lt_of_le_of_lt (h.2.2 x hx).2.1.2 (by decide)⟩⟩
def C300 : List AV → (AV → Prop) → Prop := con (X := List Int) (fun l => [slB l]) bytesI fun _ K => K (.bool true)
theorem F300 : FF 6 C300 := by
 refine fitX [(25, C290), (27, C144), (26, C145), (18, C22), (28, C282), (29, C132), (16, C221), (30, C134)] (by simp only [List.mem_cons, List.not_mem_nil, or_false]; rintro _ (rfl | rfl | rfl | rfl | rfl | rfl | rfl | rfl) <;> first | exact F290 | exact F144 | exact F145 | exact F22 | exact F282 | exact F132 | exact F221 | exact F134) [] (by simp) Tryz.f6 ⟨rfl, by decide +kernel, by decide +kernel⟩ (fun _ _ _ hk h => hk _ h) ?_
 rintro L K hL h
 refine ⟨Nat.le_of_ble_eq_true rfl, ?_⟩
 have hll := hL.2
 have htt : (true == true) = true := rfl
 have hff : (false == false) = true := rfl
 have hee : (⟨#[]⟩ : ByteArray) = ⟨#[]⟩ := rfl
 repeat' ((conv=>whnf);first|refine vA ?_|with_reducible first|refine v8 ?_|refine Sp.mk ?_ ?_|refine vS ?_|refine vR ?_|refine vB ?_|refine br_nt ?_|refine br_tt ?_|refine br_ff ?_|refine vP ?_|refine vQ ?_|refine vT ?_|refine vF ?_|refine br_and ?_|refine br_or ?_|refine br_d (fun _=>?_) fun _=>?_|refine vM (fun _=>?_) fun _=>?_)
 ·exact h
 refine ⟨L, ?_, ⟨hL⟩, ?_⟩
 ·repeat' ((conv=>whnf);first|with_reducible exact True.intro|exact vW|with_reducible refine And.intro ?_ ?_)
 rintro ⟨p, bs, rs⟩ hy
 have hI := hy.I
 dsimp only [enPl, plC]
 repeat' ((conv=>whnf);first|refine vA ?_|with_reducible first|refine v8 ?_|refine Sp.mk ?_ ?_|refine vS ?_|refine vR ?_|refine vB ?_|refine br_nt ?_|refine br_tt ?_|refine br_ff ?_|refine vP ?_|refine vQ ?_|refine vT ?_|refine vF ?_|refine br_and ?_|refine br_or ?_|refine br_d (fun _=>?_) fun _=>?_|refine vM (fun _=>?_) fun _=>?_)
 refine ⟨⟨p, bs, rs⟩, ?_, ⟨hI⟩, ?_⟩
 ·repeat' ((conv=>whnf);first|with_reducible exact True.intro|exact vW|with_reducible refine And.intro ?_ ?_)
 by_cases hO : placeOk ⟨p, bs, rs⟩
 ·have e0 : newSt ⟨p, bs, rs⟩ = ⟨plT ⟨p, bs, rs⟩, ⟨#[]⟩, 0⟩ := by unfold newSt ptext; rw [if_pos hO]
  have hS := isSt_new hO
  have hop := opD_new hO
  have hP := isSt_P hS
  generalize plT ⟨p, bs, rs⟩ = t at e0 hS hop hP
  have htt' : t = t := rfl
  dsimp only
  rw [e0, decide_eq_true hO]
  dsimp only [enSt, stC]
  repeat' ((conv=>whnf);first|refine vA ?_|with_reducible first|refine v8 ?_|refine Sp.mk ?_ ?_|refine vS ?_|refine vR ?_|refine vB ?_|refine br_nt ?_|refine br_tt ?_|refine br_ff ?_|refine vP ?_|refine vQ ?_|refine vT ?_|refine vF ?_|refine br_and ?_|refine br_or ?_|refine br_d (fun _=>?_) fun _=>?_|refine vM (fun _=>?_) fun _=>?_)
  refine ⟨⟨p, bs, rs⟩, ?_, ⟨hI⟩, ?_⟩
  ·repeat' ((conv=>whnf);first|with_reducible exact True.intro|exact vW|with_reducible refine And.intro ?_ ?_)
  dsimp only
  rw [e0, decide_eq_true hO]
  dsimp only [enSt, stC]
  repeat' ((conv=>whnf);first|refine vA ?_|with_reducible first|refine v8 ?_|refine Sp.mk ?_ ?_|refine vS ?_|refine vR ?_|refine vB ?_|refine br_nt ?_|refine br_tt ?_|refine br_ff ?_|refine vP ?_|refine vQ ?_|refine vT ?_|refine vF ?_|refine br_and ?_|refine br_or ?_|refine br_d (fun _=>?_) fun _=>?_|refine vM (fun _=>?_) fun _=>?_)
  refine ⟨⟨t, ⟨#[]⟩, 0⟩, ?_, ⟨hP⟩, ?_⟩
  ·repeat' ((conv=>whnf);first|with_reducible exact True.intro|exact vW|with_reducible refine And.intro ?_ ?_)
  dsimp only
  rw [openS_yes hS, hop]
  dsimp only [Option.getD_some, Option.isSome_some, enDe, deC]
  repeat' ((conv=>whnf);first|refine vA ?_|with_reducible first|refine v8 ?_|refine Sp.mk ?_ ?_|refine vS ?_|refine vR ?_|refine vB ?_|refine br_nt ?_|refine br_tt ?_|refine br_ff ?_|refine vP ?_|refine vQ ?_|refine vT ?_|refine vF ?_|refine br_and ?_|refine br_or ?_|refine br_d (fun _=>?_) fun _=>?_|refine vM (fun _=>?_) fun _=>?_)
  refine ⟨⟨p, bs, rs⟩, ?_, ⟨hI⟩, ?_⟩
  ·repeat' ((conv=>whnf);first|with_reducible exact True.intro|exact vW|with_reducible refine And.intro ?_ ?_)
  unfold newDe
  dsimp only
  rw [if_pos hO, decide_eq_true hO]
  dsimp only [enDe, deC]
  repeat' ((conv=>whnf);first|refine vA ?_|with_reducible first|refine v8 ?_|refine Sp.mk ?_ ?_|refine vS ?_|refine vR ?_|refine vB ?_|refine br_nt ?_|refine br_tt ?_|refine br_ff ?_|refine vP ?_|refine vQ ?_|refine vT ?_|refine vF ?_|refine br_and ?_|refine br_or ?_|refine br_d (fun _=>?_) fun _=>?_|refine vM (fun _=>?_) fun _=>?_)
  refine ⟨⟨t, ⟨#[]⟩, 0⟩, ?_, ⟨hP⟩, ?_⟩
  ·repeat' ((conv=>whnf);first|with_reducible exact True.intro|exact vW|with_reducible refine And.intro ?_ ?_)
  intro o ho
  obtain rfl := ho.2 hS
  repeat' ((conv=>whnf);first|refine vA ?_|with_reducible first|refine v8 ?_|refine Sp.mk ?_ ?_|refine vS ?_|refine vR ?_|refine vB ?_|refine br_nt ?_|refine br_tt ?_|refine br_ff ?_|refine vP ?_|refine vQ ?_|refine vT ?_|refine vF ?_|refine br_and ?_|refine br_or ?_|refine br_d (fun _=>?_) fun _=>?_|refine vM (fun _=>?_) fun _=>?_)
  refine ⟨⟨⟨p, bs, rs⟩, []⟩, ?_, ⟨deskOk_l (desk0_ok hO)⟩, ?_⟩
  ·repeat' ((conv=>whnf);first|with_reducible exact True.intro|exact vW|with_reducible refine And.intro ?_ ?_)
  repeat' ((conv=>whnf);first|refine vA ?_|with_reducible first|refine v8 ?_|refine Sp.mk ?_ ?_|refine vS ?_|refine vR ?_|refine vB ?_|refine br_nt ?_|refine br_tt ?_|refine br_ff ?_|refine vP ?_|refine vQ ?_|refine vT ?_|refine vF ?_|refine br_and ?_|refine br_or ?_|refine br_d (fun _=>?_) fun _=>?_|refine vM (fun _=>?_) fun _=>?_)
  exact h
 ·have e0 : newSt ⟨p, bs, rs⟩ = ⟨⟨#[]⟩, ⟨#[]⟩, 0⟩ := by unfold newSt ptext; rw [if_neg hO]
  dsimp only
  rw [e0, decide_eq_false hO]
  dsimp only [enSt, stC]
  repeat' ((conv=>whnf);first|refine vA ?_|with_reducible first|refine v8 ?_|refine Sp.mk ?_ ?_|refine vS ?_|refine vR ?_|refine vB ?_|refine br_nt ?_|refine br_tt ?_|refine br_ff ?_|refine vP ?_|refine vQ ?_|refine vT ?_|refine vF ?_|refine br_and ?_|refine br_or ?_|refine br_d (fun _=>?_) fun _=>?_|refine vM (fun _=>?_) fun _=>?_)
  refine ⟨⟨p, bs, rs⟩, ?_, ⟨hI⟩, ?_⟩
  ·repeat' ((conv=>whnf);first|with_reducible exact True.intro|exact vW|with_reducible refine And.intro ?_ ?_)
  dsimp only
  rw [e0, decide_eq_false hO]
  dsimp only [enSt, stC]
  repeat' ((conv=>whnf);first|refine vA ?_|with_reducible first|refine v8 ?_|refine Sp.mk ?_ ?_|refine vS ?_|refine vR ?_|refine vB ?_|refine br_nt ?_|refine br_tt ?_|refine br_ff ?_|refine vP ?_|refine vQ ?_|refine vT ?_|refine vF ?_|refine br_and ?_|refine br_or ?_|refine br_d (fun _=>?_) fun _=>?_|refine vM (fun _=>?_) fun _=>?_)
  refine ⟨(), ?_, ⟨trivial⟩, ?_⟩
  ·repeat' ((conv=>whnf);first|with_reducible exact True.intro|exact vW|with_reducible refine And.intro ?_ ?_)
  repeat' ((conv=>whnf);first|refine vA ?_|with_reducible first|refine v8 ?_|refine Sp.mk ?_ ?_|refine vS ?_|refine vR ?_|refine vB ?_|refine br_nt ?_|refine br_tt ?_|refine br_ff ?_|refine vP ?_|refine vQ ?_|refine vT ?_|refine vF ?_|refine br_and ?_|refine br_or ?_|refine br_d (fun _=>?_) fun _=>?_|refine vM (fun _=>?_) fun _=>?_)
  exact h
def C304 : List AV → (AV → Prop) → Prop := con (X := List Int) (fun l => [slB l]) bytesI fun _ K => K (.bool true)
theorem F304 : FF 11 C304 := by
 refine fitX [(47, C292), (39, C284), (37, C285), (16, C221), (18, C22), (28, C282), (48, C239), (30, C134)] (by simp only [List.mem_cons, List.not_mem_nil, or_false]; rintro _ (rfl | rfl | rfl | rfl | rfl | rfl | rfl | rfl) <;> first | exact F292 | exact F284 | exact F285 | exact F221 | exact F22 | exact F282 | exact F239 | exact F134) [] (by simp) Tryz.f11 ⟨rfl, by decide +kernel, by decide +kernel⟩ (fun _ _ _ hk h => hk _ h) ?_
 rintro L K hL h
 refine ⟨Nat.le_of_ble_eq_true rfl, ?_⟩
 have hll := hL.2
 have htt : (true == true) = true := rfl
 have hff : (false == false) = true := rfl
 have hee : (⟨#[]⟩ : ByteArray) = ⟨#[]⟩ := rfl
 repeat' ((conv=>whnf);first|refine vA ?_|with_reducible first|refine v8 ?_|refine Sp.mk ?_ ?_|refine vS ?_|refine vR ?_|refine vB ?_|refine br_nt ?_|refine br_tt ?_|refine br_ff ?_|refine vP ?_|refine vQ ?_|refine vT ?_|refine vF ?_|refine br_and ?_|refine br_or ?_|refine br_d (fun _=>?_) fun _=>?_|refine vM (fun _=>?_) fun _=>?_)
 ·exact h
 refine ⟨L, ?_, ⟨hL⟩, ?_⟩
 ·repeat' ((conv=>whnf);first|with_reducible exact True.intro|exact vW|with_reducible refine And.intro ?_ ?_)
 rintro ⟨a, b, c⟩ ⟨k, x, y, w⟩ hd hA
 have hP := hd.P
 have hAI := hA.I
 have hw : w.size ≤ 1048576 := by have := hA.w0; dsimp only at this; omega
 have haa : a = a := rfl
 have hbb : b = b := rfl
 dsimp only [enSt, stC, ded, encD]
 repeat' ((conv=>whnf);first|refine vA ?_|with_reducible first|refine v8 ?_|refine Sp.mk ?_ ?_|refine vS ?_|refine vR ?_|refine vB ?_|refine br_nt ?_|refine br_tt ?_|refine br_ff ?_|refine vP ?_|refine vQ ?_|refine vT ?_|refine vF ?_|refine br_and ?_|refine br_or ?_|refine br_d (fun _=>?_) fun _=>?_|refine vM (fun _=>?_) fun _=>?_)
 refine ⟨⟨⟨a, b, c⟩, ⟨k, x, y, w⟩⟩, ?_, ⟨hP, hAI, hw⟩, ?_⟩
 ·repeat' ((conv=>whnf);first|with_reducible exact True.intro|exact vW|with_reducible refine And.intro ?_ ?_)
 dsimp only
 by_cases hc : isSt ⟨a, b, c⟩ ∧ canAct ⟨a, b, c⟩ ⟨k, x, y, w⟩
 ·obtain ⟨hS, hc⟩ := hc
  have hS2 := isSt_add hS hc
  obtain ⟨e, he⟩ := canAct_do hc
  have hop := opD_ok hS
  have hop2 := opD_add hc he
  have hP2 := isSt_P hS2
  have hOe := doD_ok hop he
  have eO := openS_yes hS
  have eO2 := openS_yes hS2
  have hAf := afterD_some hop he
  have hCa := canD_some hop he
  rw [hop2] at eO2
  rw [actR_yes hS hc, actS_yes hS hc]
  unfold addL at eO2 hP2 hS2 ⊢
  dsimp only at eO2 hP2 hS2 ⊢
  generalize opD ⟨a, b, c⟩ = D at *
  obtain ⟨⟨ep, eb, er⟩, el⟩ := D
  obtain ⟨⟨fp, fb, fr⟩, fl⟩ := e
  generalize hue : b ++ (deedT ⟨k, x, y, w⟩ ++ ⟨#[10]⟩) = u at *
  have huu : u = u := rfl
  dsimp only [Option.isSome_some, enSt, stC]
  repeat' ((conv=>whnf);first|refine vA ?_|with_reducible first|refine v8 ?_|refine Sp.mk ?_ ?_|refine vS ?_|refine vR ?_|refine vB ?_|refine br_nt ?_|refine br_tt ?_|refine br_ff ?_|refine vP ?_|refine vQ ?_|refine vT ?_|refine vF ?_|refine br_and ?_|refine br_or ?_|refine br_d (fun _=>?_) fun _=>?_|refine vM (fun _=>?_) fun _=>?_)
  refine ⟨⟨⟨a, b, c⟩, ⟨k, x, y, w⟩⟩, ?_, ⟨hP, hAI, hw⟩, ?_⟩
  ·repeat' ((conv=>whnf);first|with_reducible exact True.intro|exact vW|with_reducible refine And.intro ?_ ?_)
  dsimp only
  rw [actR_yes hS hc, actS_yes hS hc]
  unfold addL
  dsimp only [Option.isSome_some, enSt, stC]
  rw [hue]
  repeat' ((conv=>whnf);first|refine vA ?_|with_reducible first|refine v8 ?_|refine Sp.mk ?_ ?_|refine vS ?_|refine vR ?_|refine vB ?_|refine br_nt ?_|refine br_tt ?_|refine br_ff ?_|refine vP ?_|refine vQ ?_|refine vT ?_|refine vF ?_|refine br_and ?_|refine br_or ?_|refine br_d (fun _=>?_) fun _=>?_|refine vM (fun _=>?_) fun _=>?_)
  refine ⟨⟨a, b, c⟩, ?_, ⟨hP⟩, ?_⟩
  ·repeat' ((conv=>whnf);first|with_reducible exact True.intro|exact vW|with_reducible refine And.intro ?_ ?_)
  dsimp only
  rw [eO]
  dsimp only [Option.getD_some, Option.isSome_some, enDe, deC]
  repeat' ((conv=>whnf);first|refine vA ?_|with_reducible first|refine v8 ?_|refine Sp.mk ?_ ?_|refine vS ?_|refine vR ?_|refine vB ?_|refine br_nt ?_|refine br_tt ?_|refine br_ff ?_|refine vP ?_|refine vQ ?_|refine vT ?_|refine vF ?_|refine br_and ?_|refine br_or ?_|refine br_d (fun _=>?_) fun _=>?_|refine vM (fun _=>?_) fun _=>?_)
  refine ⟨⟨a, u, c⟩, ?_, ⟨hP2⟩, ?_⟩
  ·repeat' ((conv=>whnf);first|with_reducible exact True.intro|exact vW|with_reducible refine And.intro ?_ ?_)
  dsimp only
  rw [eO2]
  dsimp only [Option.getD_some, Option.isSome_some, enDe, deC]
  repeat' ((conv=>whnf);first|refine vA ?_|with_reducible first|refine v8 ?_|refine Sp.mk ?_ ?_|refine vS ?_|refine vR ?_|refine vB ?_|refine br_nt ?_|refine br_tt ?_|refine br_ff ?_|refine vP ?_|refine vQ ?_|refine vT ?_|refine vF ?_|refine br_and ?_|refine br_or ?_|refine br_d (fun _=>?_) fun _=>?_|refine vM (fun _=>?_) fun _=>?_)
  refine ⟨⟨⟨⟨ep, eb, er⟩, el⟩, ⟨k, x, y, w⟩⟩, ?_, ⟨deskOk_I hop, hAI⟩, ?_⟩
  ·repeat' ((conv=>whnf);first|with_reducible exact True.intro|exact vW|with_reducible refine And.intro ?_ ?_)
  dsimp only
  rw [hAf, hCa]
  dsimp only [enDe, deC]
  repeat' ((conv=>whnf);first|refine vA ?_|with_reducible first|refine v8 ?_|refine Sp.mk ?_ ?_|refine vS ?_|refine vR ?_|refine vB ?_|refine br_nt ?_|refine br_tt ?_|refine br_ff ?_|refine vP ?_|refine vQ ?_|refine vT ?_|refine vF ?_|refine br_and ?_|refine br_or ?_|refine br_d (fun _=>?_) fun _=>?_|refine vM (fun _=>?_) fun _=>?_)
  refine ⟨⟨a, u, c⟩, ?_, ⟨hP2⟩, ?_⟩
  ·repeat' ((conv=>whnf);first|with_reducible exact True.intro|exact vW|with_reducible refine And.intro ?_ ?_)
  intro o ho
  obtain rfl := ho.2 hS2
  repeat' ((conv=>whnf);first|refine vA ?_|with_reducible first|refine v8 ?_|refine Sp.mk ?_ ?_|refine vS ?_|refine vR ?_|refine vB ?_|refine br_nt ?_|refine br_tt ?_|refine br_ff ?_|refine vP ?_|refine vQ ?_|refine vT ?_|refine vF ?_|refine br_and ?_|refine br_or ?_|refine br_d (fun _=>?_) fun _=>?_|refine vM (fun _=>?_) fun _=>?_)
  refine ⟨⟨⟨fp, fb, fr⟩, fl⟩, ?_, ⟨deskOk_l hOe⟩, ?_⟩
  ·repeat' ((conv=>whnf);first|with_reducible exact True.intro|exact vW|with_reducible refine And.intro ?_ ?_)
  repeat' ((conv=>whnf);first|refine vA ?_|with_reducible first|refine v8 ?_|refine Sp.mk ?_ ?_|refine vS ?_|refine vR ?_|refine vB ?_|refine br_nt ?_|refine br_tt ?_|refine br_ff ?_|refine vP ?_|refine vQ ?_|refine vT ?_|refine vF ?_|refine br_and ?_|refine br_or ?_|refine br_d (fun _=>?_) fun _=>?_|refine vM (fun _=>?_) fun _=>?_)
  all_goals first | exact h | simpa using h
 ·rw [actS_no hc]
  by_cases hS : isSt ⟨a, b, c⟩
  ·rw [actR_no hS fun q => hc ⟨hS, q⟩]
   dsimp only [Option.isSome_none, enSt, stC]
   repeat' ((conv=>whnf);first|refine vA ?_|with_reducible first|refine v8 ?_|refine Sp.mk ?_ ?_|refine vS ?_|refine vR ?_|refine vB ?_|refine br_nt ?_|refine br_tt ?_|refine br_ff ?_|refine vP ?_|refine vQ ?_|refine vT ?_|refine vF ?_|refine br_and ?_|refine br_or ?_|refine br_d (fun _=>?_) fun _=>?_|refine vM (fun _=>?_) fun _=>?_)
   refine ⟨⟨⟨a, b, c⟩, ⟨k, x, y, w⟩⟩, ?_, ⟨hP, hAI, hw⟩, ?_⟩
   ·repeat' ((conv=>whnf);first|with_reducible exact True.intro|exact vW|with_reducible refine And.intro ?_ ?_)
   dsimp only
   rw [actS_no hc, actR_no hS fun q => hc ⟨hS, q⟩]
   dsimp only [Option.isSome_none, enSt, stC]
   repeat' ((conv=>whnf);first|refine vA ?_|with_reducible first|refine v8 ?_|refine Sp.mk ?_ ?_|refine vS ?_|refine vR ?_|refine vB ?_|refine br_nt ?_|refine br_tt ?_|refine br_ff ?_|refine vP ?_|refine vQ ?_|refine vT ?_|refine vF ?_|refine br_and ?_|refine br_or ?_|refine br_d (fun _=>?_) fun _=>?_|refine vM (fun _=>?_) fun _=>?_)
   refine ⟨(), ?_, ⟨trivial⟩, ?_⟩
   ·repeat' ((conv=>whnf);first|with_reducible exact True.intro|exact vW|with_reducible refine And.intro ?_ ?_)
   repeat' ((conv=>whnf);first|refine vA ?_|with_reducible first|refine v8 ?_|refine Sp.mk ?_ ?_|refine vS ?_|refine vR ?_|refine vB ?_|refine br_nt ?_|refine br_tt ?_|refine br_ff ?_|refine vP ?_|refine vQ ?_|refine vT ?_|refine vF ?_|refine br_and ?_|refine br_or ?_|refine br_d (fun _=>?_) fun _=>?_|refine vM (fun _=>?_) fun _=>?_)
   all_goals first | exact h | simpa using h
  ·have e0 : actR ⟨a, b, c⟩ ⟨k, x, y, w⟩ = default := if_neg hS
   rw [e0]
   have d1 : (default : Store).saved = ⟨#[]⟩ := rfl
   have d2 : (default : Store).log = ⟨#[]⟩ := rfl
   have d3 : (default : Store).sure = 0 := rfl
   have d4 : (default : Store).saved = (default : Store).saved := rfl
   have d5 : (default : Store).log = (default : Store).log := rfl
   dsimp only [Option.isSome_none, enSt, stC]
   repeat' ((conv=>whnf);first|refine vA ?_|with_reducible first|refine v8 ?_|refine Sp.mk ?_ ?_|refine vS ?_|refine vR ?_|refine vB ?_|refine br_nt ?_|refine br_tt ?_|refine br_ff ?_|refine vP ?_|refine vQ ?_|refine vT ?_|refine vF ?_|refine br_and ?_|refine br_or ?_|refine br_d (fun _=>?_) fun _=>?_|refine vM (fun _=>?_) fun _=>?_)
   refine ⟨⟨⟨a, b, c⟩, ⟨k, x, y, w⟩⟩, ?_, ⟨hP, hAI, hw⟩, ?_⟩
   ·repeat' ((conv=>whnf);first|with_reducible exact True.intro|exact vW|with_reducible refine And.intro ?_ ?_)
   dsimp only
   rw [actS_no hc, e0]
   dsimp only [Option.isSome_none, enSt, stC]
   repeat' ((conv=>whnf);first|refine vA ?_|with_reducible first|refine v8 ?_|refine Sp.mk ?_ ?_|refine vS ?_|refine vR ?_|refine vB ?_|refine br_nt ?_|refine br_tt ?_|refine br_ff ?_|refine vP ?_|refine vQ ?_|refine vT ?_|refine vF ?_|refine br_and ?_|refine br_or ?_|refine br_d (fun _=>?_) fun _=>?_|refine vM (fun _=>?_) fun _=>?_)
   ·refine ⟨(), ?_, ⟨trivial⟩, ?_⟩
    ·repeat' ((conv=>whnf);first|with_reducible exact True.intro|exact vW|with_reducible refine And.intro ?_ ?_)
    repeat' ((conv=>whnf);first|refine vA ?_|with_reducible first|refine v8 ?_|refine Sp.mk ?_ ?_|refine vS ?_|refine vR ?_|refine vB ?_|refine br_nt ?_|refine br_tt ?_|refine br_ff ?_|refine vP ?_|refine vQ ?_|refine vT ?_|refine vF ?_|refine br_and ?_|refine br_or ?_|refine br_d (fun _=>?_) fun _=>?_|refine vM (fun _=>?_) fun _=>?_)
    exact h
   all_goals
    refine ⟨⟨a, b, c⟩, ?_, ⟨hP⟩, ?_⟩
    ·repeat' ((conv=>whnf);first|with_reducible exact True.intro|exact vW|with_reducible refine And.intro ?_ ?_)
    intro o ho
    obtain rfl := isf ho hS
    repeat' ((conv=>whnf);first|refine vA ?_|with_reducible first|refine v8 ?_|refine Sp.mk ?_ ?_|refine vS ?_|refine vR ?_|refine vB ?_|refine br_nt ?_|refine br_tt ?_|refine br_ff ?_|refine vP ?_|refine vQ ?_|refine vT ?_|refine vF ?_|refine br_and ?_|refine br_or ?_|refine br_d (fun _=>?_) fun _=>?_|refine vM (fun _=>?_) fun _=>?_)
    refine ⟨(), ?_, ⟨trivial⟩, ?_⟩
    ·repeat' ((conv=>whnf);first|with_reducible exact True.intro|exact vW|with_reducible refine And.intro ?_ ?_)
    repeat' ((conv=>whnf);first|refine vA ?_|with_reducible first|refine v8 ?_|refine Sp.mk ?_ ?_|refine vS ?_|refine vR ?_|refine vB ?_|refine br_nt ?_|refine br_tt ?_|refine br_ff ?_|refine vP ?_|refine vQ ?_|refine vT ?_|refine vF ?_|refine br_and ?_|refine br_or ?_|refine br_d (fun _=>?_) fun _=>?_|refine vM (fun _=>?_) fun _=>?_)
    exact h
def C308 : List AV → (AV → Prop) → Prop := con (X := List Int) (fun l => [slB l]) bytesI fun _ K => K (.bool true)
theorem F308 : FF 10 C308 := by
 refine fitX [(42, C291), (28, C282), (43, C283), (30, C134), (44, C135), (16, C221), (18, C22), (45, C280), (23, C278), (46, C136)] (by simp only [List.mem_cons, List.not_mem_nil, or_false]; rintro _ (rfl | rfl | rfl | rfl | rfl | rfl | rfl | rfl | rfl | rfl) <;> first | exact F291 | exact F282 | exact F283 | exact F134 | exact F135 | exact F221 | exact F22 | exact F280 | exact F278 | exact F136) [] (by simp) Tryz.f10 ⟨rfl, by decide +kernel, by decide +kernel⟩ (fun _ _ _ hk h => hk _ h) ?_
 rintro L K hL h
 refine ⟨Nat.le_of_ble_eq_true rfl, ?_⟩
 have hll := hL.2
 have htt : (true == true) = true := rfl
 have hff : (false == false) = true := rfl
 have hee : (⟨#[]⟩ : ByteArray) = ⟨#[]⟩ := rfl
 repeat' ((conv=>whnf);first|refine vA ?_|with_reducible first|refine v8 ?_|refine Sp.mk ?_ ?_|refine vS ?_|refine vR ?_|refine vB ?_|refine br_nt ?_|refine br_tt ?_|refine br_ff ?_|refine vP ?_|refine vQ ?_|refine vT ?_|refine vF ?_|refine br_and ?_|refine br_or ?_|refine br_d (fun _=>?_) fun _=>?_|refine vM (fun _=>?_) fun _=>?_)
 ·exact h
 refine ⟨L, ?_, ⟨hL⟩, ?_⟩
 ·repeat' ((conv=>whnf);first|with_reducible exact True.intro|exact vW|with_reducible refine And.intro ?_ ?_)
 rintro ⟨a, b, c⟩ hd
 have hP := hd.P
 dsimp only [enSt, stC]
 repeat' ((conv=>whnf);first|refine vA ?_|with_reducible first|refine v8 ?_|refine Sp.mk ?_ ?_|refine vS ?_|refine vR ?_|refine vB ?_|refine br_nt ?_|refine br_tt ?_|refine br_ff ?_|refine vP ?_|refine vQ ?_|refine vT ?_|refine vF ?_|refine br_and ?_|refine br_or ?_|refine br_d (fun _=>?_) fun _=>?_|refine vM (fun _=>?_) fun _=>?_)
 refine ⟨⟨a, b, c⟩, ?_, ⟨hP⟩, ?_⟩
 ·repeat' ((conv=>whnf);first|with_reducible exact True.intro|exact vW|with_reducible refine And.intro ?_ ?_)
 dsimp only
 by_cases hS : isSt ⟨a, b, c⟩
 ·have hop := opD_ok hS
  have hS2 := isSt_mended hS
  have ho2 := opD_mended ⟨a, b, c⟩
  have hP2 := isSt_P hS2
  have hS3 := isSt_sync hS
  have ho3 := opD_sync ⟨a, b, c⟩ (b.size : Int)
  have hP3 := isSt_P hS3
  have eM := mendS_yes hS
  have eY : syncS ⟨a, b, c⟩ = some ⟨a, b, b.size⟩ := if_pos hS
  have eO := openS_yes hS
  have eO2 := openS_yes hS2
  have eO3 := openS_yes hS3
  rw [ho2] at eO2
  rw [ho3] at eO3
  generalize mended ⟨a, b, c⟩ = M at *
  obtain ⟨ma, mb, mc⟩ := M
  generalize opD ⟨a, b, c⟩ = D at *
  obtain ⟨⟨ep, eb, er⟩, el⟩ := D
  rw [eO]
  dsimp only [Option.getD_some, Option.isSome_some, enDe, deC]
  repeat' ((conv=>whnf);first|refine vA ?_|with_reducible first|refine v8 ?_|refine Sp.mk ?_ ?_|refine vS ?_|refine vR ?_|refine vB ?_|refine br_nt ?_|refine br_tt ?_|refine br_ff ?_|refine vP ?_|refine vQ ?_|refine vT ?_|refine vF ?_|refine br_and ?_|refine br_or ?_|refine br_d (fun _=>?_) fun _=>?_|refine vM (fun _=>?_) fun _=>?_)
  refine ⟨⟨a, b, c⟩, ?_, ⟨hP⟩, ?_⟩
  ·repeat' ((conv=>whnf);first|with_reducible exact True.intro|exact vW|with_reducible refine And.intro ?_ ?_)
  dsimp only
  rw [eO]
  dsimp only [Option.getD_some, Option.isSome_some, enDe, deC]
  repeat' ((conv=>whnf);first|refine vA ?_|with_reducible first|refine v8 ?_|refine Sp.mk ?_ ?_|refine vS ?_|refine vR ?_|refine vB ?_|refine br_nt ?_|refine br_tt ?_|refine br_ff ?_|refine vP ?_|refine vQ ?_|refine vT ?_|refine vF ?_|refine br_and ?_|refine br_or ?_|refine br_d (fun _=>?_) fun _=>?_|refine vM (fun _=>?_) fun _=>?_)
  refine ⟨⟨⟨ep, eb, er⟩, el⟩, ?_, ⟨deskOk_l hop⟩, ?_⟩
  ·repeat' ((conv=>whnf);first|with_reducible exact True.intro|exact vW|with_reducible refine And.intro ?_ ?_)
  repeat' ((conv=>whnf);first|refine vA ?_|with_reducible first|refine v8 ?_|refine Sp.mk ?_ ?_|refine vS ?_|refine vR ?_|refine vB ?_|refine br_nt ?_|refine br_tt ?_|refine br_ff ?_|refine vP ?_|refine vQ ?_|refine vT ?_|refine vF ?_|refine br_and ?_|refine br_or ?_|refine br_d (fun _=>?_) fun _=>?_|refine vM (fun _=>?_) fun _=>?_)
  refine ⟨⟨a, b, c⟩, ?_, ⟨hP⟩, ?_⟩
  ·repeat' ((conv=>whnf);first|with_reducible exact True.intro|exact vW|with_reducible refine And.intro ?_ ?_)
  unfold optS
  dsimp only
  rw [eM]
  dsimp only [Option.getD_some, Option.isSome_some, enSt, stC]
  repeat' ((conv=>whnf);first|refine vA ?_|with_reducible first|refine v8 ?_|refine Sp.mk ?_ ?_|refine vS ?_|refine vR ?_|refine vB ?_|refine br_nt ?_|refine br_tt ?_|refine br_ff ?_|refine vP ?_|refine vQ ?_|refine vT ?_|refine vF ?_|refine br_and ?_|refine br_or ?_|refine br_d (fun _=>?_) fun _=>?_|refine vM (fun _=>?_) fun _=>?_)
  refine ⟨⟨ma, mb, mc⟩, ?_, ⟨hP2⟩, ?_⟩
  ·repeat' ((conv=>whnf);first|with_reducible exact True.intro|exact vW|with_reducible refine And.intro ?_ ?_)
  dsimp only
  rw [eO2]
  dsimp only [Option.getD_some, Option.isSome_some, enDe, deC]
  repeat' ((conv=>whnf);first|refine vA ?_|with_reducible first|refine v8 ?_|refine Sp.mk ?_ ?_|refine vS ?_|refine vR ?_|refine vB ?_|refine br_nt ?_|refine br_tt ?_|refine br_ff ?_|refine vP ?_|refine vQ ?_|refine vT ?_|refine vF ?_|refine br_and ?_|refine br_or ?_|refine br_d (fun _=>?_) fun _=>?_|refine vM (fun _=>?_) fun _=>?_)
  refine ⟨⟨a, b, c⟩, ?_, ⟨hP⟩, ?_⟩
  ·repeat' ((conv=>whnf);first|with_reducible exact True.intro|exact vW|with_reducible refine And.intro ?_ ?_)
  unfold optS
  dsimp only
  rw [eY]
  dsimp only [Option.getD_some, Option.isSome_some, enSt, stC]
  repeat' ((conv=>whnf);first|refine vA ?_|with_reducible first|refine v8 ?_|refine Sp.mk ?_ ?_|refine vS ?_|refine vR ?_|refine vB ?_|refine br_nt ?_|refine br_tt ?_|refine br_ff ?_|refine vP ?_|refine vQ ?_|refine vT ?_|refine vF ?_|refine br_and ?_|refine br_or ?_|refine br_d (fun _=>?_) fun _=>?_|refine vM (fun _=>?_) fun _=>?_)
  refine ⟨⟨a, b, b.size⟩, ?_, ⟨hP3⟩, ?_⟩
  ·repeat' ((conv=>whnf);first|with_reducible exact True.intro|exact vW|with_reducible refine And.intro ?_ ?_)
  dsimp only
  rw [eO3]
  dsimp only [Option.getD_some, Option.isSome_some, enDe, deC]
  repeat' ((conv=>whnf);first|refine vA ?_|with_reducible first|refine v8 ?_|refine Sp.mk ?_ ?_|refine vS ?_|refine vR ?_|refine vB ?_|refine br_nt ?_|refine br_tt ?_|refine br_ff ?_|refine vP ?_|refine vQ ?_|refine vT ?_|refine vF ?_|refine br_and ?_|refine br_or ?_|refine br_d (fun _=>?_) fun _=>?_|refine vM (fun _=>?_) fun _=>?_)
  refine ⟨⟨⟨ep, eb, er⟩, el⟩, ?_, ⟨deskOk_I hop⟩, ?_⟩
  ·repeat' ((conv=>whnf);first|with_reducible exact True.intro|exact vW|with_reducible refine And.intro ?_ ?_)
  repeat' ((conv=>whnf);first|refine vA ?_|with_reducible first|refine v8 ?_|refine Sp.mk ?_ ?_|refine vS ?_|refine vR ?_|refine vB ?_|refine br_nt ?_|refine br_tt ?_|refine br_ff ?_|refine vP ?_|refine vQ ?_|refine vT ?_|refine vF ?_|refine br_and ?_|refine br_or ?_|refine br_d (fun _=>?_) fun _=>?_|refine vM (fun _=>?_) fun _=>?_)
  refine ⟨⟨⟨ep, eb, er⟩, el⟩, ?_, ⟨deskOk_l hop⟩, ?_⟩
  ·repeat' ((conv=>whnf);first|with_reducible exact True.intro|exact vW|with_reducible refine And.intro ?_ ?_)
  repeat' ((conv=>whnf);first|refine vA ?_|with_reducible first|refine v8 ?_|refine Sp.mk ?_ ?_|refine vS ?_|refine vR ?_|refine vB ?_|refine br_nt ?_|refine br_tt ?_|refine br_ff ?_|refine vP ?_|refine vQ ?_|refine vT ?_|refine vF ?_|refine br_and ?_|refine br_or ?_|refine br_d (fun _=>?_) fun _=>?_|refine vM (fun _=>?_) fun _=>?_)
  refine ⟨⟨⟨ep, eb, er⟩, el⟩, ?_, ⟨deskOk_l hop⟩, ?_⟩
  ·repeat' ((conv=>whnf);first|with_reducible exact True.intro|exact vW|with_reducible refine And.intro ?_ ?_)
  repeat' ((conv=>whnf);first|refine vA ?_|with_reducible first|refine v8 ?_|refine Sp.mk ?_ ?_|refine vS ?_|refine vR ?_|refine vB ?_|refine br_nt ?_|refine br_tt ?_|refine br_ff ?_|refine vP ?_|refine vQ ?_|refine vT ?_|refine vF ?_|refine br_and ?_|refine br_or ?_|refine br_d (fun _=>?_) fun _=>?_|refine vM (fun _=>?_) fun _=>?_)
  exact h
 ·rw [openS_no hS]
  dsimp only [Option.getD_none, Option.isSome_none, enDe, deC]
  repeat' ((conv=>whnf);first|refine vA ?_|with_reducible first|refine v8 ?_|refine Sp.mk ?_ ?_|refine vS ?_|refine vR ?_|refine vB ?_|refine br_nt ?_|refine br_tt ?_|refine br_ff ?_|refine vP ?_|refine vQ ?_|refine vT ?_|refine vF ?_|refine br_and ?_|refine br_or ?_|refine br_d (fun _=>?_) fun _=>?_|refine vM (fun _=>?_) fun _=>?_)
  refine ⟨⟨a, b, c⟩, ?_, ⟨hP⟩, ?_⟩
  ·repeat' ((conv=>whnf);first|with_reducible exact True.intro|exact vW|with_reducible refine And.intro ?_ ?_)
  dsimp only
  rw [openS_no hS]
  dsimp only [Option.getD_none, Option.isSome_none, enDe, deC]
  repeat' ((conv=>whnf);first|refine vA ?_|with_reducible first|refine v8 ?_|refine Sp.mk ?_ ?_|refine vS ?_|refine vR ?_|refine vB ?_|refine br_nt ?_|refine br_tt ?_|refine br_ff ?_|refine vP ?_|refine vQ ?_|refine vT ?_|refine vF ?_|refine br_and ?_|refine br_or ?_|refine br_d (fun _=>?_) fun _=>?_|refine vM (fun _=>?_) fun _=>?_)
  refine ⟨default, ?_, ⟨lenD0⟩, ?_⟩
  ·repeat' ((conv=>whnf);first|with_reducible exact True.intro|exact vW|with_reducible refine And.intro ?_ ?_)
  repeat' ((conv=>whnf);first|refine vA ?_|with_reducible first|refine v8 ?_|refine Sp.mk ?_ ?_|refine vS ?_|refine vR ?_|refine vB ?_|refine br_nt ?_|refine br_tt ?_|refine br_ff ?_|refine vP ?_|refine vQ ?_|refine vT ?_|refine vF ?_|refine br_and ?_|refine br_or ?_|refine br_d (fun _=>?_) fun _=>?_|refine vM (fun _=>?_) fun _=>?_)
  refine ⟨(), ?_, ⟨trivial⟩, ?_⟩
  ·repeat' ((conv=>whnf);first|with_reducible exact True.intro|exact vW|with_reducible refine And.intro ?_ ?_)
  repeat' ((conv=>whnf);first|refine vA ?_|with_reducible first|refine v8 ?_|refine Sp.mk ?_ ?_|refine vS ?_|refine vR ?_|refine vB ?_|refine br_nt ?_|refine br_tt ?_|refine br_ff ?_|refine vP ?_|refine vQ ?_|refine vT ?_|refine vF ?_|refine br_and ?_|refine br_or ?_|refine br_d (fun _=>?_) fun _=>?_|refine vM (fun _=>?_) fun _=>?_)
  refine ⟨⟨a, b, c⟩, ?_, ⟨hP⟩, ?_⟩
  ·repeat' ((conv=>whnf);first|with_reducible exact True.intro|exact vW|with_reducible refine And.intro ?_ ?_)
  intro o ho
  obtain rfl := isf ho hS
  repeat' ((conv=>whnf);first|refine vA ?_|with_reducible first|refine v8 ?_|refine Sp.mk ?_ ?_|refine vS ?_|refine vR ?_|refine vB ?_|refine br_nt ?_|refine br_tt ?_|refine br_ff ?_|refine vP ?_|refine vQ ?_|refine vT ?_|refine vF ?_|refine br_and ?_|refine br_or ?_|refine br_d (fun _=>?_) fun _=>?_|refine vM (fun _=>?_) fun _=>?_)
  refine ⟨(), ?_, ⟨trivial⟩, ?_⟩
  ·repeat' ((conv=>whnf);first|with_reducible exact True.intro|exact vW|with_reducible refine And.intro ?_ ?_)
  repeat' ((conv=>whnf);first|refine vA ?_|with_reducible first|refine v8 ?_|refine Sp.mk ?_ ?_|refine vS ?_|refine vR ?_|refine vB ?_|refine br_nt ?_|refine br_tt ?_|refine br_ff ?_|refine vP ?_|refine vQ ?_|refine vT ?_|refine vF ?_|refine br_and ?_|refine br_or ?_|refine br_d (fun _=>?_) fun _=>?_|refine vM (fun _=>?_) fun _=>?_)
  exact h
end Go.Proofs.YtkafoolhbflfkaaGreatDoor.Vc
end
section
/- Part YG: the law of stores told to the end. -/
namespace Go.Proofs.YtkafoolhbflfkaaGreatDoor.Vc
open Go.Proofs
set_option maxRecDepth 100000
set_option maxHeartbeats 4000000
def C247 := C259
theorem F247 : FF 51 C247 := by
 refine fitX [(76, C259)] (by simp only [List.mem_cons, List.not_mem_nil, or_false]; rintro _ rfl <;> first | exact F259) [] (by simp) Tryz.f51 ⟨rfl, by decide +kernel, by decide +kernel⟩ (by intro x K K2 hk h; (try dsimp only at h ⊢); intros; apply hk; first | exact h | (apply h <;> assumption)) ?_
 rintro s K hs h
 refine ⟨Nat.le_of_ble_eq_true rfl, ?_⟩
 repeat' ((conv=>whnf);first|refine vA ?_|with_reducible first|refine v8 ?_|refine Sp.mk ?_ ?_|refine vS ?_|refine vR ?_|refine vB ?_|refine br_nt ?_|refine br_tt ?_|refine br_ff ?_|refine vP ?_|refine vQ ?_|refine vT ?_|refine vF ?_|refine br_and ?_|refine br_or ?_|refine br_d (fun _=>?_) fun _=>?_|refine vM (fun _=>?_) fun _=>?_)
 refine ⟨s, ?_, ⟨hs⟩, ?_⟩
 ·repeat' ((conv=>whnf);first|with_reducible exact True.intro|exact vW|with_reducible refine And.intro ?_ ?_)
 repeat' ((conv=>whnf);first|refine vA ?_|with_reducible first|refine v8 ?_|refine Sp.mk ?_ ?_|refine vS ?_|refine vR ?_|refine vB ?_|refine br_nt ?_|refine br_tt ?_|refine br_ff ?_|refine vP ?_|refine vQ ?_|refine vT ?_|refine vF ?_|refine br_and ?_|refine br_or ?_|refine br_d (fun _=>?_) fun _=>?_|refine vM (fun _=>?_) fun _=>?_)
 exact h
def C306 : List AV → (AV → Prop) → Prop := con (X := List Int) (fun l => [slB l]) bytesI fun _ K => K (.bool true)
theorem F306 : FF 13 C306 := by
 refine fitX [(19, C295), (20, C276), (18, C22), (45, C280), (51, C247), (39, C284), (28, C282), (30, C134)] (by simp only [List.mem_cons, List.not_mem_nil, or_false]; rintro _ (rfl | rfl | rfl | rfl | rfl | rfl | rfl | rfl) <;> first | exact F295 | exact F276 | exact F22 | exact F280 | exact F247 | exact F284 | exact F282 | exact F134) [] (by simp) Tryz.f13 ⟨rfl, by decide +kernel, by decide +kernel⟩ (fun _ _ _ hk h => hk _ h) ?_
 rintro L K hL h
 refine ⟨Nat.le_of_ble_eq_true rfl, ?_⟩
 have hll := hL.2
 have htt : (true == true) = true := rfl
 have hff : (false == false) = true := rfl
 have hee : (⟨#[]⟩ : ByteArray) = ⟨#[]⟩ := rfl
 repeat' ((conv=>whnf);first|refine vA ?_|with_reducible first|refine v8 ?_|refine Sp.mk ?_ ?_|refine vS ?_|refine vR ?_|refine vB ?_|refine br_nt ?_|refine br_tt ?_|refine br_ff ?_|refine vP ?_|refine vQ ?_|refine vT ?_|refine vF ?_|refine br_and ?_|refine br_or ?_|refine br_d (fun _=>?_) fun _=>?_|refine vM (fun _=>?_) fun _=>?_)
 ·exact h
 refine ⟨L, ?_, ⟨hL⟩, ?_⟩
 ·repeat' ((conv=>whnf);first|with_reducible exact True.intro|exact vW|with_reducible refine And.intro ?_ ?_)
 rintro ⟨a, b, c⟩ n hd hn
 have hP := hd.P
 have hb := hd.2.1
 dsimp only [enSt, stC] at hb ⊢
 repeat' ((conv=>whnf);first|refine vA ?_|with_reducible first|refine v8 ?_|refine Sp.mk ?_ ?_|refine vS ?_|refine vR ?_|refine vB ?_|refine br_nt ?_|refine br_tt ?_|refine br_ff ?_|refine vP ?_|refine vQ ?_|refine vT ?_|refine vF ?_|refine br_and ?_|refine br_or ?_|refine br_d (fun _=>?_) fun _=>?_|refine vM (fun _=>?_) fun _=>?_)
 refine ⟨(⟨a, b, c⟩, n), ?_, ⟨hP, hn⟩, ?_⟩
 ·repeat' ((conv=>whnf);first|with_reducible exact True.intro|exact vW|with_reducible refine And.intro ?_ ?_)
 unfold optS
 dsimp only
 by_cases hg : isSt ⟨a, b, c⟩ ∧ c ≤ n ∧ n ≤ b.size
 ·obtain ⟨hS, g1, g2⟩ := hg
  obtain ⟨hS2, hsz⟩ := isSt_crash hS g1 g2
  have eC := crashS_yes hS g1 g2
  have hP2 := isSt_P hS2
  have eM := mendS_yes hS2
  obtain ⟨hE, hk⟩ := end_0 (s := ⟨a, b, c⟩) hS2
  have hml := hE.st.2.1
  have hjd := jr_ded (s := b) (by omega)
  have hjw : ∀ x ∈ jr b, x.words.size ≤ 1048576 := fun x hx => by have := (jr_mem hx).2; omega
  have hjl := jr_len b
  dsimp only at hS2 hsz eC hP2 eM hE hk hml
  rw [eC]
  dsimp only [Option.getD_some, Option.isSome_some, enSt, stC]
  generalize b.extract 0 n.toNat = u at *
  generalize mended ⟨a, u, c⟩ = M at *
  obtain ⟨ma, mb, mc⟩ := M
  dsimp only at hml hk
  repeat' ((conv=>whnf);first|refine vA ?_|with_reducible first|refine v8 ?_|refine Sp.mk ?_ ?_|refine vS ?_|refine vR ?_|refine vB ?_|refine br_nt ?_|refine br_tt ?_|refine br_ff ?_|refine vP ?_|refine vQ ?_|refine vT ?_|refine vF ?_|refine br_and ?_|refine br_or ?_|refine br_d (fun _=>?_) fun _=>?_|refine vM (fun _=>?_) fun _=>?_)
  refine ⟨⟨a, u, c⟩, ?_, ⟨hP2⟩, ?_⟩
  ·repeat' ((conv=>whnf);first|with_reducible exact True.intro|exact vW|with_reducible refine And.intro ?_ ?_)
  unfold optS
  dsimp only
  rw [eM]
  dsimp only [Option.getD_some, Option.isSome_some, enSt, stC]
  repeat' ((conv=>whnf);first|refine vA ?_|with_reducible first|refine v8 ?_|refine Sp.mk ?_ ?_|refine vS ?_|refine vR ?_|refine vB ?_|refine br_nt ?_|refine br_tt ?_|refine br_ff ?_|refine vP ?_|refine vQ ?_|refine vT ?_|refine vF ?_|refine br_and ?_|refine br_or ?_|refine br_d (fun _=>?_) fun _=>?_|refine vM (fun _=>?_) fun _=>?_)
  refine ⟨b, ?_, ⟨by omega⟩, ?_⟩
  ·repeat' ((conv=>whnf);first|with_reducible exact True.intro|exact vW|with_reducible refine And.intro ?_ ?_)
  repeat' ((conv=>whnf);first|refine vA ?_|with_reducible first|refine v8 ?_|refine Sp.mk ?_ ?_|refine vS ?_|refine vR ?_|refine vB ?_|refine br_nt ?_|refine br_tt ?_|refine br_ff ?_|refine vP ?_|refine vQ ?_|refine vT ?_|refine vF ?_|refine br_and ?_|refine br_or ?_|refine br_d (fun _=>?_) fun _=>?_|refine vM (fun _=>?_) fun _=>?_)
  refine ⟨mb, ?_, ⟨by omega⟩, ?_⟩
  ·repeat' ((conv=>whnf);first|with_reducible exact True.intro|exact vW|with_reducible refine And.intro ?_ ?_)
  repeat' ((conv=>whnf);first|refine vA ?_|with_reducible first|refine v8 ?_|refine Sp.mk ?_ ?_|refine vS ?_|refine vR ?_|refine vB ?_|refine br_nt ?_|refine br_tt ?_|refine br_ff ?_|refine vP ?_|refine vQ ?_|refine vT ?_|refine vF ?_|refine br_and ?_|refine br_or ?_|refine br_d (fun _=>?_) fun _=>?_|refine vM (fun _=>?_) fun _=>?_)
  refine Lp.mk ⟨Store × Nat, fun x => [(3, .ptr 0 0), (5, .ptr 1 0), (7, .bool true), (8, slD (jr b)), (12, .int .i64 x.2)], fun x => [.box [.str a, .str b, .int .i64 c], .box (stC x.1)], fun x => x.2 ≤ (jr b).length ∧ endI ⟨a, b, c⟩ x.1 x.2, fun x => (jr b).length - x.2, ⟨(⟨ma, mb, mc⟩, (jr mb).length), ⟨hk, hE⟩, ?_⟩, ?_⟩
  ·first | (refine ⟨⟨[some 0, some 1], [], rfl, rfl, ?_, ?_⟩⟩ <;> (repeat' ((conv=>whnf);first|with_reducible exact True.intro|exact vW|with_reducible refine And.intro ?_ ?_)) <;> fail)
  clear hE hk hml eM
  clear ma mb mc
  rintro ⟨⟨xa, xb, xc⟩, k⟩ ⟨i1, hI⟩
  have hPx := isSt_P hI.st
  dsimp only [stC] at i1 hI hPx ⊢
  by_cases hkk : k < (jr b).length
  ·have ha := hjd _ (getD_mem' (d := default) hkk)
   have hw := hjw _ (getD_mem' (d := default) hkk)
   have hy := end_yes hI hkk
   have hno := end_no hS hI hkk
   dsimp only at hy hno
   obtain ⟨A, hA⟩ : ∃ A, (jr b).getD k default = A := ⟨_, rfl⟩
   rw [hA] at ha hw hy hno
   have hA' : (jr b).getD (k : Int).toNat default = A := hA
   repeat' ((conv=>whnf);first|refine vA ?_|with_reducible first|refine v8 ?_|refine Sp.mk ?_ ?_|refine vS ?_|refine vR ?_|refine vB ?_|refine br_nt ?_|refine br_tt ?_|refine br_ff ?_|refine vP ?_|refine vQ ?_|refine vT ?_|refine vF ?_|refine br_and ?_|refine br_or ?_|refine br_d (fun _=>?_) fun _=>?_|refine vM (fun _=>?_) fun _=>?_)
   refine Dr.mk ⟨(.rd 0 (.rd 1 (.rd 2 (.rd 3 (.rd 4 (.ef 5 (.rd 6 (.rd 7 (.rd 8 (.ef 9 (.ef 10 (.rd 11 .dn) .no) .no)))) (.ef 9 (.ef 5 (.rd 6 (.rd 7 (.rd 8 (.ef 10 (.rd 11 .dn) .no)))) .no) .no))))))), by decide +kernel, ?_⟩
   repeat' ((conv=>whnf);first|refine vA ?_|with_reducible first|refine v8 ?_|refine Sp.mk ?_ ?_|refine vS ?_|refine vR ?_|refine vB ?_|refine br_nt ?_|refine br_tt ?_|refine br_ff ?_|refine vP ?_|refine vQ ?_|refine vT ?_|refine vF ?_|refine br_and ?_|refine br_or ?_|refine br_d (fun _=>?_) fun _=>?_|refine vM (fun _=>?_) fun _=>?_)
   all_goals
    refine ⟨⟨⟨xa, xb, xc⟩, A⟩, ?_, ⟨hPx, ha, hw⟩, ?_⟩
    ·repeat' ((conv=>whnf);first|with_reducible exact True.intro|exact vW|with_reducible refine And.intro ?_ ?_)
     all_goals first | exact Chk.mk (by rw [hA'])
    dsimp only
    by_cases hc : canAct ⟨xa, xb, xc⟩ A
    ·have hI2 := hy hc
     rw [actR_yes hI.st hc, actS_yes hI.st hc]
     unfold addL at hI2 ⊢
     dsimp only [Option.isSome_some, enSt, stC] at hI2 ⊢
     repeat' ((conv=>whnf);first|refine vA ?_|with_reducible first|refine v8 ?_|refine Sp.mk ?_ ?_|refine vS ?_|refine vR ?_|refine vB ?_|refine br_nt ?_|refine br_tt ?_|refine br_ff ?_|refine vP ?_|refine vQ ?_|refine vT ?_|refine vF ?_|refine br_and ?_|refine br_or ?_|refine br_d (fun _=>?_) fun _=>?_|refine vM (fun _=>?_) fun _=>?_)
     refine ⟨(⟨xa, xb ++ (deedT A ++ ⟨#[10]⟩), xc⟩, k + 1), ⟨by dsimp only; omega, hI2⟩, by dsimp only; omega, ?_⟩
     first | (refine ⟨⟨[some 0, some 1], [], rfl, rfl, ?_, ?_⟩⟩ <;> (repeat' ((conv=>whnf);first|with_reducible exact True.intro|exact vW|with_reducible refine And.intro ?_ ?_)) <;> fail)
    ·have hI2 := hno hc
     rw [actR_no hI.st hc, actS_no fun g => hc g.2]
     dsimp only [Option.isSome_none, enSt, stC]
     repeat' ((conv=>whnf);first|refine vA ?_|with_reducible first|refine v8 ?_|refine Sp.mk ?_ ?_|refine vS ?_|refine vR ?_|refine vB ?_|refine br_nt ?_|refine br_tt ?_|refine br_ff ?_|refine vP ?_|refine vQ ?_|refine vT ?_|refine vF ?_|refine br_and ?_|refine br_or ?_|refine br_d (fun _=>?_) fun _=>?_|refine vM (fun _=>?_) fun _=>?_)
     refine ⟨(⟨xa, xb, xc⟩, k + 1), ⟨by dsimp only; omega, hI2⟩, by dsimp only; omega, ?_⟩
     first | (refine ⟨⟨[some 0, some 1], [], rfl, rfl, ?_, ?_⟩⟩ <;> (repeat' ((conv=>whnf);first|with_reducible exact True.intro|exact vW|with_reducible refine And.intro ?_ ?_)) <;> fail)
  ·obtain rfl : k = (jr b).length := by omega
   have eO := openS_yes hI.st
   have eO2 := openS_yes hS
   have hop := opD_ok hS
   rw [end_all hI] at eO
   generalize opD ⟨a, b, c⟩ = D at *
   obtain ⟨⟨ep, eb, er⟩, el⟩ := D
   repeat' ((conv=>whnf);first|refine vA ?_|with_reducible first|refine v8 ?_|refine Sp.mk ?_ ?_|refine vS ?_|refine vR ?_|refine vB ?_|refine br_nt ?_|refine br_tt ?_|refine br_ff ?_|refine vP ?_|refine vQ ?_|refine vT ?_|refine vF ?_|refine br_and ?_|refine br_or ?_|refine br_d (fun _=>?_) fun _=>?_|refine vM (fun _=>?_) fun _=>?_)
   refine ⟨⟨xa, xb, xc⟩, ?_, ⟨hPx⟩, ?_⟩
   ·repeat' ((conv=>whnf);first|with_reducible exact True.intro|exact vW|with_reducible refine And.intro ?_ ?_)
   dsimp only
   rw [eO]
   dsimp only [Option.getD_some, Option.isSome_some, enDe, deC]
   repeat' ((conv=>whnf);first|refine vA ?_|with_reducible first|refine v8 ?_|refine Sp.mk ?_ ?_|refine vS ?_|refine vR ?_|refine vB ?_|refine br_nt ?_|refine br_tt ?_|refine br_ff ?_|refine vP ?_|refine vQ ?_|refine vT ?_|refine vF ?_|refine br_and ?_|refine br_or ?_|refine br_d (fun _=>?_) fun _=>?_|refine vM (fun _=>?_) fun _=>?_)
   refine ⟨⟨a, b, c⟩, ?_, ⟨hP⟩, ?_⟩
   ·repeat' ((conv=>whnf);first|with_reducible exact True.intro|exact vW|with_reducible refine And.intro ?_ ?_)
   dsimp only
   rw [eO2]
   dsimp only [Option.getD_some, Option.isSome_some, enDe, deC]
   repeat' ((conv=>whnf);first|refine vA ?_|with_reducible first|refine v8 ?_|refine Sp.mk ?_ ?_|refine vS ?_|refine vR ?_|refine vB ?_|refine br_nt ?_|refine br_tt ?_|refine br_ff ?_|refine vP ?_|refine vQ ?_|refine vT ?_|refine vF ?_|refine br_and ?_|refine br_or ?_|refine br_d (fun _=>?_) fun _=>?_|refine vM (fun _=>?_) fun _=>?_)
   refine ⟨⟨⟨ep, eb, er⟩, el⟩, ?_, ⟨deskOk_l hop⟩, ?_⟩
   ·repeat' ((conv=>whnf);first|with_reducible exact True.intro|exact vW|with_reducible refine And.intro ?_ ?_)
   repeat' ((conv=>whnf);first|refine vA ?_|with_reducible first|refine v8 ?_|refine Sp.mk ?_ ?_|refine vS ?_|refine vR ?_|refine vB ?_|refine br_nt ?_|refine br_tt ?_|refine br_ff ?_|refine vP ?_|refine vQ ?_|refine vT ?_|refine vF ?_|refine br_and ?_|refine br_or ?_|refine br_d (fun _=>?_) fun _=>?_|refine vM (fun _=>?_) fun _=>?_)
   exact h
 ·have eC := crashS_no hg
  rw [eC]
  dsimp only [Option.getD_none, Option.isSome_none, enSt, stC]
  repeat' ((conv=>whnf);first|refine vA ?_|with_reducible first|refine v8 ?_|refine Sp.mk ?_ ?_|refine vS ?_|refine vR ?_|refine vB ?_|refine br_nt ?_|refine br_tt ?_|refine br_ff ?_|refine vP ?_|refine vQ ?_|refine vT ?_|refine vF ?_|refine br_and ?_|refine br_or ?_|refine br_d (fun _=>?_) fun _=>?_|refine vM (fun _=>?_) fun _=>?_)
  refine ⟨(), ?_, ⟨trivial⟩, ?_⟩
  ·repeat' ((conv=>whnf);first|with_reducible exact True.intro|exact vW|with_reducible refine And.intro ?_ ?_)
  repeat' ((conv=>whnf);first|refine vA ?_|with_reducible first|refine v8 ?_|refine Sp.mk ?_ ?_|refine vS ?_|refine vR ?_|refine vB ?_|refine br_nt ?_|refine br_tt ?_|refine br_ff ?_|refine vP ?_|refine vQ ?_|refine vT ?_|refine vF ?_|refine br_and ?_|refine br_or ?_|refine br_d (fun _=>?_) fun _=>?_|refine vM (fun _=>?_) fun _=>?_)
  exact h
end Go.Proofs.YtkafoolhbflfkaaGreatDoor.Vc
end
section
/- Part YH: the law of stores that are never another's. -/
namespace Go.Proofs.YtkafoolhbflfkaaGreatDoor.Vc
open Go.Proofs
set_option maxRecDepth 100000
set_option maxHeartbeats 4000000
theorem opD_pre {a u : ByteArray} {c : Int} {x : Place} (hx : plOf a = x) : opD ⟨a, u, c⟩ = (runD ⟨x, []⟩ (jr u)).1 := by
 unfold opD
 dsimp only
 rw [hx]
def C307 : List AV → (AV → Prop) → Prop := con (X := List Int) (fun l => [slB l]) bytesI fun _ K => K (.bool true)
theorem F307 : FF 14 C307 := by
 refine fitX [(42, C291), (17, C222), (18, C22), (55, C218), (29, C132), (51, C247), (20, C276), (56, C253), (28, C282), (57, C242), (30, C134)] (by simp only [List.mem_cons, List.not_mem_nil, or_false]; rintro _ (rfl | rfl | rfl | rfl | rfl | rfl | rfl | rfl | rfl | rfl | rfl) <;> first | exact F291 | exact F222 | exact F22 | exact F218 | exact F132 | exact F247 | exact F276 | exact F253 | exact F282 | exact F242 | exact F134) [] (by simp) Tryz.f14 ⟨rfl, by decide +kernel, by decide +kernel⟩ (fun _ _ _ hk h => hk _ h) ?_
 rintro L K hL h
 refine ⟨Nat.le_of_ble_eq_true rfl, ?_⟩
 have hll := hL.2
 have htt : (true == true) = true := rfl
 have hff : (false == false) = true := rfl
 repeat' ((conv=>whnf);first|refine vA ?_|with_reducible first|refine v8 ?_|refine Sp.mk ?_ ?_|refine vS ?_|refine vR ?_|refine vB ?_|refine br_nt ?_|refine br_tt ?_|refine br_ff ?_|refine vP ?_|refine vQ ?_|refine vT ?_|refine vF ?_|refine br_and ?_|refine br_or ?_|refine br_d (fun _=>?_) fun _=>?_|refine vM (fun _=>?_) fun _=>?_)
 ·exact h
 refine ⟨L, ?_, ⟨hL⟩, ?_⟩
 ·repeat' ((conv=>whnf);first|with_reducible exact True.intro|exact vW|with_reducible refine And.intro ?_ ?_)
 rintro ⟨a, b, c⟩ hd
 have hP := hd.P
 have hb := hd.2.1
 dsimp only [enSt, stC] at hb ⊢
 repeat' ((conv=>whnf);first|refine vA ?_|with_reducible first|refine v8 ?_|refine Sp.mk ?_ ?_|refine vS ?_|refine vR ?_|refine vB ?_|refine br_nt ?_|refine br_tt ?_|refine br_ff ?_|refine vP ?_|refine vQ ?_|refine vT ?_|refine vF ?_|refine br_and ?_|refine br_or ?_|refine br_d (fun _=>?_) fun _=>?_|refine vM (fun _=>?_) fun _=>?_)
 refine ⟨⟨a, b, c⟩, ?_, ⟨hP⟩, ?_⟩
 ·repeat' ((conv=>whnf);first|with_reducible exact True.intro|exact vW|with_reducible refine And.intro ?_ ?_)
 intro o ho
 by_cases hS : isSt ⟨a, b, c⟩
 ·obtain rfl := ho.2 hS
  have hp := plOf_is hS
  have h0 := hS.2.2
  have hjd := jr_ded (s := b) (by omega)
  dsimp only at hp h0
  obtain ⟨y, hy⟩ : ∃ x, plOf a = x := ⟨_, rfl⟩
  rw [hy] at hp
  have hO := hp.1
  repeat' ((conv=>whnf);first|refine vA ?_|with_reducible first|refine v8 ?_|refine Sp.mk ?_ ?_|refine vS ?_|refine vR ?_|refine vB ?_|refine br_nt ?_|refine br_tt ?_|refine br_ff ?_|refine vP ?_|refine vQ ?_|refine vT ?_|refine vF ?_|refine br_and ?_|refine br_or ?_|refine br_d (fun _=>?_) fun _=>?_|refine vM (fun _=>?_) fun _=>?_)
  refine ⟨a, ?_, ⟨hP.2⟩, ?_⟩
  ·repeat' ((conv=>whnf);first|with_reducible exact True.intro|exact vW|with_reducible refine And.intro ?_ ?_)
  refine ⟨fun z q => ?_, fun q => (q ⟨_, hp⟩).elim⟩
  obtain rfl := isPt_one q hp
  have hopen : ∀ u, opD ⟨a, u, c⟩ = (runD ⟨z, []⟩ (jr u)).1 := fun u => opD_pre hy
  clear q hp hy
  obtain ⟨p, bs, rs⟩ := z
  dsimp only [enPl, plC]
  repeat' ((conv=>whnf);first|refine vA ?_|with_reducible first|refine v8 ?_|refine Sp.mk ?_ ?_|refine vS ?_|refine vR ?_|refine vB ?_|refine br_nt ?_|refine br_tt ?_|refine br_ff ?_|refine vP ?_|refine vQ ?_|refine vT ?_|refine vF ?_|refine br_and ?_|refine br_or ?_|refine br_d (fun _=>?_) fun _=>?_|refine vM (fun _=>?_) fun _=>?_)
  refine ⟨⟨p, bs, rs⟩, ?_, ⟨I_of hO⟩, ?_⟩
  ·repeat' ((conv=>whnf);first|with_reducible exact True.intro|exact vW|with_reducible refine And.intro ?_ ?_)
  unfold newDe
  dsimp only
  rw [if_pos hO, decide_eq_true hO]
  dsimp only [enDe, deC]
  have h0D := desk0_ok hO
  repeat' ((conv=>whnf);first|refine vA ?_|with_reducible first|refine v8 ?_|refine Sp.mk ?_ ?_|refine vS ?_|refine vR ?_|refine vB ?_|refine br_nt ?_|refine br_tt ?_|refine br_ff ?_|refine vP ?_|refine vQ ?_|refine vT ?_|refine vF ?_|refine br_and ?_|refine br_or ?_|refine br_d (fun _=>?_) fun _=>?_|refine vM (fun _=>?_) fun _=>?_)
  refine ⟨b, ?_, ⟨by omega⟩, ?_⟩
  ·repeat' ((conv=>whnf);first|with_reducible exact True.intro|exact vW|with_reducible refine And.intro ?_ ?_)
  repeat' ((conv=>whnf);first|refine vA ?_|with_reducible first|refine v8 ?_|refine Sp.mk ?_ ?_|refine vS ?_|refine vR ?_|refine vB ?_|refine br_nt ?_|refine br_tt ?_|refine br_ff ?_|refine vP ?_|refine vQ ?_|refine vT ?_|refine vF ?_|refine br_and ?_|refine br_or ?_|refine br_d (fun _=>?_) fun _=>?_|refine vM (fun _=>?_) fun _=>?_)
  have hcs : (b.extract (Int.toNat 0) c.toNat).size ≤ b.size := by rw [ByteArray.size_extract]; omega
  refine ⟨b.extract (Int.toNat 0) c.toNat, ?_, ⟨by omega⟩, ?_⟩
  ·repeat' ((conv=>whnf);first|with_reducible exact True.intro|exact vW|with_reducible refine And.intro ?_ ?_)
  repeat' ((conv=>whnf);first|refine vA ?_|with_reducible first|refine v8 ?_|refine Sp.mk ?_ ?_|refine vS ?_|refine vR ?_|refine vB ?_|refine br_nt ?_|refine br_tt ?_|refine br_ff ?_|refine vP ?_|refine vQ ?_|refine vT ?_|refine vF ?_|refine br_and ?_|refine br_or ?_|refine br_d (fun _=>?_) fun _=>?_|refine vM (fun _=>?_) fun _=>?_)
  refine Lp.mk ⟨Nat, fun i => [(3, .ptr 0 0), (5, .bool true), (6, .ptr 1 0), (7, .bool true), (8, slD (jr b)), (10, slD (jr (b.extract (Int.toNat 0) c.toNat))), (12, .int .i64 i)], fun _ => [.box [.str a, .str b, .int .i64 c], .box [.int .i64 p, slI bs, slS rs, slP []]], fun i => c ≤ i ∧ i ≤ b.size + 1, fun i => b.size + 1 - i, ⟨c.toNat, ⟨by omega, by omega⟩, ?_⟩, ?_⟩
  ·first | (refine ⟨⟨[some 0, some 2], [], rfl, rfl, ?_, ?_⟩⟩ <;> (repeat' ((conv=>whnf);first|with_reducible exact True.intro|exact vW|with_reducible refine And.intro ?_ ?_)) <;> fail)
  rintro i ⟨i1, i2⟩
  dsimp only
  by_cases hi : i ≤ b.size
  ·have eC := crashS_yes hS i1 (by omega : (i : Int) ≤ ((b.size : Nat) : Int))
   obtain ⟨hS2, hsz⟩ := isSt_crash hS i1 (by omega : (i : Int) ≤ ((b.size : Nat) : Int))
   have hpre := jr_pre b i
   have hmono := jr_mono (s := b) (n := c.toNat) (m := i) (by omega)
   have hopu := hopen (b.extract 0 i)
   dsimp only at eC hS2 hsz
   rw [Int.toNat_natCast] at eC hS2 hsz
   have hjs := jr_len b
   have hju : ∀ x ∈ jr (b.extract 0 i), dedI x := jr_ded (by omega)
   rw [show (b.extract 0 c.toNat) = b.extract (Int.toNat 0) c.toNat from rfl] at hmono
   generalize hu : b.extract 0 i = u at eC hS2 hsz hpre hmono hopu hju
   have hP2 := isSt_P hS2
   obtain ⟨p1, p2, p3⟩ := hpre
   repeat' ((conv=>whnf);first|refine vA ?_|with_reducible first|refine v8 ?_|refine Sp.mk ?_ ?_|refine vS ?_|refine vR ?_|refine vB ?_|refine br_nt ?_|refine br_tt ?_|refine br_ff ?_|refine vP ?_|refine vQ ?_|refine vT ?_|refine vF ?_|refine br_and ?_|refine br_or ?_|refine br_d (fun _=>?_) fun _=>?_|refine vM (fun _=>?_) fun _=>?_)
   refine ⟨(⟨a, b, c⟩, i), ?_, ⟨hP, by unfold i64r; dsimp only; omega⟩, ?_⟩
   ·repeat' ((conv=>whnf);first|with_reducible exact True.intro|exact vW|with_reducible refine And.intro ?_ ?_)
   unfold optS
   dsimp only
   rw [eC]
   dsimp only [Option.getD_some, Option.isSome_some, enSt, stC]
   repeat' ((conv=>whnf);first|refine vA ?_|with_reducible first|refine v8 ?_|refine Sp.mk ?_ ?_|refine vS ?_|refine vR ?_|refine vB ?_|refine br_nt ?_|refine br_tt ?_|refine br_ff ?_|refine vP ?_|refine vQ ?_|refine vT ?_|refine vF ?_|refine br_and ?_|refine br_or ?_|refine br_d (fun _=>?_) fun _=>?_|refine vM (fun _=>?_) fun _=>?_)
   refine ⟨u, ?_, ⟨by omega⟩, ?_⟩
   ·repeat' ((conv=>whnf);first|with_reducible exact True.intro|exact vW|with_reducible refine And.intro ?_ ?_)
   repeat' ((conv=>whnf);first|refine vA ?_|with_reducible first|refine v8 ?_|refine Sp.mk ?_ ?_|refine vS ?_|refine vR ?_|refine vB ?_|refine br_nt ?_|refine br_tt ?_|refine br_ff ?_|refine vP ?_|refine vQ ?_|refine vT ?_|refine vF ?_|refine br_and ?_|refine br_or ?_|refine br_d (fun _=>?_) fun _=>?_|refine vM (fun _=>?_) fun _=>?_)
   have hmin : (if ((jr b).length : Int) < ((jr u).length : Int) then ((jr b).length : Int) else ((jr u).length : Int)) = ((jr u).length : Int) := if_neg (by omega)
   have hcl : ∀ i, i < (jr u).length → (jr u).getD i default = (jr b).getD i default := fun i hi => by
    conv => lhs; rw [p1]
    rw [List.getD_eq_getElem?_getD, List.getElem?_take, if_pos hi, ← List.getD_eq_getElem?_getD]
   rw [hmin]
   refine ⟨jr u, ?_, ⟨by have := jr_len u; omega⟩, ?_⟩
   ·repeat' ((conv=>whnf);first|with_reducible exact True.intro|exact vW|with_reducible refine And.intro ?_ ?_)
    all_goals exact Chk.mk ⟨(Nat.sub_zero _ : (((jr u).length : Nat) : Int).toNat - Int.toNat 0 = (jr u).length), fun j hj => by
     have hj' : j < (jr u).length := hj
     show encD ((jr b).getD (Int.toNat 0 + j) default) = encD ((jr u).getD j default)
     rw [show Int.toNat 0 + j = j from Nat.zero_add j, hcl j hj']⟩
   repeat' ((conv=>whnf);first|refine vA ?_|with_reducible first|refine v8 ?_|refine Sp.mk ?_ ?_|refine vS ?_|refine vR ?_|refine vB ?_|refine br_nt ?_|refine br_tt ?_|refine br_ff ?_|refine vP ?_|refine vQ ?_|refine vT ?_|refine vF ?_|refine br_and ?_|refine br_or ?_|refine br_d (fun _=>?_) fun _=>?_|refine vM (fun _=>?_) fun _=>?_)
   refine ⟨⟨a, u, c⟩, ?_, ⟨hP2⟩, ?_⟩
   ·repeat' ((conv=>whnf);first|with_reducible exact True.intro|exact vW|with_reducible refine And.intro ?_ ?_)
   dsimp only
   rw [openS_yes hS2, hopu]
   have hrun := runD_ok h0D (jr u)
   have hXe : runX ⟨⟨p, bs, rs⟩, []⟩ (jr u) = if (jr u).length ≤ 40 then runD ⟨⟨p, bs, rs⟩, []⟩ (jr u) else (default, 0) := by
    unfold runX
    by_cases h40 : (jr u).length ≤ 40
    ·rw [if_pos ⟨h0D, h40⟩, if_pos h40]
    ·rw [if_neg fun q => h40 q.2, if_neg h40]
   generalize hR : runD ⟨⟨p, bs, rs⟩, []⟩ (jr u) = R at hrun hXe ⊢
   obtain ⟨⟨⟨ep, eb, er⟩, el⟩, en⟩ := R
   dsimp only at hrun
   dsimp only [Option.getD_some, Option.isSome_some, enDe, deC]
   repeat' ((conv=>whnf);first|refine vA ?_|with_reducible first|refine v8 ?_|refine Sp.mk ?_ ?_|refine vS ?_|refine vR ?_|refine vB ?_|refine br_nt ?_|refine br_tt ?_|refine br_ff ?_|refine vP ?_|refine vQ ?_|refine vT ?_|refine vF ?_|refine br_and ?_|refine br_or ?_|refine br_d (fun _=>?_) fun _=>?_|refine vM (fun _=>?_) fun _=>?_)
   refine ⟨⟨⟨⟨p, bs, rs⟩, []⟩, jr u⟩, ?_, ⟨deskOk_I h0D, hju, by have := jr_len u; dsimp only; omega⟩, ?_⟩
   ·repeat' ((conv=>whnf);first|with_reducible exact True.intro|exact vW|with_reducible refine And.intro ?_ ?_)
   dsimp only
   rw [hXe]
   by_cases h40 : (jr u).length ≤ 40
   ·rw [if_pos h40]
    dsimp only [enDe, deC]
    repeat' ((conv=>whnf);first|refine vA ?_|with_reducible first|refine v8 ?_|refine Sp.mk ?_ ?_|refine vS ?_|refine vR ?_|refine vB ?_|refine br_nt ?_|refine br_tt ?_|refine br_ff ?_|refine vP ?_|refine vQ ?_|refine vT ?_|refine vF ?_|refine br_and ?_|refine br_or ?_|refine br_d (fun _=>?_) fun _=>?_|refine vM (fun _=>?_) fun _=>?_)
    refine ⟨⟨⟨ep, eb, er⟩, el⟩, ?_, ⟨deskOk_l hrun⟩, ?_⟩
    ·repeat' ((conv=>whnf);first|with_reducible exact True.intro|exact vW|with_reducible refine And.intro ?_ ?_)
    repeat' ((conv=>whnf);first|refine vA ?_|with_reducible first|refine v8 ?_|refine Sp.mk ?_ ?_|refine vS ?_|refine vR ?_|refine vB ?_|refine br_nt ?_|refine br_tt ?_|refine br_ff ?_|refine vP ?_|refine vQ ?_|refine vT ?_|refine vF ?_|refine br_and ?_|refine br_or ?_|refine br_d (fun _=>?_) fun _=>?_|refine vM (fun _=>?_) fun _=>?_)
    refine ⟨i + 1, ⟨by omega, by omega⟩, by omega, ?_⟩
    first | (refine ⟨⟨[some 0, some 1], [], rfl, rfl, ?_, ?_⟩⟩ <;> (repeat' ((conv=>whnf);first|with_reducible exact True.intro|exact vW|with_reducible refine And.intro ?_ ?_)) <;> fail)
   ·rw [if_neg h40]
    dsimp only [enDe, deC]
    repeat' ((conv=>whnf);first|refine vA ?_|with_reducible first|refine v8 ?_|refine Sp.mk ?_ ?_|refine vS ?_|refine vR ?_|refine vB ?_|refine br_nt ?_|refine br_tt ?_|refine br_ff ?_|refine vP ?_|refine vQ ?_|refine vT ?_|refine vF ?_|refine br_and ?_|refine br_or ?_|refine br_d (fun _=>?_) fun _=>?_|refine vM (fun _=>?_) fun _=>?_)
    refine ⟨i + 1, ⟨by omega, by omega⟩, by omega, ?_⟩
    first | (refine ⟨⟨[some 0, some 1], [], rfl, rfl, ?_, ?_⟩⟩ <;> (repeat' ((conv=>whnf);first|with_reducible exact True.intro|exact vW|with_reducible refine And.intro ?_ ?_)) <;> fail)
  ·repeat' ((conv=>whnf);first|refine vA ?_|with_reducible first|refine v8 ?_|refine Sp.mk ?_ ?_|refine vS ?_|refine vR ?_|refine vB ?_|refine br_nt ?_|refine br_tt ?_|refine br_ff ?_|refine vP ?_|refine vQ ?_|refine vT ?_|refine vF ?_|refine br_and ?_|refine br_or ?_|refine br_d (fun _=>?_) fun _=>?_|refine vM (fun _=>?_) fun _=>?_)
   exact h
 ·obtain rfl := isf ho hS
  repeat' ((conv=>whnf);first|refine vA ?_|with_reducible first|refine v8 ?_|refine Sp.mk ?_ ?_|refine vS ?_|refine vR ?_|refine vB ?_|refine br_nt ?_|refine br_tt ?_|refine br_ff ?_|refine vP ?_|refine vQ ?_|refine vT ?_|refine vF ?_|refine br_and ?_|refine br_or ?_|refine br_d (fun _=>?_) fun _=>?_|refine vM (fun _=>?_) fun _=>?_)
  refine ⟨(), ?_, ⟨trivial⟩, ?_⟩
  ·repeat' ((conv=>whnf);first|with_reducible exact True.intro|exact vW|with_reducible refine And.intro ?_ ?_)
  repeat' ((conv=>whnf);first|refine vA ?_|with_reducible first|refine v8 ?_|refine Sp.mk ?_ ?_|refine vS ?_|refine vR ?_|refine vB ?_|refine br_nt ?_|refine br_tt ?_|refine br_ff ?_|refine vP ?_|refine vQ ?_|refine vT ?_|refine vF ?_|refine br_and ?_|refine br_or ?_|refine br_d (fun _=>?_) fun _=>?_|refine vM (fun _=>?_) fun _=>?_)
  exact h
end Go.Proofs.YtkafoolhbflfkaaGreatDoor.Vc
end
section
/- Part ZS0: the dual of a term (as in ZS, for seats without swings). -/
namespace Go.Proofs.YtkafoolhbflfkaaGreatDoor.Vc
open Go.Proofs
set_option maxRecDepth 10000
set_option maxHeartbeats 4000000
end Go.Proofs.YtkafoolhbflfkaaGreatDoor.Vc
end
section
/- Part YI: the law of mended stores. -/
namespace Go.Proofs.YtkafoolhbflfkaaGreatDoor.Vc
open Go.Proofs
set_option maxRecDepth 100000
set_option maxHeartbeats 4000000
end Go.Proofs.YtkafoolhbflfkaaGreatDoor.Vc
end
section
/- Part BASE: all that the rows of this seat lean on. -/
namespace Go.Proofs.YtkafoolhbflfkaaGreatDoor.Vc
end Go.Proofs.YtkafoolhbflfkaaGreatDoor.Vc
end
