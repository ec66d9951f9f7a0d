/- Part ZC: what a term says, by the program. -/
import Derived.Test.YtkafoolhbflfkaaGreatDoorVc7
section
namespace Go.Proofs.YtkafoolhbflfkaaGreatDoor.Vc
open Go.Proofs
set_option maxRecDepth 10000
set_option maxHeartbeats 4000000
def bl (s : List Bool) (j : Nat) : List AV := [.bool (s.reverse.getD j false)]
theorem push_len {bs : List Int} {c : Int} {m : Mark} {s : List Bool} (hk : m.kind = 0) : (stepS bs c m s).length = s.length + 1 := by
 unfold stepS
 rw [if_pos hk]
 rfl
theorem push_ext {bs : List Int} {c : Int} {m : Mark} {s : List Bool} {g : Nat → List AV} (hk : m.kind = 0) (hg : g 0 = [.bool (cnt bs c m)]) : (stepS bs c m s).length = s.length + 1 ∧ ∀ j, j < (stepS bs c m s).length → bl (stepS bs c m s) j = appF s.length (bl s) g j := by
 unfold stepS
 rw [if_pos hk]
 refine ⟨rfl, fun j hj => ?_⟩
 simp only [List.length_cons] at hj
 unfold appF bl
 rw [List.reverse_cons, List.getD_eq_getElem?_getD, List.getElem?_append]
 cases hb : Nat.blt j s.length with
 |true =>
  have : j < s.length := Nat.le_of_ble_eq_true hb
  rw [if_pos (by simpa using this), ← List.getD_eq_getElem?_getD]
  rfl
 |false =>
  have : ¬ j < s.length := fun h => by
   have : Nat.blt j s.length = true := Nat.ble_eq_true_of_le h
   rw [this] at hb; cases hb
  have : j = s.length := by omega
  subst this
  rw [if_neg (by simp)]
  simp [hg]
theorem rev_a {b a : Bool} {r : List Bool} : (b :: a :: r).reverse.getD r.length false = a := by
 simp [List.getD_eq_getElem?_getD]
theorem rev_b {b a : Bool} {r : List Bool} : (b :: a :: r).reverse.getD (r.length + 1) false = b := by
 simp [List.getD_eq_getElem?_getD]
theorem conn_len {bs : List Int} {c : Int} {m : Mark} {b a : Bool} {r : List Bool} {n : Nat} (hk : m.kind ≠ 0) (hn : n = r.length) : (stepS bs c m (b :: a :: r)).length = n + 1 := by
 subst hn
 unfold stepS
 rw [if_neg hk]
 rfl
theorem conn_ext {bs : List Int} {c : Int} {m : Mark} {b a v : Bool} {r : List Bool} {g : Nat → List AV} {n : Nat} (hk : m.kind ≠ 0) (hv : v = if m.kind = 2 then a || b else a && b) (hn : n = r.length) (hg : g 0 = [.bool v]) : (stepS bs c m (b :: a :: r)).length = n + 1 ∧ (∀ j, j < (stepS bs c m (b :: a :: r)).length → bl (stepS bs c m (b :: a :: r)) j = appF n (bl (b :: a :: r)) g j) := by
 subst hn
 unfold stepS
 rw [if_neg hk]
 dsimp only
 rw [← hv]
 refine ⟨rfl, fun j hj => ?_⟩
 simp only [List.length_cons] at hj
 unfold appF bl
 rw [List.reverse_cons, List.getD_eq_getElem?_getD, List.getElem?_append]
 cases hb : Nat.blt j r.length with
 |true =>
  have h1 : j < r.length := Nat.le_of_ble_eq_true hb
  rw [if_pos (by simpa using h1)]
  simp [List.getD_eq_getElem?_getD, List.getElem?_append, h1]
  try rw [if_pos (by omega)]
 |false =>
  have : ¬ j < r.length := fun h => by
   have : Nat.blt j r.length = true := Nat.ble_eq_true_of_le h
   rw [this] at hb; cases hb
  have : j = r.length := by omega
  subst this
  rw [if_neg (by simp)]
  simp [hg]
def C39 : List AV → (AV → Prop) → Prop := con (X := Sy) (fun x => [house x.p x.bs, slM x.t, .int .i64 x.c]) (fun x => sayOk x ∧ x.t.length ≤ 9) fun x K => K (.bool (says x.bs x.c x.t))
theorem F39 : FF 161 C39 := by
 refine fitE [(120, C50)] (by simp only [List.mem_cons, List.not_mem_nil, or_false]; rintro _ rfl <;> first | exact F50) Tryz.f161 ⟨rfl, by decide +kernel, by decide +kernel⟩ (fun _ _ _ hk h => hk _ h) ?_
 rintro ⟨p, bs, t, c⟩ K ⟨⟨h1, h2, h3, h4, h5⟩, h6⟩ h
 refine ⟨Nat.le_of_ble_eq_true rfl, ?_⟩
 dsimp only at h h1 h2 h3 h4 h5 h6 ⊢
 repeat' ((conv=>whnf);first|refine vA ?_|with_reducible first|refine v8 ?_|refine Sp.mk ?_ ?_|refine vS ?_|refine vR ?_|refine vB ?_|refine br_nt ?_|refine br_tt ?_|refine br_ff ?_|refine vP ?_|refine vQ ?_|refine vT ?_|refine vF ?_|refine br_and ?_|refine br_or ?_|refine br_d (fun _=>?_) fun _=>?_|refine vM (fun _=>?_) fun _=>?_)
 refine Lp.mk ⟨Nat, fun i => [(2, .int .i64 c), (3, .ptr 0 0), (6, .bool false), (7, .row 1 1 0 (runS bs c (t.take i) []).length), (14, slM t), (15, .int .i64 t.length), (16, .int .i64 i)],
  fun i => [.box [.int .i64 p, slI bs], .row 1 (runS bs c (t.take i) []).length (bl (runS bs c (t.take i) []))], fun i => i ≤ t.length, fun i => t.length - i, ⟨0, Nat.zero_le _, ⟨⟨[some 0, none], [], rfl, rfl, ?_, ?_⟩⟩⟩, ?_⟩
 ·repeat' ((conv=>whnf);first|with_reducible exact True.intro|exact vW|with_reducible refine And.intro ?_ ?_)
 ·repeat' ((conv=>whnf);first|with_reducible exact True.intro|exact vW|with_reducible refine And.intro ?_ ?_)
 intro i i1
 obtain ⟨q, hq⟩ := walk_prefix h2 i
 have hl := (runS_frame (bs := bs) (c := c) (t.take i) [] [] q hq).2
 have hql : q ≤ i := by
  have := walkP_le bs _ _ _ hq
  simp only [List.length_take] at this
  omega
 have hst : i < t.length → ∃ q', stepP bs (t.getD i default) q = some q' := fun hi => by
  obtain ⟨q', hq'⟩ := walk_prefix h2 (i + 1)
  rw [walkP_take hi hq] at hq'
  exact ⟨q', hq'⟩
 have hnx : i < t.length → runS bs c (t.take (i + 1)) [] = stepS bs c (t.getD i default) (runS bs c (t.take i) []) := fun hi => by
  rw [take_succ' default hi, runS_app]
  rfl
 have hend : ¬ i < t.length → runS bs c (t.take i) [] = runS bs c t [] := fun hi => by rw [List.take_of_length_le (by omega)]
 dsimp only
 generalize hs : runS bs c (t.take i) [] = s at *
 have hat : i < t.length → (t.getD (i : Int).toNat default).kind = 0 → 0 ≤ (t.getD (i : Int).toNat default).at_ ∧ (t.getD (i : Int).toNat default).at_ < bs.length := fun hi hk => by
  obtain ⟨q', e⟩ := hst hi
  replace hk : (t.getD i default).kind = 0 := hk
  show 0 ≤ (t.getD i default).at_ ∧ (t.getD i default).at_ < bs.length
  unfold stepP at e
  split at e
  ·omega
  ·rw [if_neg (by omega)] at e; cases e
 have h2s : i < t.length → ¬ (t.getD (i : Int).toNat default).kind = 0 → 2 ≤ s.length := fun hi hk => by
  obtain ⟨q', e⟩ := hst hi
  rcases stepP_kind e with ⟨g, _⟩ | ⟨_, _, g, _⟩
  ·exact absurd g hk
  ·omega
 repeat' ((conv=>whnf);first|refine vA ?_|with_reducible first|refine v8 ?_|refine Sp.mk ?_ ?_|refine vS ?_|refine vR ?_|refine vB ?_|refine br_nt ?_|refine br_tt ?_|refine br_ff ?_|refine vP ?_|refine vQ ?_|refine vT ?_|refine vF ?_|refine br_and ?_|refine br_or ?_|refine br_d (fun _=>?_) fun _=>?_|refine vM (fun _=>?_) fun _=>?_)
 ·rename_i hi hk
  have hi : i < t.length := by omega
  have hb := hat hi hk
  refine Dr.mk ⟨(.rd 0 (.rd 1 (.rd 2 (.rd 3 (.rd 4 (.rd 5 (.rd 6 (.rd 7 (.rd 8 (.rd 10 (.rd 11 (.ef 9 (.rd 12 (.ef 13 (.ef 14 (.rd 15 .dn) .no) .no)) .no)))))))))))), by decide +kernel, ?_⟩
  repeat' ((conv=>whnf);first|refine vA ?_|with_reducible first|refine v8 ?_|refine Sp.mk ?_ ?_|refine vS ?_|refine vR ?_|refine vB ?_|refine br_nt ?_|refine br_tt ?_|refine br_ff ?_|refine vP ?_|refine vQ ?_|refine vT ?_|refine vF ?_|refine br_and ?_|refine br_or ?_|refine br_d (fun _=>?_) fun _=>?_|refine vM (fun _=>?_) fun _=>?_)
  have hb2 := h3 _ (getD_mem' (l := bs) (i := (t.getD (i : Int).toNat default).at_.toNat) (d := 0) (by omega))
  have hb3 := band_lt hb2.1 hb2.2 h4 h5
  refine ⟨band (bs.getD (t.getD (i : Int).toNat default).at_.toNat 0) c, ?_, ⟨hb3⟩, ?_⟩
  ·repeat' ((conv=>whnf);first|with_reducible exact True.intro|exact vW|with_reducible refine And.intro ?_ ?_)
  repeat' ((conv=>whnf);first|refine vA ?_|with_reducible first|refine v8 ?_|refine Sp.mk ?_ ?_|refine vS ?_|refine vR ?_|refine vB ?_|refine br_nt ?_|refine br_tt ?_|refine br_ff ?_|refine vP ?_|refine vQ ?_|refine vT ?_|refine vF ?_|refine br_and ?_|refine br_or ?_|refine br_d (fun _=>?_) fun _=>?_|refine vM (fun _=>?_) fun _=>?_)
  refine ⟨i + 1, by show i + 1 ≤ t.length; omega, by show t.length - (i + 1) < t.length - i; omega, ⟨⟨[some 0, some 4], [], rfl, rfl, ?_, ?_⟩⟩⟩
  ·repeat' ((conv=>whnf);first|with_reducible exact True.intro|exact vW|with_reducible refine And.intro ?_ ?_)
   (conv => whnf)
   refine Chk.mk ⟨rfl, ?_⟩
   rw [hnx hi]
   exact push_len hk
  ·repeat' ((conv=>whnf);first|with_reducible exact True.intro|exact vW|with_reducible refine And.intro ?_ ?_)
   (conv => whnf)
   refine Chk.mk ?_
   rw [hnx hi]
   exact push_ext hk rfl
 ·rename_i hi hk
  have hi : i < t.length := by omega
  have hb := h2s hi hk
  replace hk : (t.getD i default).kind ≠ 0 := hk
  match s, hb, hnx with
  |b :: a :: r, hb, hnx =>
   have n2 : (((b :: a :: r).length : Int) - 2).toNat = r.length := by simp only [List.length_cons]; omega
   have n1 : (((b :: a :: r).length : Int) - 1).toNat = r.length + 1 := by simp only [List.length_cons]; omega
   have ea : (b :: a :: r).reverse.getD (0 + (((b :: a :: r).length : Int) - 2).toNat) false = a := by rw [n2, Nat.zero_add]; exact rev_a
   have eb : (b :: a :: r).reverse.getD (0 + (((b :: a :: r).length : Int) - 1).toNat) false = b := by rw [n1, Nat.zero_add]; exact rev_b
   refine Dr.mk ⟨(.rd 0 (.rd 1 (.rd 2 (.rd 3 (.rd 4 (.rd 5 (.rd 6 (.rd 7 (.rd 8 (.rd 9 (.rd 10 (.rd 11 (.rd 12 (.rd 13 .dn)))))))))))))), by decide +kernel, ?_⟩
   repeat' ((conv=>whnf);first|refine vA ?_|with_reducible first|refine v8 ?_|refine Sp.mk ?_ ?_|refine vS ?_|refine vR ?_|refine vB ?_|refine br_nt ?_|refine br_tt ?_|refine br_ff ?_|refine vP ?_|refine vQ ?_|refine vT ?_|refine vF ?_|refine br_and ?_|refine br_or ?_|refine br_d (fun _=>?_) fun _=>?_|refine vM (fun _=>?_) fun _=>?_)
   all_goals
    rename_i g1 g2
    replace g1 := ea.symm.trans g1
   all_goals
    refine ⟨i + 1, by show i + 1 ≤ t.length; omega, by show t.length - (i + 1) < t.length - i; omega, ⟨⟨[some 0, some 4], [], rfl, rfl, ?_, ?_⟩⟩⟩
    ·repeat' ((conv=>whnf);first|with_reducible exact True.intro|exact vW|with_reducible refine And.intro ?_ ?_)
     all_goals
      (conv => whnf)
      refine Chk.mk ⟨rfl, ?_⟩
      rw [hnx hi]
      exact conn_len hk n2
    ·repeat' ((conv=>whnf);first|with_reducible exact True.intro|exact vW|with_reducible refine And.intro ?_ ?_)
     all_goals
      (conv => whnf)
      refine Chk.mk ?_
      rw [hnx hi]
      refine conn_ext hk ?_ n2 rfl
      first
       |(rw [if_pos (show (t.getD i default).kind = 2 from g2)]; first | (rw [g1]; rfl) | (refine eb.trans ?_; rw [g1]; rfl))
       |(rw [if_neg (show ¬ (t.getD i default).kind = 2 from g2)]; first | (rw [g1]; rfl) | (refine eb.trans ?_; rw [g1]; rfl))
 have e := hend (by omega)
 obtain ⟨v, hv⟩ := List.length_eq_one_iff.1 (runS_frame (bs := bs) (c := c) t [] [] 1 h2).2
 rw [hv] at e
 subst e
 have hsay : says bs c t = v := by unfold says; rw [hv]; rfl
 rw [hsay] at h
 repeat' ((conv=>whnf);first|refine vA ?_|with_reducible first|refine v8 ?_|refine Sp.mk ?_ ?_|refine vS ?_|refine vR ?_|refine vB ?_|refine br_nt ?_|refine br_tt ?_|refine br_ff ?_|refine vP ?_|refine vQ ?_|refine vT ?_|refine vF ?_|refine br_and ?_|refine br_or ?_|refine br_d (fun _=>?_) fun _=>?_|refine vM (fun _=>?_) fun _=>?_)
 exact h
end Go.Proofs.YtkafoolhbflfkaaGreatDoor.Vc
end
section
/- Part XI: slices.Equal, slices.Delete, and what an amendment asks. -/
namespace Go.Proofs.YtkafoolhbflfkaaGreatDoor.Vc
open Go.Proofs Go.RowKit Go.Lib Go.Sort
set_option maxRecDepth 10000
set_option maxHeartbeats 4000000
/-! ### slices.Equal -/
theorem eq_of_getD {α : Type} [Inhabited α] {d : α} {l m : List α} (hl : l.length = m.length) (h : ∀ i, i < l.length → l.getD i d = m.getD i d) : l = m := by
 apply List.ext_getElem hl
 intro i h1 h2
 have := h i h1
 rwa [List.getD_eq_getElem?_getD, List.getD_eq_getElem?_getD, List.getElem?_eq_getElem h1, List.getElem?_eq_getElem h2] at this
def C268 : List AV → (AV → Prop) → Prop := con (X := List Int × List Int) (fun x => [slI x.1, slI x.2]) (fun x => x.1.length < 9223372036854775808) fun x K => K (.bool (decide (x.1 = x.2)))
theorem F268 : FF 142 C268 := by
 refine fitE [] (by simp) Tryz.f142 ⟨rfl, by decide +kernel, by decide +kernel⟩ (fun _ _ _ hk h => hk _ h) ?_
 rintro ⟨l, m⟩ K h1 h
 refine ⟨Nat.le_of_ble_eq_true rfl, ?_⟩
 dsimp only at h h1 ⊢
 by_cases hlen : l.length = m.length
 ·repeat' ((conv=>whnf);first|refine vA ?_|with_reducible first|refine v8 ?_|refine Sp.mk ?_ ?_|refine vS ?_|refine vR ?_|refine vB ?_|refine br_nt ?_|refine br_tt ?_|refine br_ff ?_|refine vP ?_|refine vQ ?_|refine vT ?_|refine vF ?_|refine br_and ?_|refine br_or ?_|refine br_d (fun _=>?_) fun _=>?_|refine vM (fun _=>?_) fun _=>?_)
  refine Lp.mk ⟨Nat, fun i => [(0, slI l), (1, slI m), (12, .int .i64 l.length), (13, .int .i64 i)], fun _ => [], fun i => i ≤ l.length ∧ ∀ j, j < i → l.getD j 0 = m.getD j 0, fun i => l.length - i, ⟨0, ⟨Nat.zero_le _, fun j hj => absurd hj (Nat.not_lt_zero _)⟩, ⟨⟨[], [], rfl, rfl, ?_, ?_⟩⟩⟩, ?_⟩
  ·repeat' ((conv=>whnf);first|with_reducible exact True.intro|exact vW|with_reducible refine And.intro ?_ ?_)
  ·repeat' ((conv=>whnf);first|with_reducible exact True.intro|exact vW|with_reducible refine And.intro ?_ ?_)
  rintro i ⟨i1, i2⟩
  dsimp only
  repeat' ((conv=>whnf);first|refine vA ?_|with_reducible first|refine v8 ?_|refine Sp.mk ?_ ?_|refine vS ?_|refine vR ?_|refine vB ?_|refine br_nt ?_|refine br_tt ?_|refine br_ff ?_|refine vP ?_|refine vQ ?_|refine vT ?_|refine vF ?_|refine br_and ?_|refine br_or ?_|refine br_d (fun _=>?_) fun _=>?_|refine vM (fun _=>?_) fun _=>?_)
  ·rename_i hi
   refine Dr.mk ⟨(.rd 0 (.rd 1 (.rd 2 (.rd 3 (.rd 4 (.rd 5 (.rd 6 (.rd 7 (.rd 8 .dn))))))))), by decide +kernel, ?_⟩
   repeat' ((conv=>whnf);first|refine vA ?_|with_reducible first|refine v8 ?_|refine Sp.mk ?_ ?_|refine vS ?_|refine vR ?_|refine vB ?_|refine br_nt ?_|refine br_tt ?_|refine br_ff ?_|refine vP ?_|refine vQ ?_|refine vT ?_|refine vF ?_|refine br_and ?_|refine br_or ?_|refine br_d (fun _=>?_) fun _=>?_|refine vM (fun _=>?_) fun _=>?_)
   ·rename_i he
    replace he : l.getD i 0 = m.getD i 0 := he
    refine ⟨i + 1, ⟨by omega, fun j hj => ?_⟩, by omega, ⟨⟨[], [], rfl, rfl, ?_, ?_⟩⟩⟩
    ·by_cases e : j = i
     ·subst e; exact he
     ·exact i2 j (by omega)
    ·repeat' ((conv=>whnf);first|with_reducible exact True.intro|exact vW|with_reducible refine And.intro ?_ ?_)
    ·repeat' ((conv=>whnf);first|with_reducible exact True.intro|exact vW|with_reducible refine And.intro ?_ ?_)
   ·rename_i he
    replace he : ¬ l.getD i 0 = m.getD i 0 := he
    exact yesF h fun q => he (by rw [q])
  ·rename_i hi
   exact yesT h (eq_of_getD (d := 0) hlen fun j hj => i2 j (by omega))
 ·repeat' ((conv=>whnf);first|refine vA ?_|with_reducible first|refine v8 ?_|refine Sp.mk ?_ ?_|refine vS ?_|refine vR ?_|refine vB ?_|refine br_nt ?_|refine br_tt ?_|refine br_ff ?_|refine vP ?_|refine vQ ?_|refine vT ?_|refine vF ?_|refine br_and ?_|refine br_or ?_|refine br_d (fun _=>?_) fun _=>?_|refine vM (fun _=>?_) fun _=>?_)
  exact yesF h fun q => hlen (by rw [q])
def C269 : List AV → (AV → Prop) → Prop := con (X := List ByteArray × List ByteArray) (fun x => [slS x.1, slS x.2]) (fun x => x.1.length < 9223372036854775808) fun x K => K (.bool (decide (x.1 = x.2)))
theorem F269 : FF 143 C269 := by
 refine fitE [] (by simp) Tryz.f143 ⟨rfl, by decide +kernel, by decide +kernel⟩ (fun _ _ _ hk h => hk _ h) ?_
 rintro ⟨l, m⟩ K h1 h
 refine ⟨Nat.le_of_ble_eq_true rfl, ?_⟩
 dsimp only at h h1 ⊢
 by_cases hlen : l.length = m.length
 ·repeat' ((conv=>whnf);first|refine vA ?_|with_reducible first|refine v8 ?_|refine Sp.mk ?_ ?_|refine vS ?_|refine vR ?_|refine vB ?_|refine br_nt ?_|refine br_tt ?_|refine br_ff ?_|refine vP ?_|refine vQ ?_|refine vT ?_|refine vF ?_|refine br_and ?_|refine br_or ?_|refine br_d (fun _=>?_) fun _=>?_|refine vM (fun _=>?_) fun _=>?_)
  refine Lp.mk ⟨Nat, fun i => [(0, slS l), (1, slS m), (12, .int .i64 l.length), (13, .int .i64 i)], fun _ => [], fun i => i ≤ l.length ∧ ∀ j, j < i → l.getD j ⟨#[]⟩ = m.getD j ⟨#[]⟩, fun i => l.length - i, ⟨0, ⟨Nat.zero_le _, fun j hj => absurd hj (Nat.not_lt_zero _)⟩, ⟨⟨[], [], rfl, rfl, ?_, ?_⟩⟩⟩, ?_⟩
  ·repeat' ((conv=>whnf);first|with_reducible exact True.intro|exact vW|with_reducible refine And.intro ?_ ?_)
  ·repeat' ((conv=>whnf);first|with_reducible exact True.intro|exact vW|with_reducible refine And.intro ?_ ?_)
  rintro i ⟨i1, i2⟩
  dsimp only
  repeat' ((conv=>whnf);first|refine vA ?_|with_reducible first|refine v8 ?_|refine Sp.mk ?_ ?_|refine vS ?_|refine vR ?_|refine vB ?_|refine br_nt ?_|refine br_tt ?_|refine br_ff ?_|refine vP ?_|refine vQ ?_|refine vT ?_|refine vF ?_|refine br_and ?_|refine br_or ?_|refine br_d (fun _=>?_) fun _=>?_|refine vM (fun _=>?_) fun _=>?_)
  ·rename_i hi
   refine Dr.mk ⟨(.rd 0 (.rd 1 (.rd 2 (.rd 3 (.rd 4 (.rd 5 (.rd 6 (.rd 7 (.rd 8 .dn))))))))), by decide +kernel, ?_⟩
   repeat' ((conv=>whnf);first|refine vA ?_|with_reducible first|refine v8 ?_|refine Sp.mk ?_ ?_|refine vS ?_|refine vR ?_|refine vB ?_|refine br_nt ?_|refine br_tt ?_|refine br_ff ?_|refine vP ?_|refine vQ ?_|refine vT ?_|refine vF ?_|refine br_and ?_|refine br_or ?_|refine br_d (fun _=>?_) fun _=>?_|refine vM (fun _=>?_) fun _=>?_)
   ·rename_i he
    replace he : l.getD i ⟨#[]⟩ = m.getD i ⟨#[]⟩ := he
    refine ⟨i + 1, ⟨by omega, fun j hj => ?_⟩, by omega, ⟨⟨[], [], rfl, rfl, ?_, ?_⟩⟩⟩
    ·by_cases e : j = i
     ·subst e; exact he
     ·exact i2 j (by omega)
    ·repeat' ((conv=>whnf);first|with_reducible exact True.intro|exact vW|with_reducible refine And.intro ?_ ?_)
    ·repeat' ((conv=>whnf);first|with_reducible exact True.intro|exact vW|with_reducible refine And.intro ?_ ?_)
   ·rename_i he
    replace he : ¬ l.getD i ⟨#[]⟩ = m.getD i ⟨#[]⟩ := he
    exact yesF h fun q => he (by rw [q])
  ·rename_i hi
   exact yesT h (eq_of_getD (d := ⟨#[]⟩) hlen fun j hj => i2 j (by omega))
 ·repeat' ((conv=>whnf);first|refine vA ?_|with_reducible first|refine v8 ?_|refine Sp.mk ?_ ?_|refine vS ?_|refine vR ?_|refine vB ?_|refine br_nt ?_|refine br_tt ?_|refine br_ff ?_|refine vP ?_|refine vQ ?_|refine vT ?_|refine vF ?_|refine br_and ?_|refine br_or ?_|refine br_d (fun _=>?_) fun _=>?_|refine vM (fun _=>?_) fun _=>?_)
  exact yesF h fun q => hlen (by rw [q])
theorem place_eq {p q : Int} {a b : List Int} {r s : List ByteArray} : (⟨p, a, r⟩ : Place) = ⟨q, b, s⟩ ↔ p = q ∧ a = b ∧ r = s := by
 constructor
 ·intro h; injection h with h1 h2 h3; exact ⟨h1, h2, h3⟩
 ·rintro ⟨rfl, rfl, rfl⟩; rfl
structure Pp where
 x : Place
 y : Place
def C263 : List AV → (AV → Prop) → Prop := con (X := Pp) (fun x => [enPl x.x, enPl x.y]) (fun x => x.x.bs.length < 9223372036854775808 ∧ x.x.rules.length < 9223372036854775808) fun x K => ∀ b : Bool, (b = true ↔ x.x = x.y) → K (.bool b)
theorem F263 : FF 116 C263 := by
 refine fitX [(142, C268), (143, C269)] (by simp only [List.mem_cons, List.not_mem_nil, or_false]; rintro _ (rfl | rfl) <;> first | exact F268 | exact F269) [] (by simp) Tryz.f116 ⟨rfl, by decide +kernel, by decide +kernel⟩ (fun _ _ _ hk h b q => hk _ (h b q)) ?_
 rintro ⟨⟨p, bs, rs⟩, ⟨q, cs, ss⟩⟩ K ⟨h1, h2⟩ h
 refine ⟨Nat.le_of_ble_eq_true rfl, ?_⟩
 dsimp only [enPl, plC] at h h1 h2 ⊢
 repeat' ((conv=>whnf);first|refine vA ?_|with_reducible first|refine v8 ?_|refine Sp.mk ?_ ?_|refine vS ?_|refine vR ?_|refine vB ?_|refine br_nt ?_|refine br_tt ?_|refine br_ff ?_|refine vP ?_|refine vQ ?_|refine vT ?_|refine vF ?_|refine br_and ?_|refine br_or ?_|refine br_d (fun _=>?_) fun _=>?_|refine vM (fun _=>?_) fun _=>?_)
 ·refine ⟨(bs, cs), ?_, ⟨h1⟩, ?_⟩
  ·repeat' ((conv=>whnf);first|with_reducible exact True.intro|exact vW|with_reducible refine And.intro ?_ ?_)
  dsimp only
  by_cases hb : bs = cs
  ·rw [decide_eq_true hb]
   repeat' ((conv=>whnf);first|refine vA ?_|with_reducible first|refine v8 ?_|refine Sp.mk ?_ ?_|refine vS ?_|refine vR ?_|refine vB ?_|refine br_nt ?_|refine br_tt ?_|refine br_ff ?_|refine vP ?_|refine vQ ?_|refine vT ?_|refine vF ?_|refine br_and ?_|refine br_or ?_|refine br_d (fun _=>?_) fun _=>?_|refine vM (fun _=>?_) fun _=>?_)
   refine ⟨(rs, ss), ?_, ⟨h2⟩, ?_⟩
   ·repeat' ((conv=>whnf);first|with_reducible exact True.intro|exact vW|with_reducible refine And.intro ?_ ?_)
   repeat' ((conv=>whnf);first|refine vA ?_|with_reducible first|refine v8 ?_|refine Sp.mk ?_ ?_|refine vS ?_|refine vR ?_|refine vB ?_|refine br_nt ?_|refine br_tt ?_|refine br_ff ?_|refine vP ?_|refine vQ ?_|refine vT ?_|refine vF ?_|refine br_and ?_|refine br_or ?_|refine br_d (fun _=>?_) fun _=>?_|refine vM (fun _=>?_) fun _=>?_)
   exact h _ ⟨fun g => place_eq.2 ⟨by assumption, hb, of_decide_eq_true g⟩, fun g => decide_eq_true (place_eq.1 g).2.2⟩
  ·rw [decide_eq_false hb]
   repeat' ((conv=>whnf);first|refine vA ?_|with_reducible first|refine v8 ?_|refine Sp.mk ?_ ?_|refine vS ?_|refine vR ?_|refine vB ?_|refine br_nt ?_|refine br_tt ?_|refine br_ff ?_|refine vP ?_|refine vQ ?_|refine vT ?_|refine vF ?_|refine br_and ?_|refine br_or ?_|refine br_d (fun _=>?_) fun _=>?_|refine vM (fun _=>?_) fun _=>?_)
   exact h _ ⟨fun g => (by cases g), fun g => absurd (place_eq.1 g).2.1 hb⟩
 ·exact h _ ⟨fun g => (by cases g), fun g => absurd (place_eq.1 g).1 (by assumption)⟩
/-! ### slices.Delete -/
theorem strs_map {l : List ByteArray} : Lib.strsOf (fun i => l.getD i ⟨#[]⟩) l.length = l.map (fun (x : ByteArray) => x.data.toList) := by
 unfold Lib.strsOf
 apply List.ext_getElem (by simp)
 intro i h1 h2
 have hi : i < l.length := by simpa using h2
 simp only [List.getElem_map, List.getElem_range]
 rw [List.getD_eq_getElem?_getD, List.getElem?_eq_getElem hi]
 rfl
structure Dl where
 l : List ByteArray
 n : Nat
def C267 : GC := conG (X := Dl) (fun x => [.row 0 1 0 x.l.length, .int .i64 x.n, .int .i64 ((x.n : Int) + 1)]) (fun x => [.row 1 x.l.length fun i => encS (x.l.getD i ⟨#[]⟩)]) (fun x => x.n < x.l.length) fun x K => K (.row 0 1 0 (x.l.length - 1)) [.row 1 (x.l.length - 1) fun i => encS ((x.l.take x.n ++ x.l.drop (x.n + 1)).getD i ⟨#[]⟩)]
theorem F267 : GG 141 C267 := fun Gl hG => by
 refine ⟨FnOk.has ⟨rfl, by decide +kernel, by decide +kernel⟩ (fn := Tryz.f141), fun us og K K' hk ⟨x, h1, h2, h3, h4⟩ => ⟨x, h1, h2, h3, hk _ _ h4⟩, ?_⟩
 rintro us og K ⟨⟨l, n⟩, rfl, rfl, ⟨hn⟩, hK⟩ ρ R w xs hh ha
 dsimp only at hn hK
 obtain ⟨hsz, hx⟩ := ha
 replace hsz : xs.size = 3 := hsz
 have a0 := (hx 0 (by show 0 < 3; omega)).vr rfl
 have a1 := (hx 1 (by show 1 < 3; omega)).vr rfl
 have a2 := (hx 2 (by show 2 < 3; omega)).vr rfl
 have ex : xs = #[xs.getD 0 Go.undef, xs.getD 1 Go.undef, xs.getD 2 Go.undef] := by
  apply Array.ext
  ·simpa using hsz
  ·intro i h1 h2
   have : i = 0 ∨ i = 1 ∨ i = 2 := by omega
   rcases this with rfl | rfl | rfl <;> simp [h1]
 rw [ex]
 generalize xs.getD 0 Go.undef = x0 at a0
 generalize xs.getD 1 Go.undef = x1 at a1
 generalize xs.getD 2 Go.undef = x2 at a2
 replace a0 : VR ρ R w (.row 0 1 0 l.length) x0 := a0
 replace a1 : VR ρ R w (.int .i64 n) x1 := a1
 replace a2 : VR ρ R w (.int .i64 ((n : Int) + 1)) x2 := a2
 obtain rfl : x1 = .int .i64 n := by cases a1 with | data a1 => cases a1; rfl
 obtain rfl : x2 = .int .i64 ((n : Int) + 1) := by cases a2 with | data a2 => cases a2; rfl
 obtain ⟨b, cs, ty, g1, g2, g3, g4, g5⟩ : ∃ b xs ty, ρ 0 = some b ∧ w.heap[b]? = some (.cells xs ty (0, 0)) ∧ l.length * 1 ≤ xs.size ∧ (∀ i, i < l.length → (encS (l.getD i ⟨#[]⟩)).length = 1) ∧ ∀ i, i < l.length → ∀ j, j < 1 → DR R w ((encS (l.getD i ⟨#[]⟩)).getD j .undef) (xs.getD (i * 1 + j) Go.undef) := by
  rcases hh.obj 0 _ rfl with ⟨q, _⟩ | q
  ·have q' : l.length = 0 := q
   omega
  ·exact q
 obtain ⟨cap, rfl, hcap⟩ : ∃ cap, x0 = .slice (some ⟨b, 0, none⟩) l.length cap ∧ l.length ≤ cap ∧ cap ≤ cs.size ∧ cap ≤ 9223372036854775807 := by
  generalize hl : l.length = len at a0
  cases a0 with
  |data a0 => cases a0
  |row h1 h2 h3 h4 h5 =>
   rw [g1] at h1
   cases h1
   rw [g2] at h2
   cases h2
   exact ⟨_, by rw [Nat.zero_mul], h3, by omega, h5⟩
  |row0 => rw [hl] at hn; exact absurd hn (Nat.not_lt_zero _)
 have hc : ∀ i, i < l.length → w.cell? ⟨b, 0 + i, none⟩ = some (.string (l.getD i ⟨#[]⟩)) := fun i hi => by
  have h6 := g5 i hi 0 (by decide)
  rw [Nat.mul_one, Nat.add_zero] at h6
  have h7 : DR R w (.str (l.getD i ⟨#[]⟩)) (cs.getD i Go.undef) := h6
  have hics : i < cs.size := by omega
  rw [Array.getD_eq_getD_getElem?, Array.getElem?_eq_getElem hics] at h7
  unfold World.cell?
  rw [Nat.zero_add]
  show (match w.heap[b]? with | some (.cells c _ _) => if (none : Option Nat).isSome then none else c[i]? | _ => none) = _
  rw [g2]
  show cs[i]? = _
  rw [Array.getElem?_eq_getElem hics]
  simp only [Option.getD_some] at h7
  generalize cs[i] = v at h7 ⊢
  cases h7
  rfl
 have hf : ∀ j, j < l.length → w.frozen? ⟨b, 0 + j, none⟩ = false := fun j _ => by
  unfold World.frozen?
  rw [show w.heap[(⟨b, 0 + j, none⟩ : Addr).block]? = some (.cells cs ty (0, 0)) from g2]
  simp
 have hcm : cap ≤ 9223372036854775807 := hcap.2.2
 refine (Tryz.slices_Delete_string_cells b 0 l.length cap n (n + 1) (fun i => l.getD i ⟨#[]⟩) w hcap.1 hcm (Nat.le_succ n) hn hc hf).mono fun e w' he => ?_
 obtain ⟨rfl, q, rfl⟩ := he
 rw [strs_map, show n + 1 - n = 1 by omega, ← List.map_take, ← List.map_drop, ← List.map_append]
 obtain ⟨m, hm⟩ : ∃ m, l.take n ++ l.drop (n + 1) = m := ⟨_, rfl⟩
 have hml : m.length = l.length - 1 := by rw [← hm, List.length_append, List.length_take, List.length_drop]; omega
 rw [hm] at hK ⊢
 obtain ⟨vs, hvs⟩ : ∃ vs, (m.map (fun (x : ByteArray) => x.data.toList) ++ List.replicate 1 []).map encStr = vs := ⟨_, rfl⟩
 have hvl : vs.length = l.length := by rw [← hvs, List.length_map, List.length_append, List.length_map, List.length_replicate]; omega
 have hvg : ∀ j, j < l.length - 1 → vs.getD j Go.undef = .string (m.getD j ⟨#[]⟩) := fun j hj => by
  rw [← hvs, List.getD_eq_getElem?_getD, List.getElem?_map, List.getElem?_append_left (by rw [List.length_map]; omega), List.getElem?_map, List.getD_eq_getElem?_getD, List.getElem?_eq_getElem (by omega)]
  rfl
 obtain ⟨ys, f1, f2, f3, f4, f5, f6, f7, f8⟩ := setCells_facts vs 0 (w := w.drewN q) (b := b) (xs := cs) (ty := ty) g2 (by omega)
 rw [hvs]
 have hsame : ∀ c, c ≠ b → ((w.drewN q).setCells b 0 vs).heap[c]? = w.heap[c]? := f4
 have hobj : OB ρ [.row 1 (l.length - 1) fun i => encS (m.getD i ⟨#[]⟩)] R ((w.drewN q).setCells b 0 vs) 0 (.row 1 (l.length - 1) fun i => encS (m.getD i ⟨#[]⟩)) := .inr ⟨b, ys, ty, g1, f1, by omega, fun _ _ => rfl, fun i hi j hj => by
  obtain rfl : j = 0 := by omega
  rw [Nat.mul_one, Nat.add_zero, f3 i, if_pos (by omega), Nat.sub_zero, hvg i hi]
  exact .str _⟩
 refine ⟨_, _, _, ρ, R, rfl, hK, ⟨fun id b' h => by have := hh.dom id b' h; exact this, fun id b' h => by rw [f5]; exact hh.lt id b' h, hh.inj, fun b' h => ⟨by rw [f5]; exact (hh.ro b' h).1, (hh.ro b' h).2⟩, fun id ob h => ?_, fun p hp => ⟨(hh.gl p hp).1, ?_⟩⟩, ⟨rfl, fun _ => ?_⟩, Nat.le_refl _, ?_⟩
 ·match id, h with
  |0, h => cases h; exact hobj
  |k + 1, h => cases h
 ·rw [hsame p.1 fun e => (hh.ro _ (hh.gl p hp).1).2 0 (by rw [g1, e])]
  exact (hh.gl p hp).2
 ·have h4 : (0 + cap) * 1 ≤ ys.size := by omega
  have := VR.row (ρ := ρ) (R := R) (w := (w.drewN q).setCells b 0 vs) (id := 0) (sz := 1) (off := 0) (len := l.length - 1) (b := b) (cs := ys) (ty := ty) (cap := cap) g1 f1 (by omega) h4 hcm
  rwa [Nat.zero_mul] at this
 ·refine ⟨fun id hid => ?_, fun _ h => h, fun _ h => .inl h, fun id _ h => .inr ⟨id, h⟩, Nat.le_of_eq f5.symm, fun c _ hne => hsame c fun e => hne 0 (e ▸ g1), fun c xs' ty' h => ?_, f6, f7, f8⟩
  ·match id, hid with
   |0, _ => exact ⟨⟨_, _, rfl⟩, rfl⟩
  ·by_cases e : c = b
   ·subst e
    rw [g2] at h
    cases h
    exact ⟨ys, f1, f2⟩
   ·exact ⟨xs', by rw [hsame c e]; exact h, rfl⟩
end Go.Proofs.YtkafoolhbflfkaaGreatDoor.Vc
end
section
/- Part XJ: what a deed makes of a place, by the implementation. -/
namespace Go.Proofs.YtkafoolhbflfkaaGreatDoor.Vc
open Go.Proofs
set_option maxRecDepth 10000
set_option maxHeartbeats 4000000
def C266 : List AV → (AV → Prop) → Prop := con (X := Pc) (fun x => [enPl x.x, .int .i64 x.r, .int .i64 x.c]) (fun x => placeI x.x ∧ placeOk x.x ∧ i64r x.r ∧ i64r x.c) fun x K => K (.bool (consR x.x x.r x.c))
theorem F266 : FF 140 C266 := by
 refine fitE [(93, C54), (83, C176), (161, C39)] (by simp only [List.mem_cons, List.not_mem_nil, or_false]; rintro _ (rfl | rfl | rfl) <;> first | exact F54 | exact F176 | exact F39) Tryz.f140 ⟨rfl, by decide +kernel, by decide +kernel⟩ (fun _ _ _ hk h => hk _ h) ?_
 rintro ⟨⟨p, bs, rs⟩, r, c⟩ K ⟨hI, hO, hr, hc⟩ h
 refine ⟨Nat.le_of_ble_eq_true rfl, ?_⟩
 have hI1 := hI.1
 have hI2 := hI.2.1
 have hI3 := hI.2.2
 have hp := hI.1.1.1
 unfold consR at h
 dsimp only [enPl, plC] at h hr hc hI2 hI3 hp ⊢
 by_cases hin : 0 ≤ r ∧ r < rs.length
 ·rw [if_pos hin] at h
  have hr2 : r.toNat < rs.length := by omega
  obtain ⟨t, e'⟩ := bad_term (hO.2.2 _ (getD_mem' (l := rs) (i := r.toNat) (d := ⟨#[]⟩) hr2))
  rw [e'] at h
  dsimp only at h
  obtain ⟨ht, hOt⟩ := rdT_termI hI1 e'
  repeat' ((conv=>whnf);first|refine vA ?_|with_reducible first|refine v8 ?_|refine Sp.mk ?_ ?_|refine vS ?_|refine vR ?_|refine vB ?_|refine br_nt ?_|refine br_tt ?_|refine br_ff ?_|refine vP ?_|refine vQ ?_|refine vT ?_|refine vF ?_|refine br_and ?_|refine br_or ?_|refine br_d (fun _=>?_) fun _=>?_|refine vM (fun _=>?_) fun _=>?_)
  refine ⟨(p, c), ?_, ⟨hp, hc⟩, ?_⟩
  ·repeat' ((conv=>whnf);first|with_reducible exact True.intro|exact vW|with_reducible refine And.intro ?_ ?_)
  by_cases hcr : crowd p c
  ·rw [decide_eq_true hcr, Bool.true_and] at h
   dsimp only
   rw [decide_eq_true hcr]
   repeat' ((conv=>whnf);first|refine vA ?_|with_reducible first|refine v8 ?_|refine Sp.mk ?_ ?_|refine vS ?_|refine vR ?_|refine vB ?_|refine br_nt ?_|refine br_tt ?_|refine br_ff ?_|refine vP ?_|refine vQ ?_|refine vT ?_|refine vF ?_|refine br_and ?_|refine br_or ?_|refine br_d (fun _=>?_) fun _=>?_|refine vM (fun _=>?_) fun _=>?_)
   refine Dr.mk ⟨(.rd 0 (.rd 1 (.rd 2 (.rd 3 (.rd 4 (.rd 5 (.rd 6 (.ef 7 (.rd 8 (.rd 9 (.rd 10 (.rd 11 (.rd 12 .dn))))) .no)))))))), by decide +kernel, ?_⟩
   repeat' ((conv=>whnf);first|refine vA ?_|with_reducible first|refine v8 ?_|refine Sp.mk ?_ ?_|refine vS ?_|refine vR ?_|refine vB ?_|refine br_nt ?_|refine br_tt ?_|refine br_ff ?_|refine vP ?_|refine vQ ?_|refine vT ?_|refine vF ?_|refine br_and ?_|refine br_or ?_|refine br_d (fun _=>?_) fun _=>?_|refine vM (fun _=>?_) fun _=>?_)
   refine ⟨⟨⟨p, bs⟩, rs.getD r.toNat ⟨#[]⟩⟩, ?_, ⟨hI1, getD_len hI3 hr2⟩, ?_⟩
   ·repeat' ((conv=>whnf);first|with_reducible exact True.intro|exact vW|with_reducible refine And.intro ?_ ?_)
   refine And.intro (fun e => ?_) (fun u e => ?_)
   ·rw [show rdT 49 (Place.h ⟨p, bs, rs⟩) (rs.getD r.toNat ⟨#[]⟩) = none from e] at e'
    cases e'
   ·rw [show rdT 49 (Place.h ⟨p, bs, rs⟩) (rs.getD r.toNat ⟨#[]⟩) = some u from e] at e'
    cases e'
    repeat' ((conv=>whnf);first|refine vA ?_|with_reducible first|refine v8 ?_|refine Sp.mk ?_ ?_|refine vS ?_|refine vR ?_|refine vB ?_|refine br_nt ?_|refine br_tt ?_|refine br_ff ?_|refine vP ?_|refine vQ ?_|refine vT ?_|refine vF ?_|refine br_and ?_|refine br_or ?_|refine br_d (fun _=>?_) fun _=>?_|refine vM (fun _=>?_) fun _=>?_)
    refine ⟨⟨p, bs, t, c⟩, ?_, ⟨sayOk_of' hOt hcr, hOt.2.1⟩, ?_⟩
    ·repeat' ((conv=>whnf);first|with_reducible exact True.intro|exact vW|with_reducible refine And.intro ?_ ?_)
    repeat' ((conv=>whnf);first|refine vA ?_|with_reducible first|refine v8 ?_|refine Sp.mk ?_ ?_|refine vS ?_|refine vR ?_|refine vB ?_|refine br_nt ?_|refine br_tt ?_|refine br_ff ?_|refine vP ?_|refine vQ ?_|refine vT ?_|refine vF ?_|refine br_and ?_|refine br_or ?_|refine br_d (fun _=>?_) fun _=>?_|refine vM (fun _=>?_) fun _=>?_)
    exact h
  ·rw [decide_eq_false hcr, Bool.false_and] at h
   dsimp only
   rw [decide_eq_false hcr]
   repeat' ((conv=>whnf);first|refine vA ?_|with_reducible first|refine v8 ?_|refine Sp.mk ?_ ?_|refine vS ?_|refine vR ?_|refine vB ?_|refine br_nt ?_|refine br_tt ?_|refine br_ff ?_|refine vP ?_|refine vQ ?_|refine vT ?_|refine vF ?_|refine br_and ?_|refine br_or ?_|refine br_d (fun _=>?_) fun _=>?_|refine vM (fun _=>?_) fun _=>?_)
   exact h
 ·rw [if_neg hin] at h
  repeat' ((conv=>whnf);first|refine vA ?_|with_reducible first|refine v8 ?_|refine Sp.mk ?_ ?_|refine vS ?_|refine vR ?_|refine vB ?_|refine br_nt ?_|refine br_tt ?_|refine br_ff ?_|refine vP ?_|refine vQ ?_|refine vT ?_|refine vF ?_|refine br_and ?_|refine br_or ?_|refine br_d (fun _=>?_) fun _=>?_|refine vM (fun _=>?_) fun _=>?_)
  all_goals exact h
def npPost (x : Pd) (K : AV → Prop) : Prop := ∀ (y : Place) (ok : Bool), (ok = true → y = madeP x.x x.a) → (ok = false → madeP x.x x.a = default) → K (.tup [enPl y, .bool ok])
def C262 : List AV → (AV → Prop) → Prop := con (X := Pd) (fun x => [enPl x.x, ded x.a]) (fun x => placeI x.x ∧ placeOk x.x ∧ dedI x.a) npPost
theorem F262 : FF 115 C262 := by
 refine fitXE [(140, C266)] (by simp only [List.mem_cons, List.not_mem_nil, or_false]; rintro _ rfl; exact F266) [(71, C157g), (141, C267)] (by simp only [List.mem_cons, List.not_mem_nil, or_false]; rintro _ (rfl | rfl) <;> first | exact F157g | exact F267) Tryz.f115 ⟨rfl, by decide +kernel, by decide +kernel⟩ (fun _ _ _ hk h y ok h1 h2 => hk _ (h y ok h1 h2)) ?_
 rintro ⟨⟨p, bs, rs⟩, ⟨k, a, b, w⟩⟩ K ⟨hI, hO, h1, h2, h3, h4⟩ h
 refine ⟨Nat.le_of_ble_eq_true rfl, ?_⟩
 have hs1 : rs.length ≤ 4 := hO.2.1.2
 have hs2 : bs.length ≤ 4 := hO.1.2.1
 unfold npPost at h
 dsimp only [ded, encD, enPl, plC] at h h1 h2 h3 h4 ⊢
 repeat' ((conv=>whnf);first|refine vA ?_|with_reducible first|refine v8 ?_|refine Sp.mk ?_ ?_|refine vS ?_|refine vR ?_|refine vB ?_|refine br_nt ?_|refine br_tt ?_|refine br_ff ?_|refine vP ?_|refine vQ ?_|refine vT ?_|refine vF ?_|refine br_and ?_|refine br_or ?_|refine br_d (fun _=>?_) fun _=>?_|refine vM (fun _=>?_) fun _=>?_)
 refine ⟨_, _, [], [], rfl, ?_, ?_, ⟨p, bs, rs⟩, rfl, rfl, ⟨by dsimp only; omega, by dsimp only; omega⟩, ?_⟩
 ·repeat' ((conv=>whnf);first|with_reducible exact True.intro|exact vW|with_reducible refine And.intro ?_ ?_)
 ·repeat' ((conv=>whnf);first|with_reducible exact True.intro|exact vW|with_reducible refine And.intro ?_ ?_)
 dsimp only [plG, plO]
 have y1 := ext_sym (ext_push (enc := encI) (d := 0) (l := bs) (x := a) (g := fun i => (fun i => [[AV.int .i64 a]].getD i [.int .i64 0]) (0 + i)) rfl)
 have y2 := ext_sym (ext_push (enc := encS) (d := ⟨#[]⟩) (l := rs) (x := w) (g := fun i => (fun i => [[AV.str w]].getD i [.str ⟨#[]⟩]) (0 + i)) rfl)
 repeat' ((conv=>whnf);first|refine vA ?_|with_reducible first|refine v8 ?_|refine Sp.mk ?_ ?_|refine vS ?_|refine vR ?_|refine vB ?_|refine br_nt ?_|refine br_tt ?_|refine br_ff ?_|refine vP ?_|refine vQ ?_|refine vT ?_|refine vF ?_|refine br_and ?_|refine br_or ?_|refine br_d (fun _=>?_) fun _=>?_|refine vM (fun _=>?_) fun _=>?_)
 ·rename_i q1
  refine Dr.mk ⟨(.rd 0 (.rd 1 (.rd 2 (.rd 3 (.rd 4 (.rd 5 (.rd 6 (.rd 7 (.rd 8 (.ef 9 (.rd 10 .dn) .no)))))))))), by decide +kernel, ?_⟩
  repeat' ((conv=>whnf);first|refine vA ?_|with_reducible first|refine v8 ?_|refine Sp.mk ?_ ?_|refine vS ?_|refine vR ?_|refine vB ?_|refine br_nt ?_|refine br_tt ?_|refine br_ff ?_|refine vP ?_|refine vQ ?_|refine vT ?_|refine vF ?_|refine br_and ?_|refine br_or ?_|refine br_d (fun _=>?_) fun _=>?_|refine vM (fun _=>?_) fun _=>?_)
  ·rename_i q2
   by_cases hw : w = ⟨#[]⟩
   ·rw [decide_eq_true hw]
    refine ⟨_, ?_, h ⟨p,bs++[a],rs⟩ true (fun q => (made_0 (x := ⟨p,bs,rs⟩) q1 q2 hw).symm) (fun q => (by cases q))⟩
    repeat' ((conv=>whnf);first|with_reducible exact True.intro|exact vW|with_reducible refine And.intro ?_ ?_)
    all_goals first | exact Chk.mk ⟨rfl, fun i _ => by dsimp only; rw [Nat.zero_add]⟩ | exact Chk.mk y1
   ·rw [decide_eq_false hw]
    refine ⟨_, ?_, h ⟨p,bs++[a],rs⟩ false (fun q => (by cases q)) (fun q => (made_0n q1 fun g => hw g.2))⟩
    repeat' ((conv=>whnf);first|with_reducible exact True.intro|exact vW|with_reducible refine And.intro ?_ ?_)
    all_goals first | exact Chk.mk ⟨rfl, fun i _ => by dsimp only; rw [Nat.zero_add]⟩ | exact Chk.mk y1
  ·rename_i q2
   refine ⟨_, ?_, h ⟨p,bs++[a],rs⟩ false (fun q => (by cases q)) (fun q => (made_0n q1 fun g => q2 g.1))⟩
   repeat' ((conv=>whnf);first|with_reducible exact True.intro|exact vW|with_reducible refine And.intro ?_ ?_)
   all_goals first | exact Chk.mk ⟨rfl, fun i _ => by dsimp only; rw [Nat.zero_add]⟩ | exact Chk.mk y1
 ·rename_i q0 q1
  refine Dr.mk ⟨(.rd 0 (.rd 1 (.rd 2 (.rd 3 (.rd 4 (.rd 5 (.rd 6 (.rd 7 (.rd 8 (.ef 9 (.rd 10 .dn) .no)))))))))), by decide +kernel, ?_⟩
  repeat' ((conv=>whnf);first|refine vA ?_|with_reducible first|refine v8 ?_|refine Sp.mk ?_ ?_|refine vS ?_|refine vR ?_|refine vB ?_|refine br_nt ?_|refine br_tt ?_|refine br_ff ?_|refine vP ?_|refine vQ ?_|refine vT ?_|refine vF ?_|refine br_and ?_|refine br_or ?_|refine br_d (fun _=>?_) fun _=>?_|refine vM (fun _=>?_) fun _=>?_)
  ·rename_i q2
   by_cases hb : b = 0
   ·rw [decide_eq_true hb]
    refine ⟨_, ?_, h ⟨p,bs,rs++[w]⟩ true (fun q => (made_1 (x := ⟨p,bs,rs⟩) q1 q2 hb).symm) (fun q => (by cases q))⟩
    repeat' ((conv=>whnf);first|with_reducible exact True.intro|exact vW|with_reducible refine And.intro ?_ ?_)
    all_goals first | exact Chk.mk ⟨rfl, fun i _ => by dsimp only; rw [Nat.zero_add]⟩ | exact Chk.mk y2
   ·rw [decide_eq_false hb]
    refine ⟨_, ?_, h ⟨p,bs,rs++[w]⟩ false (fun q => (by cases q)) (fun q => (made_1n q1 fun g => hb g.2))⟩
    repeat' ((conv=>whnf);first|with_reducible exact True.intro|exact vW|with_reducible refine And.intro ?_ ?_)
    all_goals first | exact Chk.mk ⟨rfl, fun i _ => by dsimp only; rw [Nat.zero_add]⟩ | exact Chk.mk y2
  ·rename_i q2
   refine ⟨_, ?_, h ⟨p,bs,rs++[w]⟩ false (fun q => (by cases q)) (fun q => (made_1n q1 fun g => q2 g.1))⟩
   repeat' ((conv=>whnf);first|with_reducible exact True.intro|exact vW|with_reducible refine And.intro ?_ ?_)
   all_goals first | exact Chk.mk ⟨rfl, fun i _ => by dsimp only; rw [Nat.zero_add]⟩ | exact Chk.mk y2
 ·rename_i q0 q1 q2
  refine ⟨⟨⟨p, bs, rs⟩, a, b⟩, ?_, ⟨hI, hO, h2, h3⟩, ?_⟩
  ·repeat' ((conv=>whnf);first|with_reducible exact True.intro|exact vW|with_reducible refine And.intro ?_ ?_)
   all_goals exact Chk.mk ⟨rfl, fun i _ => by dsimp only; rw [Nat.zero_add]⟩
  dsimp only
  cases hc : consR ⟨p, bs, rs⟩ a b
  ·repeat' ((conv=>whnf);first|refine vA ?_|with_reducible first|refine v8 ?_|refine Sp.mk ?_ ?_|refine vS ?_|refine vR ?_|refine vB ?_|refine br_nt ?_|refine br_tt ?_|refine br_ff ?_|refine vP ?_|refine vQ ?_|refine vT ?_|refine vF ?_|refine br_and ?_|refine br_or ?_|refine br_d (fun _=>?_) fun _=>?_|refine vM (fun _=>?_) fun _=>?_)
   refine ⟨_, ?_, h ⟨p,bs,rs⟩ false (fun q => (by cases q)) (fun q => (made_2n q2 hc))⟩
   repeat' ((conv=>whnf);first|with_reducible exact True.intro|exact vW|with_reducible refine And.intro ?_ ?_)
   all_goals first | exact Chk.mk ⟨rfl, fun i _ => by dsimp only; rw [Nat.zero_add]⟩ | exact Chk.mk y2
  ·have hr := consR_in hc
   dsimp only at hr
   have y3 := ext_set (x := w) hr.2
   repeat' ((conv=>whnf);first|refine vA ?_|with_reducible first|refine v8 ?_|refine Sp.mk ?_ ?_|refine vS ?_|refine vR ?_|refine vB ?_|refine br_nt ?_|refine br_tt ?_|refine br_ff ?_|refine vP ?_|refine vQ ?_|refine vT ?_|refine vF ?_|refine br_and ?_|refine br_or ?_|refine br_d (fun _=>?_) fun _=>?_|refine vM (fun _=>?_) fun _=>?_)
   refine ⟨_, ?_, h ⟨p,bs,rs.set a.toNat w⟩ true (fun q => (made_2 (x := ⟨p,bs,rs⟩) q2 hc).symm) (fun q => (by cases q))⟩
   repeat' ((conv=>whnf);first|with_reducible exact True.intro|exact vW|with_reducible refine And.intro ?_ ?_)
   all_goals first | exact Chk.mk ⟨rfl, fun i _ => by dsimp only; rw [Nat.zero_add]⟩ | exact Chk.mk y3
 ·rename_i q0 q1 q2 q3
  refine ⟨⟨⟨p, bs, rs⟩, a, b⟩, ?_, ⟨hI, hO, h2, h3⟩, ?_⟩
  ·repeat' ((conv=>whnf);first|with_reducible exact True.intro|exact vW|with_reducible refine And.intro ?_ ?_)
   all_goals exact Chk.mk ⟨rfl, fun i _ => by dsimp only; rw [Nat.zero_add]⟩
  dsimp only
  cases hc : consR ⟨p, bs, rs⟩ a b
  ·repeat' ((conv=>whnf);first|refine vA ?_|with_reducible first|refine v8 ?_|refine Sp.mk ?_ ?_|refine vS ?_|refine vR ?_|refine vB ?_|refine br_nt ?_|refine br_tt ?_|refine br_ff ?_|refine vP ?_|refine vQ ?_|refine vT ?_|refine vF ?_|refine br_and ?_|refine br_or ?_|refine br_d (fun _=>?_) fun _=>?_|refine vM (fun _=>?_) fun _=>?_)
   refine ⟨_, ?_, h ⟨p,bs,rs⟩ false (fun q => (by cases q)) (fun q => (made_3n q3 fun g => by rw [hc] at g; cases g.2))⟩
   repeat' ((conv=>whnf);first|with_reducible exact True.intro|exact vW|with_reducible refine And.intro ?_ ?_)
   all_goals first | exact Chk.mk ⟨rfl, fun i _ => by dsimp only; rw [Nat.zero_add]⟩ | exact Chk.mk y2
  ·have hr := consR_in hc
   dsimp only at hr
   repeat' ((conv=>whnf);first|refine vA ?_|with_reducible first|refine v8 ?_|refine Sp.mk ?_ ?_|refine vS ?_|refine vR ?_|refine vB ?_|refine br_nt ?_|refine br_tt ?_|refine br_ff ?_|refine vP ?_|refine vQ ?_|refine vT ?_|refine vF ?_|refine br_and ?_|refine br_or ?_|refine br_d (fun _=>?_) fun _=>?_|refine vM (fun _=>?_) fun _=>?_)
   refine ⟨_, _, [4], [], rfl, ?_, ?_, ⟨rs, a.toNat⟩, rfl, rfl, ⟨hr.2⟩, ?_⟩
   ·repeat' ((conv=>whnf);first|with_reducible exact True.intro|exact vW|with_reducible refine And.intro ?_ ?_)
    all_goals exact Chk.mk (by dsimp only; omega)
   ·repeat' ((conv=>whnf);first|with_reducible exact True.intro|exact vW|with_reducible refine And.intro ?_ ?_)
   dsimp only
   have y4 : rs.length - 1 = (rs.take a.toNat ++ rs.drop (a.toNat + 1)).length ∧ ∀ i, i < rs.length - 1 → (fun i => encS ((rs.take a.toNat ++ rs.drop (a.toNat + 1)).getD i ⟨#[]⟩)) (0 + i) = encS ((rs.take a.toNat ++ rs.drop (a.toNat + 1)).getD i ⟨#[]⟩) := ⟨by rw [List.length_append, List.length_take, List.length_drop]; omega, fun i _ => by dsimp only; rw [Nat.zero_add]⟩
   repeat' ((conv=>whnf);first|refine vA ?_|with_reducible first|refine v8 ?_|refine Sp.mk ?_ ?_|refine vS ?_|refine vR ?_|refine vB ?_|refine br_nt ?_|refine br_tt ?_|refine br_ff ?_|refine vP ?_|refine vQ ?_|refine vT ?_|refine vF ?_|refine br_and ?_|refine br_or ?_|refine br_d (fun _=>?_) fun _=>?_|refine vM (fun _=>?_) fun _=>?_)
   refine Dr.mk ⟨(.rd 0 (.rd 1 (.rd 2 (.rd 3 (.ef 4 (.rd 5 .dn) .no))))), by decide +kernel, ?_⟩
   repeat' ((conv=>whnf);first|refine vA ?_|with_reducible first|refine v8 ?_|refine Sp.mk ?_ ?_|refine vS ?_|refine vR ?_|refine vB ?_|refine br_nt ?_|refine br_tt ?_|refine br_ff ?_|refine vP ?_|refine vQ ?_|refine vT ?_|refine vF ?_|refine br_and ?_|refine br_or ?_|refine br_d (fun _=>?_) fun _=>?_|refine vM (fun _=>?_) fun _=>?_)
   by_cases hw : w = ⟨#[]⟩
   ·rw [decide_eq_true hw]
    refine ⟨_, ?_, h ⟨p,bs,rs.take a.toNat ++ rs.drop (a.toNat + 1)⟩ true (fun q => (made_3 (x := ⟨p,bs,rs⟩) q3 hw hc).symm) (fun q => (by cases q))⟩
    repeat' ((conv=>whnf);first|with_reducible exact True.intro|exact vW|with_reducible refine And.intro ?_ ?_)
    all_goals first | exact Chk.mk ⟨rfl, fun i _ => by dsimp only; rw [Nat.zero_add]⟩ | exact Chk.mk y4
   ·rw [decide_eq_false hw]
    refine ⟨_, ?_, h ⟨p,bs,rs.take a.toNat ++ rs.drop (a.toNat + 1)⟩ false (fun q => (by cases q)) (fun q => (made_3n (x := ⟨p,bs,rs⟩) q3 fun g => hw g.1))⟩
    repeat' ((conv=>whnf);first|with_reducible exact True.intro|exact vW|with_reducible refine And.intro ?_ ?_)
    all_goals first | exact Chk.mk ⟨rfl, fun i _ => by dsimp only; rw [Nat.zero_add]⟩ | exact Chk.mk y4
 ·rename_i q0 q1 q2 q3
  refine ⟨_, ?_, h ⟨p,bs,rs⟩ false (fun q => (by cases q)) (fun q => (made_n q0 q1 q2 q3))⟩
  repeat' ((conv=>whnf);first|with_reducible exact True.intro|exact vW|with_reducible refine And.intro ?_ ?_)
  all_goals first | exact Chk.mk ⟨rfl, fun i _ => by dsimp only; rw [Nat.zero_add]⟩ | exact Chk.mk y1
end Go.Proofs.YtkafoolhbflfkaaGreatDoor.Vc
end
section
/- Part EH: results that are told anew by what they mean. -/
namespace Go.Proofs.YtkafoolhbflfkaaGreatDoor.Vc
open Go.Proofs
set_option maxRecDepth 10000
end Go.Proofs.YtkafoolhbflfkaaGreatDoor.Vc
end
section
/- Part XK: a deed at a desk, by the implementation. -/
namespace Go.Proofs.YtkafoolhbflfkaaGreatDoor.Vc
open Go.Proofs
set_option maxRecDepth 10000
set_option maxHeartbeats 4000000
def C261 : GC := conG (X := Desk) (fun d => [enDe d]) (fun _ => []) shortD fun d K => K (deG d) [psO d.past]
theorem F261 : GG 114 C261 := by
 refine fitG [(71, C157)] (by simp only [List.mem_cons, List.not_mem_nil, or_false]; rintro _ rfl <;> first | exact F157) [] (by simp) Tryz.f114 ⟨rfl, by decide +kernel, by decide +kernel⟩ (by intro x K K2 hk h; (try dsimp only at h ⊢); intros; apply hk; first | exact h | (apply h <;> assumption)) ?_
 rintro ⟨⟨p, bs, rs⟩, l⟩ K ⟨h1, h2, h3⟩ h
 refine ⟨Nat.le_of_ble_eq_true rfl, ?_⟩
 unfold deG psO at h
 dsimp only [enDe, deC] at h h1 h2 h3 ⊢
 repeat' ((conv=>whnf);first|refine vA ?_|with_reducible first|refine v8 ?_|refine Sp.mk ?_ ?_|refine vS ?_|refine vR ?_|refine vB ?_|refine br_nt ?_|refine br_tt ?_|refine br_ff ?_|refine vP ?_|refine vQ ?_|refine vT ?_|refine vF ?_|refine br_and ?_|refine br_or ?_|refine br_d (fun _=>?_) fun _=>?_|refine vM (fun _=>?_) fun _=>?_)
 refine ⟨⟨p, bs, rs⟩, ?_, ⟨h1⟩, ?_⟩
 ·repeat' ((conv=>whnf);first|with_reducible exact True.intro|exact vW|with_reducible refine And.intro ?_ ?_)
 dsimp only [enPl, plC]
 repeat' ((conv=>whnf);first|refine vA ?_|with_reducible first|refine v8 ?_|refine Sp.mk ?_ ?_|refine vS ?_|refine vR ?_|refine vB ?_|refine br_nt ?_|refine br_tt ?_|refine br_ff ?_|refine vP ?_|refine vQ ?_|refine vT ?_|refine vF ?_|refine br_and ?_|refine br_or ?_|refine br_d (fun _=>?_) fun _=>?_|refine vM (fun _=>?_) fun _=>?_)
 refine Lp.mk ⟨Nat, fun i => [(1, .ptr 0 0), (2, .ptr 1 0), (3, .ptr 2 0), (11, slP l), (12, .int .i64 l.length), (13, .int .i64 i)], fun i => [.box (deC ⟨⟨p, bs, rs⟩, l⟩), .box [.int .i64 0, .nils, .nils, .nils], .box [.int .i64 p, slI bs, slS rs, .row 3 3 0 (l.take i).length], psO (l.take i)], fun i => i ≤ l.length, fun i => l.length - i, ⟨0, Nat.zero_le _, ⟨⟨[some 0, some 1, some 2, none], [], rfl, rfl, ?_, ?_⟩⟩⟩, ?_⟩
 ·repeat' ((conv=>whnf);first|with_reducible exact True.intro|exact vW|with_reducible refine And.intro ?_ ?_)
 ·repeat' ((conv=>whnf);first|with_reducible exact True.intro|exact vW|with_reducible refine And.intro ?_ ?_)
 intro i i1
 dsimp only [deC, psO]
 have hti : (l.take i).length ≤ 100000 := by rw [List.length_take]; omega
 repeat' ((conv=>whnf);first|refine vA ?_|with_reducible first|refine v8 ?_|refine Sp.mk ?_ ?_|refine vS ?_|refine vR ?_|refine vB ?_|refine br_nt ?_|refine br_tt ?_|refine br_ff ?_|refine vP ?_|refine vQ ?_|refine vT ?_|refine vF ?_|refine br_and ?_|refine br_or ?_|refine br_d (fun _=>?_) fun _=>?_|refine vM (fun _=>?_) fun _=>?_)
 ·rename_i hi
  have hi : i < l.length := by omega
  have hsn : l.take (i + 1) = l.take i ++ [l.getD i default] := take_succ' default hi
  refine Dr.mk ⟨(.rd 0 (.rd 1 (.rd 2 (.ef 3 (.ef 4 (.ef 5 (.rd 6 (.ef 7 .dn .no)) .no) .no) .no)))), by decide +kernel, ?_⟩
  repeat' ((conv=>whnf);first|refine vA ?_|with_reducible first|refine v8 ?_|refine Sp.mk ?_ ?_|refine vS ?_|refine vR ?_|refine vB ?_|refine br_nt ?_|refine br_tt ?_|refine br_ff ?_|refine vP ?_|refine vQ ?_|refine vT ?_|refine vF ?_|refine br_and ?_|refine br_or ?_|refine br_d (fun _=>?_) fun _=>?_|refine vM (fun _=>?_) fun _=>?_)
  all_goals
   refine ⟨l.getD i default, ?_, ⟨h3 _ (getD_mem' hi)⟩, ?_⟩
   ·repeat' ((conv=>whnf);first|with_reducible exact True.intro|exact vW|with_reducible refine And.intro ?_ ?_)
   dsimp only [enPl, plC]
   repeat' ((conv=>whnf);first|refine vA ?_|with_reducible first|refine v8 ?_|refine Sp.mk ?_ ?_|refine vS ?_|refine vR ?_|refine vB ?_|refine br_nt ?_|refine br_tt ?_|refine br_ff ?_|refine vP ?_|refine vQ ?_|refine vT ?_|refine vF ?_|refine br_and ?_|refine br_or ?_|refine br_d (fun _=>?_) fun _=>?_|refine vM (fun _=>?_) fun _=>?_)
  all_goals
   refine ⟨i + 1, by omega, by omega, ?_⟩
   first | (refine ⟨⟨[some 0, some 1, some 2, some 6], [], rfl, rfl, ?_, ?_⟩⟩ <;> (repeat' ((conv=>whnf);first|with_reducible exact True.intro|exact vW|with_reducible refine And.intro ?_ ?_ | exact Chk.mk ⟨rfl, by rw [hsn, List.length_append]; rfl⟩ | exact Chk.mk (by rw [hsn]; exact ext_push (enc := plC) (d := default) (l := l.take i) (x := l.getD i default) rfl))) <;> fail) | (refine ⟨⟨[some 0, some 1, some 2, some 5], [], rfl, rfl, ?_, ?_⟩⟩ <;> (repeat' ((conv=>whnf);first|with_reducible exact True.intro|exact vW|with_reducible refine And.intro ?_ ?_ | exact Chk.mk ⟨rfl, by rw [hsn, List.length_append]; rfl⟩ | exact Chk.mk (by rw [hsn]; exact ext_push (enc := plC) (d := default) (l := l.take i) (x := l.getD i default) rfl))) <;> fail) | (refine ⟨⟨[some 0, some 1, some 2, some 4], [], rfl, rfl, ?_, ?_⟩⟩ <;> (repeat' ((conv=>whnf);first|with_reducible exact True.intro|exact vW|with_reducible refine And.intro ?_ ?_ | exact Chk.mk ⟨rfl, by rw [hsn, List.length_append]; rfl⟩ | exact Chk.mk (by rw [hsn]; exact ext_push (enc := plC) (d := default) (l := l.take i) (x := l.getD i default) rfl))) <;> fail)
 ·rename_i hi
  rw [List.take_of_length_le (by omega)]
  repeat' ((conv=>whnf);first|refine vA ?_|with_reducible first|refine v8 ?_|refine Sp.mk ?_ ?_|refine vS ?_|refine vR ?_|refine vB ?_|refine br_nt ?_|refine br_tt ?_|refine br_ff ?_|refine vP ?_|refine vQ ?_|refine vT ?_|refine vF ?_|refine br_and ?_|refine br_or ?_|refine br_d (fun _=>?_) fun _=>?_|refine vM (fun _=>?_) fun _=>?_)
  refine ⟨_, _, [some 3], [], rfl, rfl, ?_, ?_, h⟩
  ·repeat' ((conv=>whnf);first|with_reducible exact True.intro|exact vW|with_reducible refine And.intro ?_ ?_)
  ·repeat' ((conv=>whnf);first|with_reducible exact True.intro|exact vW|with_reducible refine And.intro ?_ ?_)
theorem doD_back0 {d : Desk} (h : d.past.length = 0) : doD d backD = none := by
 unfold doD
 rw [if_neg (by omega), show madeP d.now backD = default from made_n (by decide) (by decide) (by decide) (by decide), if_neg fun q => no_place q.1]
theorem doD_back1 {d : Desk} (h : 0 < d.past.length) : doD d backD = some ⟨d.past.getD (d.past.length - 1) default, d.past.take (d.past.length - 1)⟩ := if_pos ⟨rfl, h⟩
theorem doD_bad {d : Desk} {a : Dd} (ha : a ≠ backD) (h : ¬ placeOk (madeP d.now a)) : doD d a = none := by
 unfold doD
 rw [if_neg fun q => ha q.1, if_neg fun q => h q.1]
theorem doD_same {d : Desk} {a : Dd} (ha : a ≠ backD) (h : madeP d.now a = d.now) : doD d a = none := by
 unfold doD
 rw [if_neg fun q => ha q.1, h, if_neg fun q => q.2 rfl]
theorem doD_new {d : Desk} {a : Dd} (ha : a ≠ backD) (hO : placeOk d.now) (h : placeOk (madeP d.now a)) (hn : madeP d.now a ≠ d.now) : doD d a = some ⟨madeP d.now a, pushP d.past d.now⟩ := by
 unfold doD
 rw [if_neg fun q => ha q.1, if_pos ⟨h, fun e => hn (plT_inj h hO (by unfold ptext at e; rwa [if_pos h, if_pos hO] at e))⟩]
theorem takeP_get {L : List Place} {n i : Nat} (h : i < n) : (L.take n).getD i default = L.getD i default := by
 rw [List.getD_eq_getElem?_getD, List.getD_eq_getElem?_getD, List.getElem?_take_of_lt h]
theorem takeP_ext {l : List Place} {n : Nat} (hn : n ≤ l.length) : (l.take n).length = n - Int.toNat 0 ∧ ∀ i, i < (l.take n).length → plC ((l.take n).getD i default) = plC (l.getD (Int.toNat 0 + i) default) := ⟨by rw [List.length_take]; show _ = n - 0; omega, fun i hi => by
 rw [List.length_take] at hi
 rw [takeP_get (by omega)]
 show _ = plC (l.getD (0 + i) default)
 rw [Nat.zero_add]⟩
theorem pushP_ext {l : List Place} {x : Place} {g : Nat → List AV} (hg : g 0 = plC x) (h : l.length + 1 > 8) : (pushP l x).length = ((l.length + 1 : Nat) : Int).toNat - Int.toNat 1 ∧ ∀ i, i < (pushP l x).length → plC ((pushP l x).getD i default) = appF l.length (fun i => plC (l.getD i default)) g (0 + Int.toNat 1 + i) := by
 have e : pushP l x = (l ++ [x]).drop 1 := if_pos (by rw [List.length_append]; exact h)
 have := ext_dropV (enc := plC) (d := default) (l := l) (x := x) (g := g) hg
 rw [e]
 exact ⟨this.1.symm, fun i hi => (this.2 i (by rw [this.1]; exact hi)).symm⟩
theorem pushP_ext' {l : List Place} {x : Place} {g : Nat → List AV} (hg : g 0 = plC x) (h : ¬ l.length + 1 > 8) : (pushP l x).length = l.length + 1 ∧ ∀ i, i < (pushP l x).length → plC ((pushP l x).getD i default) = appF l.length (fun i => plC (l.getD i default)) g (0 + i) := by
 have e : pushP l x = l ++ [x] := if_neg (by rw [List.length_append]; exact h)
 have := ext_push (enc := plC) (d := default) (l := l) (x := x) (g := g) hg
 rw [e]
 exact ⟨this.1, fun i hi => by rw [Nat.zero_add]; exact this.2 i hi⟩
def C254 : List AV → (AV → Prop) → Prop := con (X := De) (fun x => [enDe x.d, ded x.a]) (fun x => deskI x.d ∧ deskOk x.d ∧ dedI x.a) fun x K => K (.tup [enDe ((doD x.d x.a).getD x.d), .bool (doD x.d x.a).isSome])
theorem F254 : FF 77 C254 := by
 refine fitXE [(115, C262), (66, C152), (116, C263)] (by simp only [List.mem_cons, List.not_mem_nil, or_false]; rintro _ (rfl | rfl | rfl) <;> first | exact F262 | exact F152 | exact F263) [(114, C261)] (by simp only [List.mem_cons, List.not_mem_nil, or_false]; rintro _ rfl; exact F261) Tryz.f77 ⟨rfl, by decide +kernel, by decide +kernel⟩ (fun _ _ _ hk h => hk _ h) ?_
 rintro ⟨⟨⟨p, bs, rs⟩, l⟩, ⟨k, a, b, w⟩⟩ K ⟨hI, hO, ha⟩ h
 refine ⟨Nat.le_of_ble_eq_true rfl, ?_⟩
 have hs := deskOk_short hO
 have hs2 := hO.2.1
 dsimp only [enDe, deC, ded, encD] at hI ha hs2 ⊢
 repeat' ((conv=>whnf);first|refine vA ?_|with_reducible first|refine v8 ?_|refine Sp.mk ?_ ?_|refine vS ?_|refine vR ?_|refine vB ?_|refine br_nt ?_|refine br_tt ?_|refine br_ff ?_|refine vP ?_|refine vQ ?_|refine vT ?_|refine vF ?_|refine br_and ?_|refine br_or ?_|refine br_d (fun _=>?_) fun _=>?_|refine vM (fun _=>?_) fun _=>?_)
 refine ⟨_, _, [], [], rfl, ?_, ?_, ⟨⟨p, bs, rs⟩, l⟩, rfl, rfl, ⟨hs⟩, ?_⟩
 ·repeat' ((conv=>whnf);first|with_reducible exact True.intro|exact vW|with_reducible refine And.intro ?_ ?_)
 ·repeat' ((conv=>whnf);first|with_reducible exact True.intro|exact vW|with_reducible refine And.intro ?_ ?_)
 dsimp only [deG, psO]
 replace h : K (.tup [enDe ((doD ⟨⟨p, bs, rs⟩, l⟩ ⟨k, a, b, w⟩).getD ⟨⟨p, bs, rs⟩, l⟩), .bool (doD ⟨⟨p, bs, rs⟩, l⟩ ⟨k, a, b, w⟩).isSome]) := h
 repeat' ((conv=>whnf);first|with_reducible refine wk_at 4 ?_|with_reducible refine wk_at1 4 ?_|with_reducible refine wk_at2 4 ?_|refine vA ?_|with_reducible first|refine v8 ?_|refine Sp.mk ?_ ?_|refine vS ?_|refine vR ?_|refine vB ?_|refine br_nt ?_|refine br_tt ?_|refine br_ff ?_|refine vP ?_|refine vQ ?_|refine vT ?_|refine vF ?_|refine br_and ?_|refine br_or ?_|refine br_d (fun _=>?_) fun _=>?_|refine vM (fun _=>?_) fun _=>?_)
 ·rename_i q1 q2 q3 q4
  obtain rfl : k = 4 := q1
  obtain rfl : a = 0 := q2
  obtain rfl : b = 0 := q3
  obtain rfl : w = ⟨#[]⟩ := q4
  refine ⟨Wk.go [(4, .ptr 0 0), (6, .ptr 1 0), (7, .int .i64 ((l.length : Int) - 1))] [.box [.int .i64 0, .nils, .nils, .nils], .box (deC ⟨⟨p, bs, rs⟩, l⟩)] ⟨⟨[some 2, some 4], [3], rfl, rfl, ?_, ?_⟩⟩ ?_⟩
  ·repeat' ((conv=>whnf);first|with_reducible exact True.intro|exact vW|with_reducible refine And.intro ?_ ?_)
  ·repeat' ((conv=>whnf);first|with_reducible exact True.intro|exact vW|with_reducible refine And.intro ?_ ?_)
   all_goals exact Chk.mk ⟨rfl, by omega, fun i _ => by dsimp only; (try rw [Nat.zero_add]); try rfl⟩
  dsimp only [deC]
  by_cases hl : l.length = 0
  ·rw [show doD ⟨⟨p, bs, rs⟩, l⟩ ⟨4, 0, 0, ⟨#[]⟩⟩ = none from doD_back0 hl] at h
   repeat' ((conv=>whnf);first|refine vA ?_|with_reducible first|refine v8 ?_|refine Sp.mk ?_ ?_|refine vS ?_|refine vR ?_|refine vB ?_|refine br_nt ?_|refine br_tt ?_|refine br_ff ?_|refine vP ?_|refine vQ ?_|refine vT ?_|refine vF ?_|refine br_and ?_|refine br_or ?_|refine br_d (fun _=>?_) fun _=>?_|refine vM (fun _=>?_) fun _=>?_)
   refine ⟨_, ?_, h⟩
   repeat' ((conv=>whnf);first|with_reducible exact True.intro|exact vW|with_reducible refine And.intro ?_ ?_)
  ·have hlp : 0 < l.length := by omega
   have hm : l.getD (l.length - 1) default ∈ l := getD_mem' (by omega)
   rw [show doD ⟨⟨p, bs, rs⟩, l⟩ ⟨4, 0, 0, ⟨#[]⟩⟩ = some _ from doD_back1 hlp] at h
   have e1 : ((l.length : Int) - 1).toNat = l.length - 1 := by omega
   repeat' ((conv=>whnf);first|refine vA ?_|with_reducible first|refine v8 ?_|refine Sp.mk ?_ ?_|refine vS ?_|refine vR ?_|refine vB ?_|refine br_nt ?_|refine br_tt ?_|refine br_ff ?_|refine vP ?_|refine vQ ?_|refine vT ?_|refine vF ?_|refine br_and ?_|refine br_or ?_|refine br_d (fun _=>?_) fun _=>?_|refine vM (fun _=>?_) fun _=>?_)
   refine Dr.mk ⟨(.rd 0 (.rd 1 (.rd 2 (.rd 3 (.rd 4 (.rd 5 (.rd 6 (.rd 7 (.rd 8 (.rd 9 (.ef 10 (.ef 11 (.rd 12 .dn) .no) .no))))))))))), by decide +kernel, ?_⟩
   repeat' ((conv=>whnf);first|refine vA ?_|with_reducible first|refine v8 ?_|refine Sp.mk ?_ ?_|refine vS ?_|refine vR ?_|refine vB ?_|refine br_nt ?_|refine br_tt ?_|refine br_ff ?_|refine vP ?_|refine vQ ?_|refine vT ?_|refine vF ?_|refine br_and ?_|refine br_or ?_|refine br_d (fun _=>?_) fun _=>?_|refine vM (fun _=>?_) fun _=>?_)
   refine ⟨_, _, [], [], rfl, ?_, ?_, ⟨l.getD (l.length - 1) default, l.take (l.length - 1)⟩, rfl, rfl, ⟨⟨hs.2.2 _ hm, by dsimp only; rw [List.length_take]; omega, fun x hx => hs.2.2 x (List.mem_of_mem_take hx)⟩⟩, ?_⟩
   ·rw [e1]
    repeat' ((conv=>whnf);first|with_reducible exact True.intro|exact vW|with_reducible refine And.intro ?_ ?_)
    all_goals exact Chk.mk (takeP_ext (by omega))
   ·repeat' ((conv=>whnf);first|with_reducible exact True.intro|exact vW|with_reducible refine And.intro ?_ ?_)
   dsimp only [deG, psO]
   repeat' ((conv=>whnf);first|refine vA ?_|with_reducible first|refine v8 ?_|refine Sp.mk ?_ ?_|refine vS ?_|refine vR ?_|refine vB ?_|refine br_nt ?_|refine br_tt ?_|refine br_ff ?_|refine vP ?_|refine vQ ?_|refine vT ?_|refine vF ?_|refine br_and ?_|refine br_or ?_|refine br_d (fun _=>?_) fun _=>?_|refine vM (fun _=>?_) fun _=>?_)
   refine ⟨_, ?_, h⟩
   repeat' ((conv=>whnf);first|with_reducible exact True.intro|exact vW|with_reducible refine And.intro ?_ ?_)
   all_goals exact Chk.mk ⟨rfl, fun i _ => by dsimp only; (try rw [Nat.zero_add]); try rfl⟩
 all_goals
  have hnb : (⟨k, a, b, w⟩ : Dd) ≠ backD := by
   intro e
   have e3 := congrArg Dd.kind e
   have e4 := congrArg Dd.a e
   have e5 := congrArg Dd.b e
   have e6 := congrArg Dd.words e
   dsimp only [backD] at e3 e4 e5 e6
   first | omega | exact absurd e6 (by assumption)
  have hMI := madeP_I (a := ⟨k, a, b, w⟩) hI.1 hs.1 ha
  refine ⟨⟨⟨p, bs, rs⟩, ⟨k, a, b, w⟩⟩, ?_, ⟨hI.1, hO.1, ha⟩, ?_⟩
  ·repeat' ((conv=>whnf);first|with_reducible exact True.intro|exact vW|with_reducible refine And.intro ?_ ?_)
  intro y ok hy1 hy2
  dsimp only at hy1 hy2
  cases ok
  ·have hno : doD ⟨⟨p, bs, rs⟩, l⟩ ⟨k, a, b, w⟩ = none := doD_bad hnb (by dsimp only; rw [hy2 rfl]; exact no_place)
   rw [hno] at h
   obtain ⟨yp, yb, yr⟩ := y
   dsimp only [enPl, plC]
   repeat' ((conv=>whnf);first|refine vA ?_|with_reducible first|refine v8 ?_|refine Sp.mk ?_ ?_|refine vS ?_|refine vR ?_|refine vB ?_|refine br_nt ?_|refine br_tt ?_|refine br_ff ?_|refine vP ?_|refine vQ ?_|refine vT ?_|refine vF ?_|refine br_and ?_|refine br_or ?_|refine br_d (fun _=>?_) fun _=>?_|refine vM (fun _=>?_) fun _=>?_)
   refine ⟨_, ?_, h⟩
   repeat' ((conv=>whnf);first|with_reducible exact True.intro|exact vW|with_reducible refine And.intro ?_ ?_)
   all_goals exact Chk.mk ⟨rfl, fun i _ => by dsimp only; (try rw [Nat.zero_add]); try rfl⟩
  ·have hy := hy1 rfl
   rw [← hy] at hMI
   have eB := @doD_bad ⟨⟨p, bs, rs⟩, l⟩ ⟨k, a, b, w⟩ hnb
   have eS := @doD_same ⟨⟨p, bs, rs⟩, l⟩ ⟨k, a, b, w⟩ hnb
   have eN := @doD_new ⟨⟨p, bs, rs⟩, l⟩ ⟨k, a, b, w⟩ hnb hO.1
   dsimp only at eB eS eN
   rw [← hy] at eB eS eN
   obtain ⟨yp, yb, yr⟩ := y
   clear hy hy1 hy2
   dsimp only [enPl, plC]
   by_cases hp : placeOk ⟨yp, yb, yr⟩
   ·repeat' ((conv=>whnf);first|refine vA ?_|with_reducible first|refine v8 ?_|refine Sp.mk ?_ ?_|refine vS ?_|refine vR ?_|refine vB ?_|refine br_nt ?_|refine br_tt ?_|refine br_ff ?_|refine vP ?_|refine vQ ?_|refine vT ?_|refine vF ?_|refine br_and ?_|refine br_or ?_|refine br_d (fun _=>?_) fun _=>?_|refine vM (fun _=>?_) fun _=>?_)
    refine ⟨⟨yp, yb, yr⟩, ?_, ⟨hMI⟩, ?_⟩
    ·repeat' ((conv=>whnf);first|with_reducible exact True.intro|exact vW|with_reducible refine And.intro ?_ ?_)
    repeat' ((conv=>whnf);first|refine vA ?_|with_reducible first|refine v8 ?_|refine Sp.mk ?_ ?_|refine vS ?_|refine vR ?_|refine vB ?_|refine br_nt ?_|refine br_tt ?_|refine br_ff ?_|refine vP ?_|refine vQ ?_|refine vT ?_|refine vF ?_|refine br_and ?_|refine br_or ?_|refine br_d (fun _=>?_) fun _=>?_|refine vM (fun _=>?_) fun _=>?_)
    refine ⟨⟨⟨yp, yb, yr⟩, ⟨p, bs, rs⟩⟩, ?_, ⟨hMI.1.2, hMI.2.1⟩, ?_⟩
    ·repeat' ((conv=>whnf);first|with_reducible exact True.intro|exact vW|with_reducible refine And.intro ?_ ?_)
    intro same hsame
    dsimp only at hsame
    cases same
    ·have hne : (⟨yp, yb, yr⟩ : Place) ≠ ⟨p, bs, rs⟩ := fun e => by have := hsame.2 e; cases this
     rw [eN hp hne] at h
     have hpl : (pushP l ⟨p, bs, rs⟩).length ≤ 8 := pushP_len hs2
     have hpm := @pushP_mem l ⟨p, bs, rs⟩
     repeat' ((conv=>whnf);first|with_reducible refine wk_at 13 ?_|with_reducible refine wk_at1 13 ?_|with_reducible refine wk_at2 13 ?_|refine vA ?_|with_reducible first|refine v8 ?_|refine Sp.mk ?_ ?_|refine vS ?_|refine vR ?_|refine vB ?_|refine br_nt ?_|refine br_tt ?_|refine br_ff ?_|refine vP ?_|refine vQ ?_|refine vT ?_|refine vF ?_|refine br_and ?_|refine br_or ?_|refine br_d (fun _=>?_) fun _=>?_|refine vM (fun _=>?_) fun _=>?_)
     ·rename_i h8
      have hx := pushP_ext (l := l) (x := ⟨p, bs, rs⟩) (g := fun i => (fun i => [plC ⟨p, bs, rs⟩].getD i (lookT TT 39).z) (0 + i)) rfl (by omega)
      generalize pushP l ⟨p, bs, rs⟩ = M at hpl hpm hx h ⊢
      refine ⟨Wk.go [(4, .ptr 0 0), (8, .ptr 1 0), (10, slP M)] [.box [.int .i64 0, .nils, .nils, .nils], .box [.int .i64 yp, slI yb, slS yr]] ⟨⟨[some 2, some 5], [7], rfl, rfl, ?_, ?_⟩⟩ ?_⟩
      ·repeat' ((conv=>whnf);first|with_reducible exact True.intro|exact vW|with_reducible refine And.intro ?_ ?_)
       all_goals exact Chk.mk ⟨hx.1, by omega, hx.2⟩
      ·repeat' ((conv=>whnf);first|with_reducible exact True.intro|exact vW|with_reducible refine And.intro ?_ ?_)
      repeat' ((conv=>whnf);first|refine vA ?_|with_reducible first|refine v8 ?_|refine Sp.mk ?_ ?_|refine vS ?_|refine vR ?_|refine vB ?_|refine br_nt ?_|refine br_tt ?_|refine br_ff ?_|refine vP ?_|refine vQ ?_|refine vT ?_|refine vF ?_|refine br_and ?_|refine br_or ?_|refine br_d (fun _=>?_) fun _=>?_|refine vM (fun _=>?_) fun _=>?_)
      refine ⟨_, _, [], [], rfl, ?_, ?_, ⟨⟨yp, yb, yr⟩, M⟩, rfl, rfl, ⟨⟨placeOk_short hp, by dsimp only; omega, fun x hx => (hpm x hx).elim (hs.2.2 x) fun e => e ▸ hs.1⟩⟩, ?_⟩
      ·repeat' ((conv=>whnf);first|with_reducible exact True.intro|exact vW|with_reducible refine And.intro ?_ ?_)
      ·repeat' ((conv=>whnf);first|with_reducible exact True.intro|exact vW|with_reducible refine And.intro ?_ ?_)
      dsimp only [deG, psO]
      repeat' ((conv=>whnf);first|refine vA ?_|with_reducible first|refine v8 ?_|refine Sp.mk ?_ ?_|refine vS ?_|refine vR ?_|refine vB ?_|refine br_nt ?_|refine br_tt ?_|refine br_ff ?_|refine vP ?_|refine vQ ?_|refine vT ?_|refine vF ?_|refine br_and ?_|refine br_or ?_|refine br_d (fun _=>?_) fun _=>?_|refine vM (fun _=>?_) fun _=>?_)
      refine ⟨_, ?_, h⟩
      repeat' ((conv=>whnf);first|with_reducible exact True.intro|exact vW|with_reducible refine And.intro ?_ ?_)
      all_goals exact Chk.mk ⟨rfl, fun i _ => by dsimp only; (try rw [Nat.zero_add]); try rfl⟩
     ·rename_i h8
      have hx := pushP_ext' (l := l) (x := ⟨p, bs, rs⟩) (g := fun i => (fun i => [plC ⟨p, bs, rs⟩].getD i (lookT TT 39).z) (0 + i)) rfl (by omega)
      generalize pushP l ⟨p, bs, rs⟩ = M at hpl hpm hx h ⊢
      refine ⟨Wk.go [(4, .ptr 0 0), (8, .ptr 1 0), (10, slP M)] [.box [.int .i64 0, .nils, .nils, .nils], .box [.int .i64 yp, slI yb, slS yr]] ⟨⟨[some 2, some 5], [7], rfl, rfl, ?_, ?_⟩⟩ ?_⟩
      ·repeat' ((conv=>whnf);first|with_reducible exact True.intro|exact vW|with_reducible refine And.intro ?_ ?_)
       all_goals exact Chk.mk ⟨hx.1, by omega, hx.2⟩
      ·repeat' ((conv=>whnf);first|with_reducible exact True.intro|exact vW|with_reducible refine And.intro ?_ ?_)
      repeat' ((conv=>whnf);first|refine vA ?_|with_reducible first|refine v8 ?_|refine Sp.mk ?_ ?_|refine vS ?_|refine vR ?_|refine vB ?_|refine br_nt ?_|refine br_tt ?_|refine br_ff ?_|refine vP ?_|refine vQ ?_|refine vT ?_|refine vF ?_|refine br_and ?_|refine br_or ?_|refine br_d (fun _=>?_) fun _=>?_|refine vM (fun _=>?_) fun _=>?_)
      refine ⟨_, _, [], [], rfl, ?_, ?_, ⟨⟨yp, yb, yr⟩, M⟩, rfl, rfl, ⟨⟨placeOk_short hp, by dsimp only; omega, fun x hx => (hpm x hx).elim (hs.2.2 x) fun e => e ▸ hs.1⟩⟩, ?_⟩
      ·repeat' ((conv=>whnf);first|with_reducible exact True.intro|exact vW|with_reducible refine And.intro ?_ ?_)
      ·repeat' ((conv=>whnf);first|with_reducible exact True.intro|exact vW|with_reducible refine And.intro ?_ ?_)
      dsimp only [deG, psO]
      repeat' ((conv=>whnf);first|refine vA ?_|with_reducible first|refine v8 ?_|refine Sp.mk ?_ ?_|refine vS ?_|refine vR ?_|refine vB ?_|refine br_nt ?_|refine br_tt ?_|refine br_ff ?_|refine vP ?_|refine vQ ?_|refine vT ?_|refine vF ?_|refine br_and ?_|refine br_or ?_|refine br_d (fun _=>?_) fun _=>?_|refine vM (fun _=>?_) fun _=>?_)
      refine ⟨_, ?_, h⟩
      repeat' ((conv=>whnf);first|with_reducible exact True.intro|exact vW|with_reducible refine And.intro ?_ ?_)
      all_goals exact Chk.mk ⟨rfl, fun i _ => by dsimp only; (try rw [Nat.zero_add]); try rfl⟩
    ·rw [eS (hsame.1 rfl)] at h
     repeat' ((conv=>whnf);first|refine vA ?_|with_reducible first|refine v8 ?_|refine Sp.mk ?_ ?_|refine vS ?_|refine vR ?_|refine vB ?_|refine br_nt ?_|refine br_tt ?_|refine br_ff ?_|refine vP ?_|refine vQ ?_|refine vT ?_|refine vF ?_|refine br_and ?_|refine br_or ?_|refine br_d (fun _=>?_) fun _=>?_|refine vM (fun _=>?_) fun _=>?_)
     refine ⟨_, ?_, h⟩
     repeat' ((conv=>whnf);first|with_reducible exact True.intro|exact vW|with_reducible refine And.intro ?_ ?_)
     all_goals exact Chk.mk ⟨rfl, fun i _ => by dsimp only; (try rw [Nat.zero_add]); try rfl⟩
   ·rw [eB hp] at h
    repeat' ((conv=>whnf);first|refine vA ?_|with_reducible first|refine v8 ?_|refine Sp.mk ?_ ?_|refine vS ?_|refine vR ?_|refine vB ?_|refine br_nt ?_|refine br_tt ?_|refine br_ff ?_|refine vP ?_|refine vQ ?_|refine vT ?_|refine vF ?_|refine br_and ?_|refine br_or ?_|refine br_d (fun _=>?_) fun _=>?_|refine vM (fun _=>?_) fun _=>?_)
    refine ⟨⟨yp, yb, yr⟩, ?_, ⟨hMI⟩, ?_⟩
    ·repeat' ((conv=>whnf);first|with_reducible exact True.intro|exact vW|with_reducible refine And.intro ?_ ?_)
    repeat' ((conv=>whnf);first|refine vA ?_|with_reducible first|refine v8 ?_|refine Sp.mk ?_ ?_|refine vS ?_|refine vR ?_|refine vB ?_|refine br_nt ?_|refine br_tt ?_|refine br_ff ?_|refine vP ?_|refine vQ ?_|refine vT ?_|refine vF ?_|refine br_and ?_|refine br_or ?_|refine br_d (fun _=>?_) fun _=>?_|refine vM (fun _=>?_) fun _=>?_)
    refine ⟨_, ?_, h⟩
    repeat' ((conv=>whnf);first|with_reducible exact True.intro|exact vW|with_reducible refine And.intro ?_ ?_)
    all_goals exact Chk.mk ⟨rfl, fun i _ => by dsimp only; (try rw [Nat.zero_add]); try rfl⟩
end Go.Proofs.YtkafoolhbflfkaaGreatDoor.Vc
end
section
/- Part XE: the laws on texts of deeds that are read. -/
namespace Go.Proofs.YtkafoolhbflfkaaGreatDoor.Vc
open Go.Proofs
set_option maxRecDepth 10000
set_option maxHeartbeats 4000000
theorem drawnP.S {x : Place} (h : drawnP x) : placeS x := ⟨h.I, h.bl, Nat.le_trans h.rl (by decide)⟩
end Go.Proofs.YtkafoolhbflfkaaGreatDoor.Vc
end
section
/- Part XH: deeds that are drawn; the laws on journals. -/
namespace Go.Proofs.YtkafoolhbflfkaaGreatDoor.Vc
open Go.Proofs
set_option maxRecDepth 10000
set_option maxHeartbeats 4000000
def drawnL (l : List Dd) : Prop := l.length ≤ 6 ∧ ∀ a ∈ l, drawnA a
theorem wsum_le {l : List Dd} {M : Nat} (h : ∀ a ∈ l, a.words.size ≤ M) : ∀ i, i ≤ l.length → wsum l i ≤ M * i
 |0, _ => Nat.le_refl _
 |i + 1, hi => by
  have h1 := wsum_le h i (by omega)
  have h2 := h _ (getD_mem' (d := default) hi)
  show wsum l i + _ ≤ _
  rw [Nat.mul_add, Nat.mul_one]
  omega
theorem drawnL.j {l : List Dd} (h : drawnL l) : jOk l := by
 have := wsum_le (M := 10000) (fun a ha => (h.2 a ha).w0) _ (Nat.le_refl l.length)
 have := h.1
 unfold jOk
 omega
end Go.Proofs.YtkafoolhbflfkaaGreatDoor.Vc
end
section
/- Part TP: desks whose past is a row of one's own. -/
namespace Go.Proofs.YtkafoolhbflfkaaGreatDoor.Vc
open Go.Proofs
set_option maxRecDepth 10000
set_option maxHeartbeats 4000000
structure Dk where
 x : Place
 L : List Place
 n : Nat
def Dk.d (k : Dk) : Desk := ⟨k.x, k.L.take k.n⟩
end Go.Proofs.YtkafoolhbflfkaaGreatDoor.Vc
end
section
/- Part TQ: desks that are drawn. -/
namespace Go.Proofs.YtkafoolhbflfkaaGreatDoor.Vc
open Go.Proofs
set_option maxRecDepth 10000
set_option maxHeartbeats 4000000
end Go.Proofs.YtkafoolhbflfkaaGreatDoor.Vc
end
section
/- Part TR: the law of desks. -/
namespace Go.Proofs.YtkafoolhbflfkaaGreatDoor.Vc
open Go.Proofs
set_option maxRecDepth 10000
set_option maxHeartbeats 4000000
end Go.Proofs.YtkafoolhbflfkaaGreatDoor.Vc
end
section
/- Part XL: deeds at desks, one and many, by both sides; drawn ones. -/
namespace Go.Proofs.YtkafoolhbflfkaaGreatDoor.Vc
open Go.Proofs
set_option maxRecDepth 10000
set_option maxHeartbeats 4000000
theorem deskOk_I {d : Desk} (h : deskOk d) : deskI d := ⟨I_of h.1, by have := h.2.1; omega, fun p hp => I_of (h.2.2 p hp)⟩
def C239 := C183
theorem F239 : FF 48 C239 := by
 refine fitXE [(81, C159), (77, C254)] (by simp only [List.mem_cons, List.not_mem_nil, or_false]; rintro _ (rfl | rfl) <;> first | exact F159 | exact F254) [] (by simp) Tryz.f48 ⟨rfl, by decide +kernel, by decide +kernel⟩ (by intro x K K2 hk h; (try dsimp only at h ⊢); intros; apply hk; first | exact h | (apply h <;> assumption)) ?_
 rintro ⟨⟨⟨p, bs, rs⟩, l⟩, ⟨k, a, b, w⟩⟩ K ⟨hI, ha⟩ h
 refine ⟨Nat.le_of_ble_eq_true rfl, ?_⟩
 replace h : K (.tup [enDe (afterD ⟨⟨p, bs, rs⟩, l⟩ ⟨k, a, b, w⟩), .bool (canD ⟨⟨p, bs, rs⟩, l⟩ ⟨k, a, b, w⟩)]) := h
 unfold afterD canD at h
 dsimp only [enDe, deC, ded, encD] at hI ha ⊢
 repeat' ((conv=>whnf);first|refine vA ?_|with_reducible first|refine v8 ?_|refine Sp.mk ?_ ?_|refine vS ?_|refine vR ?_|refine vB ?_|refine br_nt ?_|refine br_tt ?_|refine br_ff ?_|refine vP ?_|refine vQ ?_|refine vT ?_|refine vF ?_|refine br_and ?_|refine br_or ?_|refine br_d (fun _=>?_) fun _=>?_|refine vM (fun _=>?_) fun _=>?_)
 refine ⟨⟨⟨p, bs, rs⟩, l⟩, ?_, ⟨hI⟩, ?_⟩
 ·repeat' ((conv=>whnf);first|with_reducible exact True.intro|exact vW|with_reducible refine And.intro ?_ ?_)
 by_cases hO : deskOk ⟨⟨p, bs, rs⟩, l⟩
 ·rw [if_pos hO, decide_eq_true hO, Bool.true_and] at h
  repeat' ((conv=>whnf);first|refine vA ?_|with_reducible first|refine v8 ?_|refine Sp.mk ?_ ?_|refine vS ?_|refine vR ?_|refine vB ?_|refine br_nt ?_|refine br_tt ?_|refine br_ff ?_|refine vP ?_|refine vQ ?_|refine vT ?_|refine vF ?_|refine br_and ?_|refine br_or ?_|refine br_d (fun _=>?_) fun _=>?_|refine vM (fun _=>?_) fun _=>?_)
  refine ⟨⟨⟨⟨p, bs, rs⟩, l⟩, ⟨k, a, b, w⟩⟩, ?_, ⟨hI, hO, ha⟩, ?_⟩
  ·repeat' ((conv=>whnf);first|with_reducible exact True.intro|exact vW|with_reducible refine And.intro ?_ ?_)
  dsimp only
  generalize (doD ⟨⟨p, bs, rs⟩, l⟩ ⟨k, a, b, w⟩).isSome = ok at h ⊢
  generalize (doD ⟨⟨p, bs, rs⟩, l⟩ ⟨k, a, b, w⟩).getD ⟨⟨p, bs, rs⟩, l⟩ = e at h ⊢
  obtain ⟨⟨ep, eb, er⟩, el⟩ := e
  dsimp only [enDe, deC]
  repeat' ((conv=>whnf);first|refine vA ?_|with_reducible first|refine v8 ?_|refine Sp.mk ?_ ?_|refine vS ?_|refine vR ?_|refine vB ?_|refine br_nt ?_|refine br_tt ?_|refine br_ff ?_|refine vP ?_|refine vQ ?_|refine vT ?_|refine vF ?_|refine br_and ?_|refine br_or ?_|refine br_d (fun _=>?_) fun _=>?_|refine vM (fun _=>?_) fun _=>?_)
  refine ⟨_, ?_, h⟩
  repeat' ((conv=>whnf);first|with_reducible exact True.intro|exact vW|with_reducible refine And.intro ?_ ?_)
 ·rw [if_neg hO, decide_eq_false hO, Bool.false_and] at h
  repeat' ((conv=>whnf);first|refine vA ?_|with_reducible first|refine v8 ?_|refine Sp.mk ?_ ?_|refine vS ?_|refine vR ?_|refine vB ?_|refine br_nt ?_|refine br_tt ?_|refine br_ff ?_|refine vP ?_|refine vQ ?_|refine vT ?_|refine vF ?_|refine br_and ?_|refine br_or ?_|refine br_d (fun _=>?_) fun _=>?_|refine vM (fun _=>?_) fun _=>?_)
  refine ⟨_, ?_, h⟩
  repeat' ((conv=>whnf);first|with_reducible exact True.intro|exact vW|with_reducible refine And.intro ?_ ?_)
structure Rn where
 d : Desk
 l : List Dd
structure Ri where
 i : Nat
 e : Desk
 n : Nat
def rnPre (x : Rn) : Prop := deskOk x.d ∧ (∀ a ∈ x.l, dedI a) ∧ x.l.length ≤ 1048576
def C257 : List AV → (AV → Prop) → Prop := con (X := Rn) (fun x => [enDe x.d, slD x.l]) rnPre fun x K => K (.tup [enDe (runD x.d x.l).1, .int .i64 ((runD x.d x.l).2 : Nat)])
theorem F257 : FF 80 C257 := by
 refine fitXE [(73, C183)] (by simp only [List.mem_cons, List.not_mem_nil, or_false]; rintro _ rfl; exact F183) [(109, C198)] (by simp only [List.mem_cons, List.not_mem_nil, or_false]; rintro _ rfl; exact F198) Tryz.f80 ⟨rfl, by decide +kernel, by decide +kernel⟩ (fun _ _ _ hk h => hk _ h) ?_
 rintro ⟨⟨⟨p, bs, rs⟩, past⟩, l⟩ K ⟨hO, hl, hll⟩ h
 refine ⟨Nat.le_of_ble_eq_true rfl, ?_⟩
 dsimp only at hO hl hll h
 have hs := deskOk_short hO
 dsimp only [enDe, deC] at h ⊢
 repeat' ((conv=>whnf);first|refine vA ?_|with_reducible first|refine v8 ?_|refine Sp.mk ?_ ?_|refine vS ?_|refine vR ?_|refine vB ?_|refine br_nt ?_|refine br_tt ?_|refine br_ff ?_|refine vP ?_|refine vQ ?_|refine vT ?_|refine vF ?_|refine br_and ?_|refine br_or ?_|refine br_d (fun _=>?_) fun _=>?_|refine vM (fun _=>?_) fun _=>?_)
 refine ⟨_, _, [], [], rfl, ?_, ?_, ⟨⟨p, bs, rs⟩, past⟩, rfl, rfl, ⟨hs⟩, ?_⟩
 ·repeat' ((conv=>whnf);first|with_reducible exact True.intro|exact vW|with_reducible refine And.intro ?_ ?_)
 ·repeat' ((conv=>whnf);first|with_reducible exact True.intro|exact vW|with_reducible refine And.intro ?_ ?_)
 dsimp only [deG, psO]
 repeat' ((conv=>whnf);first|refine vA ?_|with_reducible first|refine v8 ?_|refine Sp.mk ?_ ?_|refine vS ?_|refine vR ?_|refine vB ?_|refine br_nt ?_|refine br_tt ?_|refine br_ff ?_|refine vP ?_|refine vQ ?_|refine vT ?_|refine vF ?_|refine br_and ?_|refine br_or ?_|refine br_d (fun _=>?_) fun _=>?_|refine vM (fun _=>?_) fun _=>?_)
 refine Lp.mk ⟨Ri, fun x => [(1, slD l), (4, .ptr 0 0), (6, .ptr 1 0), (7, .int .i64 x.n), (8, .int .i64 x.i)], fun x => [.box [.int .i64 0, .nils, .nils, .nils], .box [.int .i64 x.e.now.p, slI x.e.now.bs, slS x.e.now.rules, slP x.e.past]], fun x => x.i ≤ l.length ∧ runD ⟨⟨p, bs, rs⟩, past⟩ (l.take x.i) = (x.e, x.n), fun x => l.length - x.i, ⟨⟨0, ⟨⟨p, bs, rs⟩, past⟩, 0⟩, ⟨Nat.zero_le _, rfl⟩, ?_⟩, ?_⟩
 ·first | (refine ⟨⟨[some 1, some 3], [2], rfl, rfl, ?_, ?_⟩⟩ <;> (repeat' ((conv=>whnf);first|with_reducible exact True.intro|exact vW|with_reducible refine And.intro ?_ ?_ | exact Chk.mk ⟨rfl, by dsimp only; omega, fun i _ => by dsimp only; (try rw [Nat.zero_add]); try rfl⟩)) <;> fail) | (refine ⟨⟨[some 1, some 2], [3], rfl, rfl, ?_, ?_⟩⟩ <;> (repeat' ((conv=>whnf);first|with_reducible exact True.intro|exact vW|with_reducible refine And.intro ?_ ?_ | exact Chk.mk ⟨rfl, by dsimp only; omega, fun i _ => by dsimp only; (try rw [Nat.zero_add]); try rfl⟩)) <;> fail)
 rintro ⟨i, ⟨⟨ep, eb, er⟩, el⟩, n⟩ ⟨i1, i2⟩
 dsimp only at i1 i2 ⊢
 have hOe : deskOk ⟨⟨ep, eb, er⟩, el⟩ := by have := runD_ok hO (l.take i); rw [i2] at this; exact this
 have hn := runD_le ⟨⟨p, bs, rs⟩, past⟩ (l.take i)
 rw [i2, List.length_take] at hn
 dsimp only at hn
 by_cases hi : i < l.length
 ·have hst := take_step hi
  have ha := hl _ (getD_mem' (d := default) hi)
  generalize hA : l.getD i default = A at ha hst
  have hA' : l.getD (i : Int).toNat default = A := hA
  repeat' ((conv=>whnf);first|refine vA ?_|with_reducible first|refine v8 ?_|refine Sp.mk ?_ ?_|refine vS ?_|refine vR ?_|refine vB ?_|refine br_nt ?_|refine br_tt ?_|refine br_ff ?_|refine vP ?_|refine vQ ?_|refine vT ?_|refine vF ?_|refine br_and ?_|refine br_or ?_|refine br_d (fun _=>?_) fun _=>?_|refine vM (fun _=>?_) fun _=>?_)
  refine Dr.mk ⟨(.rd 0 (.rd 1 (.rd 2 (.rd 3 (.rd 4 (.ef 5 (.rd 6 (.rd 7 (.rd 8 (.ef 9 (.ef 10 (.rd 11 .dn) .no) .no)))) (.ef 9 (.ef 5 (.rd 6 (.rd 7 (.rd 8 (.ef 10 (.rd 11 .dn) .no)))) .no) .no))))))), by decide +kernel, ?_⟩
  repeat' ((conv=>whnf);first|refine vA ?_|with_reducible first|refine v8 ?_|refine Sp.mk ?_ ?_|refine vS ?_|refine vR ?_|refine vB ?_|refine br_nt ?_|refine br_tt ?_|refine br_ff ?_|refine vP ?_|refine vQ ?_|refine vT ?_|refine vF ?_|refine br_and ?_|refine br_or ?_|refine br_d (fun _=>?_) fun _=>?_|refine vM (fun _=>?_) fun _=>?_)
  all_goals
   refine ⟨⟨⟨⟨ep, eb, er⟩, el⟩, A⟩, ?_, ⟨deskOk_I hOe, ha⟩, ?_⟩
   ·repeat' ((conv=>whnf);first|with_reducible exact True.intro|exact vW|with_reducible refine And.intro ?_ ?_)
    all_goals first | exact Chk.mk (by rw [hA'])
   dsimp only
   cases hd : doD ⟨⟨ep, eb, er⟩, el⟩ A with
   |none =>
    have hr : runD ⟨⟨p, bs, rs⟩, past⟩ (l.take (i + 1)) = (⟨⟨ep, eb, er⟩, el⟩, n) := by rw [hst, runD_none (by rw [i2]; exact hd), i2]
    rw [afterD_none hOe hd, canD_none hd]
    dsimp only [enDe, deC]
    repeat' ((conv=>whnf);first|refine vA ?_|with_reducible first|refine v8 ?_|refine Sp.mk ?_ ?_|refine vS ?_|refine vR ?_|refine vB ?_|refine br_nt ?_|refine br_tt ?_|refine br_ff ?_|refine vP ?_|refine vQ ?_|refine vT ?_|refine vF ?_|refine br_and ?_|refine br_or ?_|refine br_d (fun _=>?_) fun _=>?_|refine vM (fun _=>?_) fun _=>?_)
    refine ⟨⟨i + 1, ⟨⟨ep, eb, er⟩, el⟩, n⟩, ⟨by dsimp only; omega, hr⟩, by dsimp only; omega, ?_⟩
    first | (refine ⟨⟨[some 0, some 1], [], rfl, rfl, ?_, ?_⟩⟩ <;> (repeat' ((conv=>whnf);first|with_reducible exact True.intro|exact vW|with_reducible refine And.intro ?_ ?_)) <;> fail)
   |some e =>
    have hr : runD ⟨⟨p, bs, rs⟩, past⟩ (l.take (i + 1)) = (e, n + 1) := by rw [hst, runD_some (by rw [i2]; exact hd), i2]
    rw [afterD_some hOe hd, canD_some hOe hd]
    obtain ⟨⟨fp, fb, fr⟩, fl⟩ := e
    dsimp only [enDe, deC]
    repeat' ((conv=>whnf);first|refine vA ?_|with_reducible first|refine v8 ?_|refine Sp.mk ?_ ?_|refine vS ?_|refine vR ?_|refine vB ?_|refine br_nt ?_|refine br_tt ?_|refine br_ff ?_|refine vP ?_|refine vQ ?_|refine vT ?_|refine vF ?_|refine br_and ?_|refine br_or ?_|refine br_d (fun _=>?_) fun _=>?_|refine vM (fun _=>?_) fun _=>?_)
    refine ⟨⟨i + 1, ⟨⟨fp, fb, fr⟩, fl⟩, n + 1⟩, ⟨by dsimp only; omega, hr⟩, by dsimp only; omega, ?_⟩
    first | (refine ⟨⟨[some 0, some 1], [], rfl, rfl, ?_, ?_⟩⟩ <;> (repeat' ((conv=>whnf);first|with_reducible exact True.intro|exact vW|with_reducible refine And.intro ?_ ?_)) <;> fail)
 ·obtain rfl : i = l.length := by omega
  rw [List.take_length] at i2
  rw [i2] at h
  repeat' ((conv=>whnf);first|refine vA ?_|with_reducible first|refine v8 ?_|refine Sp.mk ?_ ?_|refine vS ?_|refine vR ?_|refine vB ?_|refine br_nt ?_|refine br_tt ?_|refine br_ff ?_|refine vP ?_|refine vQ ?_|refine vT ?_|refine vF ?_|refine br_and ?_|refine br_or ?_|refine br_d (fun _=>?_) fun _=>?_|refine vM (fun _=>?_) fun _=>?_)
  refine ⟨_, ?_, h⟩
  repeat' ((conv=>whnf);first|with_reducible exact True.intro|exact vW|with_reducible refine And.intro ?_ ?_)
def C256 := C257
theorem F256 : FF 88 C256 := by
 refine fitXE [(77, C254)] (by simp only [List.mem_cons, List.not_mem_nil, or_false]; rintro _ rfl; exact F254) [(114, C261)] (by simp only [List.mem_cons, List.not_mem_nil, or_false]; rintro _ rfl; exact F261) Tryz.f88 ⟨rfl, by decide +kernel, by decide +kernel⟩ (fun _ _ _ hk h => hk _ h) ?_
 rintro ⟨⟨⟨p, bs, rs⟩, past⟩, l⟩ K ⟨hO, hl, hll⟩ h
 refine ⟨Nat.le_of_ble_eq_true rfl, ?_⟩
 dsimp only at hO hl hll h
 have hs := deskOk_short hO
 dsimp only [enDe, deC] at h ⊢
 repeat' ((conv=>whnf);first|refine vA ?_|with_reducible first|refine v8 ?_|refine Sp.mk ?_ ?_|refine vS ?_|refine vR ?_|refine vB ?_|refine br_nt ?_|refine br_tt ?_|refine br_ff ?_|refine vP ?_|refine vQ ?_|refine vT ?_|refine vF ?_|refine br_and ?_|refine br_or ?_|refine br_d (fun _=>?_) fun _=>?_|refine vM (fun _=>?_) fun _=>?_)
 refine ⟨_, _, [], [], rfl, ?_, ?_, ⟨⟨p, bs, rs⟩, past⟩, rfl, rfl, ⟨hs⟩, ?_⟩
 ·repeat' ((conv=>whnf);first|with_reducible exact True.intro|exact vW|with_reducible refine And.intro ?_ ?_)
 ·repeat' ((conv=>whnf);first|with_reducible exact True.intro|exact vW|with_reducible refine And.intro ?_ ?_)
 dsimp only [deG, psO]
 repeat' ((conv=>whnf);first|refine vA ?_|with_reducible first|refine v8 ?_|refine Sp.mk ?_ ?_|refine vS ?_|refine vR ?_|refine vB ?_|refine br_nt ?_|refine br_tt ?_|refine br_ff ?_|refine vP ?_|refine vQ ?_|refine vT ?_|refine vF ?_|refine br_and ?_|refine br_or ?_|refine br_d (fun _=>?_) fun _=>?_|refine vM (fun _=>?_) fun _=>?_)
 refine Lp.mk ⟨Ri, fun x => [(2, .ptr 1 0), (4, .ptr 0 0), (6, .int .i64 x.n), (13, slD l), (14, .int .i64 l.length), (15, .int .i64 x.i)], fun x => [.box [.int .i64 0, .nils, .nils, .nils], .box [.int .i64 x.e.now.p, slI x.e.now.bs, slS x.e.now.rules, slP x.e.past]], fun x => x.i ≤ l.length ∧ runD ⟨⟨p, bs, rs⟩, past⟩ (l.take x.i) = (x.e, x.n), fun x => l.length - x.i, ⟨⟨0, ⟨⟨p, bs, rs⟩, past⟩, 0⟩, ⟨Nat.zero_le _, rfl⟩, ?_⟩, ?_⟩
 ·first | (refine ⟨⟨[some 1, some 0], [2], rfl, rfl, ?_, ?_⟩⟩ <;> (repeat' ((conv=>whnf);first|with_reducible exact True.intro|exact vW|with_reducible refine And.intro ?_ ?_ | exact Chk.mk ⟨rfl, by dsimp only; omega, fun i _ => by dsimp only; (try rw [Nat.zero_add]); try rfl⟩)) <;> fail)
 rintro ⟨i, ⟨⟨ep, eb, er⟩, el⟩, n⟩ ⟨i1, i2⟩
 dsimp only at i1 i2 ⊢
 have hOe : deskOk ⟨⟨ep, eb, er⟩, el⟩ := by have := runD_ok hO (l.take i); rw [i2] at this; exact this
 have hn := runD_le ⟨⟨p, bs, rs⟩, past⟩ (l.take i)
 rw [i2, List.length_take] at hn
 dsimp only at hn
 by_cases hi : i < l.length
 ·have hst := take_step hi
  have ha := hl _ (getD_mem' (d := default) hi)
  generalize hA : l.getD i default = A at ha hst
  have hA' : l.getD (i : Int).toNat default = A := hA
  repeat' ((conv=>whnf);first|refine vA ?_|with_reducible first|refine v8 ?_|refine Sp.mk ?_ ?_|refine vS ?_|refine vR ?_|refine vB ?_|refine br_nt ?_|refine br_tt ?_|refine br_ff ?_|refine vP ?_|refine vQ ?_|refine vT ?_|refine vF ?_|refine br_and ?_|refine br_or ?_|refine br_d (fun _=>?_) fun _=>?_|refine vM (fun _=>?_) fun _=>?_)
  refine ⟨⟨⟨⟨ep, eb, er⟩, el⟩, A⟩, ?_, ⟨deskOk_I hOe, hOe, ha⟩, ?_⟩
  ·repeat' ((conv=>whnf);first|with_reducible exact True.intro|exact vW|with_reducible refine And.intro ?_ ?_)
   all_goals first | exact Chk.mk (by rw [hA'])
  dsimp only
  cases hd : doD ⟨⟨ep, eb, er⟩, el⟩ A with
  |none =>
   have hr : runD ⟨⟨p, bs, rs⟩, past⟩ (l.take (i + 1)) = (⟨⟨ep, eb, er⟩, el⟩, n) := by rw [hst, runD_none (by rw [i2]; exact hd), i2]
   dsimp only [enDe, deC, Option.getD_none, Option.isSome_none]
   repeat' ((conv=>whnf);first|refine vA ?_|with_reducible first|refine v8 ?_|refine Sp.mk ?_ ?_|refine vS ?_|refine vR ?_|refine vB ?_|refine br_nt ?_|refine br_tt ?_|refine br_ff ?_|refine vP ?_|refine vQ ?_|refine vT ?_|refine vF ?_|refine br_and ?_|refine br_or ?_|refine br_d (fun _=>?_) fun _=>?_|refine vM (fun _=>?_) fun _=>?_)
   refine ⟨⟨i + 1, ⟨⟨ep, eb, er⟩, el⟩, n⟩, ⟨by dsimp only; omega, hr⟩, by dsimp only; omega, ?_⟩
   first | (refine ⟨⟨[some 0, some 1], [], rfl, rfl, ?_, ?_⟩⟩ <;> (repeat' ((conv=>whnf);first|with_reducible exact True.intro|exact vW|with_reducible refine And.intro ?_ ?_)) <;> fail)
  |some e =>
   have hr : runD ⟨⟨p, bs, rs⟩, past⟩ (l.take (i + 1)) = (e, n + 1) := by rw [hst, runD_some (by rw [i2]; exact hd), i2]
   obtain ⟨⟨fp, fb, fr⟩, fl⟩ := e
   dsimp only [enDe, deC, Option.getD_some, Option.isSome_some]
   repeat' ((conv=>whnf);first|refine vA ?_|with_reducible first|refine v8 ?_|refine Sp.mk ?_ ?_|refine vS ?_|refine vR ?_|refine vB ?_|refine br_nt ?_|refine br_tt ?_|refine br_ff ?_|refine vP ?_|refine vQ ?_|refine vT ?_|refine vF ?_|refine br_and ?_|refine br_or ?_|refine br_d (fun _=>?_) fun _=>?_|refine vM (fun _=>?_) fun _=>?_)
   refine ⟨⟨i + 1, ⟨⟨fp, fb, fr⟩, fl⟩, n + 1⟩, ⟨by dsimp only; omega, hr⟩, by dsimp only; omega, ?_⟩
   first | (refine ⟨⟨[some 0, some 1], [], rfl, rfl, ?_, ?_⟩⟩ <;> (repeat' ((conv=>whnf);first|with_reducible exact True.intro|exact vW|with_reducible refine And.intro ?_ ?_)) <;> fail)
 ·obtain rfl : i = l.length := by omega
  rw [List.take_length] at i2
  rw [i2] at h
  repeat' ((conv=>whnf);first|refine vA ?_|with_reducible first|refine v8 ?_|refine Sp.mk ?_ ?_|refine vS ?_|refine vR ?_|refine vB ?_|refine br_nt ?_|refine br_tt ?_|refine br_ff ?_|refine vP ?_|refine vQ ?_|refine vT ?_|refine vF ?_|refine br_and ?_|refine br_or ?_|refine br_d (fun _=>?_) fun _=>?_|refine vM (fun _=>?_) fun _=>?_)
  refine ⟨_, ?_, h⟩
  repeat' ((conv=>whnf);first|with_reducible exact True.intro|exact vW|with_reducible refine And.intro ?_ ?_)
open Classical in
noncomputable def runX (d : Desk) (l : List Dd) : Desk × Nat := if deskOk d ∧ l.length ≤ 40 then runD d l else (default, 0)
def C242 : List AV → (AV → Prop) → Prop := con (X := Rn) (fun x => [enDe x.d, slD x.l]) (fun x => deskI x.d ∧ (∀ a ∈ x.l, dedI a) ∧ x.l.length ≤ 1048576) fun x K => K (.tup [enDe (runX x.d x.l).1, .int .i64 ((runX x.d x.l).2 : Nat)])
theorem F242 : FF 57 C242 := by
 refine fitXE [(81, C159), (88, C256)] (by simp only [List.mem_cons, List.not_mem_nil, or_false]; rintro _ (rfl | rfl) <;> first | exact F159 | exact F256) [] (by simp) Tryz.f57 ⟨rfl, by decide +kernel, by decide +kernel⟩ (by intro x K K2 hk h; (try dsimp only at h ⊢); intros; apply hk; first | exact h | (apply h <;> assumption)) ?_
 rintro ⟨⟨⟨p, bs, rs⟩, past⟩, l⟩ K ⟨hI, hl, hll⟩ h
 refine ⟨Nat.le_of_ble_eq_true rfl, ?_⟩
 dsimp only at hI hl hll h
 unfold runX at h
 dsimp only [enDe, deC] at h ⊢
 repeat' ((conv=>whnf);first|refine vA ?_|with_reducible first|refine v8 ?_|refine Sp.mk ?_ ?_|refine vS ?_|refine vR ?_|refine vB ?_|refine br_nt ?_|refine br_tt ?_|refine br_ff ?_|refine vP ?_|refine vQ ?_|refine vT ?_|refine vF ?_|refine br_and ?_|refine br_or ?_|refine br_d (fun _=>?_) fun _=>?_|refine vM (fun _=>?_) fun _=>?_)
 refine ⟨⟨⟨p, bs, rs⟩, past⟩, ?_, ⟨hI⟩, ?_⟩
 ·repeat' ((conv=>whnf);first|with_reducible exact True.intro|exact vW|with_reducible refine And.intro ?_ ?_)
 by_cases hO : deskOk ⟨⟨p, bs, rs⟩, past⟩
 ·by_cases h40 : l.length ≤ 40
  ·rw [if_pos ⟨hO, h40⟩] at h
   repeat' ((conv=>whnf);first|refine vA ?_|with_reducible first|refine v8 ?_|refine Sp.mk ?_ ?_|refine vS ?_|refine vR ?_|refine vB ?_|refine br_nt ?_|refine br_tt ?_|refine br_ff ?_|refine vP ?_|refine vQ ?_|refine vT ?_|refine vF ?_|refine br_and ?_|refine br_or ?_|refine br_d (fun _=>?_) fun _=>?_|refine vM (fun _=>?_) fun _=>?_)
   refine ⟨⟨⟨⟨p, bs, rs⟩, past⟩, l⟩, ?_, ⟨hO, hl, hll⟩, ?_⟩
   ·repeat' ((conv=>whnf);first|with_reducible exact True.intro|exact vW|with_reducible refine And.intro ?_ ?_)
   dsimp only
   generalize runD ⟨⟨p, bs, rs⟩, past⟩ l = r at h ⊢
   obtain ⟨⟨⟨ep, eb, er⟩, el⟩, n⟩ := r
   dsimp only [enDe, deC]
   repeat' ((conv=>whnf);first|refine vA ?_|with_reducible first|refine v8 ?_|refine Sp.mk ?_ ?_|refine vS ?_|refine vR ?_|refine vB ?_|refine br_nt ?_|refine br_tt ?_|refine br_ff ?_|refine vP ?_|refine vQ ?_|refine vT ?_|refine vF ?_|refine br_and ?_|refine br_or ?_|refine br_d (fun _=>?_) fun _=>?_|refine vM (fun _=>?_) fun _=>?_)
   refine ⟨_, ?_, h⟩
   repeat' ((conv=>whnf);first|with_reducible exact True.intro|exact vW|with_reducible refine And.intro ?_ ?_)
  ·rw [if_neg fun q => h40 q.2] at h
   repeat' ((conv=>whnf);first|refine vA ?_|with_reducible first|refine v8 ?_|refine Sp.mk ?_ ?_|refine vS ?_|refine vR ?_|refine vB ?_|refine br_nt ?_|refine br_tt ?_|refine br_ff ?_|refine vP ?_|refine vQ ?_|refine vT ?_|refine vF ?_|refine br_and ?_|refine br_or ?_|refine br_d (fun _=>?_) fun _=>?_|refine vM (fun _=>?_) fun _=>?_)
   refine ⟨_, ?_, h⟩
   repeat' ((conv=>whnf);first|with_reducible exact True.intro|exact vW|with_reducible refine And.intro ?_ ?_)
 ·rw [if_neg fun q => hO q.1] at h
  repeat' ((conv=>whnf);first|refine vA ?_|with_reducible first|refine v8 ?_|refine Sp.mk ?_ ?_|refine vS ?_|refine vR ?_|refine vB ?_|refine br_nt ?_|refine br_tt ?_|refine br_ff ?_|refine vP ?_|refine vQ ?_|refine vT ?_|refine vF ?_|refine br_and ?_|refine br_or ?_|refine br_d (fun _=>?_) fun _=>?_|refine vM (fun _=>?_) fun _=>?_)
  refine ⟨_, ?_, h⟩
  repeat' ((conv=>whnf);first|with_reducible exact True.intro|exact vW|with_reducible refine And.intro ?_ ?_)
end Go.Proofs.YtkafoolhbflfkaaGreatDoor.Vc
end
section
/- Part YC: stores that are opened, acted at and saved, by both sides. -/
namespace Go.Proofs.YtkafoolhbflfkaaGreatDoor.Vc
open Go.Proofs
set_option maxRecDepth 10000
set_option maxHeartbeats 4000000
def C259 : List AV → (AV → Prop) → Prop := con (X := ByteArray) (fun s => [.str s]) (fun s => s.size ≤ 1048576) fun s K => K (.tup [slD (jr s), .int .i64 (jn s : Nat)])
theorem F259 : FF 76 C259 := by
 refine fitXE [(112, C265), (113, C258)] (by simp only [List.mem_cons, List.not_mem_nil, or_false]; rintro _ (rfl | rfl) <;> first | exact F265 | exact F258) [] (by simp) Tryz.f76 ⟨rfl, by decide +kernel, by decide +kernel⟩ (by intro x K K2 hk h; (try dsimp only at h ⊢); intros; apply hk; first | exact h | (apply h <;> assumption)) ?_
 rintro s K hs h
 refine ⟨Nat.le_of_ble_eq_true rfl, ?_⟩
 repeat' ((conv=>whnf);first|refine vA ?_|with_reducible first|refine v8 ?_|refine Sp.mk ?_ ?_|refine vS ?_|refine vR ?_|refine vB ?_|refine br_nt ?_|refine br_tt ?_|refine br_ff ?_|refine vP ?_|refine vQ ?_|refine vT ?_|refine vF ?_|refine br_and ?_|refine br_or ?_|refine br_d (fun _=>?_) fun _=>?_|refine vM (fun _=>?_) fun _=>?_)
 refine Lp.mk ⟨List Dd × Nat, fun x => [(0, .str s), (4, .row 0 4 0 x.1.length), (5, .int .i64 x.2)], fun x => [.row 4 x.1.length fun i => encD (x.1.getD i default)], fun x => jrI s x.1 x.2, fun x => s.size - x.2, ⟨([], 0), jrI_0 s, ⟨⟨[none], [], rfl, rfl, ?_, ?_⟩⟩⟩, ?_⟩
 ·repeat' ((conv=>whnf);first|with_reducible exact True.intro|exact vW|with_reducible refine And.intro ?_ ?_)
 ·repeat' ((conv=>whnf);first|with_reducible exact True.intro|exact vW|with_reducible refine And.intro ?_ ?_)
 rintro ⟨l, n⟩ hI
 have i1 := hI.le
 dsimp only at i1 hI ⊢
 have hll : l.length ≤ n := by rw [hI.nn]; exact jl_len l
 have hbye : (∀ x t, okDd x → s.data.toList.drop n ≠ lineL x ++ t) → jr s = l ∧ jn s = n := hI.end
 have hes : (s.extract n s.size).size ≤ s.size := by rw [ByteArray.size_extract]; omega
 repeat' ((conv=>whnf);first|refine vA ?_|with_reducible first|refine v8 ?_|refine Sp.mk ?_ ?_|refine vS ?_|refine vR ?_|refine vB ?_|refine br_nt ?_|refine br_tt ?_|refine br_ff ?_|refine vP ?_|refine vQ ?_|refine vT ?_|refine vF ?_|refine br_and ?_|refine br_or ?_|refine br_d (fun _=>?_) fun _=>?_|refine vM (fun _=>?_) fun _=>?_)
 refine ⟨(s.extract n s.size, 10), ?_, ⟨by dsimp only; omega⟩, ?_⟩
 ·repeat' ((conv=>whnf);first|with_reducible exact True.intro|exact vW|with_reducible refine And.intro ?_ ?_)
 refine ⟨fun p r q1 q2 => ?_, fun q => ?_⟩
 ·dsimp only at q1 q2
  rw [ext_tail] at q2
  have hps : p.size ≤ s.size := by
   have := congrArg List.length q2
   rw [List.length_drop, List.length_append, Array.length_toList, Array.length_toList] at this
   show p.data.size ≤ s.data.size
   omega
  repeat' ((conv=>whnf);first|refine vA ?_|with_reducible first|refine v8 ?_|refine Sp.mk ?_ ?_|refine vS ?_|refine vR ?_|refine vB ?_|refine br_nt ?_|refine br_tt ?_|refine br_ff ?_|refine vP ?_|refine vQ ?_|refine vT ?_|refine vF ?_|refine br_and ?_|refine br_or ?_|refine br_d (fun _=>?_) fun _=>?_|refine vM (fun _=>?_) fun _=>?_)
  refine ⟨p, ?_, ⟨by omega⟩, ?_⟩
  ·repeat' ((conv=>whnf);first|with_reducible exact True.intro|exact vW|with_reducible refine And.intro ?_ ?_)
  refine ⟨fun x hx => ?_, fun hx => ?_⟩
  ·have hI2 := hI.step q2 hx
   have hle2 := hI2.le
   obtain ⟨k, a, b, w⟩ := x
   dsimp only [ded, encD]
   repeat' ((conv=>whnf);first|refine vA ?_|with_reducible first|refine v8 ?_|refine Sp.mk ?_ ?_|refine vS ?_|refine vR ?_|refine vB ?_|refine br_nt ?_|refine br_tt ?_|refine br_ff ?_|refine vP ?_|refine vQ ?_|refine vT ?_|refine vF ?_|refine br_and ?_|refine br_or ?_|refine br_d (fun _=>?_) fun _=>?_|refine vM (fun _=>?_) fun _=>?_)
   refine ⟨(l ++ [⟨k, a, b, w⟩], n + (p.size + 1)), hI2, by dsimp only; omega, ?_⟩
   first | (refine ⟨⟨[some 3], [], rfl, rfl, ?_, ?_⟩⟩ <;> (repeat' ((conv=>whnf);first|with_reducible exact True.intro|exact vW|with_reducible refine And.intro ?_ ?_ | exact Chk.mk ⟨rfl, by rw [List.length_append]; rfl⟩ | exact Chk.mk (ext_push (enc := encD) (d := default) (l := l) (x := ⟨k, a, b, w⟩) rfl))) <;> fail) | (refine ⟨⟨[some 2], [], rfl, rfl, ?_, ?_⟩⟩ <;> (repeat' ((conv=>whnf);first|with_reducible exact True.intro|exact vW|with_reducible refine And.intro ?_ ?_ | exact Chk.mk ⟨rfl, by rw [List.length_append]; rfl⟩ | exact Chk.mk (ext_push (enc := encD) (d := default) (l := l) (x := ⟨k, a, b, w⟩) rfl))) <;> fail)
  ·obtain ⟨e1, e2⟩ := hbye (q2 ▸ stop_line q1 hx)
   rw [e1, e2] at h
   dsimp only [ded, encD]
   repeat' ((conv=>whnf);first|refine vA ?_|with_reducible first|refine v8 ?_|refine Sp.mk ?_ ?_|refine vS ?_|refine vR ?_|refine vB ?_|refine br_nt ?_|refine br_tt ?_|refine br_ff ?_|refine vP ?_|refine vQ ?_|refine vT ?_|refine vF ?_|refine br_and ?_|refine br_or ?_|refine br_d (fun _=>?_) fun _=>?_|refine vM (fun _=>?_) fun _=>?_)
   refine ⟨_, ?_, h⟩
   repeat' ((conv=>whnf);first|with_reducible exact True.intro|exact vW|with_reducible refine And.intro ?_ ?_)
   all_goals exact Chk.mk ⟨rfl, fun i _ => by dsimp only; (try rw [Nat.zero_add]); try rfl⟩
 ·dsimp only at q
  rw [ext_tail] at q
  obtain ⟨e1, e2⟩ := hbye (stop_none q)
  rw [e1, e2] at h
  repeat' ((conv=>whnf);first|refine vA ?_|with_reducible first|refine v8 ?_|refine Sp.mk ?_ ?_|refine vS ?_|refine vR ?_|refine vB ?_|refine br_nt ?_|refine br_tt ?_|refine br_ff ?_|refine vP ?_|refine vQ ?_|refine vT ?_|refine vF ?_|refine br_and ?_|refine br_or ?_|refine br_d (fun _=>?_) fun _=>?_|refine vM (fun _=>?_) fun _=>?_)
  refine ⟨s.extract n s.size, ?_, ⟨by omega⟩, ?_⟩
  ·repeat' ((conv=>whnf);first|with_reducible exact True.intro|exact vW|with_reducible refine And.intro ?_ ?_)
  refine ⟨fun x hx => ?_, fun hx => ?_⟩
  ·obtain ⟨k, a, b, w⟩ := x
   dsimp only [ded, encD]
   repeat' ((conv=>whnf);first|refine vA ?_|with_reducible first|refine v8 ?_|refine Sp.mk ?_ ?_|refine vS ?_|refine vR ?_|refine vB ?_|refine br_nt ?_|refine br_tt ?_|refine br_ff ?_|refine vP ?_|refine vQ ?_|refine vT ?_|refine vF ?_|refine br_and ?_|refine br_or ?_|refine br_d (fun _=>?_) fun _=>?_|refine vM (fun _=>?_) fun _=>?_)
   refine ⟨_, ?_, h⟩
   repeat' ((conv=>whnf);first|with_reducible exact True.intro|exact vW|with_reducible refine And.intro ?_ ?_)
   all_goals exact Chk.mk ⟨rfl, fun i _ => by dsimp only; (try rw [Nat.zero_add]); try rfl⟩
  ·dsimp only [ded, encD]
   repeat' ((conv=>whnf);first|refine vA ?_|with_reducible first|refine v8 ?_|refine Sp.mk ?_ ?_|refine vS ?_|refine vR ?_|refine vB ?_|refine br_nt ?_|refine br_tt ?_|refine br_ff ?_|refine vP ?_|refine vQ ?_|refine vT ?_|refine vF ?_|refine br_and ?_|refine br_or ?_|refine br_d (fun _=>?_) fun _=>?_|refine vM (fun _=>?_) fun _=>?_)
   refine ⟨_, ?_, h⟩
   repeat' ((conv=>whnf);first|with_reducible exact True.intro|exact vW|with_reducible refine And.intro ?_ ?_)
   all_goals exact Chk.mk ⟨rfl, fun i _ => by dsimp only; (try rw [Nat.zero_add]); try rfl⟩
theorem jr_ded {s : ByteArray} (h : s.size ≤ 1048576) : ∀ a ∈ jr s, dedI a := fun a ha => by
 obtain ⟨h1, h2⟩ := jr_mem ha
 have hk := okDd_kind h1
 have h3 := h1.a
 have h4 := h1.b
 exact ⟨⟨by omega, by omega⟩, ⟨by omega, by omega⟩, ⟨by omega, by omega⟩, by omega⟩
def C281 : List AV → (AV → Prop) → Prop := con (X := Store) (fun s => [enSt s]) (fun s => isSt s ∧ s.saved.size < 4294967281) fun s K => K (enDe (opD s))
theorem F281 : FF 70 C281 := by
 refine fitXE [(87, C214), (76, C259), (88, C256)] (by simp only [List.mem_cons, List.not_mem_nil, or_false]; rintro _ (rfl | rfl | rfl) <;> first | exact F214 | exact F259 | exact F256) [] (by simp) Tryz.f70 ⟨rfl, by decide +kernel, by decide +kernel⟩ (by intro x K K2 hk h; (try dsimp only at h ⊢); intros; apply hk; first | exact h | (apply h <;> assumption)) ?_
 rintro ⟨a, b, c⟩ K ⟨hS, hs⟩ h
 refine ⟨Nat.le_of_ble_eq_true rfl, ?_⟩
 have hl := hS.2.1
 have hp := plOf_is hS
 have hjl := jr_len b
 have hjd := jr_ded (s := b) (by dsimp only at hl; omega)
 unfold opD at h
 dsimp only [enSt, stC] at h hs hl hp ⊢
 obtain ⟨x, hx⟩ : ∃ x, plOf a = x := ⟨_, rfl⟩
 rw [hx] at h hp
 repeat' ((conv=>whnf);first|refine vA ?_|with_reducible first|refine v8 ?_|refine Sp.mk ?_ ?_|refine vS ?_|refine vR ?_|refine vB ?_|refine br_nt ?_|refine br_tt ?_|refine br_ff ?_|refine vP ?_|refine vQ ?_|refine vT ?_|refine vF ?_|refine br_and ?_|refine br_or ?_|refine br_d (fun _=>?_) fun _=>?_|refine vM (fun _=>?_) fun _=>?_)
 refine ⟨a, ?_, ⟨hs⟩, ?_⟩
 ·repeat' ((conv=>whnf);first|with_reducible exact True.intro|exact vW|with_reducible refine And.intro ?_ ?_)
 refine ⟨fun y q => ?_, fun q => (q ⟨_, hp⟩).elim⟩
 obtain rfl := isPt_one q hp
 have hO := hp.1
 obtain ⟨p, bs, rs⟩ := y
 dsimp only [enPl, plC]
 repeat' ((conv=>whnf);first|refine vA ?_|with_reducible first|refine v8 ?_|refine Sp.mk ?_ ?_|refine vS ?_|refine vR ?_|refine vB ?_|refine br_nt ?_|refine br_tt ?_|refine br_ff ?_|refine vP ?_|refine vQ ?_|refine vT ?_|refine vF ?_|refine br_and ?_|refine br_or ?_|refine br_d (fun _=>?_) fun _=>?_|refine vM (fun _=>?_) fun _=>?_)
 refine ⟨b, ?_, ⟨by omega⟩, ?_⟩
 ·repeat' ((conv=>whnf);first|with_reducible exact True.intro|exact vW|with_reducible refine And.intro ?_ ?_)
 repeat' ((conv=>whnf);first|refine vA ?_|with_reducible first|refine v8 ?_|refine Sp.mk ?_ ?_|refine vS ?_|refine vR ?_|refine vB ?_|refine br_nt ?_|refine br_tt ?_|refine br_ff ?_|refine vP ?_|refine vQ ?_|refine vT ?_|refine vF ?_|refine br_and ?_|refine br_or ?_|refine br_d (fun _=>?_) fun _=>?_|refine vM (fun _=>?_) fun _=>?_)
 refine ⟨⟨⟨⟨p, bs, rs⟩, []⟩, jr b⟩, ?_, ⟨desk0_ok hO, hjd, by dsimp only; omega⟩, ?_⟩
 ·repeat' ((conv=>whnf);first|with_reducible exact True.intro|exact vW|with_reducible refine And.intro ?_ ?_)
 dsimp only
 generalize runD ⟨⟨p, bs, rs⟩, []⟩ (jr b) = r at h ⊢
 obtain ⟨⟨⟨ep, eb, er⟩, el⟩, n⟩ := r
 dsimp only [enDe, deC] at h ⊢
 repeat' ((conv=>whnf);first|refine vA ?_|with_reducible first|refine v8 ?_|refine Sp.mk ?_ ?_|refine vS ?_|refine vR ?_|refine vB ?_|refine br_nt ?_|refine br_tt ?_|refine br_ff ?_|refine vP ?_|refine vQ ?_|refine vT ?_|refine vF ?_|refine br_and ?_|refine br_or ?_|refine br_d (fun _=>?_) fun _=>?_|refine vM (fun _=>?_) fun _=>?_)
 refine ⟨_, ?_, h⟩
 repeat' ((conv=>whnf);first|with_reducible exact True.intro|exact vW|with_reducible refine And.intro ?_ ?_)
def C282 : List AV → (AV → Prop) → Prop := con (X := Store) (fun s => [enSt s]) storeP fun s K => K (.tup [enDe ((openS s).getD default), .bool (openS s).isSome])
theorem openS_yes {s : Store} (h : isSt s) : openS s = some (opD s) := if_pos h
theorem openS_no {s : Store} (h : ¬ isSt s) : openS s = none := if_neg h
theorem isf {o : Bool} {p : Prop} (h : o = true ↔ p) (hp : ¬ p) : o = false := by cases o with | false => rfl | true => exact absurd (h.1 rfl) hp
theorem F282 : FF 28 C282 := by
 refine fitXE [(60, C220), (70, C281)] (by simp only [List.mem_cons, List.not_mem_nil, or_false]; rintro _ (rfl | rfl) <;> first | exact F220 | exact F281) [] (by simp) Tryz.f28 ⟨rfl, by decide +kernel, by decide +kernel⟩ (by intro x K K2 hk h; (try dsimp only at h ⊢); intros; apply hk; first | exact h | (apply h <;> assumption)) ?_
 rintro ⟨a, b, c⟩ K hP h
 refine ⟨Nat.le_of_ble_eq_true rfl, ?_⟩
 have hs := hP.2
 dsimp only [enSt, stC] at hs ⊢
 repeat' ((conv=>whnf);first|refine vA ?_|with_reducible first|refine v8 ?_|refine Sp.mk ?_ ?_|refine vS ?_|refine vR ?_|refine vB ?_|refine br_nt ?_|refine br_tt ?_|refine br_ff ?_|refine vP ?_|refine vQ ?_|refine vT ?_|refine vF ?_|refine br_and ?_|refine br_or ?_|refine br_d (fun _=>?_) fun _=>?_|refine vM (fun _=>?_) fun _=>?_)
 refine ⟨⟨a, b, c⟩, ?_, ⟨hP⟩, ?_⟩
 ·repeat' ((conv=>whnf);first|with_reducible exact True.intro|exact vW|with_reducible refine And.intro ?_ ?_)
 intro o ho
 by_cases hS : isSt ⟨a, b, c⟩
 ·obtain rfl := ho.2 hS
  rw [openS_yes hS] at h
  repeat' ((conv=>whnf);first|refine vA ?_|with_reducible first|refine v8 ?_|refine Sp.mk ?_ ?_|refine vS ?_|refine vR ?_|refine vB ?_|refine br_nt ?_|refine br_tt ?_|refine br_ff ?_|refine vP ?_|refine vQ ?_|refine vT ?_|refine vF ?_|refine br_and ?_|refine br_or ?_|refine br_d (fun _=>?_) fun _=>?_|refine vM (fun _=>?_) fun _=>?_)
  refine ⟨⟨a, b, c⟩, ?_, ⟨hS, hs⟩, ?_⟩
  ·repeat' ((conv=>whnf);first|with_reducible exact True.intro|exact vW|with_reducible refine And.intro ?_ ?_)
  dsimp only [Option.getD_some, Option.isSome_some] at h ⊢
  generalize opD ⟨a, b, c⟩ = e at h ⊢
  obtain ⟨⟨ep, eb, er⟩, el⟩ := e
  dsimp only [enDe, deC] at h ⊢
  repeat' ((conv=>whnf);first|refine vA ?_|with_reducible first|refine v8 ?_|refine Sp.mk ?_ ?_|refine vS ?_|refine vR ?_|refine vB ?_|refine br_nt ?_|refine br_tt ?_|refine br_ff ?_|refine vP ?_|refine vQ ?_|refine vT ?_|refine vF ?_|refine br_and ?_|refine br_or ?_|refine br_d (fun _=>?_) fun _=>?_|refine vM (fun _=>?_) fun _=>?_)
  refine ⟨_, ?_, h⟩
  repeat' ((conv=>whnf);first|with_reducible exact True.intro|exact vW|with_reducible refine And.intro ?_ ?_)
 ·obtain rfl := isf ho hS
  rw [openS_no hS] at h
  repeat' ((conv=>whnf);first|refine vA ?_|with_reducible first|refine v8 ?_|refine Sp.mk ?_ ?_|refine vS ?_|refine vR ?_|refine vB ?_|refine br_nt ?_|refine br_tt ?_|refine br_ff ?_|refine vP ?_|refine vQ ?_|refine vT ?_|refine vF ?_|refine br_and ?_|refine br_or ?_|refine br_d (fun _=>?_) fun _=>?_|refine vM (fun _=>?_) fun _=>?_)
  refine ⟨_, ?_, h⟩
  repeat' ((conv=>whnf);first|with_reducible exact True.intro|exact vW|with_reducible refine And.intro ?_ ?_)
def C283 := C282
theorem F283 : FF 43 C283 := by
 refine fitXE [(17, C222), (61, C219), (72, C246), (80, C257)] (by simp only [List.mem_cons, List.not_mem_nil, or_false]; rintro _ (rfl | rfl | rfl | rfl) <;> first | exact F222 | exact F219 | exact F246 | exact F257) [] (by simp) Tryz.f43 ⟨rfl, by decide +kernel, by decide +kernel⟩ (by intro x K K2 hk h; (try dsimp only at h ⊢); intros; apply hk; first | exact h | (apply h <;> assumption)) ?_
 rintro ⟨a, b, c⟩ K hP h
 refine ⟨Nat.le_of_ble_eq_true rfl, ?_⟩
 have hs := hP.2
 dsimp only [enSt, stC] at hs ⊢
 repeat' ((conv=>whnf);first|refine vA ?_|with_reducible first|refine v8 ?_|refine Sp.mk ?_ ?_|refine vS ?_|refine vR ?_|refine vB ?_|refine br_nt ?_|refine br_tt ?_|refine br_ff ?_|refine vP ?_|refine vQ ?_|refine vT ?_|refine vF ?_|refine br_and ?_|refine br_or ?_|refine br_d (fun _=>?_) fun _=>?_|refine vM (fun _=>?_) fun _=>?_)
 refine ⟨⟨a, b, c⟩, ?_, ⟨hP⟩, ?_⟩
 ·repeat' ((conv=>whnf);first|with_reducible exact True.intro|exact vW|with_reducible refine And.intro ?_ ?_)
 intro o ho
 by_cases hS : isSt ⟨a, b, c⟩
 ·obtain rfl := ho.2 hS
  rw [openS_yes hS] at h
  have hl := hS.2.1
  have hp := plOf_is hS
  have hjl := jr_len b
  have hjd := jr_ded (s := b) (by dsimp only at hl; omega)
  unfold opD at h
  dsimp only [Option.getD_some, Option.isSome_some] at h hl hp
  obtain ⟨x, hx⟩ : ∃ x, plOf a = x := ⟨_, rfl⟩
  rw [hx] at h hp
  repeat' ((conv=>whnf);first|refine vA ?_|with_reducible first|refine v8 ?_|refine Sp.mk ?_ ?_|refine vS ?_|refine vR ?_|refine vB ?_|refine br_nt ?_|refine br_tt ?_|refine br_ff ?_|refine vP ?_|refine vQ ?_|refine vT ?_|refine vF ?_|refine br_and ?_|refine br_or ?_|refine br_d (fun _=>?_) fun _=>?_|refine vM (fun _=>?_) fun _=>?_)
  refine ⟨a, ?_, ⟨hs⟩, ?_⟩
  ·repeat' ((conv=>whnf);first|with_reducible exact True.intro|exact vW|with_reducible refine And.intro ?_ ?_)
  refine ⟨fun y q => ?_, fun q => (q ⟨_, hp⟩).elim⟩
  obtain rfl := isPt_one q hp
  have hO := hp.1
  obtain ⟨p, bs, rs⟩ := y
  dsimp only [enPl, plC]
  repeat' ((conv=>whnf);first|refine vA ?_|with_reducible first|refine v8 ?_|refine Sp.mk ?_ ?_|refine vS ?_|refine vR ?_|refine vB ?_|refine br_nt ?_|refine br_tt ?_|refine br_ff ?_|refine vP ?_|refine vQ ?_|refine vT ?_|refine vF ?_|refine br_and ?_|refine br_or ?_|refine br_d (fun _=>?_) fun _=>?_|refine vM (fun _=>?_) fun _=>?_)
  refine ⟨b, ?_, ⟨by omega⟩, ?_⟩
  ·repeat' ((conv=>whnf);first|with_reducible exact True.intro|exact vW|with_reducible refine And.intro ?_ ?_)
  repeat' ((conv=>whnf);first|refine vA ?_|with_reducible first|refine v8 ?_|refine Sp.mk ?_ ?_|refine vS ?_|refine vR ?_|refine vB ?_|refine br_nt ?_|refine br_tt ?_|refine br_ff ?_|refine vP ?_|refine vQ ?_|refine vT ?_|refine vF ?_|refine br_and ?_|refine br_or ?_|refine br_d (fun _=>?_) fun _=>?_|refine vM (fun _=>?_) fun _=>?_)
  refine ⟨⟨⟨⟨p, bs, rs⟩, []⟩, jr b⟩, ?_, ⟨desk0_ok hO, hjd, by dsimp only; omega⟩, ?_⟩
  ·repeat' ((conv=>whnf);first|with_reducible exact True.intro|exact vW|with_reducible refine And.intro ?_ ?_)
  dsimp only
  generalize runD ⟨⟨p, bs, rs⟩, []⟩ (jr b) = r at h ⊢
  obtain ⟨⟨⟨ep, eb, er⟩, el⟩, n⟩ := r
  dsimp only [enDe, deC] at h ⊢
  repeat' ((conv=>whnf);first|refine vA ?_|with_reducible first|refine v8 ?_|refine Sp.mk ?_ ?_|refine vS ?_|refine vR ?_|refine vB ?_|refine br_nt ?_|refine br_tt ?_|refine br_ff ?_|refine vP ?_|refine vQ ?_|refine vT ?_|refine vF ?_|refine br_and ?_|refine br_or ?_|refine br_d (fun _=>?_) fun _=>?_|refine vM (fun _=>?_) fun _=>?_)
  refine ⟨_, ?_, h⟩
  repeat' ((conv=>whnf);first|with_reducible exact True.intro|exact vW|with_reducible refine And.intro ?_ ?_)
 ·obtain rfl := isf ho hS
  rw [openS_no hS] at h
  repeat' ((conv=>whnf);first|refine vA ?_|with_reducible first|refine v8 ?_|refine Sp.mk ?_ ?_|refine vS ?_|refine vR ?_|refine vB ?_|refine br_nt ?_|refine br_tt ?_|refine br_ff ?_|refine vP ?_|refine vQ ?_|refine vT ?_|refine vF ?_|refine br_and ?_|refine br_or ?_|refine br_d (fun _=>?_) fun _=>?_|refine vM (fun _=>?_) fun _=>?_)
  refine ⟨_, ?_, h⟩
  repeat' ((conv=>whnf);first|with_reducible exact True.intro|exact vW|with_reducible refine And.intro ?_ ?_)
structure Sa where
 s : Store
 a : Dd
def C284 : List AV → (AV → Prop) → Prop := con (X := Sa) (fun x => [enSt x.s, ded x.a]) (fun x => storeP x.s ∧ dedI x.a ∧ x.a.words.size ≤ 1048576) fun x K => K (.tup [enSt (actR x.s x.a), .bool (actS x.s x.a).isSome])
theorem F284 : FF 39 C284 := by
 refine fitX [(60, C220), (75, C103), (76, C259), (70, C281), (77, C254)] (by simp only [List.mem_cons, List.not_mem_nil, or_false]; rintro _ (rfl | rfl | rfl | rfl | rfl) <;> first | exact F220 | exact F103 | exact F259 | exact F281 | exact F254) [] (by simp) Tryz.f39 ⟨rfl, by decide +kernel, by decide +kernel⟩ (by intro x K K2 hk h; (try dsimp only at h ⊢); intros; apply hk; first | exact h | (apply h <;> assumption)) ?_
 rintro ⟨⟨a, b, c⟩, ⟨k, x, y, w⟩⟩ K ⟨hP, hD, hw⟩ h
 refine ⟨Nat.le_of_ble_eq_true rfl, ?_⟩
 have hs := hP.2
 dsimp only [enSt, stC, ded, encD] at hs hD hw h ⊢
 repeat' ((conv=>whnf);first|refine vA ?_|with_reducible first|refine v8 ?_|refine Sp.mk ?_ ?_|refine vS ?_|refine vR ?_|refine vB ?_|refine br_nt ?_|refine br_tt ?_|refine br_ff ?_|refine vP ?_|refine vQ ?_|refine vT ?_|refine vF ?_|refine br_and ?_|refine br_or ?_|refine br_d (fun _=>?_) fun _=>?_|refine vM (fun _=>?_) fun _=>?_)
 refine ⟨⟨a, b, c⟩, ?_, ⟨hP⟩, ?_⟩
 ·repeat' ((conv=>whnf);first|with_reducible exact True.intro|exact vW|with_reducible refine And.intro ?_ ?_)
 intro o ho
 by_cases hS : isSt ⟨a, b, c⟩
 ·obtain rfl := ho.2 hS
  have hl := hS.2.1
  dsimp only at hl
  have hts := deedT_size ⟨k, x, y, w⟩
  have hj := jn_le b
  dsimp only at hts
  repeat' ((conv=>whnf);first|refine vA ?_|with_reducible first|refine v8 ?_|refine Sp.mk ?_ ?_|refine vS ?_|refine vR ?_|refine vB ?_|refine br_nt ?_|refine br_tt ?_|refine br_ff ?_|refine vP ?_|refine vQ ?_|refine vT ?_|refine vF ?_|refine br_and ?_|refine br_or ?_|refine br_d (fun _=>?_) fun _=>?_|refine vM (fun _=>?_) fun _=>?_)
  refine ⟨⟨k, x, y, w⟩, ?_, ⟨by dsimp only; omega⟩, ?_⟩
  ·repeat' ((conv=>whnf);first|with_reducible exact True.intro|exact vW|with_reducible refine And.intro ?_ ?_)
  dsimp only
  have hno : ¬ canAct ⟨a, b, c⟩ ⟨k, x, y, w⟩ → K (.tup [.agg [.str a, .str b, .int .i64 c], .bool false]) := fun q => by
   rw [actR_no hS q, actS_no fun g => q g.2] at h
   exact h
  have hyes : canAct ⟨a, b, c⟩ ⟨k, x, y, w⟩ → K (.tup [.agg [.str a, .str (b ++ (deedT ⟨k, x, y, w⟩ ++ ⟨#[10]⟩)), .int .i64 c], .bool true]) := fun q => by
   rw [actR_yes hS q, actS_yes hS q] at h
   exact h
  repeat' ((conv=>whnf);first|refine vA ?_|with_reducible first|refine v8 ?_|refine Sp.mk ?_ ?_|refine vS ?_|refine vR ?_|refine vB ?_|refine br_nt ?_|refine br_tt ?_|refine br_ff ?_|refine vP ?_|refine vQ ?_|refine vT ?_|refine vF ?_|refine br_and ?_|refine br_or ?_|refine br_d (fun _=>?_) fun _=>?_|refine vM (fun _=>?_) fun _=>?_)
  refine ⟨b, ?_, ⟨by omega⟩, ?_⟩
  ·repeat' ((conv=>whnf);first|with_reducible exact True.intro|exact vW|with_reducible refine And.intro ?_ ?_)
  by_cases hO : okDd ⟨k, x, y, w⟩
  ·have hne := okDd_ne hO
   generalize hT : deedT ⟨k, x, y, w⟩ = T at hts hne hyes ⊢
   by_cases hall : jn b = b.size
   ·by_cases hfit : b.size + T.size + 1 ≤ 1000
    ·repeat' ((conv=>whnf);first|refine vA ?_|with_reducible first|refine v8 ?_|refine Sp.mk ?_ ?_|refine vS ?_|refine vR ?_|refine vB ?_|refine br_nt ?_|refine br_tt ?_|refine br_ff ?_|refine vP ?_|refine vQ ?_|refine vT ?_|refine vF ?_|refine br_and ?_|refine br_or ?_|refine br_d (fun _=>?_) fun _=>?_|refine vM (fun _=>?_) fun _=>?_)
     refine Dr.mk ⟨(.rd 0 (.rd 2 (.ef 1 (.ef 3 (.rd 4 (.rd 5 (.rd 6 (.ef 7 (.ef 8 (.rd 9 .dn) .no) .no)))) (.ef 7 (.ef 3 (.rd 4 (.rd 5 (.rd 6 (.ef 8 (.rd 9 .dn) .no)))) .no) .no)) (.ef 7 (.ef 1 (.ef 3 (.rd 4 (.rd 5 (.rd 6 (.ef 8 (.rd 9 .dn) .no)))) .no) .no) .no)))), by decide +kernel, ?_⟩
     repeat' ((conv=>whnf);first|refine vA ?_|with_reducible first|refine v8 ?_|refine Sp.mk ?_ ?_|refine vS ?_|refine vR ?_|refine vB ?_|refine br_nt ?_|refine br_tt ?_|refine br_ff ?_|refine vP ?_|refine vQ ?_|refine vT ?_|refine vF ?_|refine br_and ?_|refine br_or ?_|refine br_d (fun _=>?_) fun _=>?_|refine vM (fun _=>?_) fun _=>?_)
     all_goals
      refine ⟨⟨a, b, c⟩, ?_, ⟨hS, hs⟩, ?_⟩
      ·repeat' ((conv=>whnf);first|with_reducible exact True.intro|exact vW|with_reducible refine And.intro ?_ ?_)
      have hop := opD_ok hS
      obtain ⟨e, he⟩ : ∃ e, opD ⟨a, b, c⟩ = e := ⟨_, rfl⟩
      have hcan : ∀ r, doD e ⟨k, x, y, w⟩ = r → (canAct ⟨a, b, c⟩ ⟨k, x, y, w⟩ ↔ r.isSome = true) := fun r hr => ⟨fun q => by have := q.can; rw [he, hr] at this; exact this, fun q => ⟨hall, by rw [he, hr]; exact q, hO, by rw [hT]; exact hfit⟩⟩
      rw [he] at hop
      dsimp only
      rw [he]
      obtain ⟨⟨ep, eb, er⟩, el⟩ := e
      dsimp only [enDe, deC]
      repeat' ((conv=>whnf);first|refine vA ?_|with_reducible first|refine v8 ?_|refine Sp.mk ?_ ?_|refine vS ?_|refine vR ?_|refine vB ?_|refine br_nt ?_|refine br_tt ?_|refine br_ff ?_|refine vP ?_|refine vQ ?_|refine vT ?_|refine vF ?_|refine br_and ?_|refine br_or ?_|refine br_d (fun _=>?_) fun _=>?_|refine vM (fun _=>?_) fun _=>?_)
      all_goals
       refine ⟨⟨⟨⟨ep, eb, er⟩, el⟩, ⟨k, x, y, w⟩⟩, ?_, ⟨deskOk_I hop, hop, hD⟩, ?_⟩
       ·repeat' ((conv=>whnf);first|with_reducible exact True.intro|exact vW|with_reducible refine And.intro ?_ ?_)
       dsimp only
       cases hd : doD ⟨⟨ep, eb, er⟩, el⟩ ⟨k, x, y, w⟩ with
       |none =>
        have hc : ¬ canAct ⟨a, b, c⟩ ⟨k, x, y, w⟩ := fun q => by have := (hcan _ hd).1 q; cases this
        dsimp only [enDe, deC, Option.getD_none, Option.isSome_none]
        repeat' ((conv=>whnf);first|refine vA ?_|with_reducible first|refine v8 ?_|refine Sp.mk ?_ ?_|refine vS ?_|refine vR ?_|refine vB ?_|refine br_nt ?_|refine br_tt ?_|refine br_ff ?_|refine vP ?_|refine vQ ?_|refine vT ?_|refine vF ?_|refine br_and ?_|refine br_or ?_|refine br_d (fun _=>?_) fun _=>?_|refine vM (fun _=>?_) fun _=>?_)
        exact hno hc
       |some f =>
        have hc := (hcan _ hd).2 rfl
        obtain ⟨⟨fp, fb, fr⟩, fl⟩ := f
        have hz : (⟨#[10]⟩ : ByteArray).size = 1 := rfl
        dsimp only [enDe, deC, Option.getD_some, Option.isSome_some]
        repeat' ((conv=>whnf);first|refine ⟨Chk.mk (by (repeat rw [ByteArray.size_append]); omega), ?_⟩|refine vA ?_|with_reducible first|refine v8 ?_|refine Sp.mk ?_ ?_|refine vS ?_|refine vR ?_|refine vB ?_|refine br_nt ?_|refine br_tt ?_|refine br_ff ?_|refine vP ?_|refine vQ ?_|refine vT ?_|refine vF ?_|refine br_and ?_|refine br_or ?_|refine br_d (fun _=>?_) fun _=>?_|refine vM (fun _=>?_) fun _=>?_)
        exact hyes hc
    ·repeat' ((conv=>whnf);first|refine vA ?_|with_reducible first|refine v8 ?_|refine Sp.mk ?_ ?_|refine vS ?_|refine vR ?_|refine vB ?_|refine br_nt ?_|refine br_tt ?_|refine br_ff ?_|refine vP ?_|refine vQ ?_|refine vT ?_|refine vF ?_|refine br_and ?_|refine br_or ?_|refine br_d (fun _=>?_) fun _=>?_|refine vM (fun _=>?_) fun _=>?_)
     exact hno fun q => hfit (by have := q.fit; rw [hT] at this; exact this)
   ·repeat' ((conv=>whnf);first|refine vA ?_|with_reducible first|refine v8 ?_|refine Sp.mk ?_ ?_|refine vS ?_|refine vR ?_|refine vB ?_|refine br_nt ?_|refine br_tt ?_|refine br_ff ?_|refine vP ?_|refine vQ ?_|refine vT ?_|refine vF ?_|refine br_and ?_|refine br_or ?_|refine br_d (fun _=>?_) fun _=>?_|refine vM (fun _=>?_) fun _=>?_)
    exact hno fun q => hall q.all
  ·rw [deedT_no hO]
   have hee : (⟨#[]⟩ : ByteArray) = ⟨#[]⟩ := rfl
   repeat' ((conv=>whnf);first|refine vA ?_|with_reducible first|refine v8 ?_|refine Sp.mk ?_ ?_|refine vS ?_|refine vR ?_|refine vB ?_|refine br_nt ?_|refine br_tt ?_|refine br_ff ?_|refine vP ?_|refine vQ ?_|refine vT ?_|refine vF ?_|refine br_and ?_|refine br_or ?_|refine br_d (fun _=>?_) fun _=>?_|refine vM (fun _=>?_) fun _=>?_)
   exact hno fun q => hO q.ok
 ·obtain rfl := isf ho hS
  have e1 : actR ⟨a, b, c⟩ ⟨k, x, y, w⟩ = default := if_neg hS
  rw [e1, actS_no fun g => hS g.1] at h
  repeat' ((conv=>whnf);first|refine vA ?_|with_reducible first|refine v8 ?_|refine Sp.mk ?_ ?_|refine vS ?_|refine vR ?_|refine vB ?_|refine br_nt ?_|refine br_tt ?_|refine br_ff ?_|refine vP ?_|refine vQ ?_|refine vT ?_|refine vF ?_|refine br_and ?_|refine br_or ?_|refine br_d (fun _=>?_) fun _=>?_|refine vM (fun _=>?_) fun _=>?_)
  exact h
def C285 := C284
theorem F285 : FF 37 C285 := by
 refine fitX [(17, C222), (72, C246), (43, C283), (73, C183), (74, C105)] (by simp only [List.mem_cons, List.not_mem_nil, or_false]; rintro _ (rfl | rfl | rfl | rfl | rfl) <;> first | exact F222 | exact F246 | exact F283 | exact F183 | exact F105) [] (by simp) Tryz.f37 ⟨rfl, by decide +kernel, by decide +kernel⟩ (by intro x K K2 hk h; (try dsimp only at h ⊢); intros; apply hk; first | exact h | (apply h <;> assumption)) ?_
 rintro ⟨⟨a, b, c⟩, ⟨k, x, y, w⟩⟩ K ⟨hP, hD, hw⟩ h
 refine ⟨Nat.le_of_ble_eq_true rfl, ?_⟩
 have hs := hP.2
 dsimp only [enSt, stC, ded, encD] at hs hD hw h ⊢
 repeat' ((conv=>whnf);first|refine vA ?_|with_reducible first|refine v8 ?_|refine Sp.mk ?_ ?_|refine vS ?_|refine vR ?_|refine vB ?_|refine br_nt ?_|refine br_tt ?_|refine br_ff ?_|refine vP ?_|refine vQ ?_|refine vT ?_|refine vF ?_|refine br_and ?_|refine br_or ?_|refine br_d (fun _=>?_) fun _=>?_|refine vM (fun _=>?_) fun _=>?_)
 refine ⟨⟨a, b, c⟩, ?_, ⟨hP⟩, ?_⟩
 ·repeat' ((conv=>whnf);first|with_reducible exact True.intro|exact vW|with_reducible refine And.intro ?_ ?_)
 intro o ho
 by_cases hS : isSt ⟨a, b, c⟩
 ·obtain rfl := ho.2 hS
  have hl := hS.2.1
  dsimp only at hl
  have hts := deedT_size ⟨k, x, y, w⟩
  have hj := jn_le b
  dsimp only at hts
  have hno : ¬ canAct ⟨a, b, c⟩ ⟨k, x, y, w⟩ → K (.tup [.agg [.str a, .str b, .int .i64 c], .bool false]) := fun q => by
   rw [actR_no hS q, actS_no fun g => q g.2] at h
   exact h
  have hyes : canAct ⟨a, b, c⟩ ⟨k, x, y, w⟩ → K (.tup [.agg [.str a, .str (b ++ (deedT ⟨k, x, y, w⟩ ++ ⟨#[10]⟩)), .int .i64 c], .bool true]) := fun q => by
   rw [actR_yes hS q, actS_yes hS q] at h
   exact h
  repeat' ((conv=>whnf);first|refine vA ?_|with_reducible first|refine v8 ?_|refine Sp.mk ?_ ?_|refine vS ?_|refine vR ?_|refine vB ?_|refine br_nt ?_|refine br_tt ?_|refine br_ff ?_|refine vP ?_|refine vQ ?_|refine vT ?_|refine vF ?_|refine br_and ?_|refine br_or ?_|refine br_d (fun _=>?_) fun _=>?_|refine vM (fun _=>?_) fun _=>?_)
  refine ⟨b, ?_, ⟨by omega⟩, ?_⟩
  ·repeat' ((conv=>whnf);first|with_reducible exact True.intro|exact vW|with_reducible refine And.intro ?_ ?_)
  repeat' ((conv=>whnf);first|refine vA ?_|with_reducible first|refine v8 ?_|refine Sp.mk ?_ ?_|refine vS ?_|refine vR ?_|refine vB ?_|refine br_nt ?_|refine br_tt ?_|refine br_ff ?_|refine vP ?_|refine vQ ?_|refine vT ?_|refine vF ?_|refine br_and ?_|refine br_or ?_|refine br_d (fun _=>?_) fun _=>?_|refine vM (fun _=>?_) fun _=>?_)
  refine ⟨⟨a, b, c⟩, ?_, ⟨hP⟩, ?_⟩
  ·repeat' ((conv=>whnf);first|with_reducible exact True.intro|exact vW|with_reducible refine And.intro ?_ ?_)
  have hop := opD_ok hS
  dsimp only
  rw [openS_yes hS]
  obtain ⟨e, he⟩ : ∃ e, opD ⟨a, b, c⟩ = e := ⟨_, rfl⟩
  have hcan : (doD e ⟨k, x, y, w⟩).isSome = (doD (opD ⟨a, b, c⟩) ⟨k, x, y, w⟩).isSome := by rw [he]
  rw [he] at hop
  dsimp only [Option.getD_some, Option.isSome_some]
  rw [he]
  have hcD : canD e ⟨k, x, y, w⟩ = (doD e ⟨k, x, y, w⟩).isSome := by unfold canD; rw [decide_eq_true hop, Bool.true_and]
  obtain ⟨⟨ep, eb, er⟩, el⟩ := e
  dsimp only [enDe, deC]
  repeat' ((conv=>whnf);first|refine vA ?_|with_reducible first|refine v8 ?_|refine Sp.mk ?_ ?_|refine vS ?_|refine vR ?_|refine vB ?_|refine br_nt ?_|refine br_tt ?_|refine br_ff ?_|refine vP ?_|refine vQ ?_|refine vT ?_|refine vF ?_|refine br_and ?_|refine br_or ?_|refine br_d (fun _=>?_) fun _=>?_|refine vM (fun _=>?_) fun _=>?_)
  refine ⟨⟨⟨⟨ep, eb, er⟩, el⟩, ⟨k, x, y, w⟩⟩, ?_, ⟨deskOk_I hop, hD⟩, ?_⟩
  ·repeat' ((conv=>whnf);first|with_reducible exact True.intro|exact vW|with_reducible refine And.intro ?_ ?_)
  dsimp only
  rw [hcD]
  generalize afterD ⟨⟨ep, eb, er⟩, el⟩ ⟨k, x, y, w⟩ = f
  obtain ⟨⟨fp, fb, fr⟩, fl⟩ := f
  generalize (doD ⟨⟨ep, eb, er⟩, el⟩ ⟨k, x, y, w⟩).isSome = can at hcan ⊢
  dsimp only [enDe, deC]
  repeat' ((conv=>whnf);first|refine vA ?_|with_reducible first|refine v8 ?_|refine Sp.mk ?_ ?_|refine vS ?_|refine vR ?_|refine vB ?_|refine br_nt ?_|refine br_tt ?_|refine br_ff ?_|refine vP ?_|refine vQ ?_|refine vT ?_|refine vF ?_|refine br_and ?_|refine br_or ?_|refine br_d (fun _=>?_) fun _=>?_|refine vM (fun _=>?_) fun _=>?_)
  refine ⟨⟨k, x, y, w⟩, ?_, ⟨by dsimp only; omega⟩, ?_⟩
  ·repeat' ((conv=>whnf);first|with_reducible exact True.intro|exact vW|with_reducible refine And.intro ?_ ?_)
  dsimp only
  by_cases hall : jn b = b.size
  ·cases can
   ·repeat' ((conv=>whnf);first|refine vA ?_|with_reducible first|refine v8 ?_|refine Sp.mk ?_ ?_|refine vS ?_|refine vR ?_|refine vB ?_|refine br_nt ?_|refine br_tt ?_|refine br_ff ?_|refine vP ?_|refine vQ ?_|refine vT ?_|refine vF ?_|refine br_and ?_|refine br_or ?_|refine br_d (fun _=>?_) fun _=>?_|refine vM (fun _=>?_) fun _=>?_)
    exact hno fun q => by have := q.can; rw [← hcan] at this; cases this
   ·by_cases hO : okDd ⟨k, x, y, w⟩
    ·have hne := okDd_ne hO
     generalize hT : deedT ⟨k, x, y, w⟩ = T at hts hne hyes ⊢
     by_cases hfit : b.size + T.size + 1 ≤ 1000
     ·have hc : canAct ⟨a, b, c⟩ ⟨k, x, y, w⟩ := ⟨hall, hcan.symm, hO, by rw [hT]; exact hfit⟩
      have hz : (⟨#[10]⟩ : ByteArray).size = 1 := rfl
      have hy := hyes hc
      rw [← ByteArray.append_assoc] at hy
      repeat' ((conv=>whnf);first|refine ⟨Chk.mk (by (repeat rw [ByteArray.size_append]); omega), ?_⟩|refine vA ?_|with_reducible first|refine v8 ?_|refine Sp.mk ?_ ?_|refine vS ?_|refine vR ?_|refine vB ?_|refine br_nt ?_|refine br_tt ?_|refine br_ff ?_|refine vP ?_|refine vQ ?_|refine vT ?_|refine vF ?_|refine br_and ?_|refine br_or ?_|refine br_d (fun _=>?_) fun _=>?_|refine vM (fun _=>?_) fun _=>?_)
      exact hy
     ·repeat' ((conv=>whnf);first|refine vA ?_|with_reducible first|refine v8 ?_|refine Sp.mk ?_ ?_|refine vS ?_|refine vR ?_|refine vB ?_|refine br_nt ?_|refine br_tt ?_|refine br_ff ?_|refine vP ?_|refine vQ ?_|refine vT ?_|refine vF ?_|refine br_and ?_|refine br_or ?_|refine br_d (fun _=>?_) fun _=>?_|refine vM (fun _=>?_) fun _=>?_)
      exact hno fun q => hfit (by have := q.fit; rw [hT] at this; exact this)
    ·rw [deedT_no hO]
     have hee : (⟨#[]⟩ : ByteArray) = ⟨#[]⟩ := rfl
     repeat' ((conv=>whnf);first|refine vA ?_|with_reducible first|refine v8 ?_|refine Sp.mk ?_ ?_|refine vS ?_|refine vR ?_|refine vB ?_|refine br_nt ?_|refine br_tt ?_|refine br_ff ?_|refine vP ?_|refine vQ ?_|refine vT ?_|refine vF ?_|refine br_and ?_|refine br_or ?_|refine br_d (fun _=>?_) fun _=>?_|refine vM (fun _=>?_) fun _=>?_)
     exact hno fun q => hO q.ok
  ·repeat' ((conv=>whnf);first|refine vA ?_|with_reducible first|refine v8 ?_|refine Sp.mk ?_ ?_|refine vS ?_|refine vR ?_|refine vB ?_|refine br_nt ?_|refine br_tt ?_|refine br_ff ?_|refine vP ?_|refine vQ ?_|refine vT ?_|refine vF ?_|refine br_and ?_|refine br_or ?_|refine br_d (fun _=>?_) fun _=>?_|refine vM (fun _=>?_) fun _=>?_)
   exact hno fun q => hall q.all
 ·obtain rfl := isf ho hS
  have e1 : actR ⟨a, b, c⟩ ⟨k, x, y, w⟩ = default := if_neg hS
  rw [e1, actS_no fun g => hS g.1] at h
  repeat' ((conv=>whnf);first|refine vA ?_|with_reducible first|refine v8 ?_|refine Sp.mk ?_ ?_|refine vS ?_|refine vR ?_|refine vB ?_|refine br_nt ?_|refine br_tt ?_|refine br_ff ?_|refine vP ?_|refine vQ ?_|refine vT ?_|refine vF ?_|refine br_and ?_|refine br_or ?_|refine br_d (fun _=>?_) fun _=>?_|refine vM (fun _=>?_) fun _=>?_)
  exact h
end Go.Proofs.YtkafoolhbflfkaaGreatDoor.Vc
end
