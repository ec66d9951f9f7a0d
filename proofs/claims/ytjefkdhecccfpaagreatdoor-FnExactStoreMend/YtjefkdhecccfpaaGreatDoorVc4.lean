/- Part TC: the text of a term, by the program; a term that is read. -/
import Derived.Test.YtjefkdhecccfpaaGreatDoorVc3
section
namespace Go.Proofs.YtjefkdhecccfpaaGreatDoor.Vc
open Go.Proofs
set_option maxRecDepth 10000
set_option maxHeartbeats 4000000
/-! ### The text -/
def C202 : List AV → (AV → Prop) → Prop := con (X := ByteArray × Bool) (fun x => [.str x.1, .bool x.2]) (fun x => x.1.size ≤ 9000000000000000000) fun x K => K (.str (wrapT x.1 x.2))
theorem F202 : FF 136 C202 := by
  refine fitE [] (by simp) Tryz.f136 ⟨rfl, by decide +kernel, by decide +kernel⟩ (fun _ _ _ hk h => hk _ h) ?_
  rintro ⟨s, b⟩ K h1 h
  refine ⟨Nat.le_of_ble_eq_true rfl, ?_⟩
  dsimp only at h h1 ⊢
  unfold wrapT at h
  have e0 : (⟨#[40]⟩ : ByteArray).size = 1 := rfl
  have e1 : (⟨#[41]⟩ : ByteArray).size = 1 := rfl
  cases b
  · repeat' ((conv => whnf); first | refine vA ?_ | with_reducible first | refine v8 ?_ | refine Sp.mk ?_ ?_ | refine vS ?_ | refine vR ?_ | refine vB ?_ | refine br_nt ?_ | refine br_tt ?_ | refine br_ff ?_ | refine vP ?_ | refine vQ ?_ | refine vT ?_ | refine vF ?_ | refine br_and ?_ | refine br_or ?_ | refine br_d (fun _ => ?_) fun _ => ?_ | refine vM (fun _ => ?_) fun _ => ?_)
    exact h
  · repeat' ((conv => whnf); first | refine ⟨Chk.mk (by (repeat rw [ByteArray.size_append]); omega), ?_⟩ | refine vA ?_ | with_reducible first | refine v8 ?_ | refine Sp.mk ?_ ?_ | refine vS ?_ | refine vR ?_ | refine vB ?_ | refine br_nt ?_ | refine br_tt ?_ | refine br_ff ?_ | refine vP ?_ | refine vQ ?_ | refine vT ?_ | refine vF ?_ | refine br_and ?_ | refine br_or ?_ | refine br_d (fun _ => ?_) fun _ => ?_ | refine vM (fun _ => ?_) fun _ => ?_)
    exact h
def encPt (p : Pt) : List AV := [.str p.s, .bool p.o, .int .i64 p.n]
/-- The stack, as the program holds it. -/
def stk (t : List Mark) (i : Nat) : List Pt := (runT (t.take i) []).reverse
def smallP (B : Nat) (p : Pt) : Prop := 0 ≤ p.n ∧ p.n ≤ B ∧ p.s.size ≤ B
theorem num1 {n : Int} (h0 : 0 ≤ n) (h : n < 10) : (num n).size = 1 := by rw [← bys_len, bys_num h0 h]; rfl
theorem wrapT_le (s : ByteArray) (b : Bool) : (wrapT s b).size ≤ s.size + 2 := by
  rw [wrap_size]; split <;> omega
theorem join2_size (k : Int) (a b : Pt) : (join2 k a b).s.size ≤ a.s.size + b.s.size + 5 := by
  have h1 := wrapT_le a.s a.o
  have h2 := wrapT_le b.s b.o
  have h3 := wrapT_le b.s (decide (b.n > 1))
  have e0 : (⟨#[124]⟩ : ByteArray).size = 1 := rfl
  have e1 : (⟨#[38]⟩ : ByteArray).size = 1 := rfl
  unfold join2
  split <;> (simp only [ByteArray.size_append]; omega)
theorem join2_n (k : Int) (a b : Pt) : (join2 k a b).n = a.n + b.n + 1 := by unfold join2; split <;> rfl
theorem stepT_small {bs : List Int} (hb : bodies bs) {m : Mark} {st : List Pt} {B q : Nat} (hs : stepP bs m st.length = some q) (h : ∀ p ∈ st, smallP B p) : ∀ p ∈ stepT m st, smallP (2 * B + 5) p := by
  intro p hp
  unfold stepT at hp
  split at hp
  · rename_i hk
    rcases List.mem_cons.1 hp with rfl | hp
    · unfold stepP at hs
      split at hs
      · rename_i g
        obtain ⟨_, g1, g2, g3, g4⟩ := g
        have hm : bs.getD m.at_.toNat 0 ∈ bs := getD_mem' (by omega)
        have := heads64 (hb.2 _ hm).1 (hb.2 _ hm).2
        refine ⟨by dsimp only; omega, by dsimp only; omega, ?_⟩
        show (letter m.at_ ++ num m.need).size ≤ _
        rw [ByteArray.size_append, num1 (by omega) (by omega), show (letter m.at_).size = 1 from rfl]
        omega
      · rw [if_neg (by omega)] at hs; cases hs
    · have := h p hp
      exact ⟨this.1, by have := this.2.1; omega, by have := this.2.2; omega⟩
  · split at hp
    · rename_i b a r
      have ha := h a (by simp)
      have hb := h b (by simp)
      rcases List.mem_cons.1 hp with rfl | hp
      · have h1 := join2_size m.kind a b
        have h2 := join2_n m.kind a b
        exact ⟨by rw [h2]; have := ha.1; have := hb.1; omega, by rw [h2]; have := ha.2.1; have := hb.2.1; omega, by have := ha.2.2; have := hb.2.2; omega⟩
      · have := h p (by simp [hp])
        exact ⟨this.1, by have := this.2.1; omega, by have := this.2.2; omega⟩
    · have := h p hp
      exact ⟨this.1, by have := this.2.1; omega, by have := this.2.2; omega⟩
def bndT : Nat → Nat
  | 0 => 5
  | i + 1 => 2 * bndT i + 5
theorem runT_small {bs : List Int} (hb : bodies bs) {t : List Mark} (h : walkP bs t 0 = some 1) : ∀ i, i ≤ t.length → ∀ p ∈ runT (t.take i) [], smallP (bndT i) p
  | 0, _ => fun p hp => by simp [runT] at hp
  | i + 1, hi => by
    obtain ⟨q, hq⟩ := walk_prefix h i
    obtain ⟨q2, hq2⟩ := walk_prefix h (i + 1)
    have hl := (runT_frame (bs := bs) (t.take i) [] [] q hq).2
    rw [walkP_take (by omega) hq, ← hl] at hq2
    rw [take_succ' default (by omega), runT_app]
    exact stepT_small hb hq2 (runT_small hb h i (by omega))
theorem bndT_le : ∀ i, i ≤ 9 → bndT i ≤ 10000 := by decide
theorem ext_letter {a : Int} (h0 : 0 ≤ a) (h1 : a < 4) : ByteArray.extract ⟨#[65, 66, 67, 68]⟩ a.toNat (a + 1).toNat = letter a := by
  obtain ⟨n, rfl⟩ : ∃ n : Nat, a = n := ⟨a.toNat, by omega⟩
  have : n = 0 ∨ n = 1 ∨ n = 2 ∨ n = 3 := by omega
  rcases this with rfl | rfl | rfl | rfl <;> decide
structure Tu where
  bs : List Int
  t : List Mark
def txOk (x : Tu) : Prop := bodies x.bs ∧ walkP x.bs x.t 0 = some 1 ∧ x.t.length ≤ 9
def C192 : List AV → (AV → Prop) → Prop := con (X := Tu) (fun x => [slM x.t]) txOk fun x K => K (.str (textT x.t))
theorem F192 : FF 123 C192 := by
  refine fitE [(127, C101), (136, C202)] (by simp only [List.mem_cons, List.not_mem_nil, or_false]; rintro _ (rfl | rfl) <;> first | exact F101 | exact F202) Tryz.f123 ⟨rfl, by decide +kernel, by decide +kernel⟩ (fun _ _ _ hk h => hk _ h) ?_
  rintro ⟨bs, t⟩ K ⟨h1, h2, h3⟩ h
  refine ⟨Nat.le_of_ble_eq_true rfl, ?_⟩
  dsimp only at h h1 h2 h3 ⊢
  repeat' ((conv => whnf); first | refine vA ?_ | with_reducible first | refine v8 ?_ | refine Sp.mk ?_ ?_ | refine vS ?_ | refine vR ?_ | refine vB ?_ | refine br_nt ?_ | refine br_tt ?_ | refine br_ff ?_ | refine vP ?_ | refine vQ ?_ | refine vT ?_ | refine vF ?_ | refine br_and ?_ | refine br_or ?_ | refine br_d (fun _ => ?_) fun _ => ?_ | refine vM (fun _ => ?_) fun _ => ?_)
  refine Lp.mk ⟨Nat, fun i => [(3, .row 0 3 0 (stk t i).length), (10, slM t), (11, .int .i64 t.length), (12, .int .i64 i)],
    fun i => [.row 3 (stk t i).length fun j => encPt ((stk t i).getD j default)], fun i => i ≤ t.length, fun i => t.length - i, ⟨0, Nat.zero_le _, ⟨⟨[none], [], rfl, rfl, ?_, ?_⟩⟩⟩, ?_⟩
  · repeat' ((conv => whnf); first | with_reducible exact True.intro | exact vW | with_reducible refine And.intro ?_ ?_)
  · repeat' ((conv => whnf); first | with_reducible exact True.intro | exact vW | with_reducible refine And.intro ?_ ?_)
  intro i i1
  dsimp only
  obtain ⟨q, hq⟩ := walk_prefix h2 i
  have hl := (runT_frame (bs := bs) (t.take i) [] [] q hq).2
  have hql : q ≤ i := by
    have := walkP_le bs _ _ _ hq
    simp only [List.length_take] at this
    omega
  have hst : i < t.length → ∃ q', stepP bs (t.getD i default) q = some q' := fun hi => by
    obtain ⟨q', hq'⟩ := walk_prefix h2 (i + 1)
    rw [walkP_take hi hq] at hq'
    exact ⟨q', hq'⟩
  have hnx : i < t.length → runT (t.take (i + 1)) [] = stepT (t.getD i default) (runT (t.take i) []) := fun hi => by
    rw [take_succ' default hi, runT_app]
    rfl
  have hsm := runT_small h1 h2 i i1
  have hbd := bndT_le i (by omega)
  have hsl : (stk t i).length = q := by rw [← hl, stk, List.length_reverse]
  have hleaf : i < t.length → (t.getD (i : Int).toNat default).kind = 0 → 0 ≤ (t.getD (i : Int).toNat default).at_ ∧ (t.getD (i : Int).toNat default).at_ < 4 ∧ 1 ≤ (t.getD (i : Int).toNat default).need ∧ (t.getD (i : Int).toNat default).need ≤ 6 := fun hi hk => by
    obtain ⟨q', e⟩ := hst hi
    replace hk : (t.getD i default).kind = 0 := hk
    refine leaf_in h1 hk ?_
    unfold stepP at e ⊢
    split at e
    · rename_i g; exact if_pos g
    · rw [if_neg (by omega)] at e; cases e
  have h2s : i < t.length → ¬ (t.getD (i : Int).toNat default).kind = 0 → 2 ≤ q := fun hi hk => by
    obtain ⟨q', e⟩ := hst hi
    rcases stepP_kind e with ⟨g, _⟩ | ⟨_, _, g, _⟩
    · exact absurd g hk
    · omega
  repeat' ((conv => whnf); first | refine vA ?_ | with_reducible first | refine v8 ?_ | refine Sp.mk ?_ ?_ | refine vS ?_ | refine vR ?_ | refine vB ?_ | refine br_nt ?_ | refine br_tt ?_ | refine br_ff ?_ | refine vP ?_ | refine vQ ?_ | refine vT ?_ | refine vF ?_ | refine br_and ?_ | refine br_or ?_ | refine br_d (fun _ => ?_) fun _ => ?_ | refine vM (fun _ => ?_) fun _ => ?_)
  · rename_i hi hk
    have hi : i < t.length := by omega
    have hb := hleaf hi hk
    have es := ext_letter (a := (t.getD (i : Int).toNat default).at_) (by omega) (by omega)
    have hnum := num1 (n := (t.getD (i : Int).toNat default).need) (by omega) (by omega)
    replace hk : (t.getD i default).kind = 0 := hk
    have hpush : stk t (i + 1) = stk t i ++ [⟨letter (t.getD i default).at_ ++ num (t.getD i default).need, false, 1⟩] := by
      unfold stk
      rw [hnx hi]
      unfold stepT
      rw [if_pos hk, List.reverse_cons]
    refine Dr.mk ⟨(.rd 0 (.rd 1 (.rd 2 (.rd 3 (.rd 4 (.rd 5 (.rd 6 (.rd 7 (.rd 8 (.ef 9 (.rd 10 (.rd 11 (.ef 12 (.ef 13 (.rd 14 .dn) .no) .no))) .no)))))))))), by decide +kernel, ?_⟩
    repeat' ((conv => whnf); first | refine ⟨Chk.mk ⟨by omega, by omega, by show _ ≤ (4 : Int); omega⟩, ?_⟩ | refine vA ?_ | with_reducible first | refine v8 ?_ | refine Sp.mk ?_ ?_ | refine vS ?_ | refine vR ?_ | refine vB ?_ | refine br_nt ?_ | refine br_tt ?_ | refine br_ff ?_ | refine vP ?_ | refine vQ ?_ | refine vT ?_ | refine vF ?_ | refine br_and ?_ | refine br_or ?_ | refine br_d (fun _ => ?_) fun _ => ?_ | refine vM (fun _ => ?_) fun _ => ?_)
    rw [es]
    refine ⟨(t.getD (i : Int).toNat default).need, ?_, ⟨by omega, by omega⟩, ?_⟩
    · repeat' ((conv => whnf); first | with_reducible exact True.intro | exact vW | with_reducible refine And.intro ?_ ?_)
    repeat' ((conv => whnf); first | refine ⟨Chk.mk (by rw [hnum]; exact (by decide : 1 + 1 ≤ 9223372036854775807)), ?_⟩ | refine vA ?_ | with_reducible first | refine v8 ?_ | refine Sp.mk ?_ ?_ | refine vS ?_ | refine vR ?_ | refine vB ?_ | refine br_nt ?_ | refine br_tt ?_ | refine br_ff ?_ | refine vP ?_ | refine vQ ?_ | refine vT ?_ | refine vF ?_ | refine br_and ?_ | refine br_or ?_ | refine br_d (fun _ => ?_) fun _ => ?_ | refine vM (fun _ => ?_) fun _ => ?_)
    refine ⟨i + 1, by omega, by omega, ⟨⟨[some 3], [], rfl, rfl, ?_, ?_⟩⟩⟩
    · repeat' ((conv => whnf); first | with_reducible exact True.intro | exact vW | with_reducible refine And.intro ?_ ?_)
      all_goals exact Chk.mk ⟨rfl, by rw [hpush, List.length_append]; rfl⟩
    · repeat' ((conv => whnf); first | with_reducible exact True.intro | exact vW | with_reducible refine And.intro ?_ ?_)
      all_goals exact Chk.mk (by rw [hpush]; exact ext_push rfl)
  · rename_i hi hk
    have hi : i < t.length := by omega
    have hb := h2s hi hk
    replace hk : ¬ (t.getD i default).kind = 0 := hk
    obtain ⟨b, a, r, hbar⟩ : ∃ b a r, runT (t.take i) [] = b :: a :: r := by
      match e : runT (t.take i) [], hl with
      | [], hl => simp at hl; omega
      | [_], hl => simp at hl; omega
      | b :: a :: r, _ => exact ⟨b, a, r, rfl⟩
    have hstk : stk t i = r.reverse ++ [a] ++ [b] := by unfold stk; rw [hbar]; simp
    have hrl : (stk t i).length = r.length + 2 := by rw [hstk]; simp
    have hjoin : stk t (i + 1) = (stk t i).take r.length ++ [join2 (t.getD i default).kind a b] := by
      rw [hstk]
      unfold stk
      rw [hnx hi, hbar]
      unfold stepT
      rw [if_neg hk, List.reverse_cons, List.append_assoc, List.take_left' (by simp)]
    have ea : (stk t i).getD (0 + (((stk t i).length : Int) - 2).toNat) default = a := by
      rw [hrl, hstk, show 0 + (((r.length + 2 : Nat) : Int) - 2).toNat = r.length by omega]
      simp [List.getD_eq_getElem?_getD]
    have eb : (stk t i).getD (0 + (((stk t i).length : Int) - 1).toNat) default = b := by
      rw [hrl, hstk, show 0 + (((r.length + 2 : Nat) : Int) - 1).toNat = r.length + 1 by omega]
      simp [List.getD_eq_getElem?_getD]
    have sa := hsm a (by rw [hbar]; simp)
    have sb := hsm b (by rw [hbar]; simp)
    have sa1 := sa.1
    have sa2 := sa.2.1
    have sa3 := sa.2.2
    have sb1 := sb.1
    have sb2 := sb.2.1
    have sb3 := sb.2.2
    have l2 : 2 ≤ (stk t i).length := by omega
    have n2 : (((stk t i).length : Int) - 2).toNat = r.length := by omega
    have wa := wrapT_le a.s a.o
    have wb := wrapT_le b.s b.o
    have wc := wrapT_le b.s (decide (b.n > 1))
    have z0 : (⟨#[124]⟩ : ByteArray).size = 1 := rfl
    have z1 : (⟨#[38]⟩ : ByteArray).size = 1 := rfl
    refine Dr.mk ⟨(.rd 0 (.rd 1 (.rd 2 (.rd 3 (.rd 4 (.rd 5 (.rd 6 (.rd 7 (.rd 8 (.rd 9 (.rd 10 (.rd 11 (.ef 12 (.ef 13 (.ef 14 (.ef 15 .dn .no) .no) .no) (.ef 13 (.ef 12 (.ef 14 (.ef 15 .dn .no) .no) .no) .no)))))))))))))), by decide +kernel, ?_⟩
    repeat' ((conv => whnf); first | with_reducible refine wk_at 8 ?_ | with_reducible refine wk_at1 8 ?_ | with_reducible refine wk_at2 8 ?_ | refine vA ?_ | with_reducible first | refine v8 ?_ | refine Sp.mk ?_ ?_ | refine vS ?_ | refine vR ?_ | refine vB ?_ | refine br_nt ?_ | refine br_tt ?_ | refine br_ff ?_ | refine vP ?_ | refine vQ ?_ | refine vT ?_ | refine vF ?_ | refine br_and ?_ | refine br_or ?_ | refine br_d (fun _ => ?_) fun _ => ?_ | refine vM (fun _ => ?_) fun _ => ?_)
    all_goals
      refine ⟨Wk.go [(3, .row 0 3 0 (stk t i).length), (5, .ptr 1 0), (6, .ptr 2 0), (7, .ptr 3 0), (10, slM t), (11, .int .i64 t.length), (12, .int .i64 i)]
        [.row 3 (stk t i).length fun j => encPt ((stk t i).getD j default), .box (encM (t.getD i default)), .box (encPt a), .box (encPt b)] ?_ ?_⟩
      · first
          | refine ⟨⟨[some 0, some 1, some 2, some 3], [], rfl, rfl, ?_, ?_⟩⟩
            · repeat' ((conv => whnf); first | with_reducible exact True.intro | exact vW | with_reducible refine And.intro ?_ ?_)
            · repeat' ((conv => whnf); first | with_reducible exact True.intro | exact vW | with_reducible refine And.intro ?_ ?_)
              all_goals first | exact Chk.mk (congrArg Pt.s ea).symm | exact Chk.mk (congrArg Pt.o ea).symm | exact Chk.mk (congrArg Pt.n ea).symm | exact Chk.mk (congrArg Pt.s eb).symm | exact Chk.mk (congrArg Pt.o eb).symm | exact Chk.mk (congrArg Pt.n eb).symm
          | refine ⟨⟨[some 0, some 1, some 3, some 2], [], rfl, rfl, ?_, ?_⟩⟩
            · repeat' ((conv => whnf); first | with_reducible exact True.intro | exact vW | with_reducible refine And.intro ?_ ?_)
            · repeat' ((conv => whnf); first | with_reducible exact True.intro | exact vW | with_reducible refine And.intro ?_ ?_)
              all_goals first | exact Chk.mk (congrArg Pt.s ea).symm | exact Chk.mk (congrArg Pt.o ea).symm | exact Chk.mk (congrArg Pt.n ea).symm | exact Chk.mk (congrArg Pt.s eb).symm | exact Chk.mk (congrArg Pt.o eb).symm | exact Chk.mk (congrArg Pt.n eb).symm
      repeat' ((conv => whnf); first | refine vA ?_ | with_reducible first | refine v8 ?_ | refine Sp.mk ?_ ?_ | refine vS ?_ | refine vR ?_ | refine vB ?_ | refine br_nt ?_ | refine br_tt ?_ | refine br_ff ?_ | refine vP ?_ | refine vQ ?_ | refine vT ?_ | refine vF ?_ | refine br_and ?_ | refine br_or ?_ | refine br_d (fun _ => ?_) fun _ => ?_ | refine vM (fun _ => ?_) fun _ => ?_)
    · rename_i hk2
      have hf : encPt ⟨a.s ++ ⟨#[124]⟩ ++ wrapT b.s b.o, decide ((t.getD i default).kind = 2), a.n + b.n + 1⟩ = encPt (join2 (t.getD i default).kind a b) := by
        unfold join2
        rw [if_pos hk2, decide_eq_true hk2]
      refine Dr.mk ⟨(.rd 0 (.rd 1 (.rd 2 (.rd 3 (.rd 4 (.rd 5 (.rd 6 (.ef 7 (.rd 8 (.rd 9 (.ef 10 .dn .no))) .no)))))))), by decide +kernel, ?_⟩
      repeat' ((conv => whnf); first | refine ⟨Chk.mk (by (try dsimp only); (repeat rw [ByteArray.size_append]); omega), ?_⟩ | refine vA ?_ | with_reducible first | refine v8 ?_ | refine Sp.mk ?_ ?_ | refine vS ?_ | refine vR ?_ | refine vB ?_ | refine br_nt ?_ | refine br_tt ?_ | refine br_ff ?_ | refine vP ?_ | refine vQ ?_ | refine vT ?_ | refine vF ?_ | refine br_and ?_ | refine br_or ?_ | refine br_d (fun _ => ?_) fun _ => ?_ | refine vM (fun _ => ?_) fun _ => ?_)
      refine ⟨(b.s, b.o), ?_, ⟨by dsimp only; omega⟩, ?_⟩
      · repeat' ((conv => whnf); first | with_reducible exact True.intro | exact vW | with_reducible refine And.intro ?_ ?_)
      repeat' ((conv => whnf); first | refine ⟨Chk.mk (by (try dsimp only); (repeat rw [ByteArray.size_append]); omega), ?_⟩ | refine vA ?_ | with_reducible first | refine v8 ?_ | refine Sp.mk ?_ ?_ | refine vS ?_ | refine vR ?_ | refine vB ?_ | refine br_nt ?_ | refine br_tt ?_ | refine br_ff ?_ | refine vP ?_ | refine vQ ?_ | refine vT ?_ | refine vF ?_ | refine br_and ?_ | refine br_or ?_ | refine br_d (fun _ => ?_) fun _ => ?_ | refine vM (fun _ => ?_) fun _ => ?_)
      refine Dr.mk ⟨(.rd 0 (.rd 1 (.rd 2 (.rd 3 (.rd 4 (.rd 5 (.ef 6 (.ef 7 (.rd 8 .dn) .no) .no))))))), by decide +kernel, ?_⟩
      repeat' ((conv => whnf); first | refine vA ?_ | with_reducible first | refine v8 ?_ | refine Sp.mk ?_ ?_ | refine vS ?_ | refine vR ?_ | refine vB ?_ | refine br_nt ?_ | refine br_tt ?_ | refine br_ff ?_ | refine vP ?_ | refine vQ ?_ | refine vT ?_ | refine vF ?_ | refine br_and ?_ | refine br_or ?_ | refine br_d (fun _ => ?_) fun _ => ?_ | refine vM (fun _ => ?_) fun _ => ?_)
      refine ⟨i + 1, by omega, by omega, ⟨⟨[some 6], [], rfl, rfl, ?_, ?_⟩⟩⟩
      · repeat' ((conv => whnf); first | with_reducible exact True.intro | exact vW | with_reducible refine And.intro ?_ ?_)
        all_goals exact Chk.mk ⟨rfl, by rw [hjoin]; exact (ext_snoc' (enc := encPt) (d := default) (g := fun _ => encPt (join2 (t.getD i default).kind a b)) n2 (by omega) rfl).1⟩
      · repeat' ((conv => whnf); first | with_reducible exact True.intro | exact vW | with_reducible refine And.intro ?_ ?_)
        all_goals exact Chk.mk (by rw [hjoin]; exact ext_snoc' n2 (by omega) hf)
    · rename_i hk2
      have hf : encPt ⟨wrapT a.s a.o ++ ⟨#[38]⟩ ++ wrapT b.s (decide (b.n > 1)), decide ((t.getD i default).kind = 2), a.n + b.n + 1⟩ = encPt (join2 (t.getD i default).kind a b) := by
        unfold join2
        rw [if_neg hk2, decide_eq_false hk2]
      refine Dr.mk ⟨(.rd 0 (.rd 1 (.rd 2 (.rd 3 (.rd 6 (.rd 7 (.rd 8 (.rd 9 (.rd 10 (.ef 4 (.rd 5 (.ef 11 (.rd 12 (.rd 13 (.ef 14 .dn .no))) .no)) .no)))))))))), by decide +kernel, ?_⟩
      repeat' ((conv => whnf); first | refine vA ?_ | with_reducible first | refine v8 ?_ | refine Sp.mk ?_ ?_ | refine vS ?_ | refine vR ?_ | refine vB ?_ | refine br_nt ?_ | refine br_tt ?_ | refine br_ff ?_ | refine vP ?_ | refine vQ ?_ | refine vT ?_ | refine vF ?_ | refine br_and ?_ | refine br_or ?_ | refine br_d (fun _ => ?_) fun _ => ?_ | refine vM (fun _ => ?_) fun _ => ?_)
      refine ⟨(a.s, a.o), ?_, ⟨by dsimp only; omega⟩, ?_⟩
      · repeat' ((conv => whnf); first | with_reducible exact True.intro | exact vW | with_reducible refine And.intro ?_ ?_)
      repeat' ((conv => whnf); first | refine ⟨Chk.mk (by (try dsimp only); (repeat rw [ByteArray.size_append]); omega), ?_⟩ | refine vA ?_ | with_reducible first | refine v8 ?_ | refine Sp.mk ?_ ?_ | refine vS ?_ | refine vR ?_ | refine vB ?_ | refine br_nt ?_ | refine br_tt ?_ | refine br_ff ?_ | refine vP ?_ | refine vQ ?_ | refine vT ?_ | refine vF ?_ | refine br_and ?_ | refine br_or ?_ | refine br_d (fun _ => ?_) fun _ => ?_ | refine vM (fun _ => ?_) fun _ => ?_)
      refine ⟨(b.s, decide (b.n > 1)), ?_, ⟨by dsimp only; omega⟩, ?_⟩
      · repeat' ((conv => whnf); first | with_reducible exact True.intro | exact vW | with_reducible refine And.intro ?_ ?_)
      repeat' ((conv => whnf); first | refine ⟨Chk.mk (by (try dsimp only); (repeat rw [ByteArray.size_append]); omega), ?_⟩ | refine vA ?_ | with_reducible first | refine v8 ?_ | refine Sp.mk ?_ ?_ | refine vS ?_ | refine vR ?_ | refine vB ?_ | refine br_nt ?_ | refine br_tt ?_ | refine br_ff ?_ | refine vP ?_ | refine vQ ?_ | refine vT ?_ | refine vF ?_ | refine br_and ?_ | refine br_or ?_ | refine br_d (fun _ => ?_) fun _ => ?_ | refine vM (fun _ => ?_) fun _ => ?_)
      refine Dr.mk ⟨(.rd 0 (.rd 1 (.rd 2 (.rd 3 (.rd 4 (.rd 5 (.ef 6 (.ef 7 (.rd 8 .dn) .no) .no))))))), by decide +kernel, ?_⟩
      repeat' ((conv => whnf); first | refine vA ?_ | with_reducible first | refine v8 ?_ | refine Sp.mk ?_ ?_ | refine vS ?_ | refine vR ?_ | refine vB ?_ | refine br_nt ?_ | refine br_tt ?_ | refine br_ff ?_ | refine vP ?_ | refine vQ ?_ | refine vT ?_ | refine vF ?_ | refine br_and ?_ | refine br_or ?_ | refine br_d (fun _ => ?_) fun _ => ?_ | refine vM (fun _ => ?_) fun _ => ?_)
      refine ⟨i + 1, by omega, by omega, ⟨⟨[some 6], [], rfl, rfl, ?_, ?_⟩⟩⟩
      · repeat' ((conv => whnf); first | with_reducible exact True.intro | exact vW | with_reducible refine And.intro ?_ ?_)
        all_goals exact Chk.mk ⟨rfl, by rw [hjoin]; exact (ext_snoc' (enc := encPt) (d := default) (g := fun _ => encPt (join2 (t.getD i default).kind a b)) n2 (by omega) rfl).1⟩
      · repeat' ((conv => whnf); first | with_reducible exact True.intro | exact vW | with_reducible refine And.intro ?_ ?_)
        all_goals exact Chk.mk (by rw [hjoin]; exact ext_snoc' n2 (by omega) hf)
    · rename_i hk2
      have hf : encPt ⟨a.s ++ ⟨#[124]⟩ ++ wrapT b.s b.o, decide ((t.getD i default).kind = 2), a.n + b.n + 1⟩ = encPt (join2 (t.getD i default).kind a b) := by
        unfold join2
        rw [if_pos hk2, decide_eq_true hk2]
      refine Dr.mk ⟨(.rd 0 (.rd 1 (.rd 2 (.rd 3 (.rd 4 (.rd 5 (.rd 6 (.ef 7 (.rd 8 (.rd 9 (.ef 10 .dn .no))) .no)))))))), by decide +kernel, ?_⟩
      repeat' ((conv => whnf); first | refine ⟨Chk.mk (by (try dsimp only); (repeat rw [ByteArray.size_append]); omega), ?_⟩ | refine vA ?_ | with_reducible first | refine v8 ?_ | refine Sp.mk ?_ ?_ | refine vS ?_ | refine vR ?_ | refine vB ?_ | refine br_nt ?_ | refine br_tt ?_ | refine br_ff ?_ | refine vP ?_ | refine vQ ?_ | refine vT ?_ | refine vF ?_ | refine br_and ?_ | refine br_or ?_ | refine br_d (fun _ => ?_) fun _ => ?_ | refine vM (fun _ => ?_) fun _ => ?_)
      refine ⟨(b.s, b.o), ?_, ⟨by dsimp only; omega⟩, ?_⟩
      · repeat' ((conv => whnf); first | with_reducible exact True.intro | exact vW | with_reducible refine And.intro ?_ ?_)
      repeat' ((conv => whnf); first | refine ⟨Chk.mk (by (try dsimp only); (repeat rw [ByteArray.size_append]); omega), ?_⟩ | refine vA ?_ | with_reducible first | refine v8 ?_ | refine Sp.mk ?_ ?_ | refine vS ?_ | refine vR ?_ | refine vB ?_ | refine br_nt ?_ | refine br_tt ?_ | refine br_ff ?_ | refine vP ?_ | refine vQ ?_ | refine vT ?_ | refine vF ?_ | refine br_and ?_ | refine br_or ?_ | refine br_d (fun _ => ?_) fun _ => ?_ | refine vM (fun _ => ?_) fun _ => ?_)
      refine Dr.mk ⟨(.rd 0 (.rd 1 (.rd 2 (.rd 3 (.rd 4 (.rd 5 (.ef 6 (.ef 7 (.rd 8 .dn) .no) .no))))))), by decide +kernel, ?_⟩
      repeat' ((conv => whnf); first | refine vA ?_ | with_reducible first | refine v8 ?_ | refine Sp.mk ?_ ?_ | refine vS ?_ | refine vR ?_ | refine vB ?_ | refine br_nt ?_ | refine br_tt ?_ | refine br_ff ?_ | refine vP ?_ | refine vQ ?_ | refine vT ?_ | refine vF ?_ | refine br_and ?_ | refine br_or ?_ | refine br_d (fun _ => ?_) fun _ => ?_ | refine vM (fun _ => ?_) fun _ => ?_)
      refine ⟨i + 1, by omega, by omega, ⟨⟨[some 6], [], rfl, rfl, ?_, ?_⟩⟩⟩
      · repeat' ((conv => whnf); first | with_reducible exact True.intro | exact vW | with_reducible refine And.intro ?_ ?_)
        all_goals exact Chk.mk ⟨rfl, by rw [hjoin]; exact (ext_snoc' (enc := encPt) (d := default) (g := fun _ => encPt (join2 (t.getD i default).kind a b)) n2 (by omega) rfl).1⟩
      · repeat' ((conv => whnf); first | with_reducible exact True.intro | exact vW | with_reducible refine And.intro ?_ ?_)
        all_goals exact Chk.mk (by rw [hjoin]; exact ext_snoc' n2 (by omega) hf)
    · rename_i hk2
      have hf : encPt ⟨wrapT a.s a.o ++ ⟨#[38]⟩ ++ wrapT b.s (decide (b.n > 1)), decide ((t.getD i default).kind = 2), a.n + b.n + 1⟩ = encPt (join2 (t.getD i default).kind a b) := by
        unfold join2
        rw [if_neg hk2, decide_eq_false hk2]
      refine Dr.mk ⟨(.rd 0 (.rd 1 (.rd 2 (.rd 3 (.rd 6 (.rd 7 (.rd 8 (.rd 9 (.rd 10 (.ef 4 (.rd 5 (.ef 11 (.rd 12 (.rd 13 (.ef 14 .dn .no))) .no)) .no)))))))))), by decide +kernel, ?_⟩
      repeat' ((conv => whnf); first | refine vA ?_ | with_reducible first | refine v8 ?_ | refine Sp.mk ?_ ?_ | refine vS ?_ | refine vR ?_ | refine vB ?_ | refine br_nt ?_ | refine br_tt ?_ | refine br_ff ?_ | refine vP ?_ | refine vQ ?_ | refine vT ?_ | refine vF ?_ | refine br_and ?_ | refine br_or ?_ | refine br_d (fun _ => ?_) fun _ => ?_ | refine vM (fun _ => ?_) fun _ => ?_)
      refine ⟨(a.s, a.o), ?_, ⟨by dsimp only; omega⟩, ?_⟩
      · repeat' ((conv => whnf); first | with_reducible exact True.intro | exact vW | with_reducible refine And.intro ?_ ?_)
      repeat' ((conv => whnf); first | refine ⟨Chk.mk (by (try dsimp only); (repeat rw [ByteArray.size_append]); omega), ?_⟩ | refine vA ?_ | with_reducible first | refine v8 ?_ | refine Sp.mk ?_ ?_ | refine vS ?_ | refine vR ?_ | refine vB ?_ | refine br_nt ?_ | refine br_tt ?_ | refine br_ff ?_ | refine vP ?_ | refine vQ ?_ | refine vT ?_ | refine vF ?_ | refine br_and ?_ | refine br_or ?_ | refine br_d (fun _ => ?_) fun _ => ?_ | refine vM (fun _ => ?_) fun _ => ?_)
      refine ⟨(b.s, decide (b.n > 1)), ?_, ⟨by dsimp only; omega⟩, ?_⟩
      · repeat' ((conv => whnf); first | with_reducible exact True.intro | exact vW | with_reducible refine And.intro ?_ ?_)
      repeat' ((conv => whnf); first | refine ⟨Chk.mk (by (try dsimp only); (repeat rw [ByteArray.size_append]); omega), ?_⟩ | refine vA ?_ | with_reducible first | refine v8 ?_ | refine Sp.mk ?_ ?_ | refine vS ?_ | refine vR ?_ | refine vB ?_ | refine br_nt ?_ | refine br_tt ?_ | refine br_ff ?_ | refine vP ?_ | refine vQ ?_ | refine vT ?_ | refine vF ?_ | refine br_and ?_ | refine br_or ?_ | refine br_d (fun _ => ?_) fun _ => ?_ | refine vM (fun _ => ?_) fun _ => ?_)
      refine Dr.mk ⟨(.rd 0 (.rd 1 (.rd 2 (.rd 3 (.rd 4 (.rd 5 (.ef 6 (.ef 7 (.rd 8 .dn) .no) .no))))))), by decide +kernel, ?_⟩
      repeat' ((conv => whnf); first | refine vA ?_ | with_reducible first | refine v8 ?_ | refine Sp.mk ?_ ?_ | refine vS ?_ | refine vR ?_ | refine vB ?_ | refine br_nt ?_ | refine br_tt ?_ | refine br_ff ?_ | refine vP ?_ | refine vQ ?_ | refine vT ?_ | refine vF ?_ | refine br_and ?_ | refine br_or ?_ | refine br_d (fun _ => ?_) fun _ => ?_ | refine vM (fun _ => ?_) fun _ => ?_)
      refine ⟨i + 1, by omega, by omega, ⟨⟨[some 6], [], rfl, rfl, ?_, ?_⟩⟩⟩
      · repeat' ((conv => whnf); first | with_reducible exact True.intro | exact vW | with_reducible refine And.intro ?_ ?_)
        all_goals exact Chk.mk ⟨rfl, by rw [hjoin]; exact (ext_snoc' (enc := encPt) (d := default) (g := fun _ => encPt (join2 (t.getD i default).kind a b)) n2 (by omega) rfl).1⟩
      · repeat' ((conv => whnf); first | with_reducible exact True.intro | exact vW | with_reducible refine And.intro ?_ ?_)
        all_goals exact Chk.mk (by rw [hjoin]; exact ext_snoc' n2 (by omega) hf)
  · rename_i hi
    have e := hnx
    obtain rfl : i = t.length := by omega
    have hone : stk t t.length = [partT t] := by unfold stk; rw [List.take_length, runT_one h2]; rfl
    rw [hone]
    repeat' ((conv => whnf); first | refine vA ?_ | with_reducible first | refine v8 ?_ | refine Sp.mk ?_ ?_ | refine vS ?_ | refine vR ?_ | refine vB ?_ | refine br_nt ?_ | refine br_tt ?_ | refine br_ff ?_ | refine vP ?_ | refine vQ ?_ | refine vT ?_ | refine vF ?_ | refine br_and ?_ | refine br_or ?_ | refine br_d (fun _ => ?_) fun _ => ?_ | refine vM (fun _ => ?_) fun _ => ?_)
    exact h
/-! ### A term that is read -/
def sane (rd : List Int → PR) : Prop := ∀ s t r, rd s = some (t, r) → ∀ m ∈ t, m.i64
theorem loopF_sane {rd : List Int → PR} (h : sane rd) {sign kind : Int} (hk : i64r kind) : ∀ k t s u r, (∀ m ∈ t, m.i64) → loopF rd sign kind k t s = some (u, r) → ∀ m ∈ u, m.i64
  | 0, t, s, u, r, ht, e => by
    simp only [loopF, Option.some.injEq, Prod.mk.injEq] at e
    obtain ⟨rfl, rfl⟩ := e
    exact ht
  | k + 1, t, [], u, r, ht, e => by
    simp only [loopF, Option.some.injEq, Prod.mk.injEq] at e
    obtain ⟨rfl, rfl⟩ := e
    exact ht
  | k + 1, t, c :: s, u, r, ht, e => by
    unfold loopF at e
    split at e
    · cases e1 : rd s with
      | none => rw [e1] at e; cases e
      | some q =>
        rw [e1] at e
        refine loopF_sane h hk k _ _ u r (fun m hm => ?_) e
        rcases List.mem_append.1 hm with hm | hm
        · rcases List.mem_append.1 hm with hm | hm
          · exact ht m hm
          · exact h s q.1 q.2 e1 m hm
        · obtain rfl := List.mem_singleton.1 hm
          exact ⟨hk, by unfold i64r; dsimp only; omega, by unfold i64r; dsimp only; omega⟩
    · simp only [Option.some.injEq, Prod.mk.injEq] at e
      obtain ⟨rfl, rfl⟩ := e
      exact ht
theorem joinP_sane {rd : List Int → PR} (h : sane rd) {sign kind : Int} (hk : i64r kind) : sane (joinP rd sign kind) := fun s t r e => by
  unfold joinP at e
  cases e1 : rd s with
  | none => rw [e1] at e; cases e
  | some q =>
    rw [e1] at e
    exact loopF_sane h hk _ _ _ t r (h s q.1 q.2 e1) e
theorem partF_sane {lo : Int} (hl : 0 ≤ lo) : ∀ f, sane (partF lo f)
  | 0 => fun s t r e => by cases e
  | f + 1 => fun s t r e => by
    unfold partF at e
    cases s with
    | nil => cases e
    | cons b s =>
      dsimp only at e
      split at e
      · have hf := joinP_sane (sign := 124) (kind := 2) (joinP_sane (sign := 38) (kind := 1) (partF_sane hl f) (by unfold i64r; decide)) (by unfold i64r; decide)
        unfold closeP at e
        split at e
        · rename_i t' c s' e1
          split at e
          · simp only [Option.some.injEq, Prod.mk.injEq] at e
            obtain ⟨rfl, rfl⟩ := e
            exact hf _ _ _ e1
          · cases e
        · cases e
      · unfold atomP at e
        split at e
        · split at e
          · simp only [Option.some.injEq, Prod.mk.injEq] at e
            obtain ⟨rfl, rfl⟩ := e
            intro m hm
            obtain rfl := List.mem_singleton.1 hm
            exact ⟨by unfold i64r; dsimp only; omega, by unfold i64r; dsimp only; omega, by unfold i64r; dsimp only; omega⟩
          · cases e
        · cases e
theorem eitherP_sane {lo : Int} (hl : 0 ≤ lo) (f : Nat) : sane (eitherP (partF lo f)) := joinP_sane (joinP_sane (partF_sane hl f) (by unfold i64r; decide)) (by unfold i64r; decide)
structure Hs where
  h : House
  s : ByteArray
def houI (h : House) : Prop := h.i64 ∧ h.bs.length < 9223372036854775808
def rdpost (lo : Int) (x : Hs) (K : AV → Prop) : Prop := (rdT lo x.h x.s = none → K (.tup [.nils, .bool false])) ∧ ∀ t, rdT lo x.h x.s = some t → K (.tup [slM t, .bool true])
theorem rdpost_mono {lo : Int} {x : Hs} {K K' : AV → Prop} (hk : ∀ r, K r → K' r) (h : rdpost lo x K) : rdpost lo x K' := ⟨fun e => hk _ (h.1 e), fun t e => hk _ (h.2 t e)⟩
def C176 : List AV → (AV → Prop) → Prop := con (X := Hs) (fun x => [enH x.h, .str x.s]) (fun x => houI x.h ∧ x.s.size < 9223372036854775808) fun x K => rdpost 49 x K
theorem rdT_no {lo : Int} {h : House} {s : ByteArray} (e : ∀ t, eitherP (partF lo 80) (bys s) = some (t, []) → s.size ≤ 80 → termOk h t → textT t = s → False) : rdT lo h s = none := by
  unfold rdT
  split
  · split
    · rename_i t e1
      rw [if_neg fun q => e t e1 ‹_› q.1 q.2]
    · rfl
  · rfl
theorem F176 : FF 97 C176 := by
  refine fitX [(122, C38), (123, C192)] (by simp only [List.mem_cons, List.not_mem_nil, or_false]; rintro _ (rfl | rfl) <;> first | exact F38 | exact F192) [(121, C191 80)] (by simp only [List.mem_cons, List.not_mem_nil, or_false]; rintro _ rfl; exact F191 (F208 80)) Tryz.f97 ⟨rfl, by decide +kernel, by decide +kernel⟩ (fun _ _ _ hk h => rdpost_mono hk h) ?_
  rintro ⟨⟨p, bs⟩, s⟩ K ⟨h1, h2⟩ h
  refine ⟨Nat.le_of_ble_eq_true rfl, ?_⟩
  have hI := h1.1
  have hI2 := h1.2
  unfold rdpost at h
  dsimp only [enH] at h h2 ⊢
  repeat' ((conv => whnf); first | refine vA ?_ | with_reducible first | refine v8 ?_ | refine Sp.mk ?_ ?_ | refine vS ?_ | refine vR ?_ | refine vB ?_ | refine br_nt ?_ | refine br_tt ?_ | refine br_ff ?_ | refine vP ?_ | refine vQ ?_ | refine vT ?_ | refine vF ?_ | refine br_and ?_ | refine br_or ?_ | refine br_d (fun _ => ?_) fun _ => ?_ | refine vM (fun _ => ?_) fun _ => ?_)
  · exact h.1 (if_neg (by omega))
  · rename_i h80
    refine ⟨_, _, [1], [], rfl, ?_, ?_, ⟨s, 0⟩, rfl, rfl, ⟨⟨Nat.zero_le _, by dsimp only; omega⟩, by dsimp only; omega⟩, ?_⟩
    · repeat' ((conv => whnf); first | with_reducible exact True.intro | exact vW | with_reducible refine And.intro ?_ ?_)
    · repeat' ((conv => whnf); first | with_reducible exact True.intro | exact vW | with_reducible refine And.intro ?_ ?_)
    have hr0 : rem s 0 = bys s := rfl
    refine And.intro (fun e a' g1 g2 => ?_) (fun t u e a' g1 g2 g3 => ?_)
    · dsimp only at e g1 g2
      rw [hr0] at e
      have hn : rdT 49 ⟨p, bs⟩ s = none := rdT_no fun t e1 => by rw [e] at e1; cases e1
      replace h := h.1 hn
      repeat' ((conv => whnf); first | refine vA ?_ | with_reducible first | refine v8 ?_ | refine Sp.mk ?_ ?_ | refine vS ?_ | refine vR ?_ | refine vB ?_ | refine br_nt ?_ | refine br_tt ?_ | refine br_ff ?_ | refine vP ?_ | refine vQ ?_ | refine vT ?_ | refine vF ?_ | refine br_and ?_ | refine br_or ?_ | refine br_d (fun _ => ?_) fun _ => ?_ | refine vM (fun _ => ?_) fun _ => ?_)
      · refine ⟨(⟨p, bs⟩, []), ?_, ⟨⟨hI, hI2, by simp, by simp⟩⟩, ?_⟩
        · repeat' ((conv => whnf); first | with_reducible exact True.intro | exact vW | with_reducible refine And.intro ?_ ?_)
        have hno : ¬ termOk ⟨p, bs⟩ [] := fun q => by
          have := q.2.2
          simp [walkP] at this
        repeat' ((conv => whnf); first | refine vA ?_ | with_reducible first | refine v8 ?_ | refine Sp.mk ?_ ?_ | refine vS ?_ | refine vR ?_ | refine vB ?_ | refine br_nt ?_ | refine br_tt ?_ | refine br_ff ?_ | refine vP ?_ | refine vQ ?_ | refine vT ?_ | refine vF ?_ | refine br_and ?_ | refine br_or ?_ | refine br_d (fun _ => ?_) fun _ => ?_ | refine vM (fun _ => ?_) fun _ => ?_)
        exact h
      · exact h
    · dsimp only at e g1 g2 g3
      rw [hr0] at e
      have hfa := eitherP_fair 49 80 _ _ _ e
      rw [bys_len] at hfa
      have hsa := eitherP_sane (by decide) 80 _ _ _ e
      have hlen : t.length < 9223372036854775808 := by omega
      repeat' ((conv => whnf); first | refine vA ?_ | with_reducible first | refine v8 ?_ | refine Sp.mk ?_ ?_ | refine vS ?_ | refine vR ?_ | refine vB ?_ | refine br_nt ?_ | refine br_tt ?_ | refine br_ff ?_ | refine vP ?_ | refine vQ ?_ | refine vT ?_ | refine vF ?_ | refine br_and ?_ | refine br_or ?_ | refine br_d (fun _ => ?_) fun _ => ?_ | refine vM (fun _ => ?_) fun _ => ?_)
      · rename_i ea
        have hu : u = [] := by rw [← g3]; exact rem_ge (by omega)
        subst hu
        refine ⟨(⟨p, bs⟩, t), ?_, ⟨⟨hI, hI2, hsa, hlen⟩⟩, ?_⟩
        · repeat' ((conv => whnf); first | with_reducible exact True.intro | exact vW | with_reducible refine And.intro ?_ ?_)
          all_goals exact Chk.mk ⟨rfl, fun i _ => by dsimp only; rw [Nat.zero_add]⟩
        repeat' ((conv => whnf); first | refine vA ?_ | with_reducible first | refine v8 ?_ | refine Sp.mk ?_ ?_ | refine vS ?_ | refine vR ?_ | refine vB ?_ | refine br_nt ?_ | refine br_tt ?_ | refine br_ff ?_ | refine vP ?_ | refine vQ ?_ | refine vT ?_ | refine vF ?_ | refine br_and ?_ | refine br_or ?_ | refine br_d (fun _ => ?_) fun _ => ?_ | refine vM (fun _ => ?_) fun _ => ?_)
        · rename_i hO
          have hO' : termOk ⟨p, bs⟩ t := hO
          refine ⟨⟨bs, t⟩, ?_, ⟨bodies_of hO'.1, hO'.2.2, hO'.2.1⟩, ?_⟩
          · repeat' ((conv => whnf); first | with_reducible exact True.intro | exact vW | with_reducible refine And.intro ?_ ?_)
            all_goals exact Chk.mk ⟨rfl, fun i _ => by dsimp only; rw [Nat.zero_add]⟩
          repeat' ((conv => whnf); first | refine vA ?_ | with_reducible first | refine v8 ?_ | refine Sp.mk ?_ ?_ | refine vS ?_ | refine vR ?_ | refine vB ?_ | refine br_nt ?_ | refine br_tt ?_ | refine br_ff ?_ | refine vP ?_ | refine vQ ?_ | refine vT ?_ | refine vF ?_ | refine br_and ?_ | refine br_or ?_ | refine br_d (fun _ => ?_) fun _ => ?_ | refine vM (fun _ => ?_) fun _ => ?_)
          · rename_i hq
            refine Eq.mp (congrArg (fun z => K (.tup [AV.sl 3 _ z, .bool true])) ?_) (h.2 t ((rdT_iff (by decide)).2 ⟨by omega, hO', hq⟩))
            funext j
            show encM (t.getD j default) = encM (t.getD (0 + j) default)
            rw [Nat.zero_add]
          · rename_i hq
            exact h.1 (rdT_no fun t' e1 _ _ hq' => by rw [e] at e1; injection e1 with e1; injection e1 with e1 _; subst e1; exact hq hq')
        · rename_i hO
          exact h.1 (rdT_no fun t' e1 _ hq _ => by rw [e] at e1; injection e1 with e1; injection e1 with e1 _; subst e1; exact hO hq)
      · rename_i ea
        refine h.1 (rdT_no fun t' e1 => ?_)
        rw [e] at e1
        injection e1 with e1
        injection e1 with _ e1
        rw [← g3] at e1
        have := rem_len s a'
        rw [e1] at this
        simp only [List.length_nil] at this
        omega
end Go.Proofs.YtjefkdhecccfpaaGreatDoor.Vc
end
section
/- Part TD: the reference reader of terms. -/
namespace Go.Proofs.YtjefkdhecccfpaaGreatDoor.Vc
open Go.Proofs
set_option maxRecDepth 10000
set_option maxHeartbeats 4000000
def spost (s : ByteArray) (a : Nat) (r : PR) (K : AV → Prop) : Prop := (r = none → K (.tup [.nils, .int .i64 (-1)]) ∧ ∀ t : List Mark, t.length ≤ s.size - a → K (.tup [slM t, .int .i64 (-1)])) ∧ ∀ t u, r = some (t, u) → ∀ a' : Nat, a ≤ a' → a' ≤ s.size → rem s a' = u → K (.tup [slM t, .int .i64 a'])
theorem spost_mono {s : ByteArray} {a : Nat} {r : PR} {K K' : AV → Prop} (hk : ∀ r, K r → K' r) (h : spost s a r K) : spost s a r K' := ⟨fun e => ⟨hk _ (h.1 e).1, fun t ht => hk _ ((h.1 e).2 t ht)⟩, fun t u e a' h1 h2 h3 => hk _ (h.2 t u e a' h1 h2 h3)⟩
def C203 (f : Nat) : List AV → (AV → Prop) → Prop := con (X := Rt) (fun x => [.str x.s, .int .i64 x.a]) (fun x => x.ok ∧ x.s.size - x.a ≤ f) fun x K => spost x.s x.a (partF 48 f (rem x.s x.a)) K
def C193 (f : Nat) : List AV → (AV → Prop) → Prop := con (X := Rt) (fun x => [.str x.s, .int .i64 x.a]) (fun x => x.ok ∧ x.s.size - x.a ≤ f) fun x K => spost x.s x.a (bothP (partF 48 f) (rem x.s x.a)) K
def C177 (f : Nat) : List AV → (AV → Prop) → Prop := con (X := Rt) (fun x => [.str x.s, .int .i64 x.a]) (fun x => x.ok ∧ x.s.size - x.a ≤ f) fun x K => spost x.s x.a (eitherP (partF 48 f) (rem x.s x.a)) K
theorem atom_at {s : ByteArray} {a : Nat} (h1 : a < s.size) (f : Nat) (e : bt s a ≠ 40) : (¬ (a + 2 ≤ s.size ∧ 65 ≤ bt s a ∧ bt s a ≤ 68 ∧ 48 ≤ bt s (a + 1) ∧ bt s (a + 1) ≤ 57) → partF 48 (f + 1) (rem s a) = none) ∧
    (a + 2 ≤ s.size ∧ 65 ≤ bt s a ∧ bt s a ≤ 68 ∧ 48 ≤ bt s (a + 1) ∧ bt s (a + 1) ≤ 57 → partF 48 (f + 1) (rem s a) = some ([⟨0, bt s a - 65, bt s (a + 1) - 48⟩], rem s (a + 2))) := by
  rw [rem_lt h1, partF_atom e]
  rcases Nat.lt_or_ge (a + 1) s.size with h2 | h2
  · rw [rem_lt h2]
    unfold atomP
    dsimp only
    exact ⟨fun h => if_neg fun q => h ⟨by omega, q⟩, fun h => if_pos h.2⟩
  · rw [rem_ge h2]
    exact ⟨fun _ => rfl, fun h => by omega⟩
theorem F203s {f : Nat} (hF : FF 89 (C177 f)) : FF 132 (C203 (f + 1)) := by
  refine fitE [(89, C177 f)] (by simp only [List.mem_cons, List.not_mem_nil, or_false]; rintro _ rfl; exact hF) Tryz.f132 ⟨rfl, by decide +kernel, by decide +kernel⟩ (fun _ _ _ hk h => spost_mono hk h) ?_
  rintro ⟨s, a⟩ K ⟨⟨h1, h2⟩, h3⟩ h
  refine ⟨Nat.le_of_ble_eq_true rfl, ?_⟩
  dsimp only at h h1 h2 h3 ⊢
  have b0 := bt_u8 s a
  have b1 := bt_u8 s (a + 1)
  repeat' ((conv => whnf); first | refine vA ?_ | with_reducible first | refine v8 ?_ | refine Sp.mk ?_ ?_ | refine vS ?_ | refine vR ?_ | refine vB ?_ | refine br_nt ?_ | refine br_tt ?_ | refine br_ff ?_ | refine vP ?_ | refine vQ ?_ | refine vT ?_ | refine vF ?_ | refine br_and ?_ | refine br_or ?_ | refine br_d (fun _ => ?_) fun _ => ?_ | refine vM (fun _ => ?_) fun _ => ?_)
  · exact (h.1 (by rw [rem_ge (by omega)]; rfl)).1
  · rename_i e40
    replace e40 : bt s a = 40 := e40
    have hlt : a < s.size := by omega
    rw [rem_lt hlt, e40, partF_paren] at h
    refine ⟨⟨s, a + 1⟩, ?_, ⟨⟨by dsimp only; omega, h2⟩, by dsimp only; omega⟩, ?_⟩
    · repeat' ((conv => whnf); first | with_reducible exact True.intro | exact vW | with_reducible refine And.intro ?_ ?_)
    refine And.intro (fun e => And.intro ?_ fun t ht => ?_) (fun t u e a' g1 g2 g3 => ?_)
    · dsimp only at e
      rw [e] at h
      repeat' ((conv => whnf); first | refine vA ?_ | with_reducible first | refine v8 ?_ | refine Sp.mk ?_ ?_ | refine vS ?_ | refine vR ?_ | refine vB ?_ | refine br_nt ?_ | refine br_tt ?_ | refine br_ff ?_ | refine vP ?_ | refine vQ ?_ | refine vT ?_ | refine vF ?_ | refine br_and ?_ | refine br_or ?_ | refine br_d (fun _ => ?_) fun _ => ?_ | refine vM (fun _ => ?_) fun _ => ?_)
      exact (h.1 rfl).1
    · dsimp only at e
      rw [e] at h
      repeat' ((conv => whnf); first | refine vA ?_ | with_reducible first | refine v8 ?_ | refine Sp.mk ?_ ?_ | refine vS ?_ | refine vR ?_ | refine vB ?_ | refine br_nt ?_ | refine br_tt ?_ | refine br_ff ?_ | refine vP ?_ | refine vQ ?_ | refine vT ?_ | refine vF ?_ | refine br_and ?_ | refine br_or ?_ | refine br_d (fun _ => ?_) fun _ => ?_ | refine vM (fun _ => ?_) fun _ => ?_)
      exact (h.1 rfl).1
    · dsimp only at e g1 g2 g3
      rw [e] at h
      have b2 := bt_u8 s a'
      repeat' ((conv => whnf); first | refine vA ?_ | with_reducible first | refine v8 ?_ | refine Sp.mk ?_ ?_ | refine vS ?_ | refine vR ?_ | refine vB ?_ | refine br_nt ?_ | refine br_tt ?_ | refine br_ff ?_ | refine vP ?_ | refine vQ ?_ | refine vT ?_ | refine vF ?_ | refine br_and ?_ | refine br_or ?_ | refine br_d (fun _ => ?_) fun _ => ?_ | refine vM (fun _ => ?_) fun _ => ?_)
      · refine (h.1 ?_).1
        rw [← g3, rem_ge (by omega)]
        rfl
      · rename_i ge e41
        replace e41 : bt s a' = 41 := e41
        refine h.2 t (rem s (a' + 1)) ?_ (a' + 1) (by omega) (by omega) rfl
        rw [← g3, rem_lt (by omega)]
        exact if_pos e41
      · rename_i ge e41
        replace e41 : ¬ bt s a' = 41 := e41
        refine (h.1 ?_).1
        rw [← g3, rem_lt (by omega)]
        exact if_neg e41
  all_goals
    have hlt : a < s.size := by omega
    have e1 : ((a : Int) + 1).toNat = a + 1 := by omega
    simp only [Int.toNat_natCast, e1] at *
    obtain ⟨no, yes⟩ := atom_at hlt f (by assumption)
    try (exact (h.1 (no (by omega))).1)
  have y := yes (by omega)
  have e1 : ((a : Int) + 1).toNat = a + 1 := by omega
  have e0 : (a : Int).toNat = a := by omega
  refine Dr.mk ⟨(.rd 0 (.rd 1 (.rd 2 (.rd 3 (.rd 4 (.rd 5 (.rd 6 (.rd 7 (.rd 8 (.rd 9 (.rd 10 (.rd 11 (.rd 13 (.rd 14 (.ef 12 (.rd 15 (.rd 16 .dn)) .no))))))))))))))), by decide +kernel, ?_⟩
  repeat' ((conv => whnf); first | with_reducible refine Wr.ex (wu8 (by rw [e0]; omega) (by rw [e0]; omega)) ?_ | with_reducible refine Wr.ex (wi64 (by rw [e0]; omega) (by rw [e0]; omega)) ?_ | with_reducible refine Wr.ex (wu8 (by rw [e1]; omega) (by rw [e1]; omega)) ?_ | with_reducible refine Wr.ex (wi64 (by rw [e1]; omega) (by rw [e1]; omega)) ?_ | refine vA ?_ | with_reducible first | refine v8 ?_ | refine Sp.mk ?_ ?_ | refine vS ?_ | refine vR ?_ | refine vB ?_ | refine br_nt ?_ | refine br_tt ?_ | refine br_ff ?_ | refine vP ?_ | refine vQ ?_ | refine vT ?_ | refine vF ?_ | refine br_and ?_ | refine br_or ?_ | refine br_d (fun _ => ?_) fun _ => ?_ | refine vM (fun _ => ?_) fun _ => ?_)
  rw [e1]
  refine Eq.mp (congrArg (fun z => K (.tup [AV.sl 3 _ z, .int .i64 (a + 2 : Nat)])) ?_) (h.2 _ _ y (a + 2) (by omega) (by omega) rfl)
  funext j
  cases j <;> rfl
theorem F203z : FF 132 (C203 0) := by
  refine fitE [] (by simp) Tryz.f132 ⟨rfl, by decide +kernel, by decide +kernel⟩ (fun _ _ _ hk h => spost_mono hk h) ?_
  rintro ⟨s, a⟩ K ⟨⟨h1, h2⟩, h3⟩ h
  refine ⟨Nat.le_of_ble_eq_true rfl, ?_⟩
  dsimp only at h h1 h2 h3 ⊢
  repeat' ((conv => whnf); first | refine vA ?_ | with_reducible first | refine v8 ?_ | refine Sp.mk ?_ ?_ | refine vS ?_ | refine vR ?_ | refine vB ?_ | refine br_nt ?_ | refine br_tt ?_ | refine br_ff ?_ | refine vP ?_ | refine vQ ?_ | refine vT ?_ | refine vF ?_ | refine br_and ?_ | refine br_or ?_ | refine br_d (fun _ => ?_) fun _ => ?_ | refine vM (fun _ => ?_) fun _ => ?_)
  exact (h.1 rfl).1
theorem app3_gen {t u : List Mark} {k : Int} {gu gk : Nat → List AV} (hu : ∀ j, j < u.length → gu j = encM (u.getD j default)) (hk : gk 0 = encM ⟨k, 0, 0⟩) : (t ++ u ++ [(⟨k, 0, 0⟩ : Mark)]).length = t.length + u.length + 1 ∧ 0 + (t.length + u.length + 1) ≤ t.length + u.length + 1 ∧ ∀ i, i < (t ++ u ++ [(⟨k, 0, 0⟩ : Mark)]).length → encM ((t ++ u ++ [(⟨k, 0, 0⟩ : Mark)]).getD i default) = appF (t.length + u.length) (appF t.length (fun i => encM (t.getD i default)) gu) gk (0 + i) := by
  refine ⟨by simp [Nat.add_assoc], by omega, fun i hi => ?_⟩
  simp only [List.length_append, List.length_cons, List.length_nil] at hi
  rw [Nat.zero_add]
  unfold appF
  rw [List.getD_eq_getElem?_getD, List.getElem?_append, List.length_append]
  cases hb : Nat.blt i (t.length + u.length) with
  | true =>
    have h1 := blt_t hb
    rw [if_pos h1, List.getElem?_append]
    cases hc : Nat.blt i t.length with
    | true =>
      rw [if_pos (blt_t hc), ← List.getD_eq_getElem?_getD]
      rfl
    | false =>
      have h2 := blt_f hc
      rw [if_neg h2, ← List.getD_eq_getElem?_getD, ← hu _ (by omega)]
      rfl
  | false =>
    have h2 := blt_f hb
    have : i = t.length + u.length := by omega
    subst this
    rw [if_neg (by omega)]
    simp [hk]
theorem F193 {f : Nat} (hF : FF 132 (C203 f)) : FF 115 (C193 f) := by
  refine fitE [(132, C203 f)] (by simp only [List.mem_cons, List.not_mem_nil, or_false]; rintro _ rfl; exact hF) Tryz.f115 ⟨rfl, by decide +kernel, by decide +kernel⟩ (fun _ _ _ hk h => spost_mono hk h) ?_
  rintro ⟨s, a⟩ K ⟨⟨h1, h2⟩, h3⟩ h
  refine ⟨Nat.le_of_ble_eq_true rfl, ?_⟩
  dsimp only at h h1 h2 h3 ⊢
  unfold bothP joinP at h
  repeat' ((conv => whnf); first | refine vA ?_ | with_reducible first | refine v8 ?_ | refine Sp.mk ?_ ?_ | refine vS ?_ | refine vR ?_ | refine vB ?_ | refine br_nt ?_ | refine br_tt ?_ | refine br_ff ?_ | refine vP ?_ | refine vQ ?_ | refine vT ?_ | refine vF ?_ | refine br_and ?_ | refine br_or ?_ | refine br_d (fun _ => ?_) fun _ => ?_ | refine vM (fun _ => ?_) fun _ => ?_)
  refine ⟨⟨s, a⟩, ?_, ⟨⟨h1, h2⟩, h3⟩, ?_⟩
  · repeat' ((conv => whnf); first | with_reducible exact True.intro | exact vW | with_reducible refine And.intro ?_ ?_)
  refine And.intro (fun e => And.intro ?_ fun t ht => ?_) (fun t u e a' g1 g2 g3 => ?_)
  · dsimp only at e
    rw [e] at h
    repeat' ((conv => whnf); first | refine vA ?_ | with_reducible first | refine v8 ?_ | refine Sp.mk ?_ ?_ | refine vS ?_ | refine vR ?_ | refine vB ?_ | refine br_nt ?_ | refine br_tt ?_ | refine br_ff ?_ | refine vP ?_ | refine vQ ?_ | refine vT ?_ | refine vF ?_ | refine br_and ?_ | refine br_or ?_ | refine br_d (fun _ => ?_) fun _ => ?_ | refine vM (fun _ => ?_) fun _ => ?_)
    obtain ⟨R, hR⟩ : ∃ R : PR, R = none := ⟨_, rfl⟩
    replace h : spost s a R K := by rw [hR]; exact h
    obtain ⟨x0, hx⟩ : ∃ x : List Mark × Int, x = ([], -1) := ⟨_, rfl⟩
    have hx0 : (x0.2 = -1 ∧ R = none ∧ x0.1.length ≤ s.size - a) ∨ (∃ k a' : Nat, x0.2 = a' ∧ a ≤ a' ∧ a' ≤ s.size ∧ s.size - a' ≤ k ∧ x0.1.length + (s.size - a') ≤ s.size - a ∧ loopF ( (partF 48 f)) 38 1 k x0.1 (rem s a') = R) := .inl (by rw [hx]; exact ⟨rfl, hR, Nat.zero_le _⟩)
    subst hx
    refine Lp.mk ⟨List Mark × Int, fun x => [(0, .str s), (6, slM x.1), (7, .int .i64 x.2)], fun _ => [], fun x => (x.2 = -1 ∧ R = none ∧ x.1.length ≤ s.size - a) ∨ (∃ k a' : Nat, x.2 = a' ∧ a ≤ a' ∧ a' ≤ s.size ∧ s.size - a' ≤ k ∧ x.1.length + (s.size - a') ≤ s.size - a ∧ loopF ( (partF 48 f)) 38 1 k x.1 (rem s a') = R),
      fun x => if x.2 < 0 then 0 else (s.size + 1 - x.2).toNat, ⟨_, hx0, ⟨⟨[], [], rfl, rfl, ?_, ?_⟩⟩⟩, ?_⟩
    · repeat' ((conv => whnf); first | with_reducible exact True.intro | exact vW | with_reducible refine And.intro ?_ ?_)
    · repeat' ((conv => whnf); first | with_reducible exact True.intro | exact vW | with_reducible refine And.intro ?_ ?_)
    clear hx0
    rintro ⟨t, n⟩ (⟨i1, i2, i3⟩ | ⟨k, b, i1, i2, i3, i4, i5, i6⟩)
    · dsimp only at i1 i2 i3 ⊢
      subst i1
      repeat' ((conv => whnf); first | refine vA ?_ | with_reducible first | refine v8 ?_ | refine Sp.mk ?_ ?_ | refine vS ?_ | refine vR ?_ | refine vB ?_ | refine br_nt ?_ | refine br_tt ?_ | refine br_ff ?_ | refine vP ?_ | refine vQ ?_ | refine vT ?_ | refine vF ?_ | refine br_and ?_ | refine br_or ?_ | refine br_d (fun _ => ?_) fun _ => ?_ | refine vM (fun _ => ?_) fun _ => ?_)
      exact (h.1 i2).2 t i3
    · dsimp only at i1 i2 i3 i4 i5 i6 ⊢
      subst i1
      have stop : (b < s.size → bt s b ≠ 38) → R = some (t, rem s b) := fun hb => by
        rw [← i6, loopF_stop]
        rcases Nat.lt_or_ge b s.size with g | g
        · rw [rem_lt g]
          intro q
          injection q with q
          exact hb g q
        · rw [rem_ge g]; simp
      repeat' ((conv => whnf); first | refine vA ?_ | with_reducible first | refine v8 ?_ | refine Sp.mk ?_ ?_ | refine vS ?_ | refine vR ?_ | refine vB ?_ | refine br_nt ?_ | refine br_tt ?_ | refine br_ff ?_ | refine vP ?_ | refine vQ ?_ | refine vT ?_ | refine vF ?_ | refine br_and ?_ | refine br_or ?_ | refine br_d (fun _ => ?_) fun _ => ?_ | refine vM (fun _ => ?_) fun _ => ?_)
      · rename_i hlt es
        replace es : bt s b = 38 := es
        replace hlt : b < s.size := by omega
        obtain ⟨k, rfl⟩ : ∃ k', k = k' + 1 := ⟨k - 1, by omega⟩
        rw [rem_lt hlt, es, loopF_step] at i6
        refine ⟨⟨s, b + 1⟩, ?_, ⟨⟨by dsimp only; omega, h2⟩, by dsimp only; omega⟩, ?_⟩
        · repeat' ((conv => whnf); first | with_reducible exact True.intro | exact vW | with_reducible refine And.intro ?_ ?_)
        refine And.intro (fun e2 => And.intro ?_ fun t2 ht2 => ?_) (fun t2 u2 e2 b' g4 g5 g6 => ?_)
        · dsimp only at e2
          rw [e2] at i6
          repeat' ((conv => whnf); first | refine vA ?_ | with_reducible first | refine v8 ?_ | refine Sp.mk ?_ ?_ | refine vS ?_ | refine vR ?_ | refine vB ?_ | refine br_nt ?_ | refine br_tt ?_ | refine br_ff ?_ | refine vP ?_ | refine vQ ?_ | refine vT ?_ | refine vF ?_ | refine br_and ?_ | refine br_or ?_ | refine br_d (fun _ => ?_) fun _ => ?_ | refine vM (fun _ => ?_) fun _ => ?_)
          have ha := app3_gen (t := t) (u := []) (k := 1) (gu := fun _ => []) (gk := fun i => [[AV.int .i64 1, .int .i64 0, .int .i64 0]].getD (0 + i) [.int .i64 0, .int .i64 0, .int .i64 0]) (fun j hj => absurd hj (Nat.not_lt_zero _)) rfl
          refine ⟨(t ++ [] ++ [⟨1, 0, 0⟩], -1), .inl ⟨rfl, i6.symm, by dsimp only; rw [ha.1]; simp only [List.length_nil]; omega⟩, by dsimp only; rw [if_pos (by decide), if_neg (by omega)]; omega, ⟨⟨[], [3], rfl, rfl, ?_, ?_⟩⟩⟩
          · repeat' ((conv => whnf); first | with_reducible exact True.intro | exact vW | with_reducible refine And.intro ?_ ?_)
          · repeat' ((conv => whnf); first | with_reducible exact True.intro | exact vW | with_reducible refine And.intro ?_ ?_)
        · dsimp only at e2 ht2
          rw [e2] at i6
          have ha := app3_gen (t := t) (u := t2) (k := 1) (gu := fun i => encM (t2.getD i default)) (gk := fun i => [[AV.int .i64 1, .int .i64 0, .int .i64 0]].getD (0 + i) [.int .i64 0, .int .i64 0, .int .i64 0]) (fun _ _ => rfl) rfl
          repeat' ((conv => whnf); first | refine vA ?_ | with_reducible first | refine v8 ?_ | refine Sp.mk ?_ ?_ | refine vS ?_ | refine vR ?_ | refine vB ?_ | refine br_nt ?_ | refine br_tt ?_ | refine br_ff ?_ | refine vP ?_ | refine vQ ?_ | refine vT ?_ | refine vF ?_ | refine br_and ?_ | refine br_or ?_ | refine br_d (fun _ => ?_) fun _ => ?_ | refine vM (fun _ => ?_) fun _ => ?_)
          refine ⟨(t ++ t2 ++ [⟨1, 0, 0⟩], -1), .inl ⟨rfl, i6.symm, by dsimp only; rw [ha.1]; omega⟩, by dsimp only; rw [if_pos (by decide), if_neg (by omega)]; omega, ⟨⟨[], [3], rfl, rfl, ?_, ?_⟩⟩⟩
          · repeat' ((conv => whnf); first | with_reducible exact True.intro | exact vW | with_reducible refine And.intro ?_ ?_)
          · repeat' ((conv => whnf); first | with_reducible exact True.intro | exact vW | with_reducible refine And.intro ?_ ?_)
        · dsimp only at e2 g4 g5 g6
          rw [e2] at i6
          replace i6 : loopF ( (partF 48 f)) 38 1 k (t ++ t2 ++ [⟨1, 0, 0⟩]) u2 = R := i6
          have hf2 := partF_fair 48 f _ _ _ e2
          rw [← g6, rem_len, rem_len] at hf2
          have ha := app3_gen (t := t) (u := t2) (k := 1) (gu := fun i => encM (t2.getD i default)) (gk := fun i => [[AV.int .i64 1, .int .i64 0, .int .i64 0]].getD (0 + i) [.int .i64 0, .int .i64 0, .int .i64 0]) (fun _ _ => rfl) rfl
          repeat' ((conv => whnf); first | refine vA ?_ | with_reducible first | refine v8 ?_ | refine Sp.mk ?_ ?_ | refine vS ?_ | refine vR ?_ | refine vB ?_ | refine br_nt ?_ | refine br_tt ?_ | refine br_ff ?_ | refine vP ?_ | refine vQ ?_ | refine vT ?_ | refine vF ?_ | refine br_and ?_ | refine br_or ?_ | refine br_d (fun _ => ?_) fun _ => ?_ | refine vM (fun _ => ?_) fun _ => ?_)
          refine ⟨(t ++ t2 ++ [⟨1, 0, 0⟩], b'), .inr ⟨k, b', rfl, by omega, g5, by omega, by dsimp only; rw [ha.1]; omega, by dsimp only; rw [g6]; exact i6⟩, by dsimp only; rw [if_neg (by omega), if_neg (by omega)]; omega, ⟨⟨[], [3], rfl, rfl, ?_, ?_⟩⟩⟩
          · repeat' ((conv => whnf); first | with_reducible exact True.intro | exact vW | with_reducible refine And.intro ?_ ?_)
          · repeat' ((conv => whnf); first | with_reducible exact True.intro | exact vW | with_reducible refine And.intro ?_ ?_)
      · rename_i hlt es
        replace es : ¬ bt s b = 38 := es
        exact h.2 _ _ (stop fun _ => es) b i2 i3 rfl
      · exact h.2 _ _ (stop fun q => absurd q (by omega)) b i2 i3 rfl
  · dsimp only at e ht
    rw [e] at h
    repeat' ((conv => whnf); first | refine vA ?_ | with_reducible first | refine v8 ?_ | refine Sp.mk ?_ ?_ | refine vS ?_ | refine vR ?_ | refine vB ?_ | refine br_nt ?_ | refine br_tt ?_ | refine br_ff ?_ | refine vP ?_ | refine vQ ?_ | refine vT ?_ | refine vF ?_ | refine br_and ?_ | refine br_or ?_ | refine br_d (fun _ => ?_) fun _ => ?_ | refine vM (fun _ => ?_) fun _ => ?_)
    obtain ⟨R, hR⟩ : ∃ R : PR, R = none := ⟨_, rfl⟩
    replace h : spost s a R K := by rw [hR]; exact h
    obtain ⟨x0, hx⟩ : ∃ x : List Mark × Int, x = (t, -1) := ⟨_, rfl⟩
    have hx0 : (x0.2 = -1 ∧ R = none ∧ x0.1.length ≤ s.size - a) ∨ (∃ k a' : Nat, x0.2 = a' ∧ a ≤ a' ∧ a' ≤ s.size ∧ s.size - a' ≤ k ∧ x0.1.length + (s.size - a') ≤ s.size - a ∧ loopF ( (partF 48 f)) 38 1 k x0.1 (rem s a') = R) := .inl (by rw [hx]; exact ⟨rfl, hR, ht⟩)
    subst hx
    refine Lp.mk ⟨List Mark × Int, fun x => [(0, .str s), (6, slM x.1), (7, .int .i64 x.2)], fun _ => [], fun x => (x.2 = -1 ∧ R = none ∧ x.1.length ≤ s.size - a) ∨ (∃ k a' : Nat, x.2 = a' ∧ a ≤ a' ∧ a' ≤ s.size ∧ s.size - a' ≤ k ∧ x.1.length + (s.size - a') ≤ s.size - a ∧ loopF ( (partF 48 f)) 38 1 k x.1 (rem s a') = R),
      fun x => if x.2 < 0 then 0 else (s.size + 1 - x.2).toNat, ⟨_, hx0, ⟨⟨[], [], rfl, rfl, ?_, ?_⟩⟩⟩, ?_⟩
    · repeat' ((conv => whnf); first | with_reducible exact True.intro | exact vW | with_reducible refine And.intro ?_ ?_)
    · repeat' ((conv => whnf); first | with_reducible exact True.intro | exact vW | with_reducible refine And.intro ?_ ?_)
    clear hx0
    rintro ⟨t, n⟩ (⟨i1, i2, i3⟩ | ⟨k, b, i1, i2, i3, i4, i5, i6⟩)
    · dsimp only at i1 i2 i3 ⊢
      subst i1
      repeat' ((conv => whnf); first | refine vA ?_ | with_reducible first | refine v8 ?_ | refine Sp.mk ?_ ?_ | refine vS ?_ | refine vR ?_ | refine vB ?_ | refine br_nt ?_ | refine br_tt ?_ | refine br_ff ?_ | refine vP ?_ | refine vQ ?_ | refine vT ?_ | refine vF ?_ | refine br_and ?_ | refine br_or ?_ | refine br_d (fun _ => ?_) fun _ => ?_ | refine vM (fun _ => ?_) fun _ => ?_)
      exact (h.1 i2).2 t i3
    · dsimp only at i1 i2 i3 i4 i5 i6 ⊢
      subst i1
      have stop : (b < s.size → bt s b ≠ 38) → R = some (t, rem s b) := fun hb => by
        rw [← i6, loopF_stop]
        rcases Nat.lt_or_ge b s.size with g | g
        · rw [rem_lt g]
          intro q
          injection q with q
          exact hb g q
        · rw [rem_ge g]; simp
      repeat' ((conv => whnf); first | refine vA ?_ | with_reducible first | refine v8 ?_ | refine Sp.mk ?_ ?_ | refine vS ?_ | refine vR ?_ | refine vB ?_ | refine br_nt ?_ | refine br_tt ?_ | refine br_ff ?_ | refine vP ?_ | refine vQ ?_ | refine vT ?_ | refine vF ?_ | refine br_and ?_ | refine br_or ?_ | refine br_d (fun _ => ?_) fun _ => ?_ | refine vM (fun _ => ?_) fun _ => ?_)
      · rename_i hlt es
        replace es : bt s b = 38 := es
        replace hlt : b < s.size := by omega
        obtain ⟨k, rfl⟩ : ∃ k', k = k' + 1 := ⟨k - 1, by omega⟩
        rw [rem_lt hlt, es, loopF_step] at i6
        refine ⟨⟨s, b + 1⟩, ?_, ⟨⟨by dsimp only; omega, h2⟩, by dsimp only; omega⟩, ?_⟩
        · repeat' ((conv => whnf); first | with_reducible exact True.intro | exact vW | with_reducible refine And.intro ?_ ?_)
        refine And.intro (fun e2 => And.intro ?_ fun t2 ht2 => ?_) (fun t2 u2 e2 b' g4 g5 g6 => ?_)
        · dsimp only at e2
          rw [e2] at i6
          repeat' ((conv => whnf); first | refine vA ?_ | with_reducible first | refine v8 ?_ | refine Sp.mk ?_ ?_ | refine vS ?_ | refine vR ?_ | refine vB ?_ | refine br_nt ?_ | refine br_tt ?_ | refine br_ff ?_ | refine vP ?_ | refine vQ ?_ | refine vT ?_ | refine vF ?_ | refine br_and ?_ | refine br_or ?_ | refine br_d (fun _ => ?_) fun _ => ?_ | refine vM (fun _ => ?_) fun _ => ?_)
          have ha := app3_gen (t := t) (u := []) (k := 1) (gu := fun _ => []) (gk := fun i => [[AV.int .i64 1, .int .i64 0, .int .i64 0]].getD (0 + i) [.int .i64 0, .int .i64 0, .int .i64 0]) (fun j hj => absurd hj (Nat.not_lt_zero _)) rfl
          refine ⟨(t ++ [] ++ [⟨1, 0, 0⟩], -1), .inl ⟨rfl, i6.symm, by dsimp only; rw [ha.1]; simp only [List.length_nil]; omega⟩, by dsimp only; rw [if_pos (by decide), if_neg (by omega)]; omega, ⟨⟨[], [3], rfl, rfl, ?_, ?_⟩⟩⟩
          · repeat' ((conv => whnf); first | with_reducible exact True.intro | exact vW | with_reducible refine And.intro ?_ ?_)
          · repeat' ((conv => whnf); first | with_reducible exact True.intro | exact vW | with_reducible refine And.intro ?_ ?_)
        · dsimp only at e2 ht2
          rw [e2] at i6
          have ha := app3_gen (t := t) (u := t2) (k := 1) (gu := fun i => encM (t2.getD i default)) (gk := fun i => [[AV.int .i64 1, .int .i64 0, .int .i64 0]].getD (0 + i) [.int .i64 0, .int .i64 0, .int .i64 0]) (fun _ _ => rfl) rfl
          repeat' ((conv => whnf); first | refine vA ?_ | with_reducible first | refine v8 ?_ | refine Sp.mk ?_ ?_ | refine vS ?_ | refine vR ?_ | refine vB ?_ | refine br_nt ?_ | refine br_tt ?_ | refine br_ff ?_ | refine vP ?_ | refine vQ ?_ | refine vT ?_ | refine vF ?_ | refine br_and ?_ | refine br_or ?_ | refine br_d (fun _ => ?_) fun _ => ?_ | refine vM (fun _ => ?_) fun _ => ?_)
          refine ⟨(t ++ t2 ++ [⟨1, 0, 0⟩], -1), .inl ⟨rfl, i6.symm, by dsimp only; rw [ha.1]; omega⟩, by dsimp only; rw [if_pos (by decide), if_neg (by omega)]; omega, ⟨⟨[], [3], rfl, rfl, ?_, ?_⟩⟩⟩
          · repeat' ((conv => whnf); first | with_reducible exact True.intro | exact vW | with_reducible refine And.intro ?_ ?_)
          · repeat' ((conv => whnf); first | with_reducible exact True.intro | exact vW | with_reducible refine And.intro ?_ ?_)
        · dsimp only at e2 g4 g5 g6
          rw [e2] at i6
          replace i6 : loopF ( (partF 48 f)) 38 1 k (t ++ t2 ++ [⟨1, 0, 0⟩]) u2 = R := i6
          have hf2 := partF_fair 48 f _ _ _ e2
          rw [← g6, rem_len, rem_len] at hf2
          have ha := app3_gen (t := t) (u := t2) (k := 1) (gu := fun i => encM (t2.getD i default)) (gk := fun i => [[AV.int .i64 1, .int .i64 0, .int .i64 0]].getD (0 + i) [.int .i64 0, .int .i64 0, .int .i64 0]) (fun _ _ => rfl) rfl
          repeat' ((conv => whnf); first | refine vA ?_ | with_reducible first | refine v8 ?_ | refine Sp.mk ?_ ?_ | refine vS ?_ | refine vR ?_ | refine vB ?_ | refine br_nt ?_ | refine br_tt ?_ | refine br_ff ?_ | refine vP ?_ | refine vQ ?_ | refine vT ?_ | refine vF ?_ | refine br_and ?_ | refine br_or ?_ | refine br_d (fun _ => ?_) fun _ => ?_ | refine vM (fun _ => ?_) fun _ => ?_)
          refine ⟨(t ++ t2 ++ [⟨1, 0, 0⟩], b'), .inr ⟨k, b', rfl, by omega, g5, by omega, by dsimp only; rw [ha.1]; omega, by dsimp only; rw [g6]; exact i6⟩, by dsimp only; rw [if_neg (by omega), if_neg (by omega)]; omega, ⟨⟨[], [3], rfl, rfl, ?_, ?_⟩⟩⟩
          · repeat' ((conv => whnf); first | with_reducible exact True.intro | exact vW | with_reducible refine And.intro ?_ ?_)
          · repeat' ((conv => whnf); first | with_reducible exact True.intro | exact vW | with_reducible refine And.intro ?_ ?_)
      · rename_i hlt es
        replace es : ¬ bt s b = 38 := es
        exact h.2 _ _ (stop fun _ => es) b i2 i3 rfl
      · exact h.2 _ _ (stop fun q => absurd q (by omega)) b i2 i3 rfl
  · dsimp only at e g1 g2 g3
    rw [e] at h
    replace h : spost s a (loopF ( (partF 48 f)) 38 1 u.length t u) K := h
    have hf := partF_fair 48 f _ _ _ e
    rw [← g3, rem_len, rem_len] at hf
    generalize hR : loopF ( (partF 48 f)) 38 1 u.length t u = R at h
    rw [← g3] at hR
    repeat' ((conv => whnf); first | refine vA ?_ | with_reducible first | refine v8 ?_ | refine Sp.mk ?_ ?_ | refine vS ?_ | refine vR ?_ | refine vB ?_ | refine br_nt ?_ | refine br_tt ?_ | refine br_ff ?_ | refine vP ?_ | refine vQ ?_ | refine vT ?_ | refine vF ?_ | refine br_and ?_ | refine br_or ?_ | refine br_d (fun _ => ?_) fun _ => ?_ | refine vM (fun _ => ?_) fun _ => ?_)
    obtain ⟨x0, hx⟩ : ∃ x : List Mark × Int, x = (t, (a' : Int)) := ⟨_, rfl⟩
    have hx0 : (x0.2 = -1 ∧ R = none ∧ x0.1.length ≤ s.size - a) ∨ (∃ k a' : Nat, x0.2 = a' ∧ a ≤ a' ∧ a' ≤ s.size ∧ s.size - a' ≤ k ∧ x0.1.length + (s.size - a') ≤ s.size - a ∧ loopF ( (partF 48 f)) 38 1 k x0.1 (rem s a') = R) := .inr (by rw [hx]; exact ⟨(rem s a').length, a', rfl, g1, g2, by rw [rem_len]; exact Nat.le_refl _, hf.2, hR⟩)
    subst hx
    refine Lp.mk ⟨List Mark × Int, fun x => [(0, .str s), (6, slM x.1), (7, .int .i64 x.2)], fun _ => [], fun x => (x.2 = -1 ∧ R = none ∧ x.1.length ≤ s.size - a) ∨ (∃ k a' : Nat, x.2 = a' ∧ a ≤ a' ∧ a' ≤ s.size ∧ s.size - a' ≤ k ∧ x.1.length + (s.size - a') ≤ s.size - a ∧ loopF ( (partF 48 f)) 38 1 k x.1 (rem s a') = R),
      fun x => if x.2 < 0 then 0 else (s.size + 1 - x.2).toNat, ⟨_, hx0, ⟨⟨[], [], rfl, rfl, ?_, ?_⟩⟩⟩, ?_⟩
    · repeat' ((conv => whnf); first | with_reducible exact True.intro | exact vW | with_reducible refine And.intro ?_ ?_)
    · repeat' ((conv => whnf); first | with_reducible exact True.intro | exact vW | with_reducible refine And.intro ?_ ?_)
    clear hx0
    rintro ⟨t, n⟩ (⟨i1, i2, i3⟩ | ⟨k, b, i1, i2, i3, i4, i5, i6⟩)
    · dsimp only at i1 i2 i3 ⊢
      subst i1
      repeat' ((conv => whnf); first | refine vA ?_ | with_reducible first | refine v8 ?_ | refine Sp.mk ?_ ?_ | refine vS ?_ | refine vR ?_ | refine vB ?_ | refine br_nt ?_ | refine br_tt ?_ | refine br_ff ?_ | refine vP ?_ | refine vQ ?_ | refine vT ?_ | refine vF ?_ | refine br_and ?_ | refine br_or ?_ | refine br_d (fun _ => ?_) fun _ => ?_ | refine vM (fun _ => ?_) fun _ => ?_)
      exact (h.1 i2).2 t i3
    · dsimp only at i1 i2 i3 i4 i5 i6 ⊢
      subst i1
      have stop : (b < s.size → bt s b ≠ 38) → R = some (t, rem s b) := fun hb => by
        rw [← i6, loopF_stop]
        rcases Nat.lt_or_ge b s.size with g | g
        · rw [rem_lt g]
          intro q
          injection q with q
          exact hb g q
        · rw [rem_ge g]; simp
      repeat' ((conv => whnf); first | refine vA ?_ | with_reducible first | refine v8 ?_ | refine Sp.mk ?_ ?_ | refine vS ?_ | refine vR ?_ | refine vB ?_ | refine br_nt ?_ | refine br_tt ?_ | refine br_ff ?_ | refine vP ?_ | refine vQ ?_ | refine vT ?_ | refine vF ?_ | refine br_and ?_ | refine br_or ?_ | refine br_d (fun _ => ?_) fun _ => ?_ | refine vM (fun _ => ?_) fun _ => ?_)
      · rename_i hlt es
        replace es : bt s b = 38 := es
        replace hlt : b < s.size := by omega
        obtain ⟨k, rfl⟩ : ∃ k', k = k' + 1 := ⟨k - 1, by omega⟩
        rw [rem_lt hlt, es, loopF_step] at i6
        refine ⟨⟨s, b + 1⟩, ?_, ⟨⟨by dsimp only; omega, h2⟩, by dsimp only; omega⟩, ?_⟩
        · repeat' ((conv => whnf); first | with_reducible exact True.intro | exact vW | with_reducible refine And.intro ?_ ?_)
        refine And.intro (fun e2 => And.intro ?_ fun t2 ht2 => ?_) (fun t2 u2 e2 b' g4 g5 g6 => ?_)
        · dsimp only at e2
          rw [e2] at i6
          repeat' ((conv => whnf); first | refine vA ?_ | with_reducible first | refine v8 ?_ | refine Sp.mk ?_ ?_ | refine vS ?_ | refine vR ?_ | refine vB ?_ | refine br_nt ?_ | refine br_tt ?_ | refine br_ff ?_ | refine vP ?_ | refine vQ ?_ | refine vT ?_ | refine vF ?_ | refine br_and ?_ | refine br_or ?_ | refine br_d (fun _ => ?_) fun _ => ?_ | refine vM (fun _ => ?_) fun _ => ?_)
          have ha := app3_gen (t := t) (u := []) (k := 1) (gu := fun _ => []) (gk := fun i => [[AV.int .i64 1, .int .i64 0, .int .i64 0]].getD (0 + i) [.int .i64 0, .int .i64 0, .int .i64 0]) (fun j hj => absurd hj (Nat.not_lt_zero _)) rfl
          refine ⟨(t ++ [] ++ [⟨1, 0, 0⟩], -1), .inl ⟨rfl, i6.symm, by dsimp only; rw [ha.1]; simp only [List.length_nil]; omega⟩, by dsimp only; rw [if_pos (by decide), if_neg (by omega)]; omega, ⟨⟨[], [3], rfl, rfl, ?_, ?_⟩⟩⟩
          · repeat' ((conv => whnf); first | with_reducible exact True.intro | exact vW | with_reducible refine And.intro ?_ ?_)
          · repeat' ((conv => whnf); first | with_reducible exact True.intro | exact vW | with_reducible refine And.intro ?_ ?_)
        · dsimp only at e2 ht2
          rw [e2] at i6
          have ha := app3_gen (t := t) (u := t2) (k := 1) (gu := fun i => encM (t2.getD i default)) (gk := fun i => [[AV.int .i64 1, .int .i64 0, .int .i64 0]].getD (0 + i) [.int .i64 0, .int .i64 0, .int .i64 0]) (fun _ _ => rfl) rfl
          repeat' ((conv => whnf); first | refine vA ?_ | with_reducible first | refine v8 ?_ | refine Sp.mk ?_ ?_ | refine vS ?_ | refine vR ?_ | refine vB ?_ | refine br_nt ?_ | refine br_tt ?_ | refine br_ff ?_ | refine vP ?_ | refine vQ ?_ | refine vT ?_ | refine vF ?_ | refine br_and ?_ | refine br_or ?_ | refine br_d (fun _ => ?_) fun _ => ?_ | refine vM (fun _ => ?_) fun _ => ?_)
          refine ⟨(t ++ t2 ++ [⟨1, 0, 0⟩], -1), .inl ⟨rfl, i6.symm, by dsimp only; rw [ha.1]; omega⟩, by dsimp only; rw [if_pos (by decide), if_neg (by omega)]; omega, ⟨⟨[], [3], rfl, rfl, ?_, ?_⟩⟩⟩
          · repeat' ((conv => whnf); first | with_reducible exact True.intro | exact vW | with_reducible refine And.intro ?_ ?_)
          · repeat' ((conv => whnf); first | with_reducible exact True.intro | exact vW | with_reducible refine And.intro ?_ ?_)
        · dsimp only at e2 g4 g5 g6
          rw [e2] at i6
          replace i6 : loopF ( (partF 48 f)) 38 1 k (t ++ t2 ++ [⟨1, 0, 0⟩]) u2 = R := i6
          have hf2 := partF_fair 48 f _ _ _ e2
          rw [← g6, rem_len, rem_len] at hf2
          have ha := app3_gen (t := t) (u := t2) (k := 1) (gu := fun i => encM (t2.getD i default)) (gk := fun i => [[AV.int .i64 1, .int .i64 0, .int .i64 0]].getD (0 + i) [.int .i64 0, .int .i64 0, .int .i64 0]) (fun _ _ => rfl) rfl
          repeat' ((conv => whnf); first | refine vA ?_ | with_reducible first | refine v8 ?_ | refine Sp.mk ?_ ?_ | refine vS ?_ | refine vR ?_ | refine vB ?_ | refine br_nt ?_ | refine br_tt ?_ | refine br_ff ?_ | refine vP ?_ | refine vQ ?_ | refine vT ?_ | refine vF ?_ | refine br_and ?_ | refine br_or ?_ | refine br_d (fun _ => ?_) fun _ => ?_ | refine vM (fun _ => ?_) fun _ => ?_)
          refine ⟨(t ++ t2 ++ [⟨1, 0, 0⟩], b'), .inr ⟨k, b', rfl, by omega, g5, by omega, by dsimp only; rw [ha.1]; omega, by dsimp only; rw [g6]; exact i6⟩, by dsimp only; rw [if_neg (by omega), if_neg (by omega)]; omega, ⟨⟨[], [3], rfl, rfl, ?_, ?_⟩⟩⟩
          · repeat' ((conv => whnf); first | with_reducible exact True.intro | exact vW | with_reducible refine And.intro ?_ ?_)
          · repeat' ((conv => whnf); first | with_reducible exact True.intro | exact vW | with_reducible refine And.intro ?_ ?_)
      · rename_i hlt es
        replace es : ¬ bt s b = 38 := es
        exact h.2 _ _ (stop fun _ => es) b i2 i3 rfl
      · exact h.2 _ _ (stop fun q => absurd q (by omega)) b i2 i3 rfl
theorem F177 {f : Nat} (hF : FF 132 (C203 f)) : FF 89 (C177 f) := by
  refine fitE [(115, C193 f)] (by simp only [List.mem_cons, List.not_mem_nil, or_false]; rintro _ rfl; exact F193 hF) Tryz.f89 ⟨rfl, by decide +kernel, by decide +kernel⟩ (fun _ _ _ hk h => spost_mono hk h) ?_
  rintro ⟨s, a⟩ K ⟨⟨h1, h2⟩, h3⟩ h
  refine ⟨Nat.le_of_ble_eq_true rfl, ?_⟩
  dsimp only at h h1 h2 h3 ⊢
  unfold eitherP joinP at h
  repeat' ((conv => whnf); first | refine vA ?_ | with_reducible first | refine v8 ?_ | refine Sp.mk ?_ ?_ | refine vS ?_ | refine vR ?_ | refine vB ?_ | refine br_nt ?_ | refine br_tt ?_ | refine br_ff ?_ | refine vP ?_ | refine vQ ?_ | refine vT ?_ | refine vF ?_ | refine br_and ?_ | refine br_or ?_ | refine br_d (fun _ => ?_) fun _ => ?_ | refine vM (fun _ => ?_) fun _ => ?_)
  refine ⟨⟨s, a⟩, ?_, ⟨⟨h1, h2⟩, h3⟩, ?_⟩
  · repeat' ((conv => whnf); first | with_reducible exact True.intro | exact vW | with_reducible refine And.intro ?_ ?_)
  refine And.intro (fun e => And.intro ?_ fun t ht => ?_) (fun t u e a' g1 g2 g3 => ?_)
  · dsimp only at e
    rw [e] at h
    repeat' ((conv => whnf); first | refine vA ?_ | with_reducible first | refine v8 ?_ | refine Sp.mk ?_ ?_ | refine vS ?_ | refine vR ?_ | refine vB ?_ | refine br_nt ?_ | refine br_tt ?_ | refine br_ff ?_ | refine vP ?_ | refine vQ ?_ | refine vT ?_ | refine vF ?_ | refine br_and ?_ | refine br_or ?_ | refine br_d (fun _ => ?_) fun _ => ?_ | refine vM (fun _ => ?_) fun _ => ?_)
    obtain ⟨R, hR⟩ : ∃ R : PR, R = none := ⟨_, rfl⟩
    replace h : spost s a R K := by rw [hR]; exact h
    obtain ⟨x0, hx⟩ : ∃ x : List Mark × Int, x = ([], -1) := ⟨_, rfl⟩
    have hx0 : (x0.2 = -1 ∧ R = none ∧ x0.1.length ≤ s.size - a) ∨ (∃ k a' : Nat, x0.2 = a' ∧ a ≤ a' ∧ a' ≤ s.size ∧ s.size - a' ≤ k ∧ x0.1.length + (s.size - a') ≤ s.size - a ∧ loopF (bothP (partF 48 f)) 124 2 k x0.1 (rem s a') = R) := .inl (by rw [hx]; exact ⟨rfl, hR, Nat.zero_le _⟩)
    subst hx
    refine Lp.mk ⟨List Mark × Int, fun x => [(0, .str s), (6, slM x.1), (7, .int .i64 x.2)], fun _ => [], fun x => (x.2 = -1 ∧ R = none ∧ x.1.length ≤ s.size - a) ∨ (∃ k a' : Nat, x.2 = a' ∧ a ≤ a' ∧ a' ≤ s.size ∧ s.size - a' ≤ k ∧ x.1.length + (s.size - a') ≤ s.size - a ∧ loopF (bothP (partF 48 f)) 124 2 k x.1 (rem s a') = R),
      fun x => if x.2 < 0 then 0 else (s.size + 1 - x.2).toNat, ⟨_, hx0, ⟨⟨[], [], rfl, rfl, ?_, ?_⟩⟩⟩, ?_⟩
    · repeat' ((conv => whnf); first | with_reducible exact True.intro | exact vW | with_reducible refine And.intro ?_ ?_)
    · repeat' ((conv => whnf); first | with_reducible exact True.intro | exact vW | with_reducible refine And.intro ?_ ?_)
    clear hx0
    rintro ⟨t, n⟩ (⟨i1, i2, i3⟩ | ⟨k, b, i1, i2, i3, i4, i5, i6⟩)
    · dsimp only at i1 i2 i3 ⊢
      subst i1
      repeat' ((conv => whnf); first | refine vA ?_ | with_reducible first | refine v8 ?_ | refine Sp.mk ?_ ?_ | refine vS ?_ | refine vR ?_ | refine vB ?_ | refine br_nt ?_ | refine br_tt ?_ | refine br_ff ?_ | refine vP ?_ | refine vQ ?_ | refine vT ?_ | refine vF ?_ | refine br_and ?_ | refine br_or ?_ | refine br_d (fun _ => ?_) fun _ => ?_ | refine vM (fun _ => ?_) fun _ => ?_)
      exact (h.1 i2).2 t i3
    · dsimp only at i1 i2 i3 i4 i5 i6 ⊢
      subst i1
      have stop : (b < s.size → bt s b ≠ 124) → R = some (t, rem s b) := fun hb => by
        rw [← i6, loopF_stop]
        rcases Nat.lt_or_ge b s.size with g | g
        · rw [rem_lt g]
          intro q
          injection q with q
          exact hb g q
        · rw [rem_ge g]; simp
      repeat' ((conv => whnf); first | refine vA ?_ | with_reducible first | refine v8 ?_ | refine Sp.mk ?_ ?_ | refine vS ?_ | refine vR ?_ | refine vB ?_ | refine br_nt ?_ | refine br_tt ?_ | refine br_ff ?_ | refine vP ?_ | refine vQ ?_ | refine vT ?_ | refine vF ?_ | refine br_and ?_ | refine br_or ?_ | refine br_d (fun _ => ?_) fun _ => ?_ | refine vM (fun _ => ?_) fun _ => ?_)
      · rename_i hlt es
        replace es : bt s b = 124 := es
        replace hlt : b < s.size := by omega
        obtain ⟨k, rfl⟩ : ∃ k', k = k' + 1 := ⟨k - 1, by omega⟩
        rw [rem_lt hlt, es, loopF_step] at i6
        refine ⟨⟨s, b + 1⟩, ?_, ⟨⟨by dsimp only; omega, h2⟩, by dsimp only; omega⟩, ?_⟩
        · repeat' ((conv => whnf); first | with_reducible exact True.intro | exact vW | with_reducible refine And.intro ?_ ?_)
        refine And.intro (fun e2 => And.intro ?_ fun t2 ht2 => ?_) (fun t2 u2 e2 b' g4 g5 g6 => ?_)
        · dsimp only at e2
          rw [e2] at i6
          repeat' ((conv => whnf); first | refine vA ?_ | with_reducible first | refine v8 ?_ | refine Sp.mk ?_ ?_ | refine vS ?_ | refine vR ?_ | refine vB ?_ | refine br_nt ?_ | refine br_tt ?_ | refine br_ff ?_ | refine vP ?_ | refine vQ ?_ | refine vT ?_ | refine vF ?_ | refine br_and ?_ | refine br_or ?_ | refine br_d (fun _ => ?_) fun _ => ?_ | refine vM (fun _ => ?_) fun _ => ?_)
          have ha := app3_gen (t := t) (u := []) (k := 2) (gu := fun _ => []) (gk := fun i => [[AV.int .i64 2, .int .i64 0, .int .i64 0]].getD (0 + i) [.int .i64 0, .int .i64 0, .int .i64 0]) (fun j hj => absurd hj (Nat.not_lt_zero _)) rfl
          refine ⟨(t ++ [] ++ [⟨2, 0, 0⟩], -1), .inl ⟨rfl, i6.symm, by dsimp only; rw [ha.1]; simp only [List.length_nil]; omega⟩, by dsimp only; rw [if_pos (by decide), if_neg (by omega)]; omega, ⟨⟨[], [3], rfl, rfl, ?_, ?_⟩⟩⟩
          · repeat' ((conv => whnf); first | with_reducible exact True.intro | exact vW | with_reducible refine And.intro ?_ ?_)
          · repeat' ((conv => whnf); first | with_reducible exact True.intro | exact vW | with_reducible refine And.intro ?_ ?_)
        · dsimp only at e2 ht2
          rw [e2] at i6
          have ha := app3_gen (t := t) (u := t2) (k := 2) (gu := fun i => encM (t2.getD i default)) (gk := fun i => [[AV.int .i64 2, .int .i64 0, .int .i64 0]].getD (0 + i) [.int .i64 0, .int .i64 0, .int .i64 0]) (fun _ _ => rfl) rfl
          repeat' ((conv => whnf); first | refine vA ?_ | with_reducible first | refine v8 ?_ | refine Sp.mk ?_ ?_ | refine vS ?_ | refine vR ?_ | refine vB ?_ | refine br_nt ?_ | refine br_tt ?_ | refine br_ff ?_ | refine vP ?_ | refine vQ ?_ | refine vT ?_ | refine vF ?_ | refine br_and ?_ | refine br_or ?_ | refine br_d (fun _ => ?_) fun _ => ?_ | refine vM (fun _ => ?_) fun _ => ?_)
          refine ⟨(t ++ t2 ++ [⟨2, 0, 0⟩], -1), .inl ⟨rfl, i6.symm, by dsimp only; rw [ha.1]; omega⟩, by dsimp only; rw [if_pos (by decide), if_neg (by omega)]; omega, ⟨⟨[], [3], rfl, rfl, ?_, ?_⟩⟩⟩
          · repeat' ((conv => whnf); first | with_reducible exact True.intro | exact vW | with_reducible refine And.intro ?_ ?_)
          · repeat' ((conv => whnf); first | with_reducible exact True.intro | exact vW | with_reducible refine And.intro ?_ ?_)
        · dsimp only at e2 g4 g5 g6
          rw [e2] at i6
          replace i6 : loopF (bothP (partF 48 f)) 124 2 k (t ++ t2 ++ [⟨2, 0, 0⟩]) u2 = R := i6
          have hf2 := bothP_fair 48 f _ _ _ e2
          rw [← g6, rem_len, rem_len] at hf2
          have ha := app3_gen (t := t) (u := t2) (k := 2) (gu := fun i => encM (t2.getD i default)) (gk := fun i => [[AV.int .i64 2, .int .i64 0, .int .i64 0]].getD (0 + i) [.int .i64 0, .int .i64 0, .int .i64 0]) (fun _ _ => rfl) rfl
          repeat' ((conv => whnf); first | refine vA ?_ | with_reducible first | refine v8 ?_ | refine Sp.mk ?_ ?_ | refine vS ?_ | refine vR ?_ | refine vB ?_ | refine br_nt ?_ | refine br_tt ?_ | refine br_ff ?_ | refine vP ?_ | refine vQ ?_ | refine vT ?_ | refine vF ?_ | refine br_and ?_ | refine br_or ?_ | refine br_d (fun _ => ?_) fun _ => ?_ | refine vM (fun _ => ?_) fun _ => ?_)
          refine ⟨(t ++ t2 ++ [⟨2, 0, 0⟩], b'), .inr ⟨k, b', rfl, by omega, g5, by omega, by dsimp only; rw [ha.1]; omega, by dsimp only; rw [g6]; exact i6⟩, by dsimp only; rw [if_neg (by omega), if_neg (by omega)]; omega, ⟨⟨[], [3], rfl, rfl, ?_, ?_⟩⟩⟩
          · repeat' ((conv => whnf); first | with_reducible exact True.intro | exact vW | with_reducible refine And.intro ?_ ?_)
          · repeat' ((conv => whnf); first | with_reducible exact True.intro | exact vW | with_reducible refine And.intro ?_ ?_)
      · rename_i hlt es
        replace es : ¬ bt s b = 124 := es
        exact h.2 _ _ (stop fun _ => es) b i2 i3 rfl
      · exact h.2 _ _ (stop fun q => absurd q (by omega)) b i2 i3 rfl
  · dsimp only at e ht
    rw [e] at h
    repeat' ((conv => whnf); first | refine vA ?_ | with_reducible first | refine v8 ?_ | refine Sp.mk ?_ ?_ | refine vS ?_ | refine vR ?_ | refine vB ?_ | refine br_nt ?_ | refine br_tt ?_ | refine br_ff ?_ | refine vP ?_ | refine vQ ?_ | refine vT ?_ | refine vF ?_ | refine br_and ?_ | refine br_or ?_ | refine br_d (fun _ => ?_) fun _ => ?_ | refine vM (fun _ => ?_) fun _ => ?_)
    obtain ⟨R, hR⟩ : ∃ R : PR, R = none := ⟨_, rfl⟩
    replace h : spost s a R K := by rw [hR]; exact h
    obtain ⟨x0, hx⟩ : ∃ x : List Mark × Int, x = (t, -1) := ⟨_, rfl⟩
    have hx0 : (x0.2 = -1 ∧ R = none ∧ x0.1.length ≤ s.size - a) ∨ (∃ k a' : Nat, x0.2 = a' ∧ a ≤ a' ∧ a' ≤ s.size ∧ s.size - a' ≤ k ∧ x0.1.length + (s.size - a') ≤ s.size - a ∧ loopF (bothP (partF 48 f)) 124 2 k x0.1 (rem s a') = R) := .inl (by rw [hx]; exact ⟨rfl, hR, ht⟩)
    subst hx
    refine Lp.mk ⟨List Mark × Int, fun x => [(0, .str s), (6, slM x.1), (7, .int .i64 x.2)], fun _ => [], fun x => (x.2 = -1 ∧ R = none ∧ x.1.length ≤ s.size - a) ∨ (∃ k a' : Nat, x.2 = a' ∧ a ≤ a' ∧ a' ≤ s.size ∧ s.size - a' ≤ k ∧ x.1.length + (s.size - a') ≤ s.size - a ∧ loopF (bothP (partF 48 f)) 124 2 k x.1 (rem s a') = R),
      fun x => if x.2 < 0 then 0 else (s.size + 1 - x.2).toNat, ⟨_, hx0, ⟨⟨[], [], rfl, rfl, ?_, ?_⟩⟩⟩, ?_⟩
    · repeat' ((conv => whnf); first | with_reducible exact True.intro | exact vW | with_reducible refine And.intro ?_ ?_)
    · repeat' ((conv => whnf); first | with_reducible exact True.intro | exact vW | with_reducible refine And.intro ?_ ?_)
    clear hx0
    rintro ⟨t, n⟩ (⟨i1, i2, i3⟩ | ⟨k, b, i1, i2, i3, i4, i5, i6⟩)
    · dsimp only at i1 i2 i3 ⊢
      subst i1
      repeat' ((conv => whnf); first | refine vA ?_ | with_reducible first | refine v8 ?_ | refine Sp.mk ?_ ?_ | refine vS ?_ | refine vR ?_ | refine vB ?_ | refine br_nt ?_ | refine br_tt ?_ | refine br_ff ?_ | refine vP ?_ | refine vQ ?_ | refine vT ?_ | refine vF ?_ | refine br_and ?_ | refine br_or ?_ | refine br_d (fun _ => ?_) fun _ => ?_ | refine vM (fun _ => ?_) fun _ => ?_)
      exact (h.1 i2).2 t i3
    · dsimp only at i1 i2 i3 i4 i5 i6 ⊢
      subst i1
      have stop : (b < s.size → bt s b ≠ 124) → R = some (t, rem s b) := fun hb => by
        rw [← i6, loopF_stop]
        rcases Nat.lt_or_ge b s.size with g | g
        · rw [rem_lt g]
          intro q
          injection q with q
          exact hb g q
        · rw [rem_ge g]; simp
      repeat' ((conv => whnf); first | refine vA ?_ | with_reducible first | refine v8 ?_ | refine Sp.mk ?_ ?_ | refine vS ?_ | refine vR ?_ | refine vB ?_ | refine br_nt ?_ | refine br_tt ?_ | refine br_ff ?_ | refine vP ?_ | refine vQ ?_ | refine vT ?_ | refine vF ?_ | refine br_and ?_ | refine br_or ?_ | refine br_d (fun _ => ?_) fun _ => ?_ | refine vM (fun _ => ?_) fun _ => ?_)
      · rename_i hlt es
        replace es : bt s b = 124 := es
        replace hlt : b < s.size := by omega
        obtain ⟨k, rfl⟩ : ∃ k', k = k' + 1 := ⟨k - 1, by omega⟩
        rw [rem_lt hlt, es, loopF_step] at i6
        refine ⟨⟨s, b + 1⟩, ?_, ⟨⟨by dsimp only; omega, h2⟩, by dsimp only; omega⟩, ?_⟩
        · repeat' ((conv => whnf); first | with_reducible exact True.intro | exact vW | with_reducible refine And.intro ?_ ?_)
        refine And.intro (fun e2 => And.intro ?_ fun t2 ht2 => ?_) (fun t2 u2 e2 b' g4 g5 g6 => ?_)
        · dsimp only at e2
          rw [e2] at i6
          repeat' ((conv => whnf); first | refine vA ?_ | with_reducible first | refine v8 ?_ | refine Sp.mk ?_ ?_ | refine vS ?_ | refine vR ?_ | refine vB ?_ | refine br_nt ?_ | refine br_tt ?_ | refine br_ff ?_ | refine vP ?_ | refine vQ ?_ | refine vT ?_ | refine vF ?_ | refine br_and ?_ | refine br_or ?_ | refine br_d (fun _ => ?_) fun _ => ?_ | refine vM (fun _ => ?_) fun _ => ?_)
          have ha := app3_gen (t := t) (u := []) (k := 2) (gu := fun _ => []) (gk := fun i => [[AV.int .i64 2, .int .i64 0, .int .i64 0]].getD (0 + i) [.int .i64 0, .int .i64 0, .int .i64 0]) (fun j hj => absurd hj (Nat.not_lt_zero _)) rfl
          refine ⟨(t ++ [] ++ [⟨2, 0, 0⟩], -1), .inl ⟨rfl, i6.symm, by dsimp only; rw [ha.1]; simp only [List.length_nil]; omega⟩, by dsimp only; rw [if_pos (by decide), if_neg (by omega)]; omega, ⟨⟨[], [3], rfl, rfl, ?_, ?_⟩⟩⟩
          · repeat' ((conv => whnf); first | with_reducible exact True.intro | exact vW | with_reducible refine And.intro ?_ ?_)
          · repeat' ((conv => whnf); first | with_reducible exact True.intro | exact vW | with_reducible refine And.intro ?_ ?_)
        · dsimp only at e2 ht2
          rw [e2] at i6
          have ha := app3_gen (t := t) (u := t2) (k := 2) (gu := fun i => encM (t2.getD i default)) (gk := fun i => [[AV.int .i64 2, .int .i64 0, .int .i64 0]].getD (0 + i) [.int .i64 0, .int .i64 0, .int .i64 0]) (fun _ _ => rfl) rfl
          repeat' ((conv => whnf); first | refine vA ?_ | with_reducible first | refine v8 ?_ | refine Sp.mk ?_ ?_ | refine vS ?_ | refine vR ?_ | refine vB ?_ | refine br_nt ?_ | refine br_tt ?_ | refine br_ff ?_ | refine vP ?_ | refine vQ ?_ | refine vT ?_ | refine vF ?_ | refine br_and ?_ | refine br_or ?_ | refine br_d (fun _ => ?_) fun _ => ?_ | refine vM (fun _ => ?_) fun _ => ?_)
          refine ⟨(t ++ t2 ++ [⟨2, 0, 0⟩], -1), .inl ⟨rfl, i6.symm, by dsimp only; rw [ha.1]; omega⟩, by dsimp only; rw [if_pos (by decide), if_neg (by omega)]; omega, ⟨⟨[], [3], rfl, rfl, ?_, ?_⟩⟩⟩
          · repeat' ((conv => whnf); first | with_reducible exact True.intro | exact vW | with_reducible refine And.intro ?_ ?_)
          · repeat' ((conv => whnf); first | with_reducible exact True.intro | exact vW | with_reducible refine And.intro ?_ ?_)
        · dsimp only at e2 g4 g5 g6
          rw [e2] at i6
          replace i6 : loopF (bothP (partF 48 f)) 124 2 k (t ++ t2 ++ [⟨2, 0, 0⟩]) u2 = R := i6
          have hf2 := bothP_fair 48 f _ _ _ e2
          rw [← g6, rem_len, rem_len] at hf2
          have ha := app3_gen (t := t) (u := t2) (k := 2) (gu := fun i => encM (t2.getD i default)) (gk := fun i => [[AV.int .i64 2, .int .i64 0, .int .i64 0]].getD (0 + i) [.int .i64 0, .int .i64 0, .int .i64 0]) (fun _ _ => rfl) rfl
          repeat' ((conv => whnf); first | refine vA ?_ | with_reducible first | refine v8 ?_ | refine Sp.mk ?_ ?_ | refine vS ?_ | refine vR ?_ | refine vB ?_ | refine br_nt ?_ | refine br_tt ?_ | refine br_ff ?_ | refine vP ?_ | refine vQ ?_ | refine vT ?_ | refine vF ?_ | refine br_and ?_ | refine br_or ?_ | refine br_d (fun _ => ?_) fun _ => ?_ | refine vM (fun _ => ?_) fun _ => ?_)
          refine ⟨(t ++ t2 ++ [⟨2, 0, 0⟩], b'), .inr ⟨k, b', rfl, by omega, g5, by omega, by dsimp only; rw [ha.1]; omega, by dsimp only; rw [g6]; exact i6⟩, by dsimp only; rw [if_neg (by omega), if_neg (by omega)]; omega, ⟨⟨[], [3], rfl, rfl, ?_, ?_⟩⟩⟩
          · repeat' ((conv => whnf); first | with_reducible exact True.intro | exact vW | with_reducible refine And.intro ?_ ?_)
          · repeat' ((conv => whnf); first | with_reducible exact True.intro | exact vW | with_reducible refine And.intro ?_ ?_)
      · rename_i hlt es
        replace es : ¬ bt s b = 124 := es
        exact h.2 _ _ (stop fun _ => es) b i2 i3 rfl
      · exact h.2 _ _ (stop fun q => absurd q (by omega)) b i2 i3 rfl
  · dsimp only at e g1 g2 g3
    rw [e] at h
    replace h : spost s a (loopF (bothP (partF 48 f)) 124 2 u.length t u) K := h
    have hf := bothP_fair 48 f _ _ _ e
    rw [← g3, rem_len, rem_len] at hf
    generalize hR : loopF (bothP (partF 48 f)) 124 2 u.length t u = R at h
    rw [← g3] at hR
    repeat' ((conv => whnf); first | refine vA ?_ | with_reducible first | refine v8 ?_ | refine Sp.mk ?_ ?_ | refine vS ?_ | refine vR ?_ | refine vB ?_ | refine br_nt ?_ | refine br_tt ?_ | refine br_ff ?_ | refine vP ?_ | refine vQ ?_ | refine vT ?_ | refine vF ?_ | refine br_and ?_ | refine br_or ?_ | refine br_d (fun _ => ?_) fun _ => ?_ | refine vM (fun _ => ?_) fun _ => ?_)
    obtain ⟨x0, hx⟩ : ∃ x : List Mark × Int, x = (t, (a' : Int)) := ⟨_, rfl⟩
    have hx0 : (x0.2 = -1 ∧ R = none ∧ x0.1.length ≤ s.size - a) ∨ (∃ k a' : Nat, x0.2 = a' ∧ a ≤ a' ∧ a' ≤ s.size ∧ s.size - a' ≤ k ∧ x0.1.length + (s.size - a') ≤ s.size - a ∧ loopF (bothP (partF 48 f)) 124 2 k x0.1 (rem s a') = R) := .inr (by rw [hx]; exact ⟨(rem s a').length, a', rfl, g1, g2, by rw [rem_len]; exact Nat.le_refl _, hf.2, hR⟩)
    subst hx
    refine Lp.mk ⟨List Mark × Int, fun x => [(0, .str s), (6, slM x.1), (7, .int .i64 x.2)], fun _ => [], fun x => (x.2 = -1 ∧ R = none ∧ x.1.length ≤ s.size - a) ∨ (∃ k a' : Nat, x.2 = a' ∧ a ≤ a' ∧ a' ≤ s.size ∧ s.size - a' ≤ k ∧ x.1.length + (s.size - a') ≤ s.size - a ∧ loopF (bothP (partF 48 f)) 124 2 k x.1 (rem s a') = R),
      fun x => if x.2 < 0 then 0 else (s.size + 1 - x.2).toNat, ⟨_, hx0, ⟨⟨[], [], rfl, rfl, ?_, ?_⟩⟩⟩, ?_⟩
    · repeat' ((conv => whnf); first | with_reducible exact True.intro | exact vW | with_reducible refine And.intro ?_ ?_)
    · repeat' ((conv => whnf); first | with_reducible exact True.intro | exact vW | with_reducible refine And.intro ?_ ?_)
    clear hx0
    rintro ⟨t, n⟩ (⟨i1, i2, i3⟩ | ⟨k, b, i1, i2, i3, i4, i5, i6⟩)
    · dsimp only at i1 i2 i3 ⊢
      subst i1
      repeat' ((conv => whnf); first | refine vA ?_ | with_reducible first | refine v8 ?_ | refine Sp.mk ?_ ?_ | refine vS ?_ | refine vR ?_ | refine vB ?_ | refine br_nt ?_ | refine br_tt ?_ | refine br_ff ?_ | refine vP ?_ | refine vQ ?_ | refine vT ?_ | refine vF ?_ | refine br_and ?_ | refine br_or ?_ | refine br_d (fun _ => ?_) fun _ => ?_ | refine vM (fun _ => ?_) fun _ => ?_)
      exact (h.1 i2).2 t i3
    · dsimp only at i1 i2 i3 i4 i5 i6 ⊢
      subst i1
      have stop : (b < s.size → bt s b ≠ 124) → R = some (t, rem s b) := fun hb => by
        rw [← i6, loopF_stop]
        rcases Nat.lt_or_ge b s.size with g | g
        · rw [rem_lt g]
          intro q
          injection q with q
          exact hb g q
        · rw [rem_ge g]; simp
      repeat' ((conv => whnf); first | refine vA ?_ | with_reducible first | refine v8 ?_ | refine Sp.mk ?_ ?_ | refine vS ?_ | refine vR ?_ | refine vB ?_ | refine br_nt ?_ | refine br_tt ?_ | refine br_ff ?_ | refine vP ?_ | refine vQ ?_ | refine vT ?_ | refine vF ?_ | refine br_and ?_ | refine br_or ?_ | refine br_d (fun _ => ?_) fun _ => ?_ | refine vM (fun _ => ?_) fun _ => ?_)
      · rename_i hlt es
        replace es : bt s b = 124 := es
        replace hlt : b < s.size := by omega
        obtain ⟨k, rfl⟩ : ∃ k', k = k' + 1 := ⟨k - 1, by omega⟩
        rw [rem_lt hlt, es, loopF_step] at i6
        refine ⟨⟨s, b + 1⟩, ?_, ⟨⟨by dsimp only; omega, h2⟩, by dsimp only; omega⟩, ?_⟩
        · repeat' ((conv => whnf); first | with_reducible exact True.intro | exact vW | with_reducible refine And.intro ?_ ?_)
        refine And.intro (fun e2 => And.intro ?_ fun t2 ht2 => ?_) (fun t2 u2 e2 b' g4 g5 g6 => ?_)
        · dsimp only at e2
          rw [e2] at i6
          repeat' ((conv => whnf); first | refine vA ?_ | with_reducible first | refine v8 ?_ | refine Sp.mk ?_ ?_ | refine vS ?_ | refine vR ?_ | refine vB ?_ | refine br_nt ?_ | refine br_tt ?_ | refine br_ff ?_ | refine vP ?_ | refine vQ ?_ | refine vT ?_ | refine vF ?_ | refine br_and ?_ | refine br_or ?_ | refine br_d (fun _ => ?_) fun _ => ?_ | refine vM (fun _ => ?_) fun _ => ?_)
          have ha := app3_gen (t := t) (u := []) (k := 2) (gu := fun _ => []) (gk := fun i => [[AV.int .i64 2, .int .i64 0, .int .i64 0]].getD (0 + i) [.int .i64 0, .int .i64 0, .int .i64 0]) (fun j hj => absurd hj (Nat.not_lt_zero _)) rfl
          refine ⟨(t ++ [] ++ [⟨2, 0, 0⟩], -1), .inl ⟨rfl, i6.symm, by dsimp only; rw [ha.1]; simp only [List.length_nil]; omega⟩, by dsimp only; rw [if_pos (by decide), if_neg (by omega)]; omega, ⟨⟨[], [3], rfl, rfl, ?_, ?_⟩⟩⟩
          · repeat' ((conv => whnf); first | with_reducible exact True.intro | exact vW | with_reducible refine And.intro ?_ ?_)
          · repeat' ((conv => whnf); first | with_reducible exact True.intro | exact vW | with_reducible refine And.intro ?_ ?_)
        · dsimp only at e2 ht2
          rw [e2] at i6
          have ha := app3_gen (t := t) (u := t2) (k := 2) (gu := fun i => encM (t2.getD i default)) (gk := fun i => [[AV.int .i64 2, .int .i64 0, .int .i64 0]].getD (0 + i) [.int .i64 0, .int .i64 0, .int .i64 0]) (fun _ _ => rfl) rfl
          repeat' ((conv => whnf); first | refine vA ?_ | with_reducible first | refine v8 ?_ | refine Sp.mk ?_ ?_ | refine vS ?_ | refine vR ?_ | refine vB ?_ | refine br_nt ?_ | refine br_tt ?_ | refine br_ff ?_ | refine vP ?_ | refine vQ ?_ | refine vT ?_ | refine vF ?_ | refine br_and ?_ | refine br_or ?_ | refine br_d (fun _ => ?_) fun _ => ?_ | refine vM (fun _ => ?_) fun _ => ?_)
          refine ⟨(t ++ t2 ++ [⟨2, 0, 0⟩], -1), .inl ⟨rfl, i6.symm, by dsimp only; rw [ha.1]; omega⟩, by dsimp only; rw [if_pos (by decide), if_neg (by omega)]; omega, ⟨⟨[], [3], rfl, rfl, ?_, ?_⟩⟩⟩
          · repeat' ((conv => whnf); first | with_reducible exact True.intro | exact vW | with_reducible refine And.intro ?_ ?_)
          · repeat' ((conv => whnf); first | with_reducible exact True.intro | exact vW | with_reducible refine And.intro ?_ ?_)
        · dsimp only at e2 g4 g5 g6
          rw [e2] at i6
          replace i6 : loopF (bothP (partF 48 f)) 124 2 k (t ++ t2 ++ [⟨2, 0, 0⟩]) u2 = R := i6
          have hf2 := bothP_fair 48 f _ _ _ e2
          rw [← g6, rem_len, rem_len] at hf2
          have ha := app3_gen (t := t) (u := t2) (k := 2) (gu := fun i => encM (t2.getD i default)) (gk := fun i => [[AV.int .i64 2, .int .i64 0, .int .i64 0]].getD (0 + i) [.int .i64 0, .int .i64 0, .int .i64 0]) (fun _ _ => rfl) rfl
          repeat' ((conv => whnf); first | refine vA ?_ | with_reducible first | refine v8 ?_ | refine Sp.mk ?_ ?_ | refine vS ?_ | refine vR ?_ | refine vB ?_ | refine br_nt ?_ | refine br_tt ?_ | refine br_ff ?_ | refine vP ?_ | refine vQ ?_ | refine vT ?_ | refine vF ?_ | refine br_and ?_ | refine br_or ?_ | refine br_d (fun _ => ?_) fun _ => ?_ | refine vM (fun _ => ?_) fun _ => ?_)
          refine ⟨(t ++ t2 ++ [⟨2, 0, 0⟩], b'), .inr ⟨k, b', rfl, by omega, g5, by omega, by dsimp only; rw [ha.1]; omega, by dsimp only; rw [g6]; exact i6⟩, by dsimp only; rw [if_neg (by omega), if_neg (by omega)]; omega, ⟨⟨[], [3], rfl, rfl, ?_, ?_⟩⟩⟩
          · repeat' ((conv => whnf); first | with_reducible exact True.intro | exact vW | with_reducible refine And.intro ?_ ?_)
          · repeat' ((conv => whnf); first | with_reducible exact True.intro | exact vW | with_reducible refine And.intro ?_ ?_)
      · rename_i hlt es
        replace es : ¬ bt s b = 124 := es
        exact h.2 _ _ (stop fun _ => es) b i2 i3 rfl
      · exact h.2 _ _ (stop fun q => absurd q (by omega)) b i2 i3 rfl
theorem F203 : ∀ f, FF 132 (C203 f)
  | 0 => F203z
  | f + 1 => F203s (F177 (F203 f))
end Go.Proofs.YtjefkdhecccfpaaGreatDoor.Vc
end
section
/- Part TE: the text of a term, and a term that is read, by the reference. -/
namespace Go.Proofs.YtjefkdhecccfpaaGreatDoor.Vc
open Go.Proofs
set_option maxRecDepth 10000
set_option maxHeartbeats 4000000
theorem tr_last {bs : List Int} {t : List Mark} (h : Tr bs t) : (partT t).o = decide ((t.getD (t.length - 1) default).kind = 2) ∧ decide ((partT t).n > 1) = decide (¬ (t.getD (t.length - 1) default).kind = 0) := by
  cases h with
  | leaf m hk h =>
    rw [partT_leaf hk]
    show false = decide (m.kind = 2) ∧ decide ((1 : Int) > 1) = decide (¬ m.kind = 0)
    rw [hk]
    exact ⟨rfl, rfl⟩
  | node l r k hk hl hr =>
    have e : (l ++ r ++ [(⟨k, 0, 0⟩ : Mark)]).getD ((l ++ r ++ [(⟨k, 0, 0⟩ : Mark)]).length - 1) default = ⟨k, 0, 0⟩ := by
      simp [List.getD_eq_getElem?_getD]
    rw [e, partT_node hl.one hr.one (by dsimp only; omega)]
    have h1 := hl.len
    have h2 := hr.len
    have n1 := partT_n hl
    have n2 := partT_n hr
    dsimp only
    refine ⟨?_, ?_⟩
    · unfold join2
      rcases hk with rfl | rfl <;> rfl
    · rw [join2_n, n1, n2, decide_eq_true (by omega), decide_eq_true (by omega)]
theorem text_size {bs : List Int} (hb : bodies bs) {t : List Mark} (h : walkP bs t 0 = some 1) (hl : t.length ≤ 9) : (textT t).size ≤ 10000 := by
  have h1 := runT_small hb h t.length (Nat.le_refl _)
  rw [List.take_length, runT_one h] at h1
  have := (h1 (partT t) (by simp)).2.2
  exact Nat.le_trans this (bndT_le _ hl)
/-- A term that is no part alone: its parts. -/
theorem text_split {bs : List Int} {t : List Mark} {n s : Nat} (h : walkP bs t 0 = some 1) (hn : t.length = n + 1) (hk : (t.getD n default).kind ≠ 0) (hs : starts ⟨bs, t, n - 1, 2⟩ s) : s < n ∧ 1 ≤ s ∧ walkP bs (t.take s) 0 = some 1 ∧ walkP bs ((t.take n).drop s) 0 = some 1 ∧
    textT t = (if (t.getD n default).kind = 2 then textT (t.take s) ++ ⟨#[124]⟩ ++ wrapT (textT ((t.take n).drop s)) (decide ((t.getD (n - 1) default).kind = 2)) else wrapT (textT (t.take s)) (decide ((t.getD (s - 1) default).kind = 2)) ++ ⟨#[38]⟩ ++ wrapT (textT ((t.take n).drop s)) (decide (¬ (t.getD (n - 1) default).kind = 0))) := by
  obtain ⟨w2, hn1, hsp⟩ := says_split (c := 0) (s := s) h hn hk
  obtain ⟨s1, s2, s3, s4, _⟩ := hsp hs
  refine ⟨s1, s2, s3, s4, ?_⟩
  obtain ⟨n', m, q, h1, h2, h3, _, _⟩ := last_mark h
  obtain rfl : n' = n := by omega
  rw [h2] at hk ⊢
  have e : t = t.take s ++ (t.take n').drop s ++ [m] := by
    have : t.take n' = t.take s ++ (t.take n').drop s := by
      have := (List.take_append_drop s (t.take n')).symm
      rwa [List.take_take, Nat.min_eq_left (by omega)] at this
    rw [← this]
    exact h3
  have ep := partT_node s3 s4 hk
  rw [← e] at ep
  have l1 : (t.take s).length = s := by rw [List.length_take]; omega
  have l2 : ((t.take n').drop s).length = n' - s := by simp; omega
  have ta := tr_last (Tr.of s3)
  have tb := tr_last (Tr.of s4)
  have ga : (t.take s).getD ((t.take s).length - 1) default = t.getD (s - 1) default := by
    rw [l1, List.getD_eq_getElem?_getD, List.getElem?_take_of_lt (by omega), List.getD_eq_getElem?_getD]
  have gb : ((t.take n').drop s).getD (((t.take n').drop s).length - 1) default = t.getD (n' - 1) default := by
    rw [l2, List.getD_eq_getElem?_getD, List.getElem?_drop, List.getElem?_take_of_lt (by omega), List.getD_eq_getElem?_getD, show s + (n' - s - 1) = n' - 1 by omega]
  rw [ga] at ta
  rw [gb] at tb
  show (partT t).s = _
  rw [ep]
  unfold join2
  rw [ta.1, tb.1, tb.2]
  split <;> rfl
def C178k (k : Nat) : List AV → (AV → Prop) → Prop := con (X := Tu) (fun x => [slM x.t]) (fun x => x.t.length < k ∧ txOk x) fun x K => K (.str (textT x.t))
theorem F178k : ∀ k, FF 91 (C178k k) := by
  intro k
  induction k with
  | zero => exact fitE [] (by simp) Tryz.f91 ⟨rfl, by decide +kernel, by decide +kernel⟩ (fun _ _ _ hk h => hk _ h) fun x K h => absurd h.1 (Nat.not_lt_zero _)
  | succ k ih =>
    refine fitE [(91, C178k k), (64, C106), (117, C56)] (by simp only [List.mem_cons, List.not_mem_nil, or_false]; rintro _ (rfl | rfl | rfl) <;> first | exact ih | exact F106 | exact F56) Tryz.f91 ⟨rfl, by decide +kernel, by decide +kernel⟩ (fun _ _ _ hk h => hk _ h) ?_
    rintro ⟨bs, t⟩ K ⟨h0, h1, h2, h3⟩ h
    refine ⟨Nat.le_of_ble_eq_true rfl, ?_⟩
    dsimp only at h h0 h1 h2 h3 ⊢
    obtain ⟨n, m, q, g1, g2, g3, g4, g5⟩ := last_mark h2
    have hn : ((t.length : Int) - 1).toNat = n := by omega
    have hn2 : ((t.length : Int) - 1 - 1).toNat = n - 1 := by omega
    have z0 : (⟨#[124]⟩ : ByteArray).size = 1 := rfl
    have z1 : (⟨#[38]⟩ : ByteArray).size = 1 := rfl
    have z2 : (⟨#[40]⟩ : ByteArray).size = 1 := rfl
    have z3 : (⟨#[41]⟩ : ByteArray).size = 1 := rfl
    repeat' ((conv => whnf); first | refine vA ?_ | with_reducible first | refine v8 ?_ | refine Sp.mk ?_ ?_ | refine vS ?_ | refine vR ?_ | refine vB ?_ | refine br_nt ?_ | refine br_tt ?_ | refine br_ff ?_ | refine vP ?_ | refine vQ ?_ | refine vT ?_ | refine vF ?_ | refine br_and ?_ | refine br_or ?_ | refine br_d (fun _ => ?_) fun _ => ?_ | refine vM (fun _ => ?_) fun _ => ?_)
    · rename_i hk
      rw [hn] at hk
      obtain ⟨m', et, m1, m2⟩ : ∃ m, t = [m] ∧ m.kind = 0 ∧ stepP bs m 0 = some 1 := by
        have := Tr.of h2
        cases this with
        | leaf m hk' h' => exact ⟨m, rfl, hk', h'⟩
        | node l r k hk' hl hr =>
          exfalso
          have e : (l ++ r ++ [(⟨k, 0, 0⟩ : Mark)]).getD n default = ⟨k, 0, 0⟩ := by
            have : n = (l ++ r).length := by simp only [List.length_append, List.length_cons, List.length_nil] at g1 ⊢; omega
            rw [this]
            simp [List.getD_eq_getElem?_getD]
          rw [e] at hk
          dsimp only at hk
          omega
      have tl : t.length = 1 := by rw [et]; rfl
      have em : t.getD ((t.length : Int) - 1).toNat default = m' := by rw [tl, et]; rfl
      have k4 := leaf_in h1 m1 m2
      have ht : textT t = letter m'.at_ ++ num m'.need := by rw [et, textT, partT_leaf m1]
      rw [ht] at h
      rw [← em] at k4 h
      clear em
      generalize hA : (t.getD ((t.length : Int) - 1).toNat default).at_ = A at *
      generalize hN : (t.getD ((t.length : Int) - 1).toNat default).need = N at *
      obtain ⟨k1, k2, k3, k4⟩ := k4
      have hnum := num1 (n := N) (by omega) (by omega)
      have e65 : (65 + A).toNat = 65 + A.toNat := by omega
      refine Dr.mk ⟨(.rd 0 (.rd 1 (.rd 2 (.rd 3 (.rd 4 (.rd 5 (.rd 6 (.rd 9 (.rd 10 (.rd 11 (.rd 12 (.rd 13 (.ef 7 (.rd 8 (.ef 14 (.rd 15 (.rd 16 .dn)) .no)) (.ef 14 (.ef 7 (.rd 8 (.rd 15 (.rd 16 .dn))) .no) .no)))))))))))))), by decide +kernel, ?_⟩
      repeat' ((conv => whnf); first | refine ⟨Chk.mk ⟨by decide, by decide, fun i hi => by obtain rfl : i = 0 := by omega; exact ⟨_, rfl⟩⟩, ?_⟩ | with_reducible refine Wr.ex (wu8 (by rw [hA]; omega) (by rw [hA]; omega)) ?_ | with_reducible refine Wr.ex (wi64 (by rw [hA]; omega) (by rw [hA]; omega)) ?_ | refine vA ?_ | with_reducible first | refine v8 ?_ | refine Sp.mk ?_ ?_ | refine vS ?_ | refine vR ?_ | refine vB ?_ | refine br_nt ?_ | refine br_tt ?_ | refine br_ff ?_ | refine vP ?_ | refine vQ ?_ | refine vT ?_ | refine vF ?_ | refine br_and ?_ | refine br_or ?_ | refine br_d (fun _ => ?_) fun _ => ?_ | refine vM (fun _ => ?_) fun _ => ?_)
      all_goals
        refine ⟨N, ?_, ⟨by omega, by omega⟩, ?_⟩
        · repeat' ((conv => whnf); first | with_reducible exact True.intro | exact vW | with_reducible refine And.intro ?_ ?_)
        repeat' ((conv => whnf); first | refine ⟨Chk.mk (by rw [str1, hnum]; exact (by decide : 1 + 1 ≤ 9223372036854775807)), ?_⟩ | refine ⟨Chk.mk ⟨by decide, by decide, fun i hi => by obtain rfl : i = 0 := by omega; exact ⟨_, rfl⟩⟩, ?_⟩ | with_reducible refine Wr.ex (wu8 (by rw [hA]; omega) (by rw [hA]; omega)) ?_ | with_reducible refine Wr.ex (wi64 (by rw [hA]; omega) (by rw [hA]; omega)) ?_ | refine vA ?_ | with_reducible first | refine v8 ?_ | refine Sp.mk ?_ ?_ | refine vS ?_ | refine vR ?_ | refine vB ?_ | refine br_nt ?_ | refine br_tt ?_ | refine br_ff ?_ | refine vP ?_ | refine vQ ?_ | refine vT ?_ | refine vF ?_ | refine br_and ?_ | refine br_or ?_ | refine br_d (fun _ => ?_) fun _ => ?_ | refine vM (fun _ => ?_) fun _ => ?_)
        rw [str1, hA, e65]
        exact h
    · rename_i hk
      rw [hn] at hk
      obtain ⟨k1, k2, _⟩ := says_split (c := 0) (s := 0) h2 g1 hk
      refine ⟨⟨bs, t, n - 1, 2⟩, ?_, ⟨⟨by show n - 1 < t.length; omega, by dsimp only; omega, (by decide : 1 ≤ 2), by show walkP bs (t.take (n - 1 + 1)) 0 = some 2; rw [show n - 1 + 1 = n by omega]; exact k1⟩⟩, ?_⟩
      · dsimp only
        repeat' ((conv => whnf); first | with_reducible exact True.intro | exact vW | with_reducible refine And.intro ?_ ?_)
      intro s hs
      obtain ⟨s1, s2, s3, s4, s5⟩ := text_split h2 g1 hk hs
      have l1 : (t.take s).length = s := by rw [List.length_take]; omega
      have l2 : ((t.take n).drop s).length = n - s := by simp; omega
      have e2 : ((t.length : Int) - 1).toNat - s = ((t.take n).drop s).length ∧ ∀ i, i < ((t.length : Int) - 1).toNat - s → encM (t.getD (s + i) default) = encM (((t.take n).drop s).getD i default) := by
        rw [hn]
        exact take_ext (by omega)
      have x1 := text_size h1 s3 (by omega)
      have x2 := text_size h1 s4 (by omega)
      repeat' ((conv => whnf); first | refine vA ?_ | with_reducible first | refine v8 ?_ | refine Sp.mk ?_ ?_ | refine vS ?_ | refine vR ?_ | refine vB ?_ | refine br_nt ?_ | refine br_tt ?_ | refine br_ff ?_ | refine vP ?_ | refine vQ ?_ | refine vT ?_ | refine vF ?_ | refine br_and ?_ | refine br_or ?_ | refine br_d (fun _ => ?_) fun _ => ?_ | refine vM (fun _ => ?_) fun _ => ?_)
      refine ⟨⟨bs, t.take s⟩, ?_, ⟨by show (t.take s).length < k; rw [l1]; omega, h1, s3, by show (t.take s).length ≤ 9; omega⟩, ?_⟩
      · repeat' ((conv => whnf); first | with_reducible exact True.intro | exact vW | with_reducible refine And.intro ?_ ?_)
        all_goals exact Chk.mk (take_ext0 (by omega))
      dsimp only
      repeat' ((conv => whnf); first | refine vA ?_ | with_reducible first | refine v8 ?_ | refine Sp.mk ?_ ?_ | refine vS ?_ | refine vR ?_ | refine vB ?_ | refine br_nt ?_ | refine br_tt ?_ | refine br_ff ?_ | refine vP ?_ | refine vQ ?_ | refine vT ?_ | refine vF ?_ | refine br_and ?_ | refine br_or ?_ | refine br_d (fun _ => ?_) fun _ => ?_ | refine vM (fun _ => ?_) fun _ => ?_)
      refine ⟨⟨bs, (t.take n).drop s⟩, ?_, ⟨by show ((t.take n).drop s).length < k; rw [l2]; omega, h1, s4, by show ((t.take n).drop s).length ≤ 9; omega⟩, ?_⟩
      · repeat' ((conv => whnf); first | with_reducible exact True.intro | exact vW | with_reducible refine And.intro ?_ ?_)
        all_goals exact Chk.mk e2
      dsimp only
      have hs1 : ((s : Int) - 1).toNat = s - 1 := by omega
      have k5 : textT t = (if (t.getD ((t.length : Int) - 1).toNat default).kind = 2 then textT (t.take s) ++ ⟨#[124]⟩ ++ (if (t.getD ((t.length : Int) - 1 - 1).toNat default).kind = 2 then ⟨#[40]⟩ ++ textT ((t.take n).drop s) ++ ⟨#[41]⟩ else textT ((t.take n).drop s)) else (if (t.getD ((s : Int) - 1).toNat default).kind = 2 then ⟨#[40]⟩ ++ textT (t.take s) ++ ⟨#[41]⟩ else textT (t.take s)) ++ ⟨#[38]⟩ ++ (if (t.getD ((t.length : Int) - 1 - 1).toNat default).kind = 0 then textT ((t.take n).drop s) else ⟨#[40]⟩ ++ textT ((t.take n).drop s) ++ ⟨#[41]⟩)) := by
        rw [hn, hn2, hs1, s5]
        unfold wrapT
        simp only [decide_eq_true_eq]
        split <;> (repeat' split) <;> first | rfl | (exfalso; omega)
      repeat' ((conv => whnf); first | refine ⟨Chk.mk (by (try dsimp only); (repeat rw [ByteArray.size_append]); omega), ?_⟩ | refine vA ?_ | with_reducible first | refine v8 ?_ | refine Sp.mk ?_ ?_ | refine vS ?_ | refine vR ?_ | refine vB ?_ | refine br_nt ?_ | refine br_tt ?_ | refine br_ff ?_ | refine vP ?_ | refine vQ ?_ | refine vT ?_ | refine vF ?_ | refine br_and ?_ | refine br_or ?_ | refine br_d (fun _ => ?_) fun _ => ?_ | refine vM (fun _ => ?_) fun _ => ?_)
      all_goals
        rw [k5] at h
        (repeat' split at h) <;> first | exact h | (exfalso; omega)
def C178 : List AV → (AV → Prop) → Prop := con (X := Tu) (fun x => [slM x.t]) txOk fun x K => K (.str (textT x.t))
theorem F178 : FF 91 C178 := fun Gl hG => fits_rec (fun x => x.t.length) fun k => F178k k Gl hG
def C153 : List AV → (AV → Prop) → Prop := con (X := Hs) (fun x => [enH x.h, .str x.s]) (fun x => houI x.h ∧ x.s.size < 9223372036854775808) fun x K => rdpost 48 x K
theorem F153 : FF 62 C153 := by
  refine fitE [(90, C33), (91, C178), (89, C177 80)] (by simp only [List.mem_cons, List.not_mem_nil, or_false]; rintro _ (rfl | rfl | rfl) <;> first | exact F33 | exact F178 | exact F177 (F203 80)) Tryz.f62 ⟨rfl, by decide +kernel, by decide +kernel⟩ (fun _ _ _ hk h => rdpost_mono hk h) ?_
  rintro ⟨⟨p, bs⟩, s⟩ K ⟨h1, h2⟩ h
  refine ⟨Nat.le_of_ble_eq_true rfl, ?_⟩
  have hI := h1.1
  have hI2 := h1.2
  unfold rdpost at h
  dsimp only [enH] at h h2 ⊢
  repeat' ((conv => whnf); first | refine vA ?_ | with_reducible first | refine v8 ?_ | refine Sp.mk ?_ ?_ | refine vS ?_ | refine vR ?_ | refine vB ?_ | refine br_nt ?_ | refine br_tt ?_ | refine br_ff ?_ | refine vP ?_ | refine vQ ?_ | refine vT ?_ | refine vF ?_ | refine br_and ?_ | refine br_or ?_ | refine br_d (fun _ => ?_) fun _ => ?_ | refine vM (fun _ => ?_) fun _ => ?_)
  · exact h.1 (if_neg (by omega))
  · rename_i h80
    refine ⟨⟨s, 0⟩, ?_, ⟨⟨Nat.zero_le _, by dsimp only; omega⟩, by dsimp only; omega⟩, ?_⟩
    · repeat' ((conv => whnf); first | with_reducible exact True.intro | exact vW | with_reducible refine And.intro ?_ ?_)
    have hr0 : rem s 0 = bys s := rfl
    refine And.intro (fun e => And.intro ?_ fun t ht => ?_) (fun t u e a' g1 g2 g3 => ?_)
    · dsimp only at e
      rw [hr0] at e
      have hn : rdT 48 ⟨p, bs⟩ s = none := rdT_no fun t e1 => by rw [e] at e1; cases e1
      replace h := h.1 hn
      repeat' ((conv => whnf); first | refine vA ?_ | with_reducible first | refine v8 ?_ | refine Sp.mk ?_ ?_ | refine vS ?_ | refine vR ?_ | refine vB ?_ | refine br_nt ?_ | refine br_tt ?_ | refine br_ff ?_ | refine vP ?_ | refine vQ ?_ | refine vT ?_ | refine vF ?_ | refine br_and ?_ | refine br_or ?_ | refine br_d (fun _ => ?_) fun _ => ?_ | refine vM (fun _ => ?_) fun _ => ?_)
      exact h
    · dsimp only at e
      rw [hr0] at e
      have hn : rdT 48 ⟨p, bs⟩ s = none := rdT_no fun t e1 => by rw [e] at e1; cases e1
      replace h := h.1 hn
      repeat' ((conv => whnf); first | refine vA ?_ | with_reducible first | refine v8 ?_ | refine Sp.mk ?_ ?_ | refine vS ?_ | refine vR ?_ | refine vB ?_ | refine br_nt ?_ | refine br_tt ?_ | refine br_ff ?_ | refine vP ?_ | refine vQ ?_ | refine vT ?_ | refine vF ?_ | refine br_and ?_ | refine br_or ?_ | refine br_d (fun _ => ?_) fun _ => ?_ | refine vM (fun _ => ?_) fun _ => ?_)
      exact h
    · dsimp only at e g1 g2 g3
      rw [hr0] at e
      have hfa := eitherP_fair 48 80 _ _ _ e
      rw [bys_len] at hfa
      have hsa := eitherP_sane (by decide) 80 _ _ _ e
      have hlen : t.length < 9223372036854775808 := by omega
      repeat' ((conv => whnf); first | refine vA ?_ | with_reducible first | refine v8 ?_ | refine Sp.mk ?_ ?_ | refine vS ?_ | refine vR ?_ | refine vB ?_ | refine br_nt ?_ | refine br_tt ?_ | refine br_ff ?_ | refine vP ?_ | refine vQ ?_ | refine vT ?_ | refine vF ?_ | refine br_and ?_ | refine br_or ?_ | refine br_d (fun _ => ?_) fun _ => ?_ | refine vM (fun _ => ?_) fun _ => ?_)
      · rename_i ea
        have hu : u = [] := by rw [← g3]; exact rem_ge (by omega)
        subst hu
        refine ⟨(⟨p, bs⟩, t), ?_, ⟨⟨hI, hI2, hsa, hlen⟩⟩, ?_⟩
        · repeat' ((conv => whnf); first | with_reducible exact True.intro | exact vW | with_reducible refine And.intro ?_ ?_)
        repeat' ((conv => whnf); first | refine vA ?_ | with_reducible first | refine v8 ?_ | refine Sp.mk ?_ ?_ | refine vS ?_ | refine vR ?_ | refine vB ?_ | refine br_nt ?_ | refine br_tt ?_ | refine br_ff ?_ | refine vP ?_ | refine vQ ?_ | refine vT ?_ | refine vF ?_ | refine br_and ?_ | refine br_or ?_ | refine br_d (fun _ => ?_) fun _ => ?_ | refine vM (fun _ => ?_) fun _ => ?_)
        · rename_i hO
          have hO' : termOk ⟨p, bs⟩ t := hO
          refine ⟨⟨bs, t⟩, ?_, ⟨bodies_of hO'.1, hO'.2.2, hO'.2.1⟩, ?_⟩
          · repeat' ((conv => whnf); first | with_reducible exact True.intro | exact vW | with_reducible refine And.intro ?_ ?_)
          repeat' ((conv => whnf); first | refine vA ?_ | with_reducible first | refine v8 ?_ | refine Sp.mk ?_ ?_ | refine vS ?_ | refine vR ?_ | refine vB ?_ | refine br_nt ?_ | refine br_tt ?_ | refine br_ff ?_ | refine vP ?_ | refine vQ ?_ | refine vT ?_ | refine vF ?_ | refine br_and ?_ | refine br_or ?_ | refine br_d (fun _ => ?_) fun _ => ?_ | refine vM (fun _ => ?_) fun _ => ?_)
          · rename_i hq
            exact h.2 t ((rdT_iff (by decide)).2 ⟨by omega, hO', hq⟩)
          · rename_i hq
            exact h.1 (rdT_no fun t' e1 _ _ hq' => by rw [e] at e1; injection e1 with e1; injection e1 with e1 _; subst e1; exact hq hq')
        · rename_i hO
          exact h.1 (rdT_no fun t' e1 _ hq _ => by rw [e] at e1; injection e1 with e1; injection e1 with e1 _; subst e1; exact hO hq)
      · rename_i ea
        refine h.1 (rdT_no fun t' e1 => ?_)
        rw [e] at e1
        injection e1 with e1
        injection e1 with _ e1
        rw [← g3] at e1
        have := rem_len s a'
        rw [e1] at this
        simp only [List.length_nil] at this
        omega
end Go.Proofs.YtjefkdhecccfpaaGreatDoor.Vc
end
section
/- Part TF: places. -/
namespace Go.Proofs.YtjefkdhecccfpaaGreatDoor.Vc
open Go.Proofs
set_option maxRecDepth 10000
set_option maxHeartbeats 4000000
structure Place where
  p : Int
  bs : List Int
  rules : List ByteArray
  deriving Inhabited
def encS (s : ByteArray) : List AV := [.str s]
abbrev slS (l : List ByteArray) : AV := .sl 1 l.length fun i => encS (l.getD i ⟨#[]⟩)
def Place.h (x : Place) : House := ⟨x.p, x.bs⟩
def plC (x : Place) : List AV := [.int .i64 x.p, slI x.bs, slS x.rules]
def enPl (x : Place) : AV := .agg (plC x)
/-- What the memory gives. -/
def placeI (x : Place) : Prop := houI x.h ∧ x.rules.length < 9223372036854775808 ∧ ∀ r ∈ x.rules, r.size < 9223372036854775808
def bad (h : House) (r : ByteArray) : Bool := (rdT 49 h r).isNone
abbrev placeOk (x : Place) : Prop := houseOk x.h ∧ (1 ≤ x.rules.length ∧ x.rules.length ≤ 4) ∧ ∀ r ∈ x.rules, bad x.h r = false
def C175 : GC := conG (X := Place × ByteArray) (fun x => [.str x.2, .ptr 0 0]) (fun x => [.box (plC x.1)]) (fun x => houI x.1.h ∧ x.2.size < 9223372036854775808) fun x K => K (.bool (bad x.1.h x.2)) [.box (plC x.1)]
theorem F175 : GG 96 C175 := by
  refine fitG [(97, C176)] (by simp only [List.mem_cons, List.not_mem_nil, or_false]; rintro _ rfl <;> first | exact F176) [] (by simp) Tryz.f96 ⟨rfl, by decide +kernel, by decide +kernel⟩ (by intro x K K2 hk h; (try dsimp only at h ⊢); intros; apply hk; first | exact h | (apply h <;> assumption)) ?_
  rintro ⟨⟨p, bs, rs⟩, r⟩ K ⟨h1, h2⟩ h
  refine ⟨Nat.le_of_ble_eq_true rfl, ?_⟩
  dsimp only [plC] at h h1 h2 ⊢
  repeat' ((conv => whnf); first | refine vA ?_ | with_reducible first | refine v8 ?_ | refine Sp.mk ?_ ?_ | refine vS ?_ | refine vR ?_ | refine vB ?_ | refine br_nt ?_ | refine br_tt ?_ | refine br_ff ?_ | refine vP ?_ | refine vQ ?_ | refine vT ?_ | refine vF ?_ | refine br_and ?_ | refine br_or ?_ | refine br_d (fun _ => ?_) fun _ => ?_ | refine vM (fun _ => ?_) fun _ => ?_)
  refine ⟨⟨⟨p, bs⟩, r⟩, ?_, ⟨h1, h2⟩, ?_⟩
  · repeat' ((conv => whnf); first | with_reducible exact True.intro | exact vW | with_reducible refine And.intro ?_ ?_)
  refine And.intro (fun e => ?_) (fun t e => ?_)
  · have hb : bad (Place.h ⟨p, bs, rs⟩) r = true := by unfold bad; rw [show rdT 49 (Place.h ⟨p, bs, rs⟩) r = none from e]; rfl
    rw [hb] at h
    repeat' ((conv => whnf); first | refine vA ?_ | with_reducible first | refine v8 ?_ | refine Sp.mk ?_ ?_ | refine vS ?_ | refine vR ?_ | refine vB ?_ | refine br_nt ?_ | refine br_tt ?_ | refine br_ff ?_ | refine vP ?_ | refine vQ ?_ | refine vT ?_ | refine vF ?_ | refine br_and ?_ | refine br_or ?_ | refine br_d (fun _ => ?_) fun _ => ?_ | refine vM (fun _ => ?_) fun _ => ?_)
    refine ⟨_, _, [some 0], [], rfl, rfl, ?_, ?_, h⟩
    · repeat' ((conv => whnf); first | with_reducible exact True.intro | exact vW | with_reducible refine And.intro ?_ ?_)
    · repeat' ((conv => whnf); first | with_reducible exact True.intro | exact vW | with_reducible refine And.intro ?_ ?_)
  · have hb : bad (Place.h ⟨p, bs, rs⟩) r = false := by unfold bad; rw [show rdT 49 (Place.h ⟨p, bs, rs⟩) r = some t from e]; rfl
    rw [hb] at h
    repeat' ((conv => whnf); first | refine vA ?_ | with_reducible first | refine v8 ?_ | refine Sp.mk ?_ ?_ | refine vS ?_ | refine vR ?_ | refine vB ?_ | refine br_nt ?_ | refine br_tt ?_ | refine br_ff ?_ | refine vP ?_ | refine vQ ?_ | refine vT ?_ | refine vF ?_ | refine br_and ?_ | refine br_or ?_ | refine br_d (fun _ => ?_) fun _ => ?_ | refine vM (fun _ => ?_) fun _ => ?_)
    refine ⟨_, _, [some 0], [], rfl, rfl, ?_, ?_, h⟩
    · repeat' ((conv => whnf); first | with_reducible exact True.intro | exact vW | with_reducible refine And.intro ?_ ?_)
    · repeat' ((conv => whnf); first | with_reducible exact True.intro | exact vW | with_reducible refine And.intro ?_ ?_)
def ixpost (n : Nat) (b : Nat → Prop) (K : AV → Prop) : Prop := ∀ i : Int, -1 ≤ i → i < n → (i = -1 → ∀ j, j < n → ¬ b j) → (0 ≤ i → b i.toNat) → K (.int .i64 i)
def C190 : GC := conG (X := Place) (fun x => [slS x.rules, .fn 96 [] [.ptr 0 0]]) (fun x => [.box (plC x)]) placeI fun x K => ixpost x.rules.length (fun i => bad x.h (x.rules.getD i ⟨#[]⟩) = true) fun r => K r [.box (plC x)]
theorem getD_len {l : List ByteArray} (h : ∀ r ∈ l, r.size < 9223372036854775808) {i : Nat} (hi : i < l.length) : (l.getD i ⟨#[]⟩).size < 9223372036854775808 := h _ (getD_mem' hi)
theorem F190 : GG 120 C190 := by
  refine fitG [] (by simp) [(96, C175)] (by simp only [List.mem_cons, List.not_mem_nil, or_false]; rintro _ rfl <;> first | exact F175) Tryz.f120 ⟨rfl, by decide +kernel, by decide +kernel⟩ (fun _ _ _ hk h i h1 h2 h3 h4 => hk _ _ (h i h1 h2 h3 h4)) ?_
  rintro ⟨p, bs, rs⟩ K ⟨h1, h2, h3⟩ h
  refine ⟨Nat.le_of_ble_eq_true rfl, ?_⟩
  dsimp only [plC] at h h1 h2 h3 ⊢
  repeat' ((conv => whnf); first | refine vA ?_ | with_reducible first | refine v8 ?_ | refine Sp.mk ?_ ?_ | refine vS ?_ | refine vR ?_ | refine vB ?_ | refine br_nt ?_ | refine br_tt ?_ | refine br_ff ?_ | refine vP ?_ | refine vQ ?_ | refine vT ?_ | refine vF ?_ | refine br_and ?_ | refine br_or ?_ | refine br_d (fun _ => ?_) fun _ => ?_ | refine vM (fun _ => ?_) fun _ => ?_)
  refine Lp.mk ⟨Nat, fun i => [(0, slS rs), (1, .fn 96 [] [.ptr 0 0]), (7, .int .i64 rs.length), (8, .int .i64 i)], fun _ => [.box (plC ⟨p, bs, rs⟩)], fun i => i ≤ rs.length ∧ ∀ j, j < i → ¬ bad (Place.h ⟨p, bs, rs⟩) (rs.getD j ⟨#[]⟩) = true, fun i => rs.length - i, ⟨0, ⟨Nat.zero_le _, fun j hj => absurd hj (Nat.not_lt_zero _)⟩, ⟨⟨[some 0], [], rfl, rfl, ?_, ?_⟩⟩⟩, ?_⟩
  · repeat' ((conv => whnf); first | with_reducible exact True.intro | exact vW | with_reducible refine And.intro ?_ ?_)
  · repeat' ((conv => whnf); first | with_reducible exact True.intro | exact vW | with_reducible refine And.intro ?_ ?_)
  rintro i ⟨i1, i2⟩
  dsimp only [plC]
  repeat' ((conv => whnf); first | refine vA ?_ | with_reducible first | refine v8 ?_ | refine Sp.mk ?_ ?_ | refine vS ?_ | refine vR ?_ | refine vB ?_ | refine br_nt ?_ | refine br_tt ?_ | refine br_ff ?_ | refine vP ?_ | refine vQ ?_ | refine vT ?_ | refine vF ?_ | refine br_and ?_ | refine br_or ?_ | refine br_d (fun _ => ?_) fun _ => ?_ | refine vM (fun _ => ?_) fun _ => ?_)
  · rename_i hi
    have hi : i < rs.length := by omega
    refine ⟨_, _, [0], [], rfl, ?_, ?_, (⟨p, bs, rs⟩, rs.getD i ⟨#[]⟩), rfl, rfl, ⟨h1, getD_len h3 hi⟩, ?_⟩
    · repeat' ((conv => whnf); first | with_reducible exact True.intro | exact vW | with_reducible refine And.intro ?_ ?_)
    · repeat' ((conv => whnf); first | with_reducible exact True.intro | exact vW | with_reducible refine And.intro ?_ ?_)
    dsimp only [plC]
    repeat' ((conv => whnf); first | refine vA ?_ | with_reducible first | refine v8 ?_ | refine Sp.mk ?_ ?_ | refine vS ?_ | refine vR ?_ | refine vB ?_ | refine br_nt ?_ | refine br_tt ?_ | refine br_ff ?_ | refine vP ?_ | refine vQ ?_ | refine vT ?_ | refine vF ?_ | refine br_and ?_ | refine br_or ?_ | refine br_d (fun _ => ?_) fun _ => ?_ | refine vM (fun _ => ?_) fun _ => ?_)
    · rename_i hb
      refine ⟨_, _, [some 0], [], rfl, rfl, ?_, ?_, h i (by omega) (by omega) (fun e => by omega) (fun _ => hb)⟩
      · repeat' ((conv => whnf); first | with_reducible exact True.intro | exact vW | with_reducible refine And.intro ?_ ?_)
      · repeat' ((conv => whnf); first | with_reducible exact True.intro | exact vW | with_reducible refine And.intro ?_ ?_)
    · rename_i hb
      refine ⟨i + 1, ⟨by omega, fun j hj => ?_⟩, by omega, ⟨⟨[some 0], [], rfl, rfl, ?_, ?_⟩⟩⟩
      · by_cases e : j = i
        · subst e; rw [hb]; exact Bool.false_ne_true
        · exact i2 j (by omega)
      · repeat' ((conv => whnf); first | with_reducible exact True.intro | exact vW | with_reducible refine And.intro ?_ ?_)
      · repeat' ((conv => whnf); first | with_reducible exact True.intro | exact vW | with_reducible refine And.intro ?_ ?_)
  · rename_i hi
    refine ⟨_, _, [some 0], [], rfl, rfl, ?_, ?_, h (-1) (by omega) (by omega) (fun _ j hj => i2 j (by omega)) (fun e => absurd e (by decide))⟩
    · repeat' ((conv => whnf); first | with_reducible exact True.intro | exact vW | with_reducible refine And.intro ?_ ?_)
    · repeat' ((conv => whnf); first | with_reducible exact True.intro | exact vW | with_reducible refine And.intro ?_ ?_)
def C174 : GC := conG (X := Place) (fun x => [slS x.rules, .fn 96 [] [.ptr 0 0]]) (fun x => [.box (plC x)]) placeI fun x K => K (.bool (decide (¬ ∀ r ∈ x.rules, bad x.h r = false))) [.box (plC x)]
theorem F174 : GG 95 C174 := by
  refine fitG [] (by simp) [(120, C190)] (by simp only [List.mem_cons, List.not_mem_nil, or_false]; rintro _ rfl <;> first | exact F190) Tryz.f95 ⟨rfl, by decide +kernel, by decide +kernel⟩ (by intro x K K2 hk h; (try dsimp only at h ⊢); intros; apply hk; first | exact h | (apply h <;> assumption)) ?_
  rintro ⟨p, bs, rs⟩ K hI h
  refine ⟨Nat.le_of_ble_eq_true rfl, ?_⟩
  dsimp only [plC] at h ⊢
  repeat' ((conv => whnf); first | refine vA ?_ | with_reducible first | refine v8 ?_ | refine Sp.mk ?_ ?_ | refine vS ?_ | refine vR ?_ | refine vB ?_ | refine br_nt ?_ | refine br_tt ?_ | refine br_ff ?_ | refine vP ?_ | refine vQ ?_ | refine vT ?_ | refine vF ?_ | refine br_and ?_ | refine br_or ?_ | refine br_d (fun _ => ?_) fun _ => ?_ | refine vM (fun _ => ?_) fun _ => ?_)
  refine ⟨_, _, [0], [], rfl, ?_, ?_, ⟨p, bs, rs⟩, rfl, rfl, ⟨hI⟩, ?_⟩
  · repeat' ((conv => whnf); first | with_reducible exact True.intro | exact vW | with_reducible refine And.intro ?_ ?_)
  · repeat' ((conv => whnf); first | with_reducible exact True.intro | exact vW | with_reducible refine And.intro ?_ ?_)
  intro i g1 g2 g3 g4
  dsimp only [plC] at g1 g2 g3 g4 ⊢
  have e : decide (i ≥ 0) = decide (¬ ∀ r ∈ rs, bad (Place.h ⟨p, bs, rs⟩) r = false) := by
    refine decide_eq_decide.2 ⟨fun hi q => ?_, fun q => ?_⟩
    · have := g4 hi
      rw [q _ (getD_mem' (by omega))] at this
      cases this
    · by_cases hi : i ≥ 0
      · exact hi
      · exfalso
        refine q (all_of_getD (d := ⟨#[]⟩) fun j hj => ?_)
        have := g3 (by omega) j hj
        cases hb : bad (Place.h ⟨p, bs, rs⟩) (rs.getD j ⟨#[]⟩) with
        | false => rfl
        | true => exact absurd hb this
  rw [← e] at h
  repeat' ((conv => whnf); first | refine vA ?_ | with_reducible first | refine v8 ?_ | refine Sp.mk ?_ ?_ | refine vS ?_ | refine vR ?_ | refine vB ?_ | refine br_nt ?_ | refine br_tt ?_ | refine br_ff ?_ | refine vP ?_ | refine vQ ?_ | refine vT ?_ | refine vF ?_ | refine br_and ?_ | refine br_or ?_ | refine br_d (fun _ => ?_) fun _ => ?_ | refine vM (fun _ => ?_) fun _ => ?_)
  refine ⟨_, _, [some 0], [], rfl, rfl, ?_, ?_, h⟩
  · repeat' ((conv => whnf); first | with_reducible exact True.intro | exact vW | with_reducible refine And.intro ?_ ?_)
  · repeat' ((conv => whnf); first | with_reducible exact True.intro | exact vW | with_reducible refine And.intro ?_ ?_)
def C152 : List AV → (AV → Prop) → Prop := con (X := Place) (fun x => [enPl x]) placeI fun x K => K (.bool (decide (placeOk x)))
theorem F152 : FF 68 C152 := by
  refine fitX [(94, C57)] (by simp only [List.mem_cons, List.not_mem_nil, or_false]; rintro _ rfl <;> first | exact F57) [(95, C174)] (by simp only [List.mem_cons, List.not_mem_nil, or_false]; rintro _ rfl <;> first | exact F174) Tryz.f68 ⟨rfl, by decide +kernel, by decide +kernel⟩ (by intro x K K2 hk h; (try dsimp only at h ⊢); intros; apply hk; first | exact h | (apply h <;> assumption)) ?_
  rintro ⟨p, bs, rs⟩ K hI h
  refine ⟨Nat.le_of_ble_eq_true rfl, ?_⟩
  have hI2 := hI.1
  have hI3 := hI.2.1
  dsimp only [enPl, plC] at h hI3 ⊢
  repeat' ((conv => whnf); first | refine vA ?_ | with_reducible first | refine v8 ?_ | refine Sp.mk ?_ ?_ | refine vS ?_ | refine vR ?_ | refine vB ?_ | refine br_nt ?_ | refine br_tt ?_ | refine br_ff ?_ | refine vP ?_ | refine vQ ?_ | refine vT ?_ | refine vF ?_ | refine br_and ?_ | refine br_or ?_ | refine br_d (fun _ => ?_) fun _ => ?_ | refine vM (fun _ => ?_) fun _ => ?_)
  refine ⟨⟨p, bs⟩, ?_, ⟨hI2⟩, ?_⟩
  · repeat' ((conv => whnf); first | with_reducible exact True.intro | exact vW | with_reducible refine And.intro ?_ ?_)
  repeat' ((conv => whnf); first | refine vA ?_ | with_reducible first | refine v8 ?_ | refine Sp.mk ?_ ?_ | refine vS ?_ | refine vR ?_ | refine vB ?_ | refine br_nt ?_ | refine br_tt ?_ | refine br_ff ?_ | refine vP ?_ | refine vQ ?_ | refine vT ?_ | refine vF ?_ | refine br_and ?_ | refine br_or ?_ | refine br_d (fun _ => ?_) fun _ => ?_ | refine vM (fun _ => ?_) fun _ => ?_)
  · exact yesF h fun q => by have := q.2.1.1; dsimp only at this; omega
  · exact yesF h fun q => by have := q.2.1.2; dsimp only at this; omega
  · rename_i hO g1 g2
    refine ⟨_, _, [0], [], rfl, ?_, ?_, ⟨p, bs, rs⟩, rfl, rfl, ⟨hI⟩, ?_⟩
    · repeat' ((conv => whnf); first | with_reducible exact True.intro | exact vW | with_reducible refine And.intro ?_ ?_)
    · repeat' ((conv => whnf); first | with_reducible exact True.intro | exact vW | with_reducible refine And.intro ?_ ?_)
    dsimp only [plC]
    have e : (!decide (¬ ∀ r ∈ rs, bad (Place.h ⟨p, bs, rs⟩) r = false)) = decide (placeOk ⟨p, bs, rs⟩) := by
      rw [← decide_not]
      refine decide_eq_decide.2 ⟨fun q => ⟨hO, ⟨by dsimp only; omega, by dsimp only; omega⟩, Classical.not_not.1 q⟩, fun q => Classical.not_not.2 q.2.2⟩
    rw [← e] at h
    repeat' ((conv => whnf); first | refine vA ?_ | with_reducible first | refine v8 ?_ | refine Sp.mk ?_ ?_ | refine vS ?_ | refine vR ?_ | refine vB ?_ | refine br_nt ?_ | refine br_tt ?_ | refine br_ff ?_ | refine vP ?_ | refine vQ ?_ | refine vT ?_ | refine vF ?_ | refine br_and ?_ | refine br_or ?_ | refine br_d (fun _ => ?_) fun _ => ?_ | refine vM (fun _ => ?_) fun _ => ?_)
    exact h
  · rename_i hO
    exact yesF h fun q => hO q.1
def C127 := C152
theorem F127 : FF 37 C127 := by
  refine fitE [(62, C153), (63, C55), (54, C35)] (by simp only [List.mem_cons, List.not_mem_nil, or_false]; rintro _ (rfl | rfl | rfl) <;> first | exact F153 | exact F55 | exact F35) Tryz.f37 ⟨rfl, by decide +kernel, by decide +kernel⟩ (fun _ _ _ hk h => hk _ h) ?_
  rintro ⟨p, bs, rs⟩ K hI h
  refine ⟨Nat.le_of_ble_eq_true rfl, ?_⟩
  have hI2 := hI.1
  have hI3 := hI.2.1
  have hI4 := hI.2.2
  dsimp only [enPl, plC] at h hI3 hI4 ⊢
  repeat' ((conv => whnf); first | refine vA ?_ | with_reducible first | refine v8 ?_ | refine Sp.mk ?_ ?_ | refine vS ?_ | refine vR ?_ | refine vB ?_ | refine br_nt ?_ | refine br_tt ?_ | refine br_ff ?_ | refine vP ?_ | refine vQ ?_ | refine vT ?_ | refine vF ?_ | refine br_and ?_ | refine br_or ?_ | refine br_d (fun _ => ?_) fun _ => ?_ | refine vM (fun _ => ?_) fun _ => ?_)
  refine Lp.mk ⟨Nat, fun i => [(1, .ptr 0 0), (3, .int .i64 i)], fun _ => [.box (plC ⟨p, bs, rs⟩)], fun i => i ≤ rs.length ∧ ∀ j, j < i → bad (Place.h ⟨p, bs, rs⟩) (rs.getD j ⟨#[]⟩) = false, fun i => rs.length - i, ⟨0, ⟨Nat.zero_le _, fun j hj => absurd hj (Nat.not_lt_zero _)⟩, ⟨⟨[some 0], [], rfl, rfl, ?_, ?_⟩⟩⟩, ?_⟩
  · repeat' ((conv => whnf); first | with_reducible exact True.intro | exact vW | with_reducible refine And.intro ?_ ?_)
  · repeat' ((conv => whnf); first | with_reducible exact True.intro | exact vW | with_reducible refine And.intro ?_ ?_)
  rintro i ⟨i1, i2⟩
  dsimp only [plC]
  repeat' ((conv => whnf); first | refine vA ?_ | with_reducible first | refine v8 ?_ | refine Sp.mk ?_ ?_ | refine vS ?_ | refine vR ?_ | refine vB ?_ | refine br_nt ?_ | refine br_tt ?_ | refine br_ff ?_ | refine vP ?_ | refine vQ ?_ | refine vT ?_ | refine vF ?_ | refine br_and ?_ | refine br_or ?_ | refine br_d (fun _ => ?_) fun _ => ?_ | refine vM (fun _ => ?_) fun _ => ?_)
  · rename_i hi
    have hi : i < rs.length := by omega
    refine Dr.mk ⟨(.rd 0 (.rd 1 (.rd 2 (.rd 3 (.rd 4 (.rd 5 (.rd 6 (.ef 7 (.rd 8 (.rd 9 (.rd 10 (.rd 11 (.rd 12 .dn))))) .no)))))))), by decide +kernel, ?_⟩
    repeat' ((conv => whnf); first | refine vA ?_ | with_reducible first | refine v8 ?_ | refine Sp.mk ?_ ?_ | refine vS ?_ | refine vR ?_ | refine vB ?_ | refine br_nt ?_ | refine br_tt ?_ | refine br_ff ?_ | refine vP ?_ | refine vQ ?_ | refine vT ?_ | refine vF ?_ | refine br_and ?_ | refine br_or ?_ | refine br_d (fun _ => ?_) fun _ => ?_ | refine vM (fun _ => ?_) fun _ => ?_)
    refine ⟨⟨⟨p, bs⟩, rs.getD i ⟨#[]⟩⟩, ?_, ⟨hI2, getD_len hI4 hi⟩, ?_⟩
    · repeat' ((conv => whnf); first | with_reducible exact True.intro | exact vW | with_reducible refine And.intro ?_ ?_)
    refine And.intro (fun e => ?_) (fun t e => ?_)
    · have hb : bad (Place.h ⟨p, bs, rs⟩) (rs.getD i ⟨#[]⟩) = true := by unfold bad; rw [← rdT_eq, show rdT 48 (Place.h ⟨p, bs, rs⟩) (rs.getD i ⟨#[]⟩) = none from e]; rfl
      repeat' ((conv => whnf); first | refine vA ?_ | with_reducible first | refine v8 ?_ | refine Sp.mk ?_ ?_ | refine vS ?_ | refine vR ?_ | refine vB ?_ | refine br_nt ?_ | refine br_tt ?_ | refine br_ff ?_ | refine vP ?_ | refine vQ ?_ | refine vT ?_ | refine vF ?_ | refine br_and ?_ | refine br_or ?_ | refine br_d (fun _ => ?_) fun _ => ?_ | refine vM (fun _ => ?_) fun _ => ?_)
      exact yesF h fun q => by
        have := q.2.2 _ (getD_mem' (l := rs) (d := ⟨#[]⟩) hi)
        rw [hb] at this
        cases this
    · have hb : bad (Place.h ⟨p, bs, rs⟩) (rs.getD i ⟨#[]⟩) = false := by unfold bad; rw [← rdT_eq, show rdT 48 (Place.h ⟨p, bs, rs⟩) (rs.getD i ⟨#[]⟩) = some t from e]; rfl
      repeat' ((conv => whnf); first | refine vA ?_ | with_reducible first | refine v8 ?_ | refine Sp.mk ?_ ?_ | refine vS ?_ | refine vR ?_ | refine vB ?_ | refine br_nt ?_ | refine br_tt ?_ | refine br_ff ?_ | refine vP ?_ | refine vQ ?_ | refine vT ?_ | refine vF ?_ | refine br_and ?_ | refine br_or ?_ | refine br_d (fun _ => ?_) fun _ => ?_ | refine vM (fun _ => ?_) fun _ => ?_)
      refine ⟨i + 1, ⟨by omega, fun j hj => ?_⟩, by omega, ⟨⟨[some 0], [], rfl, rfl, ?_, ?_⟩⟩⟩
      · by_cases e : j = i
        · subst e; exact hb
        · exact i2 j (by omega)
      · repeat' ((conv => whnf); first | with_reducible exact True.intro | exact vW | with_reducible refine And.intro ?_ ?_)
      · repeat' ((conv => whnf); first | with_reducible exact True.intro | exact vW | with_reducible refine And.intro ?_ ?_)
  · rename_i hi
    have hall : ∀ r ∈ rs, bad (Place.h ⟨p, bs, rs⟩) r = false := all_of_getD (d := ⟨#[]⟩) fun j hj => i2 j (by omega)
    refine ⟨⟨p, bs⟩, ?_, ⟨hI2⟩, ?_⟩
    · repeat' ((conv => whnf); first | with_reducible exact True.intro | exact vW | with_reducible refine And.intro ?_ ?_)
    repeat' ((conv => whnf); first | refine vA ?_ | with_reducible first | refine v8 ?_ | refine Sp.mk ?_ ?_ | refine vS ?_ | refine vR ?_ | refine vB ?_ | refine br_nt ?_ | refine br_tt ?_ | refine br_ff ?_ | refine vP ?_ | refine vQ ?_ | refine vT ?_ | refine vF ?_ | refine br_and ?_ | refine br_or ?_ | refine br_d (fun _ => ?_) fun _ => ?_ | refine vM (fun _ => ?_) fun _ => ?_)
    · rename_i hO
      refine ⟨((rs.length : Int), 1, 4), ?_, ⟨trivial⟩, ?_⟩
      · repeat' ((conv => whnf); first | with_reducible exact True.intro | exact vW | with_reducible refine And.intro ?_ ?_)
      dsimp only
      repeat' ((conv => whnf); first | refine vA ?_ | with_reducible first | refine v8 ?_ | refine Sp.mk ?_ ?_ | refine vS ?_ | refine vR ?_ | refine vB ?_ | refine br_nt ?_ | refine br_tt ?_ | refine br_ff ?_ | refine vP ?_ | refine vQ ?_ | refine vT ?_ | refine vF ?_ | refine br_and ?_ | refine br_or ?_ | refine br_d (fun _ => ?_) fun _ => ?_ | refine vM (fun _ => ?_) fun _ => ?_)
      exact yesD h ⟨fun q => by have := q.2.1; dsimp only at this; omega, fun q => ⟨hO, ⟨by dsimp only; omega, by dsimp only; omega⟩, hall⟩⟩
    · rename_i hO
      exact yesF h fun q => hO q.1
/-! ### Copies -/
def C157 : List AV → (AV → Prop) → Prop := con (X := Place) (fun x => [enPl x]) (fun x => x.rules.length ≤ 100000000 ∧ x.bs.length ≤ 100000000) fun x K => K (enPl x)
theorem F157 : FF 99 C157 := by
  refine fitE [] (by simp) Tryz.f99 ⟨rfl, by decide +kernel, by decide +kernel⟩ (fun _ _ _ hk h => hk _ h) ?_
  rintro ⟨p, bs, rs⟩ K ⟨h1, h2⟩ h
  refine ⟨Nat.le_of_ble_eq_true rfl, ?_⟩
  dsimp only [enPl, plC] at h h1 h2 ⊢
  repeat' ((conv => whnf); first | refine vA ?_ | with_reducible first | refine v8 ?_ | refine Sp.mk ?_ ?_ | refine vS ?_ | refine vR ?_ | refine vB ?_ | refine br_nt ?_ | refine br_tt ?_ | refine br_ff ?_ | refine vP ?_ | refine vQ ?_ | refine vT ?_ | refine vF ?_ | refine br_and ?_ | refine br_or ?_ | refine br_d (fun _ => ?_) fun _ => ?_ | refine vM (fun _ => ?_) fun _ => ?_)
  refine Dr.mk ⟨(.rd 0 (.rd 1 (.rd 2 (.rd 4 (.rd 5 (.rd 6 (.rd 10 (.rd 11 (.ef 3 (.ef 7 (.rd 8 (.ef 9 (.ef 12 (.rd 13 (.ef 14 .dn .no)) .no) .no)) (.ef 9 (.ef 7 (.rd 8 (.ef 12 (.rd 13 (.ef 14 .dn .no)) .no)) .no) .no)) (.ef 9 (.ef 3 (.ef 7 (.rd 8 (.ef 12 (.rd 13 (.ef 14 .dn .no)) .no)) .no) .no) .no)))))))))), by decide +kernel, ?_⟩
  repeat' ((conv => whnf); first | refine vA ?_ | with_reducible first | refine v8 ?_ | refine Sp.mk ?_ ?_ | refine vS ?_ | refine vR ?_ | refine vB ?_ | refine br_nt ?_ | refine br_tt ?_ | refine br_ff ?_ | refine vP ?_ | refine vQ ?_ | refine vT ?_ | refine vF ?_ | refine br_and ?_ | refine br_or ?_ | refine br_d (fun _ => ?_) fun _ => ?_ | refine vM (fun _ => ?_) fun _ => ?_)
  all_goals
    simp only [Nat.zero_add]
    exact h
end Go.Proofs.YtjefkdhecccfpaaGreatDoor.Vc
end
