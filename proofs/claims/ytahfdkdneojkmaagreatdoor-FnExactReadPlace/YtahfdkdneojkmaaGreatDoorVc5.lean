/- Part TG: the texts of places. -/
import Derived.Lib.Join
import Derived.WalkKit
import Derived.ProofKit
import Derived.OpenShut
import Derived.ShutString
import Derived.ChangeOld
import Derived.Below
import Derived.SizedLaws
import Derived.Carry
import Derived.Deep.Strs
import Derived.SliceStrings
import Derived.Handed
import Derived.JoinedOf
import Derived.LaidSub
import Derived.Lay
import Derived.Lib.LaidTab
import Derived.Lib.SmallJoins
import Derived.SevenTiedAt
import Derived.Test.YtahfdkdneojkmaaGreatDoorRows
import Derived.Test.YtahfdkdneojkmaaGreatDoorCards
import Derived.Test.YtahfdkdneojkmaaGreatDoorTie
import Derived.Stop.LaidErr
import Derived.LaidLaws
import Derived.Shelf.Vars
import Derived.Lib.SplitLaws
import Derived.Lib.AtoiAll
import Derived.Test.YtahfdkdneojkmaaGreatDoorVc4
section
namespace Go.Proofs.YtahfdkdneojkmaaGreatDoor.Vc
open Go.Proofs
set_option maxRecDepth 10000
set_option maxHeartbeats 4000000
/-! ### strings.Join -/
theorem addr_at {w : World} {ad : Addr} {v : Value} (h : w.cell? (ad.add 0) = some v) : ad = ⟨ad.block, ad.off, none⟩ := by
  have h' : w.cell? ad = some v := h
  unfold World.cell? at h'
  split at h'
  · split at h'
    · cases h'
    · rename_i e
      cases ad with
      | mk b o sp => cases sp with
        | none => rfl
        | some k => exact absurd rfl e
  · cases h'
theorem addr_add {b o j : Nat} : (⟨b, o, none⟩ : Addr).add j = ⟨b, o + j, none⟩ := by
  unfold Addr.add
  split
  · rename_i e; subst e; rfl
  · rfl
theorem dr_strs {R : Nat → Prop} {w : World} {xs : List ByteArray} {y : Value} (h : DR R w (slS xs) y) : (xs = [] ∧ ∃ a c, y = .slice a 0 c) ∨ ∃ b o c, y = .slice (some ⟨b, o, none⟩) xs.length c ∧ xs.length ≤ c ∧ R b ∧ ∀ (j : Nat) x, xs[j]? = some x → w.cell? ⟨b, o + j, none⟩ = some (.string x) := by
  generalize hn : xs.length = n at h ⊢
  unfold slS at h
  rw [hn] at h
  cases h with
  | sl0 s f a cap => exact .inl ⟨List.eq_nil_of_length_eq_zero hn, a, cap, rfl⟩
  | sl sz len f ad cap g h1 h2 h3 h4 h5 =>
    rcases Nat.eq_zero_or_pos n with rfl | hp
    · exact .inl ⟨List.eq_nil_of_length_eq_zero hn, _, _, rfl⟩
    · have ha := addr_at (h4 0 hp 0 (by decide))
      rw [ha] at h4
      refine .inr ⟨ad.block, ad.off, cap, by rw [← ha], h1, h2, fun j x hx => ?_⟩
      obtain ⟨hj, e⟩ := List.getElem?_eq_some_iff.1 hx
      have h6 := h4 j (by omega) 0 (by decide)
      have h7 := h5 j (by omega) 0 (by decide)
      rw [addr_add, Nat.mul_one, Nat.add_zero] at h6
      rw [h6]
      have e2 : xs.getD j ⟨#[]⟩ = x := by rw [List.getD_eq_getElem?_getD, hx]; rfl
      have h8 : DR R w (.str (xs.getD j ⟨#[]⟩)) (g j 0) := h7
      rw [e2] at h8
      generalize g j 0 = v at h8 ⊢
      cases h8
      rfl
def joinB (xs : List ByteArray) (sep : ByteArray) : ByteArray := ⟨(Lib.join (xs.map (·.data.toList)) sep.data.toList).toArray⟩
def C181 : List AV → (AV → Prop) → Prop := con (X := List ByteArray × ByteArray) (fun x => [slS x.1, .str x.2]) (fun x => x.1.length ≤ 140737488355328 ∧ (joinB x.1 x.2).size ≤ 140737488355328) fun x K => K (.str (joinB x.1 x.2))
theorem F181 : FF 54 C181 := fun Gl hG => by
  refine ⟨FnOk.has ⟨rfl, by decide +kernel, by decide +kernel⟩ (fn := Tryz.f54), fun us K K' hk ⟨x, h1, h2, h3⟩ => ⟨x, h1, h2, hk _ h3⟩, ?_⟩
  rintro us K ⟨⟨l, s⟩, h1, ⟨h2, h4⟩, h3⟩ R w xs hL hA
  obtain ⟨g1, g2⟩ := exL_PV (R := R) (w := w) us _ h1
  replace g1 : us.length = 2 := g1
  have a0 : PV R w (slS l) (xs.getD 0 Go.undef) := g2 0 (by omega) _ (hA.2 0 (by omega))
  have a1 : PV R w (.str s) (xs.getD 1 Go.undef) := g2 1 (by omega) _ (hA.2 1 (by omega))
  have hsz : xs.size = 2 := hA.1.trans g1
  have ex : xs = #[xs.getD 0 Go.undef, xs.getD 1 Go.undef] := by
    apply Array.ext
    · simpa using hsz
    · intro i h1 h2
      have : i = 0 ∨ i = 1 := by omega
      rcases this with rfl | rfl <;> simp [h1]
  rw [ex]
  generalize xs.getD 0 Go.undef = x0 at a0
  generalize xs.getD 1 Go.undef = x1 at a1
  obtain rfl : x1 = .string s := by cases a1 with | data a1 => cases a1; rfl
  obtain a0 : DR R w (slS l) x0 := by cases a0 with | data a0 => exact a0
  rcases dr_strs a0 with ⟨rfl, a, c, rfl⟩ | ⟨b, o, c, rfl, hc, hb, hcell⟩
  · refine (Tryz.strings_Join_none a c s w).mono fun e w' he => ?_
    obtain ⟨rfl, rfl⟩ := he
    exact ⟨_, _, R, rfl, h3, .data (.str _), ⟨hL.lt, fun _ h => h, fun _ h => .inl h, Nat.le_refl _, fun _ _ => rfl, rfl, rfl, rfl⟩⟩
  · refine (Tryz.strings_Join b o c l s w hcell (hL.lt b hb) h2 hc (by have h4' : (joinB l s).data.size ≤ _ := h4; simpa [joinB] using h4')).mono fun e w' he => ?_
    obtain ⟨rfl, hbl⟩ := he
    exact ⟨_, _, R, rfl, h3, .data (.str _), ⟨fun b' hb' => Nat.lt_of_lt_of_le (hL.lt b' hb') hbl.size, fun _ h => h, fun _ h => .inl h, hbl.size, fun b' hlt => hbl.block b' hlt, hbl.os, hbl.tape, hbl.output⟩⟩
theorem joinB_app {l : List ByteArray} {x sep : ByteArray} (h : l ≠ []) : joinB (l ++ [x]) sep = joinB l sep ++ sep ++ x := by
  have key : ∀ (l : List (List UInt8)) (x sep : List UInt8), l ≠ [] → Lib.join (l ++ [x]) sep = Lib.join l sep ++ sep ++ x := by
    intro l x sep
    induction l with
    | nil => intro h; exact absurd rfl h
    | cons a l ih =>
      intro _
      cases l with
      | nil => simp [Lib.join, List.intercalate, List.intersperse]
      | cons b l =>
        have h2 := ih (by simp)
        unfold Lib.join List.intercalate at h2 ⊢
        simp only [List.cons_append, List.intersperse_cons_cons, List.flatten_cons] at h2 ⊢
        rw [h2]
        simp [List.append_assoc]
  unfold joinB
  rw [List.map_append, List.map_cons, List.map_nil, key _ _ _ (by simpa using h)]
  apply ByteArray.ext
  simp
theorem joinB_one (x sep : ByteArray) : joinB [x] sep = x := by
  unfold joinB
  rw [List.map_cons, List.map_nil, Lib.join_one]
theorem joinB_nil (sep : ByteArray) : joinB [] sep = ⟨#[]⟩ := rfl
theorem joinB_two (x y sep : ByteArray) : joinB [x, y] sep = x ++ sep ++ y := by
  have := joinB_app (l := [x]) (x := y) (sep := sep) (by simp)
  rwa [joinB_one] at this
theorem joinB_size {sep : ByteArray} {M : Nat} : ∀ (n : Nat) (l : List ByteArray), l.length = n → (∀ x ∈ l, x.size ≤ M) → (joinB l sep).size ≤ l.length * (M + sep.size)
  | 0, l, h, _ => by
    have : l = [] := List.eq_nil_of_length_eq_zero h
    subst this
    exact Nat.zero_le _
  | n + 1, l, h, hM => by
    rcases List.eq_nil_or_concat l with rfl | ⟨l', x, rfl⟩
    · simp at h
    · rw [List.concat_eq_append] at h hM ⊢
      simp only [List.length_append, List.length_cons, List.length_nil] at h
      have hx := hM x (by simp)
      rcases Nat.eq_zero_or_pos n with rfl | hn
      · have : l' = [] := List.eq_nil_of_length_eq_zero (by omega)
        subst this
        rw [List.nil_append, joinB_one]
        simp only [List.length_cons, List.length_nil, Nat.zero_add, Nat.one_mul]
        omega
      · have ih := joinB_size (sep := sep) n l' (by omega) fun y hy => hM y (by simp [hy])
        rw [joinB_app (fun e => by subst e; simp at h; omega), ByteArray.size_append, ByteArray.size_append, List.length_append, Nat.add_mul]
        simp only [List.length_cons, List.length_nil, Nat.zero_add, Nat.one_mul]
        omega
/-! ### Lists of numbers -/
def comma : ByteArray := ⟨#[44]⟩
def space : ByteArray := ⟨#[32]⟩
def listT (l : List Int) : ByteArray := joinB (l.map num) comma
def smallL (l : List Int) : Prop := l.length ≤ 1000 ∧ ∀ n ∈ l, 0 ≤ n ∧ n < 100
theorem listT_size {l : List Int} (h : smallL l) : (listT l).size ≤ 3000 := by
  have := joinB_size (sep := comma) (M := 2) _ (l.map num) rfl fun x hx => by
    obtain ⟨n, hn, rfl⟩ := List.mem_map.1 hx
    exact num_size (h.2 n hn).1 (h.2 n hn).2
  have h1 := h.1
  rw [List.length_map, show comma.size = 1 from rfl] at this
  exact Nat.le_trans this (by omega)
theorem map_take_snoc {l : List Int} {i : Nat} (h : i < l.length) : (l.take (i + 1)).map num = (l.take i).map num ++ [num (l.getD i 0)] := by
  rw [take_succ' 0 h, List.map_append]
  rfl
def C182 : List AV → (AV → Prop) → Prop := con (X := List Int) (fun l => [slI l]) smallL fun l K => K (.str (listT l))
theorem F182 : FF 56 C182 := by
  refine fitE [(55, C101), (54, C181)] (by simp only [List.mem_cons, List.not_mem_nil, or_false]; rintro _ (rfl | rfl) <;> first | exact F101 | exact F181) Tryz.f56 ⟨rfl, by decide +kernel, by decide +kernel⟩ (fun _ _ _ hk h => hk _ h) ?_
  rintro l K ⟨h1, h2⟩ h
  refine ⟨Nat.le_of_ble_eq_true rfl, ?_⟩
  have hs := listT_size ⟨h1, h2⟩
  unfold listT at h hs
  repeat' ((conv => whnf); first | refine vA ?_ | with_reducible first | refine v8 ?_ | refine Sp.mk ?_ ?_ | refine vS ?_ | refine vR ?_ | refine vB ?_ | refine br_nt ?_ | refine br_tt ?_ | refine br_ff ?_ | refine vP ?_ | refine vQ ?_ | refine vT ?_ | refine vF ?_ | refine br_and ?_ | refine br_or ?_ | refine br_d (fun _ => ?_) fun _ => ?_ | refine vM (fun _ => ?_) fun _ => ?_)
  refine Lp.mk ⟨Nat, fun i => [(3, .row 0 1 0 ((l.take i).map num).length), (7, slI l), (8, .int .i64 l.length), (9, .int .i64 i)], fun i => [.row 1 ((l.take i).map num).length fun j => encS (((l.take i).map num).getD j ⟨#[]⟩)], fun i => i ≤ l.length, fun i => l.length - i, ⟨0, Nat.zero_le _, ⟨⟨[none], [], rfl, rfl, ?_, ?_⟩⟩⟩, ?_⟩
  · repeat' ((conv => whnf); first | with_reducible exact True.intro | exact vW | with_reducible refine And.intro ?_ ?_)
  · repeat' ((conv => whnf); first | with_reducible exact True.intro | exact vW | with_reducible refine And.intro ?_ ?_)
  intro i i1
  dsimp only
  have hl : ((l.take i).map num).length ≤ 1000 := by rw [List.length_map, List.length_take]; omega
  repeat' ((conv => whnf); first | refine vA ?_ | with_reducible first | refine v8 ?_ | refine Sp.mk ?_ ?_ | refine vS ?_ | refine vR ?_ | refine vB ?_ | refine br_nt ?_ | refine br_tt ?_ | refine br_ff ?_ | refine vP ?_ | refine vQ ?_ | refine vT ?_ | refine vF ?_ | refine br_and ?_ | refine br_or ?_ | refine br_d (fun _ => ?_) fun _ => ?_ | refine vM (fun _ => ?_) fun _ => ?_)
  · rename_i hi
    have hi : i < l.length := by omega
    have hb := h2 _ (getD_mem' (d := 0) hi)
    refine ⟨l.getD i 0, ?_, ⟨by omega, by omega⟩, ?_⟩
    · repeat' ((conv => whnf); first | with_reducible exact True.intro | exact vW | with_reducible refine And.intro ?_ ?_)
    repeat' ((conv => whnf); first | refine vA ?_ | with_reducible first | refine v8 ?_ | refine Sp.mk ?_ ?_ | refine vS ?_ | refine vR ?_ | refine vB ?_ | refine br_nt ?_ | refine br_tt ?_ | refine br_ff ?_ | refine vP ?_ | refine vQ ?_ | refine vT ?_ | refine vF ?_ | refine br_and ?_ | refine br_or ?_ | refine br_d (fun _ => ?_) fun _ => ?_ | refine vM (fun _ => ?_) fun _ => ?_)
    refine ⟨i + 1, by omega, by omega, ⟨⟨[some 2], [], rfl, rfl, ?_, ?_⟩⟩⟩
    · repeat' ((conv => whnf); first | with_reducible exact True.intro | exact vW | with_reducible refine And.intro ?_ ?_)
      all_goals exact Chk.mk ⟨rfl, by rw [map_take_snoc hi, List.length_append]; rfl⟩
    · repeat' ((conv => whnf); first | with_reducible exact True.intro | exact vW | with_reducible refine And.intro ?_ ?_)
      all_goals exact Chk.mk (by rw [map_take_snoc hi]; exact ext_push rfl)
  · rename_i hi
    have e : l.take i = l := List.take_of_length_le (by omega)
    rw [e] at hl ⊢
    refine ⟨(l.map num, comma), ?_, ⟨by dsimp only; omega, by dsimp only; omega⟩, ?_⟩
    · repeat' ((conv => whnf); first | with_reducible exact True.intro | exact vW | with_reducible refine And.intro ?_ ?_)
      all_goals exact Chk.mk ⟨rfl, fun i _ => by dsimp only; rw [Nat.zero_add]⟩
    repeat' ((conv => whnf); first | refine vA ?_ | with_reducible first | refine v8 ?_ | refine Sp.mk ?_ ?_ | refine vS ?_ | refine vR ?_ | refine vB ?_ | refine br_nt ?_ | refine br_tt ?_ | refine br_ff ?_ | refine vP ?_ | refine vQ ?_ | refine vT ?_ | refine vF ?_ | refine br_and ?_ | refine br_or ?_ | refine br_d (fun _ => ?_) fun _ => ?_ | refine vM (fun _ => ?_) fun _ => ?_)
    exact h
def C165 : List AV → (AV → Prop) → Prop := con (X := List Int) (fun l => [slI l]) smallL fun l K => K (.str (if l.length = 0 then ⟨#[110, 111, 110, 101]⟩ else listT l))
theorem take_smallL {l : List Int} (h : smallL l) (i : Nat) : smallL (l.take i) := ⟨by rw [List.length_take]; have := h.1; omega, fun n hn => h.2 n (List.mem_of_mem_take hn)⟩
theorem listT_snoc {l : List Int} {i : Nat} (h : i < l.length) : listT (l.take (i + 1)) = (if (i : Int) > 0 then listT (l.take i) ++ comma else listT (l.take i)) ++ num (l.getD i 0) := by
  unfold listT
  rw [map_take_snoc h]
  by_cases h0 : (i : Int) > 0
  · rw [if_pos h0, joinB_app]
    intro e
    have := congrArg List.length e
    rw [List.length_map, List.length_take] at this
    simp only [List.length_nil] at this
    omega
  · have : i = 0 := by omega
    subst this
    rw [if_neg h0]
    simp only [List.take_zero, List.map_nil, List.nil_append]
    rw [joinB_one, joinB_nil]
    apply ByteArray.ext
    simp
theorem F165 : FF 31 C165 := by
  refine fitE [(30, C106)] (by simp only [List.mem_cons, List.not_mem_nil, or_false]; rintro _ rfl <;> first | exact F106) Tryz.f31 ⟨rfl, by decide +kernel, by decide +kernel⟩ (fun _ _ _ hk h => hk _ h) ?_
  rintro l K ⟨h1, h2⟩ h
  refine ⟨Nat.le_of_ble_eq_true rfl, ?_⟩
  repeat' ((conv => whnf); first | refine vA ?_ | with_reducible first | refine v8 ?_ | refine Sp.mk ?_ ?_ | refine vS ?_ | refine vR ?_ | refine vB ?_ | refine br_nt ?_ | refine br_tt ?_ | refine br_ff ?_ | refine vP ?_ | refine vQ ?_ | refine vT ?_ | refine vF ?_ | refine br_and ?_ | refine br_or ?_ | refine br_d (fun _ => ?_) fun _ => ?_ | refine vM (fun _ => ?_) fun _ => ?_)
  refine Lp.mk ⟨Nat, fun i => [(0, slI l), (3, .str (listT (l.take i))), (4, .int .i64 i)], fun i => [], fun i => i ≤ l.length, fun i => l.length - i, ⟨0, Nat.zero_le _, ⟨⟨[], [], rfl, rfl, ?_, ?_⟩⟩⟩, ?_⟩
  · repeat' ((conv => whnf); first | with_reducible exact True.intro | exact vW | with_reducible refine And.intro ?_ ?_)
  · repeat' ((conv => whnf); first | with_reducible exact True.intro | exact vW | with_reducible refine And.intro ?_ ?_)
  intro i i1
  dsimp only
  have hs := listT_size (take_smallL ⟨h1, h2⟩ i)
  have hz : comma.size = 1 := rfl
  have hz' : (⟨#[44]⟩ : ByteArray).size = 1 := rfl
  repeat' ((conv => whnf); first | refine ⟨Chk.mk (by (try dsimp only); (repeat rw [ByteArray.size_append]); omega), ?_⟩ | refine vA ?_ | with_reducible first | refine v8 ?_ | refine Sp.mk ?_ ?_ | refine vS ?_ | refine vR ?_ | refine vB ?_ | refine br_nt ?_ | refine br_tt ?_ | refine br_ff ?_ | refine vP ?_ | refine vQ ?_ | refine vT ?_ | refine vF ?_ | refine br_and ?_ | refine br_or ?_ | refine br_d (fun _ => ?_) fun _ => ?_ | refine vM (fun _ => ?_) fun _ => ?_)
  · rename_i hi h0
    have hi : i < l.length := by omega
    have hb := h2 _ (getD_mem' (d := 0) hi)
    have hn := num_size hb.1 hb.2
    have hsn := listT_snoc hi
    rw [if_pos h0] at hsn
    refine ⟨l.getD i 0, ?_, ⟨by omega, by omega⟩, ?_⟩
    · repeat' ((conv => whnf); first | with_reducible exact True.intro | exact vW | with_reducible refine And.intro ?_ ?_)
    repeat' ((conv => whnf); first | refine ⟨Chk.mk (by (try dsimp only); (repeat rw [ByteArray.size_append]); omega), ?_⟩ | refine vA ?_ | with_reducible first | refine v8 ?_ | refine Sp.mk ?_ ?_ | refine vS ?_ | refine vR ?_ | refine vB ?_ | refine br_nt ?_ | refine br_tt ?_ | refine br_ff ?_ | refine vP ?_ | refine vQ ?_ | refine vT ?_ | refine vF ?_ | refine br_and ?_ | refine br_or ?_ | refine br_d (fun _ => ?_) fun _ => ?_ | refine vM (fun _ => ?_) fun _ => ?_)
    refine ⟨i + 1, by omega, by omega, ⟨⟨[], [], rfl, rfl, ?_, ?_⟩⟩⟩
    · repeat' ((conv => whnf); first | with_reducible exact True.intro | exact vW | with_reducible refine And.intro ?_ ?_)
    · repeat' ((conv => whnf); first | with_reducible exact True.intro | exact vW | with_reducible refine And.intro ?_ ?_)
  · rename_i hi h0
    have hi : i < l.length := by omega
    have hb := h2 _ (getD_mem' (d := 0) hi)
    have hn := num_size hb.1 hb.2
    have hsn := listT_snoc hi
    rw [if_neg h0] at hsn
    refine ⟨l.getD i 0, ?_, ⟨by omega, by omega⟩, ?_⟩
    · repeat' ((conv => whnf); first | with_reducible exact True.intro | exact vW | with_reducible refine And.intro ?_ ?_)
    repeat' ((conv => whnf); first | refine ⟨Chk.mk (by (try dsimp only); (repeat rw [ByteArray.size_append]); omega), ?_⟩ | refine vA ?_ | with_reducible first | refine v8 ?_ | refine Sp.mk ?_ ?_ | refine vS ?_ | refine vR ?_ | refine vB ?_ | refine br_nt ?_ | refine br_tt ?_ | refine br_ff ?_ | refine vP ?_ | refine vQ ?_ | refine vT ?_ | refine vF ?_ | refine br_and ?_ | refine br_or ?_ | refine br_d (fun _ => ?_) fun _ => ?_ | refine vM (fun _ => ?_) fun _ => ?_)
    refine ⟨i + 1, by omega, by omega, ⟨⟨[], [], rfl, rfl, ?_, ?_⟩⟩⟩
    · repeat' ((conv => whnf); first | with_reducible exact True.intro | exact vW | with_reducible refine And.intro ?_ ?_)
    · repeat' ((conv => whnf); first | with_reducible exact True.intro | exact vW | with_reducible refine And.intro ?_ ?_)
  · rename_i hi h0
    rw [if_pos (by omega)] at h
    exact h
  · rename_i hi h0
    rw [if_neg (by omega)] at h
    rw [List.take_of_length_le (by omega)]
    exact h
/-! ### Places -/
def plT (x : Place) : ByteArray := joinB (num x.p :: listT x.bs :: x.rules) space
/-- The text of a place, or none. -/
def ptext (x : Place) : ByteArray := if placeOk x then plT x else ⟨#[]⟩
theorem bad_size {h : House} {r : ByteArray} (e : bad h r = false) : r.size ≤ 80 := by
  unfold bad at e
  cases e2 : rdT 49 h r with
  | none => rw [e2] at e; cases e
  | some t => exact ((rdT_iff (by decide)).1 e2).1
theorem bad_term {h : House} {r : ByteArray} (e : bad h r = false) : ∃ t, rdT 49 h r = some t := by
  unfold bad at e
  cases e2 : rdT 49 h r with
  | none => rw [e2] at e; cases e
  | some t => exact ⟨t, rfl⟩
theorem placeOk_bs {x : Place} (h : placeOk x) : x.bs ≠ [] := by
  intro e
  obtain ⟨h1, ⟨h2, _⟩, h3⟩ := h
  obtain ⟨t, ht⟩ := bad_term (h3 _ (getD_mem' (l := x.rules) (i := 0) (d := ⟨#[]⟩) (by omega)))
  have hO := ((rdT_iff (by decide)).1 ht).2.1
  have hw : walkP x.bs t 0 = some 1 := hO.2.2
  have tr := Tr.of hw
  have leafin : ∀ {u}, Tr x.bs u → ∃ m, stepP x.bs m 0 = some 1 := fun hu => by
    induction hu with
    | leaf m _ h => exact ⟨m, h⟩
    | node _ _ _ _ _ _ ih _ => exact ih
  obtain ⟨m, hm⟩ := leafin tr
  rw [e] at hm
  unfold stepP at hm
  split at hm
  · rename_i g; have := g.2.2.1; simp only [List.length_nil] at this; omega
  · split at hm
    · rename_i g; omega
    · cases hm
theorem placeOk_small {x : Place} (h : placeOk x) : smallL x.bs ∧ 0 ≤ x.p ∧ x.p < 100 ∧ ∀ r ∈ x.rules, r.size ≤ 80 := by
  have hb := bodies_of h.1
  have hp : people x.p := h.1.1
  exact ⟨⟨Nat.le_trans hb.1 (by omega), fun n hn => by have := hb.2 n hn; omega⟩, by have := hp.1; omega, by have := hp.2; omega, fun r hr => bad_size (h.2.2 r hr)⟩
theorem plT_take_size {x : Place} (h : placeOk x) (i : Nat) : (joinB (num x.p :: listT x.bs :: x.rules.take i) space).size ≤ 20000 := by
  obtain ⟨h1, h2, h3, h4⟩ := placeOk_small h
  have h5 := h.2.1.2
  have := joinB_size (sep := space) (M := 3000) _ (num x.p :: listT x.bs :: x.rules.take i) rfl fun r hr => by
    rcases List.mem_cons.1 hr with rfl | hr
    · exact Nat.le_trans (num_size h2 h3) (by omega)
    · rcases List.mem_cons.1 hr with rfl | hr
      · exact listT_size h1
      · exact Nat.le_trans (h4 r (List.mem_of_mem_take hr)) (by omega)
  rw [show space.size = 1 from rfl] at this
  simp only [List.length_cons, List.length_take] at this
  exact Nat.le_trans this (by omega)
theorem plT_size {x : Place} (h : placeOk x) : (plT x).size ≤ 20000 := by
  have := plT_take_size h x.rules.length
  rwa [List.take_length] at this
theorem ext_front {a b : ByteArray} {l : List ByteArray} {z : List AV} : (a :: b :: l).length = 2 + l.length ∧ ∀ j, j < (a :: b :: l).length → encS ((a :: b :: l).getD j ⟨#[]⟩) = appF 2 (fun i => [encS a, encS b].getD i z) (fun i => encS (l.getD i ⟨#[]⟩)) (0 + j) := by
  refine ⟨by simp only [List.length_cons]; omega, fun j hj => ?_⟩
  rw [Nat.zero_add]
  match j with
  | 0 => rfl
  | 1 => rfl
  | j + 2 =>
    have : Nat.blt (j + 2) 2 = false := by
      cases hb : Nat.blt (j + 2) 2 with
      | false => rfl
      | true => have := blt_t hb; omega
    unfold appF
    rw [this]
    rfl
def C166 : List AV → (AV → Prop) → Prop := con (X := Place) (fun x => [enPl x]) placeOk fun x K => K (.str (plT x))
theorem F166 : FF 28 C166 := by
  refine fitE [(55, C101), (56, C182), (54, C181)] (by simp only [List.mem_cons, List.not_mem_nil, or_false]; rintro _ (rfl | rfl | rfl) <;> first | exact F101 | exact F182 | exact F181) Tryz.f28 ⟨rfl, by decide +kernel, by decide +kernel⟩ (fun _ _ _ hk h => hk _ h) ?_
  rintro ⟨p, bs, rs⟩ K hO h
  refine ⟨Nat.le_of_ble_eq_true rfl, ?_⟩
  have hs := plT_size hO
  obtain ⟨k1, k2, k3, k4⟩ := placeOk_small hO
  have k5 := hO.2.1.2
  have hxf := @ext_front (num p) (listT bs) rs [.str ⟨#[]⟩]
  unfold plT at h hs
  dsimp only [enPl, plC] at h hs k1 k2 k3 k4 k5 ⊢
  repeat' ((conv => whnf); first | refine vA ?_ | with_reducible first | refine v8 ?_ | refine Sp.mk ?_ ?_ | refine vS ?_ | refine vR ?_ | refine vB ?_ | refine br_nt ?_ | refine br_tt ?_ | refine br_ff ?_ | refine vP ?_ | refine vQ ?_ | refine vT ?_ | refine vF ?_ | refine br_and ?_ | refine br_or ?_ | refine br_d (fun _ => ?_) fun _ => ?_ | refine vM (fun _ => ?_) fun _ => ?_)
  refine Dr.mk ⟨(.rd 0 (.rd 1 (.rd 2 (.rd 4 (.rd 5 (.rd 6 (.rd 9 (.rd 10 (.ef 3 (.ef 7 (.ef 8 (.ef 11 (.ef 12 (.rd 13 .dn) .no) .no) .no) .no) .no))))))))), by decide +kernel, ?_⟩
  repeat' ((conv => whnf); first | refine vA ?_ | with_reducible first | refine v8 ?_ | refine Sp.mk ?_ ?_ | refine vS ?_ | refine vR ?_ | refine vB ?_ | refine br_nt ?_ | refine br_tt ?_ | refine br_ff ?_ | refine vP ?_ | refine vQ ?_ | refine vT ?_ | refine vF ?_ | refine br_and ?_ | refine br_or ?_ | refine br_d (fun _ => ?_) fun _ => ?_ | refine vM (fun _ => ?_) fun _ => ?_)
  refine ⟨p, ?_, ⟨k2, by omega⟩, ?_⟩
  · repeat' ((conv => whnf); first | with_reducible exact True.intro | exact vW | with_reducible refine And.intro ?_ ?_)
  repeat' ((conv => whnf); first | refine vA ?_ | with_reducible first | refine v8 ?_ | refine Sp.mk ?_ ?_ | refine vS ?_ | refine vR ?_ | refine vB ?_ | refine br_nt ?_ | refine br_tt ?_ | refine br_ff ?_ | refine vP ?_ | refine vQ ?_ | refine vT ?_ | refine vF ?_ | refine br_and ?_ | refine br_or ?_ | refine br_d (fun _ => ?_) fun _ => ?_ | refine vM (fun _ => ?_) fun _ => ?_)
  refine ⟨bs, ?_, ⟨k1⟩, ?_⟩
  · repeat' ((conv => whnf); first | with_reducible exact True.intro | exact vW | with_reducible refine And.intro ?_ ?_)
  repeat' ((conv => whnf); first | refine vA ?_ | with_reducible first | refine v8 ?_ | refine Sp.mk ?_ ?_ | refine vS ?_ | refine vR ?_ | refine vB ?_ | refine br_nt ?_ | refine br_tt ?_ | refine br_ff ?_ | refine vP ?_ | refine vQ ?_ | refine vT ?_ | refine vF ?_ | refine br_and ?_ | refine br_or ?_ | refine br_d (fun _ => ?_) fun _ => ?_ | refine vM (fun _ => ?_) fun _ => ?_)
  refine ⟨(num p :: listT bs :: rs, space), ?_, ⟨by dsimp only; simp only [List.length_cons]; omega, by dsimp only; omega⟩, ?_⟩
  · repeat' ((conv => whnf); first | with_reducible exact True.intro | exact vW | with_reducible refine And.intro ?_ ?_)
    all_goals exact Chk.mk ⟨hxf.1.symm, fun i hi => (hxf.2 i (by rw [hxf.1]; exact hi)).symm⟩
  repeat' ((conv => whnf); first | refine vA ?_ | with_reducible first | refine v8 ?_ | refine Sp.mk ?_ ?_ | refine vS ?_ | refine vR ?_ | refine vB ?_ | refine br_nt ?_ | refine br_tt ?_ | refine br_ff ?_ | refine vP ?_ | refine vQ ?_ | refine vT ?_ | refine vF ?_ | refine br_and ?_ | refine br_or ?_ | refine br_d (fun _ => ?_) fun _ => ?_ | refine vM (fun _ => ?_) fun _ => ?_)
  exact h
def C143 : List AV → (AV → Prop) → Prop := con (X := Place) (fun x => [enPl x]) placeI fun x K => K (.str (ptext x))
theorem F143 : FF 12 C143 := by
  refine fitE [(27, C152), (28, C166)] (by simp only [List.mem_cons, List.not_mem_nil, or_false]; rintro _ (rfl | rfl) <;> first | exact F152 | exact F166) Tryz.f12 ⟨rfl, by decide +kernel, by decide +kernel⟩ (fun _ _ _ hk h => hk _ h) ?_
  rintro ⟨p, bs, rs⟩ K hI h
  refine ⟨Nat.le_of_ble_eq_true rfl, ?_⟩
  unfold ptext at h
  dsimp only [enPl, plC] at h ⊢
  repeat' ((conv => whnf); first | refine vA ?_ | with_reducible first | refine v8 ?_ | refine Sp.mk ?_ ?_ | refine vS ?_ | refine vR ?_ | refine vB ?_ | refine br_nt ?_ | refine br_tt ?_ | refine br_ff ?_ | refine vP ?_ | refine vQ ?_ | refine vT ?_ | refine vF ?_ | refine br_and ?_ | refine br_or ?_ | refine br_d (fun _ => ?_) fun _ => ?_ | refine vM (fun _ => ?_) fun _ => ?_)
  refine ⟨⟨p, bs, rs⟩, ?_, ⟨hI⟩, ?_⟩
  · repeat' ((conv => whnf); first | with_reducible exact True.intro | exact vW | with_reducible refine And.intro ?_ ?_)
  repeat' ((conv => whnf); first | refine vA ?_ | with_reducible first | refine v8 ?_ | refine Sp.mk ?_ ?_ | refine vS ?_ | refine vR ?_ | refine vB ?_ | refine br_nt ?_ | refine br_tt ?_ | refine br_ff ?_ | refine vP ?_ | refine vQ ?_ | refine vT ?_ | refine vF ?_ | refine br_and ?_ | refine br_or ?_ | refine br_d (fun _ => ?_) fun _ => ?_ | refine vM (fun _ => ?_) fun _ => ?_)
  · rename_i hO
    rw [if_pos hO] at h
    refine ⟨⟨p, bs, rs⟩, ?_, ⟨hO⟩, ?_⟩
    · repeat' ((conv => whnf); first | with_reducible exact True.intro | exact vW | with_reducible refine And.intro ?_ ?_)
    repeat' ((conv => whnf); first | refine vA ?_ | with_reducible first | refine v8 ?_ | refine Sp.mk ?_ ?_ | refine vS ?_ | refine vR ?_ | refine vB ?_ | refine br_nt ?_ | refine br_tt ?_ | refine br_ff ?_ | refine vP ?_ | refine vQ ?_ | refine vT ?_ | refine vF ?_ | refine br_and ?_ | refine br_or ?_ | refine br_d (fun _ => ?_) fun _ => ?_ | refine vM (fun _ => ?_) fun _ => ?_)
    exact h
  · rename_i hO
    rw [if_neg hO] at h
    exact h
def C142 := C143
theorem F142 : FF 13 C142 := by
  refine fitE [(29, C127), (30, C106), (31, C165)] (by simp only [List.mem_cons, List.not_mem_nil, or_false]; rintro _ (rfl | rfl | rfl) <;> first | exact F127 | exact F106 | exact F165) Tryz.f13 ⟨rfl, by decide +kernel, by decide +kernel⟩ (fun _ _ _ hk h => hk _ h) ?_
  rintro ⟨p, bs, rs⟩ K hI h
  refine ⟨Nat.le_of_ble_eq_true rfl, ?_⟩
  unfold ptext at h
  dsimp only [enPl, plC] at h ⊢
  repeat' ((conv => whnf); first | refine vA ?_ | with_reducible first | refine v8 ?_ | refine Sp.mk ?_ ?_ | refine vS ?_ | refine vR ?_ | refine vB ?_ | refine br_nt ?_ | refine br_tt ?_ | refine br_ff ?_ | refine vP ?_ | refine vQ ?_ | refine vT ?_ | refine vF ?_ | refine br_and ?_ | refine br_or ?_ | refine br_d (fun _ => ?_) fun _ => ?_ | refine vM (fun _ => ?_) fun _ => ?_)
  refine ⟨⟨p, bs, rs⟩, ?_, ⟨hI⟩, ?_⟩
  · repeat' ((conv => whnf); first | with_reducible exact True.intro | exact vW | with_reducible refine And.intro ?_ ?_)
  repeat' ((conv => whnf); first | refine vA ?_ | with_reducible first | refine v8 ?_ | refine Sp.mk ?_ ?_ | refine vS ?_ | refine vR ?_ | refine vB ?_ | refine br_nt ?_ | refine br_tt ?_ | refine br_ff ?_ | refine vP ?_ | refine vQ ?_ | refine vT ?_ | refine vF ?_ | refine br_and ?_ | refine br_or ?_ | refine br_d (fun _ => ?_) fun _ => ?_ | refine vM (fun _ => ?_) fun _ => ?_)
  · rename_i hO
    rw [if_pos hO] at h
    unfold plT at h
    have hsz := plT_take_size hO
    obtain ⟨k1, k2, k3, k4⟩ := placeOk_small hO
    have k5 := hO.2.1.2
    have k6 := placeOk_bs hO
    have k7 := listT_size k1
    have k8 := num_size k2 k3
    have hz : space.size = 1 := rfl
    have hz' : (⟨#[32]⟩ : ByteArray).size = 1 := rfl
    dsimp only at h hsz k1 k2 k3 k4 k5 k6 k7 k8
    have h0 : ¬ bs.length = 0 := fun e => k6 (List.eq_nil_of_length_eq_zero e)
    have hj : num p ++ ⟨#[32]⟩ ++ listT bs = joinB (num p :: listT bs :: rs.take 0) space := (joinB_two _ _ _).symm
    have hn : ∀ i, i < rs.length → joinB (num p :: listT bs :: rs.take (i + 1)) space = joinB (num p :: listT bs :: rs.take i) space ++ ⟨#[32]⟩ ++ rs.getD i ⟨#[]⟩ := fun i hi => by
      rw [take_succ' (d := ⟨#[]⟩) hi, ← List.cons_append, ← List.cons_append, joinB_app (by simp)]
      rfl
    refine Dr.mk ⟨(.rd 0 (.rd 1 (.rd 2 (.rd 5 (.rd 6 (.rd 7 (.ef 3 (.rd 4 (.ef 8 (.rd 9 (.rd 10 .dn)) .no)) .no))))))), by decide +kernel, ?_⟩
    repeat' ((conv => whnf); first | refine vA ?_ | with_reducible first | refine v8 ?_ | refine Sp.mk ?_ ?_ | refine vS ?_ | refine vR ?_ | refine vB ?_ | refine br_nt ?_ | refine br_tt ?_ | refine br_ff ?_ | refine vP ?_ | refine vQ ?_ | refine vT ?_ | refine vF ?_ | refine br_and ?_ | refine br_or ?_ | refine br_d (fun _ => ?_) fun _ => ?_ | refine vM (fun _ => ?_) fun _ => ?_)
    refine ⟨p, ?_, ⟨k2, by omega⟩, ?_⟩
    · repeat' ((conv => whnf); first | with_reducible exact True.intro | exact vW | with_reducible refine And.intro ?_ ?_)
    repeat' ((conv => whnf); first | refine ⟨Chk.mk (by (try dsimp only); (repeat rw [ByteArray.size_append]); omega), ?_⟩ | refine vA ?_ | with_reducible first | refine v8 ?_ | refine Sp.mk ?_ ?_ | refine vS ?_ | refine vR ?_ | refine vB ?_ | refine br_nt ?_ | refine br_tt ?_ | refine br_ff ?_ | refine vP ?_ | refine vQ ?_ | refine vT ?_ | refine vF ?_ | refine br_and ?_ | refine br_or ?_ | refine br_d (fun _ => ?_) fun _ => ?_ | refine vM (fun _ => ?_) fun _ => ?_)
    refine ⟨bs, ?_, ⟨k1⟩, ?_⟩
    · repeat' ((conv => whnf); first | with_reducible exact True.intro | exact vW | with_reducible refine And.intro ?_ ?_)
    dsimp only
    rw [if_neg h0]
    repeat' ((conv => whnf); first | refine ⟨Chk.mk (by (try dsimp only); (repeat rw [ByteArray.size_append]); omega), ?_⟩ | refine vA ?_ | with_reducible first | refine v8 ?_ | refine Sp.mk ?_ ?_ | refine vS ?_ | refine vR ?_ | refine vB ?_ | refine br_nt ?_ | refine br_tt ?_ | refine br_ff ?_ | refine vP ?_ | refine vQ ?_ | refine vT ?_ | refine vF ?_ | refine br_and ?_ | refine br_or ?_ | refine br_d (fun _ => ?_) fun _ => ?_ | refine vM (fun _ => ?_) fun _ => ?_)
    rw [hj]
    refine Lp.mk ⟨Nat, fun i => [(1, .ptr 0 0), (3, .str (joinB (num p :: listT bs :: rs.take i) space)), (4, .int .i64 i)], fun _ => [.box (plC ⟨p, bs, rs⟩)], fun i => i ≤ rs.length, fun i => rs.length - i, ⟨0, Nat.zero_le _, ⟨⟨[some 0], [], rfl, rfl, ?_, ?_⟩⟩⟩, ?_⟩
    · repeat' ((conv => whnf); first | with_reducible exact True.intro | exact vW | with_reducible refine And.intro ?_ ?_)
    · repeat' ((conv => whnf); first | with_reducible exact True.intro | exact vW | with_reducible refine And.intro ?_ ?_)
    intro i i1
    have hsi := hsz i
    have hr : (rs.getD (i : Int).toNat ⟨#[]⟩).size ≤ 80 := by
      rcases Nat.lt_or_ge i rs.length with g | g
      · exact k4 _ (getD_mem' g)
      · rw [Int.toNat_natCast, List.getD_eq_getElem?_getD, List.getElem?_eq_none g]
        exact Nat.zero_le _
    dsimp only [plC]
    repeat' ((conv => whnf); first | refine ⟨Chk.mk (by (try dsimp only); (repeat rw [ByteArray.size_append]); omega), ?_⟩ | refine vA ?_ | with_reducible first | refine v8 ?_ | refine Sp.mk ?_ ?_ | refine vS ?_ | refine vR ?_ | refine vB ?_ | refine br_nt ?_ | refine br_tt ?_ | refine br_ff ?_ | refine vP ?_ | refine vQ ?_ | refine vT ?_ | refine vF ?_ | refine br_and ?_ | refine br_or ?_ | refine br_d (fun _ => ?_) fun _ => ?_ | refine vM (fun _ => ?_) fun _ => ?_)
    · rename_i hi
      have hi : i < rs.length := by omega
      have hn' := hn i hi
      refine ⟨i + 1, by omega, by omega, ⟨⟨[some 0], [], rfl, rfl, ?_, ?_⟩⟩⟩
      · repeat' ((conv => whnf); first | with_reducible exact True.intro | exact vW | with_reducible refine And.intro ?_ ?_)
      · repeat' ((conv => whnf); first | with_reducible exact True.intro | exact vW | with_reducible refine And.intro ?_ ?_)
    · rename_i hi
      rw [List.take_of_length_le (by omega)]
      exact h
  · rename_i hO
    rw [if_neg hO] at h
    exact h
end Go.Proofs.YtahfdkdneojkmaaGreatDoor.Vc
end
section
/- Part ZF0: the laws' copies and comparisons of numbers and houses. -/
namespace Go.Proofs.YtahfdkdneojkmaaGreatDoor.Vc
open Go.Proofs
set_option maxRecDepth 10000
set_option maxHeartbeats 4000000
def C9 : List AV → (AV → Prop) → Prop := con (X := House × Int) (fun x => [enH x.1, .int .i64 x.2]) (fun x => x.1.bs.length < 9223372036854775808 ∧ 0 ≤ x.2 ∧ x.2 ≤ 9223372036854775807) fun x K => K (.int .i64 (if x.2 - x.1.bs.length < 0 then -1 else x.2 - x.1.bs.length))
def cpI (l : List Int) (i : Nat) : Nat → List AV := fun j => if j < i then encI (l.getD j 0) else [.int .i64 0]
theorem cpI_step {l : List Int} {i j : Nat} : cpI l (i + 1) j = setF (cpI l i) i (encI (l.getD i 0)) j := by
  unfold cpI setF
  cases h : Nat.beq j i with
  | true =>
    obtain rfl := Nat.eq_of_beq_eq_true h
    rw [if_pos (by omega)]; rfl
  | false =>
    have := Nat.ne_of_beq_eq_false h
    simp only [cond_false]
    by_cases hj : j < i
    · rw [if_pos hj, if_pos (by omega)]
    · rw [if_neg hj, if_neg (by omega)]
theorem cpI_at {l : List Int} {i : Nat} : cpI l i i = [.int .i64 0] := if_neg (Nat.lt_irrefl _)
theorem cpI_end {l : List Int} {i : Nat} (h : ¬ i < l.length) : (fun j => cpI l i (0 + j)) = fun j => encI (l.getD j 0) := by
  funext j
  unfold cpI
  rw [Nat.zero_add]
  by_cases hj : j < i
  · rw [if_pos hj]
  · rw [if_neg hj, List.getD_eq_getElem?_getD, List.getElem?_eq_none (by omega)]
    rfl
def C14 : List AV → (AV → Prop) → Prop := con (X := List Int) (fun l => [slI l]) (fun l => l.length ≤ 1048576) fun l K => K (slI l)
def C12 : List AV → (AV → Prop) → Prop := con (X := House) (fun h => [enH h]) (fun h => h.bs.length ≤ 1048576) fun h K => K (enH h)
def C18 : List AV → (AV → Prop) → Prop := con (X := List Int) (fun l => [slI l, slI l]) (fun l => l.length ≤ 1048576) fun _ K => K (.bool true)
theorem F18 : FF 63 C18 := by
  refine fitE [] (by simp) Tryz.f63 ⟨rfl, by decide +kernel, by decide +kernel⟩ (fun _ _ _ hk h => hk _ h) ?_
  rintro l K h1 h
  refine ⟨Nat.le_of_ble_eq_true rfl, ?_⟩
  repeat' ((conv => whnf); first | refine vA ?_ | with_reducible first | refine v8 ?_ | refine Sp.mk ?_ ?_ | refine vS ?_ | refine vR ?_ | refine vB ?_ | refine br_nt ?_ | refine br_tt ?_ | refine br_ff ?_ | refine vP ?_ | refine vQ ?_ | refine vT ?_ | refine vF ?_ | refine br_and ?_ | refine br_or ?_ | refine br_d (fun _ => ?_) fun _ => ?_ | refine vM (fun _ => ?_) fun _ => ?_)
  refine Lp.mk ⟨Nat, fun i => [(0, slI l), (1, slI l), (5, .int .i64 i)], fun i => [], fun i => i ≤ l.length, fun i => l.length - i, ⟨0, Nat.zero_le _, ⟨⟨[], [], rfl, rfl, ?_, ?_⟩⟩⟩, ?_⟩
  · repeat' ((conv => whnf); first | with_reducible exact True.intro | exact vW | with_reducible refine And.intro ?_ ?_)
  · repeat' ((conv => whnf); first | with_reducible exact True.intro | exact vW | with_reducible refine And.intro ?_ ?_)
  intro i i1
  dsimp only
  repeat' ((conv => whnf); first | refine vA ?_ | with_reducible first | refine v8 ?_ | refine Sp.mk ?_ ?_ | refine vS ?_ | refine vR ?_ | refine vB ?_ | refine br_nt ?_ | refine br_tt ?_ | refine br_ff ?_ | refine vP ?_ | refine vQ ?_ | refine vT ?_ | refine vF ?_ | refine br_and ?_ | refine br_or ?_ | refine br_d (fun _ => ?_) fun _ => ?_ | refine vM (fun _ => ?_) fun _ => ?_)
  · refine Dr.mk ⟨(.rd 0 (.rd 1 (.rd 2 (.rd 3 (.rd 4 (.rd 5 (.rd 6 (.rd 7 (.rd 8 .dn))))))))), by decide +kernel, ?_⟩
    repeat' ((conv => whnf); first | refine vA ?_ | with_reducible first | refine v8 ?_ | refine Sp.mk ?_ ?_ | refine vS ?_ | refine vR ?_ | refine vB ?_ | refine br_nt ?_ | refine br_tt ?_ | refine br_ff ?_ | refine vP ?_ | refine vQ ?_ | refine vT ?_ | refine vF ?_ | refine br_and ?_ | refine br_or ?_ | refine br_d (fun _ => ?_) fun _ => ?_ | refine vM (fun _ => ?_) fun _ => ?_)
    refine ⟨i + 1, by show i + 1 ≤ l.length; omega, by show l.length - (i + 1) < l.length - i; omega, ⟨⟨[], [], rfl, rfl, ?_, ?_⟩⟩⟩
    · repeat' ((conv => whnf); first | with_reducible exact True.intro | exact vW | with_reducible refine And.intro ?_ ?_)
    · repeat' ((conv => whnf); first | with_reducible exact True.intro | exact vW | with_reducible refine And.intro ?_ ?_)
  · exact h
def C16 : List AV → (AV → Prop) → Prop := con (X := House) (fun h => [enH h, enH h]) (fun h => h.bs.length ≤ 1048576) fun _ K => K (.bool true)
theorem F16 : FF 38 C16 := by
  refine fitE [(63, C18)] (by simp only [List.mem_cons, List.not_mem_nil, or_false]; rintro _ rfl <;> first | exact F18) Tryz.f38 ⟨rfl, by decide +kernel, by decide +kernel⟩ (fun _ _ _ hk h => hk _ h) ?_
  rintro ⟨p, bs⟩ K h1 h
  refine ⟨Nat.le_of_ble_eq_true rfl, ?_⟩
  dsimp only at h1 h ⊢
  repeat' ((conv => whnf); first | refine vA ?_ | with_reducible first | refine v8 ?_ | refine Sp.mk ?_ ?_ | refine vS ?_ | refine vR ?_ | refine vB ?_ | refine br_nt ?_ | refine br_tt ?_ | refine br_ff ?_ | refine vP ?_ | refine vQ ?_ | refine vT ?_ | refine vF ?_ | refine br_and ?_ | refine br_or ?_ | refine br_d (fun _ => ?_) fun _ => ?_ | refine vM (fun _ => ?_) fun _ => ?_)
  refine ⟨bs, ?_, ⟨h1⟩, ?_⟩
  · repeat' ((conv => whnf); first | with_reducible exact True.intro | exact vW | with_reducible refine And.intro ?_ ?_)
  repeat' ((conv => whnf); first | refine vA ?_ | with_reducible first | refine v8 ?_ | refine Sp.mk ?_ ?_ | refine vS ?_ | refine vR ?_ | refine vB ?_ | refine br_nt ?_ | refine br_tt ?_ | refine br_ff ?_ | refine vP ?_ | refine vQ ?_ | refine vT ?_ | refine vF ?_ | refine br_and ?_ | refine br_or ?_ | refine br_d (fun _ => ?_) fun _ => ?_ | refine vM (fun _ => ?_) fun _ => ?_)
  exact h
end Go.Proofs.YtahfdkdneojkmaaGreatDoor.Vc
end
section
/- Part TH: desks; the laws' copies and comparisons of places and desks. -/
namespace Go.Proofs.YtahfdkdneojkmaaGreatDoor.Vc
open Go.Proofs
set_option maxRecDepth 10000
set_option maxHeartbeats 4000000
structure Desk where
  now : Place
  past : List Place
  deriving Inhabited
abbrev slP (l : List Place) : AV := .sl 3 l.length fun i => plC (l.getD i default)
def deC (d : Desk) : List AV := [.int .i64 d.now.p, slI d.now.bs, slS d.now.rules, slP d.past]
def enDe (d : Desk) : AV := .agg (deC d)
def deskI (d : Desk) : Prop := placeI d.now ∧ d.past.length < 9223372036854775808 ∧ ∀ p ∈ d.past, placeI p
abbrev deskOk (d : Desk) : Prop := placeOk d.now ∧ d.past.length ≤ 8 ∧ ∀ p ∈ d.past, placeOk p
def C180 : List AV → (AV → Prop) → Prop := con (X := Place) (fun x => [enPl x]) placeI fun x K => K (.bool (!decide (placeOk x)))
def placesI (l : List Place) : Prop := l.length < 9223372036854775808 ∧ ∀ p ∈ l, placeI p
def C159 : List AV → (AV → Prop) → Prop := con (X := Desk) (fun d => [enDe d]) deskI fun d K => K (.bool (decide (deskOk d)))
def C136 := C159
def C139 := C159
end Go.Proofs.YtahfdkdneojkmaaGreatDoor.Vc
end
section
/- Part OP: places and desks that come in, opened. -/
namespace Go.Proofs.YtahfdkdneojkmaaGreatDoor.Vc
open Go.Proofs Go.ChangeShapes Go.WideShapes Go.ChangeAt Go.RowKit
theorem i64_wf {n : Int} (h : (Lit.int .i64 n).wf = true) : i64r n := by
  simp only [Lit.wf, Bool.and_eq_true, decide_eq_true_eq] at h
  exact h
def Rw0 (w : World) : Nat → Prop := fun b => b < w.heap.size
theorem cell_lt {w : World} {a : Addr} {v : Value} (h : w.cell? a = some v) : a.block < w.heap.size := by
  unfold World.cell? at h
  rcases Nat.lt_or_ge a.block w.heap.size with h1 | h1
  · exact h1
  · rw [Array.getElem?_eq_none h1] at h; cases h
theorem choose_lt' {α : Type} [Inhabited α] {n : Nat} {p : Nat → α → Prop} (h : ∀ i, i < n → ∃ y, p i y) : ∃ l : List α, l.length = n ∧ ∀ i, i < n → p i (l.getD i default) := by
  induction n with
  | zero => exact ⟨[], rfl, fun i hi => absurd hi (Nat.not_lt_zero _)⟩
  | succ n ih =>
    obtain ⟨l, h1, h2⟩ := ih fun i hi => h i (by omega)
    obtain ⟨y, hy⟩ := h n (by omega)
    refine ⟨l ++ [y], by simp [h1], fun i hi => ?_⟩
    by_cases hin : i < n
    · have := h2 i hin
      rwa [List.getD_eq_getElem?_getD, List.getElem?_append_left (by omega), ← List.getD_eq_getElem?_getD]
    · have : i = n := by omega
      subst this
      rw [List.getD_eq_getElem?_getD, List.getElem?_append_right (by omega), h1]
      simpa using hy
section
variable (P : Program)
def IsInts (t : TypeId) : Prop := P.cellsOf t = 1 ∧ ∃ e, P.underlying t = some (.slice e) ∧ P.underlying e = some (.int .i64) ∧ P.cellsOf e = 1
def IsStrs (t : TypeId) : Prop := P.cellsOf t = 1 ∧ ∃ e, P.underlying t = some (.slice e) ∧ P.underlying e = some .string ∧ P.cellsOf e = 1
def IsHouse (t : TypeId) : Prop := P.cellsOf t = 2 ∧ ∃ f0 f1, P.underlying t = some (.struct #[f0, f1]) ∧ f0.offset = 0 ∧ f1.offset = 1 ∧ P.underlying f0.type = some (.int .i64) ∧ P.cellsOf f0.type = 1 ∧ IsInts P f1.type
def IsPlace (t : TypeId) : Prop := P.cellsOf t = 3 ∧ ∃ f0 f1, P.underlying t = some (.struct #[f0, f1]) ∧ f0.offset = 0 ∧ f1.offset = 2 ∧ IsHouse P f0.type ∧ IsStrs P f1.type
def IsPlaces (t : TypeId) : Prop := P.cellsOf t = 1 ∧ ∃ e, P.underlying t = some (.slice e) ∧ IsPlace P e
def IsDesk (t : TypeId) : Prop := P.cellsOf t = 4 ∧ ∃ f0 f1, P.underlying t = some (.struct #[f0, f1]) ∧ f0.offset = 0 ∧ f1.offset = 3 ∧ IsPlace P f0.type ∧ IsPlaces P f1.type
end
/-- Cells and what they are. -/
def DRL (w : World) (l : List AV) (cs : List Value) : Prop := cs.length = l.length ∧ ∀ j, j < l.length → DR (Rw0 w) w (l.getD j .undef) (cs.getD j Go.undef)
section
variable {H : Type} {enc : TypeId × Value → H} {P : Program} {w : World} {spare : Nat → Bool} {held : Bool}
theorem take_len {α : Type} {l : List α} {n : Nat} (h : n ≤ l.length) : (l.take n).length = n := by rw [List.length_take]; omega
theorem op_ints {t : TypeId} {fuel : Nat} {v : Value} {x : DataW H × List MemPlace} (hT : IsInts P t) (h : DataW.trod enc P w 0 spare held fuel t [v] = some x) :
    ∃ l : List Int, DR (Rw0 w) w (slI l) v ∧ (∀ n ∈ l, i64r n) ∧ l.length < 9223372036854775808 := by
  obtain ⟨_, e, ht, he, hc⟩ := hT
  rcases open_ints ht he hc h with ⟨hcs, _⟩ | ⟨a, len, cap, zs, hcs, _, hl, hm, hz, _, hcell, hw⟩
  · simp only [List.cons.injEq, and_true] at hcs
    subst hcs
    exact ⟨[], .sl0 _ _ _ _, fun n hn => (by cases hn), by decide⟩
  · simp only [List.cons.injEq, and_true] at hcs
    subst hcs
    have hlz : len ≤ zs.length := by rw [hz]; split <;> omega
    have hln := take_len hlz
    refine ⟨zs.take len, ?_, fun n hn => i64_wf (hw n (List.mem_of_mem_take hn)), by rw [hln]; have : maxLen = 9223372036854775807 := rfl; omega⟩
    show DR (Rw0 w) w (.sl 1 (zs.take len).length fun i => encI ((zs.take len).getD i 0)) _
    rw [hln]
    rcases Nat.eq_zero_or_pos len with rfl | hpos
    · exact .sl0 _ _ _ _
    have h0 := hcell 0 (by omega)
    have hb := cell_lt h0
    rw [add_block] at hb
    refine .sl 1 len _ a cap (fun i _ => .int .i64 (zs.getD i 0)) hl hb (fun i hi => rfl) (fun i hi j hj => ?_) (fun i hi j hj => ?_)
    · have : j = 0 := by omega
      subst this
      rw [Nat.mul_one, Nat.add_zero]
      exact hcell i (by omega)
    · have : j = 0 := by omega
      subst this
      have e : (zs.take len).getD i 0 = zs.getD i 0 := by
        simp only [List.getD_eq_getElem?_getD]
        rw [List.getElem?_take_of_lt hi]
      show DR _ _ (.int .i64 ((zs.take len).getD i 0)) _
      rw [e]
      exact .int _ _
theorem op_strs {t : TypeId} {fuel : Nat} {v : Value} {x : DataW H × List MemPlace} (hT : IsStrs P t) (h : DataW.trod enc P w 0 spare held fuel t [v] = some x) :
    ∃ l : List ByteArray, DR (Rw0 w) w (slS l) v ∧ (∀ r ∈ l, r.size < 9223372036854775808) ∧ l.length < 9223372036854775808 := by
  obtain ⟨_, e, ht, he, hc⟩ := hT
  rcases open_strings ht he hc h with ⟨hcs, _⟩ | ⟨a, len, cap, zs, hcs, _, hl, hm, hz, _, hcell, hw⟩
  · simp only [List.cons.injEq, and_true] at hcs
    subst hcs
    exact ⟨[], .sl0 _ _ _ _, fun n hn => (by cases hn), by decide⟩
  · simp only [List.cons.injEq, and_true] at hcs
    subst hcs
    have hmx : maxLen = 9223372036854775807 := rfl
    have hlz : len ≤ zs.length := by rw [hz]; split <;> omega
    have hln := take_len hlz
    refine ⟨zs.take len, ?_, fun n hn => by have := hw n (List.mem_of_mem_take hn); omega, by rw [hln]; omega⟩
    show DR (Rw0 w) w (.sl 1 (zs.take len).length fun i => encS ((zs.take len).getD i ⟨#[]⟩)) _
    rw [hln]
    rcases Nat.eq_zero_or_pos len with rfl | hpos
    · exact .sl0 _ _ _ _
    have h0 := hcell 0 (by omega)
    have hb := cell_lt h0
    rw [add_block] at hb
    refine .sl 1 len _ a cap (fun i _ => .string (zs.getD i ByteArray.empty)) hl hb (fun i hi => rfl) (fun i hi j hj => ?_) (fun i hi j hj => ?_)
    · have : j = 0 := by omega
      subst this
      rw [Nat.mul_one, Nat.add_zero]
      exact hcell i (by omega)
    · have : j = 0 := by omega
      subst this
      have e : (zs.take len).getD i ⟨#[]⟩ = zs.getD i ByteArray.empty := by
        simp only [List.getD_eq_getElem?_getD]
        rw [List.getElem?_take_of_lt hi, List.getElem?_eq_getElem (by omega)]
        rfl
      show DR _ _ (.str ((zs.take len).getD i ⟨#[]⟩)) _
      rw [e]
      exact .str _
theorem op_houseC {t : TypeId} {fuel : Nat} {cs : List Value} {x : DataW H × List MemPlace} (hT : IsHouse P t) (h : DataW.trod enc P w 0 spare held fuel t cs = some x) : ∃ h : House, DRL w [.int .i64 h.p, slI h.bs] cs ∧ houI h := by
  obtain ⟨ce, f0, f1, ht, o0, o1, k0, c0, k1⟩ := hT
  obtain ⟨y0, y1, n, _, hl, g0, g1⟩ := trod_struct2 ht h
  rw [ce] at hl
  match cs, hl with
  | [v0, v1], _ =>
    simp [o0, o1, c0, k1.1] at g0 g1
    obtain ⟨p, e1, _, w0⟩ := DataW.trod_int k0 g0
    simp only [List.cons.injEq, and_true] at e1
    subst e1
    obtain ⟨l, q1, q2, q3⟩ := op_ints k1 g1
    refine ⟨⟨p, l⟩, ⟨rfl, fun j hj => ?_⟩, ⟨i64_wf w0, q2⟩, q3⟩
    match j, hj with
    | 0, _ => exact .int _ _
    | 1, _ => exact q1
theorem op_placeC {t : TypeId} {fuel : Nat} {cs : List Value} {x : DataW H × List MemPlace} (hT : IsPlace P t) (h : DataW.trod enc P w 0 spare held fuel t cs = some x) : ∃ x : Place, DRL w (plC x) cs ∧ placeI x := by
  obtain ⟨ce, f0, f1, ht, o0, o1, k0, k1⟩ := hT
  obtain ⟨y0, y1, n, _, hl, g0, g1⟩ := trod_struct2 ht h
  rw [ce] at hl
  match cs, hl with
  | [v0, v1, v2], _ =>
    simp [o0, o1, k0.1, k1.1] at g0 g1
    obtain ⟨hh, q1, q2⟩ := op_houseC k0 g0
    obtain ⟨l, r1, r2, r3⟩ := op_strs k1 g1
    refine ⟨⟨hh.p, hh.bs, l⟩, ⟨rfl, fun j hj => ?_⟩, q2, r3, r2⟩
    match j, hj with
    | 0, _ => exact q1.2 0 (by simp)
    | 1, _ => exact q1.2 1 (by simp)
    | 2, _ => exact r1
theorem op_places {t : TypeId} {fuel : Nat} {v : Value} {x : DataW H × List MemPlace} (hT : IsPlaces P t) (h : DataW.trod enc P w 0 spare held fuel t [v] = some x) : ∃ l : List Place, DR (Rw0 w) w (slP l) v ∧ placesI l := by
  obtain ⟨_, e, ht, hE⟩ := hT
  rcases DataW.trod_slice ht h with ⟨hcs, _⟩ | ⟨a, len, cap, elems, rest, n, _, hcs, _, _, hl, hm, hel, hx, _, _⟩
  · simp only [List.cons.injEq, and_true] at hcs
    subst hcs
    exact ⟨[], .sl0 _ _ _ _, by decide, fun n hn => (by cases hn)⟩
  · simp only [List.cons.injEq, and_true] at hcs
    subst hcs
    rw [hE.1] at hx
    have each : ∀ i, i < len → ∃ m : Place, placeI m ∧ ∃ cs : List Value, DRL w (plC m) cs ∧ ∀ j, j < 3 → w.cell? (a.add (i * 3 + j)) = some (cs.getD j Go.undef) := by
      intro i hi
      have h1 := hx i hi
      rw [List.getElem?_eq_getElem (by omega), Option.bind_eq_some_iff] at h1
      obtain ⟨cs, h2, h3⟩ := h1
      obtain ⟨_, hlen, hcell⟩ := World.cells?_some h2
      obtain ⟨m, q, hmi⟩ := op_placeC hE h3
      refine ⟨m, hmi, cs, q, fun j hj => ?_⟩
      have := hcell j hj
      rw [add_add] at this
      have hj' : j < cs.length := by rw [q.1]; exact hj
      rw [this, List.getD_eq_getElem?_getD, List.getElem?_eq_getElem hj']
      rfl
    obtain ⟨l, h1, h2⟩ := choose_lt' each
    subst h1
    refine ⟨l, ?_, by have : maxLen = 9223372036854775807 := rfl; omega, all_of_getD (d := default) fun i hi => (h2 i hi).1⟩
    rcases Nat.eq_zero_or_pos l.length with h0 | hpos
    · show DR _ _ (.sl 3 l.length _) (.slice _ l.length _)
      rw [h0]
      exact .sl0 _ _ _ _
    obtain ⟨cs0, _, hc0⟩ := (h2 0 hpos).2
    have hb := cell_lt (hc0 0 (by decide))
    rw [add_block] at hb
    have h3 : ∀ i, i < l.length → ∃ cs : List Value, DRL w (plC (l.getD i default)) cs ∧ ∀ j, j < 3 → w.cell? (a.add (i * 3 + j)) = some (cs.getD j Go.undef) := fun i hi => (h2 i hi).2
    refine .sl 3 l.length _ a cap (fun i j => (w.cell? (a.add (i * 3 + j))).getD Go.undef) hl hb (fun i hi => rfl) (fun i hi j hj => ?_) (fun i hi j hj => ?_)
    · obtain ⟨cs, _, hc⟩ := h3 i hi
      rw [hc j hj]; rfl
    · obtain ⟨cs, hd, hc⟩ := h3 i hi
      rw [hc j hj]
      exact hd.2 j hj
theorem op_deskC {t : TypeId} {fuel : Nat} {cs : List Value} {x : DataW H × List MemPlace} (hT : IsDesk P t) (h : DataW.trod enc P w 0 spare held fuel t cs = some x) : ∃ d : Desk, DRL w (deC d) cs ∧ deskI d := by
  obtain ⟨ce, f0, f1, ht, o0, o1, k0, k1⟩ := hT
  obtain ⟨y0, y1, n, _, hl, g0, g1⟩ := trod_struct2 ht h
  rw [ce] at hl
  match cs, hl with
  | [v0, v1, v2, v3], _ =>
    simp [o0, o1, k0.1, k1.1] at g0 g1
    obtain ⟨p, q1, q2⟩ := op_placeC k0 g0
    obtain ⟨l, r1, r2⟩ := op_places k1 g1
    refine ⟨⟨p, l⟩, ⟨rfl, fun j hj => ?_⟩, q2, r2⟩
    match j, hj with
    | 0, _ => exact q1.2 0 (by simp [plC])
    | 1, _ => exact q1.2 1 (by simp [plC])
    | 2, _ => exact q1.2 2 (by simp [plC])
    | 3, _ => exact r1
theorem DRL.pv {l : List AV} {cs : Array Value} (h : DRL w l cs.toList) : PV (Rw0 w) w (.agg l) (.agg cs) := .agg _ _ (by simpa using h.1) fun j hj => by
  have := h.2 j hj
  rw [List.getD_eq_getElem?_getD (l := cs.toList), Array.getElem?_toList, ← Array.getD_eq_getD_getElem?] at this
  exact .data this
theorem op_place {t : TypeId} {v : Value} {d : DataW H} {ps : List MemPlace} {r : Reach} {b0 : Nat} (hT : IsPlace P t) (hv : Value.okWide P w r b0 t v) (h : DataW.Trod enc P w 0 spare held t v d ps) : ∃ x : Place, PV (Rw0 w) w (enPl x) v ∧ placeI x := by
  obtain ⟨_, f0, f1, ht, _⟩ := id hT
  obtain ⟨cs, rfl, hcs⟩ := okWide_struct ht hv
  obtain ⟨fuel, hf⟩ := h
  obtain ⟨x, h1, h2⟩ := op_placeC hT hf
  exact ⟨x, DRL.pv h1, h2⟩
theorem op_desk {t : TypeId} {v : Value} {d : DataW H} {ps : List MemPlace} {r : Reach} {b0 : Nat} (hT : IsDesk P t) (hv : Value.okWide P w r b0 t v) (h : DataW.Trod enc P w 0 spare held t v d ps) : ∃ x : Desk, PV (Rw0 w) w (enDe x) v ∧ deskI x := by
  obtain ⟨_, f0, f1, ht, _⟩ := id hT
  obtain ⟨cs, rfl, hcs⟩ := okWide_struct ht hv
  obtain ⟨fuel, hf⟩ := h
  obtain ⟨x, h1, h2⟩ := op_deskC hT hf
  exact ⟨x, DRL.pv h1, h2⟩
end
end Go.Proofs.YtahfdkdneojkmaaGreatDoor.Vc
end
section
/- Part RK: rows of a door seat: what the listed tables give. -/
namespace Go.Proofs.YtahfdkdneojkmaaGreatDoor.Vc
open Go.Proofs Go.ChangeShapes Go.WideShapes Go.ChangeAt Go.RowKit Go.Proofs.YtahfdkdneojkmaaGreatDoor
theorem own : ownKnob Tryz.prog.godebug = none := by kernel_rfl
theorem laidOut : laidOutB Tryz.prog = true := by kernel_rfl
/-- A contract, as a call of ours that leaves all that was there. -/
theorem FF.below {f : FuncId} {C : List AV → (AV → Prop) → Prop} (hF : FF f C) {us : List AV} {b : Bool} (h : C us fun r => r = .bool b) {w : World} (hw : Good w) {xs : Array Value} (ha : ArgsV (Rw0 w) w us xs) :
    Calls Tryz.prog f xs w fun e w' => e = .returned (.bool b) ∧ Below w.heap.size w w' := by
  let Gl : List (Nat × Go.Obj) := (List.range w.heap.size).filterMap fun g => (w.heap[g]?).map fun ob => (g, ob)
  have hin : ∀ (g : Nat) (ob : Go.Obj), w.heap[g]? = some ob → (g, ob) ∈ Gl := fun g ob ho => List.mem_filterMap.2 ⟨g, List.mem_range.2 (Array.getElem?_eq_some_iff.1 ho).1, by rw [ho]; rfl⟩
  have hG : GOk Gl := fun w' h' => hw.ext fun g ob ho => h' _ (hin g ob ho)
  have hb : ∀ p, p ∈ Gl → w.heap[p.1]? = some p.2 := fun p hp => by
    obtain ⟨g, _, hg⟩ := List.mem_filterMap.1 hp
    obtain ⟨ob, ho, rfl⟩ := Option.map_eq_some_iff.1 hg
    exact ho
  exact ((hF _ hG).ok us _ h (Rw0 w) w xs ⟨fun _ h => h, fun p hp => ⟨(Array.getElem?_eq_some_iff.1 (hb p hp)).1, hb p hp⟩⟩ ha).mono fun e w' he => by
    obtain ⟨r, x, R', rfl, rfl, hv, hA⟩ := he
    cases hv with
    | data hd => cases hd; exact ⟨rfl, hA.os, hA.tape, hA.output, hA.size, hA.same⟩
section
variable {H : Type} {enc : TypeId × Value → H} {P : Program} {w : World} {spare : Nat → Bool} {held : Bool} {R : Nat → Prop}
theorem op_int {t : TypeId} {v : Value} {d : DataW H} {ps : List MemPlace} {r : Reach} {b0 : Nat} (ht : P.underlying t = some (.int .i64)) (hv : Value.okWide P w r b0 t v) (h : DataW.Trod enc P w 0 spare held t v d ps) : ∃ n : Int, v = .int .i64 n ∧ i64r n := by
  obtain ⟨n, rfl⟩ := okWide_int ht hv
  obtain ⟨fuel, hf⟩ := h
  obtain ⟨m, e1, _, w0⟩ := DataW.trod_int ht hf
  have e2 : (Value.int .i64 n).cells.toList = [.int .i64 n] := rfl
  rw [e2] at e1
  cases e1
  exact ⟨n, rfl, i64_wf w0⟩
theorem u8_wf {n : Int} (h : (Lit.int .u8 n).wf = true) : u8r n := by
  simp only [Lit.wf, Bool.and_eq_true, decide_eq_true_eq] at h
  obtain ⟨h1, h2⟩ := h
  have e1 : IntKind.u8.min = 0 := by decide
  have e2 : IntKind.u8.max = 255 := by decide
  unfold u8r
  omega
theorem op_bytes {t e : TypeId} {fuel : Nat} {v : Value} {x : DataW H × List MemPlace} (ht : P.underlying t = some (.slice e)) (he : P.underlying e = some (.int .u8)) (hc : P.cellsOf e = 1) (h : DataW.trod enc P w 0 spare held fuel t [v] = some x) :
    ∃ l : List Int, DR (Rw0 w) w (slB l) v ∧ (∀ n ∈ l, u8r n) ∧ l.length < 9223372036854775808 := by
  rcases open_ints ht he hc h with ⟨hcs, _⟩ | ⟨a, len, cap, zs, hcs, _, hl, hm, hz, _, hcell, hw⟩
  · simp only [List.cons.injEq, and_true] at hcs
    subst hcs
    exact ⟨[], .sl0 _ _ _ _, fun n hn => (by cases hn), by decide⟩
  · simp only [List.cons.injEq, and_true] at hcs
    subst hcs
    have hlz : len ≤ zs.length := by rw [hz]; split <;> omega
    have hln := take_len hlz
    refine ⟨zs.take len, ?_, fun n hn => u8_wf (hw n (List.mem_of_mem_take hn)), by rw [hln]; have : maxLen = 9223372036854775807 := rfl; omega⟩
    show DR (Rw0 w) w (.sl 1 (zs.take len).length fun i => [.int .u8 ((zs.take len).getD i 0)]) _
    rw [hln]
    rcases Nat.eq_zero_or_pos len with rfl | hpos
    · exact .sl0 _ _ _ _
    have h0 := hcell 0 (by omega)
    have hb := cell_lt h0
    rw [add_block] at hb
    refine .sl 1 len _ a cap (fun i _ => .int .u8 (zs.getD i 0)) hl hb (fun i hi => rfl) (fun i hi j hj => ?_) (fun i hi j hj => ?_)
    · have : j = 0 := by omega
      subst this
      rw [Nat.mul_one, Nat.add_zero]
      exact hcell i (by omega)
    · have : j = 0 := by omega
      subst this
      have e : (zs.take len).getD i 0 = zs.getD i 0 := by
        simp only [List.getD_eq_getElem?_getD]
        rw [List.getElem?_take_of_lt hi]
      show DR _ _ (.int .u8 ((zs.take len).getD i 0)) _
      rw [e]
      exact .int _ _
end
end Go.Proofs.YtahfdkdneojkmaaGreatDoor.Vc
end
section
/- Part RL: rows of a door seat: what the world's shape and the listed variables give. -/
namespace Go.Proofs.YtahfdkdneojkmaaGreatDoor.Vc
open Go.Proofs Go.ChangeShapes Go.WideShapes Go.ChangeAt Go.RowKit
set_option maxRecDepth 100000
theorem var_of {P : Program} {w : World} {n : String} {g : Nat} {cs : Array Value} {t : TypeId} {fr : Nat × Nat} (hg : P.globalNamed n = some g) (hh : w.heap[g]? = some (.cells cs t fr)) : w.var? P n = some cs := by
  unfold World.var?
  rw [hg]
  simp only [Option.bind_some]
  rw [hh]
theorem hold_len {w : World} {g : Nat} {t : TypeId} {zero : Array Value} (hs : w.ShapedOpen Tryz.prog) (hg : Tryz.prog.globalNamed "internal/bytealg.MaxLen" = some g) (hlt : g < Tryz.prog.globals.size)
    (h0 : ((begin Tryz.prog (fun _ _ => 0) default).world.heap[g]?).bind Go.Obj.row? = some (zero, t)) (hz : zero.size = 1) (hb : Tryz.prog.buildable t = true) (hc : Tryz.prog.cellTypes Tryz.prog.depth t = some [t]) (hu : Tryz.prog.underlying t = some (.int .i64)) : Hold "internal/bytealg.MaxLen" oneInt w := by
  obtain ⟨m, hm⟩ := cell_of_shapedOpen_int hs hlt h0 hz hb hc hu
  obtain ⟨cs, hh, hsz, _⟩ := hs.1 g zero t hlt h0
  have h1 : 0 < cs.size := by omega
  have hcell : w.cell? ⟨g, 0, none⟩ = some cs[0] := by simp [World.cell?, hh, h1]
  rw [hcell] at hm
  have e : cs = #[.int .i64 m] := by
    apply Array.ext
    · simp; omega
    · intro i h2 h3
      obtain rfl : i = 0 := by omega
      exact Option.some.inj hm
  exact .inr ⟨cs, var_of hg hh, m, e⟩
theorem star : "*" ++ "errors.errorString" = "*errors.errorString" := by decide
theorem hold_err {W : World} {n : String} {g : Nat} {text : List UInt8} {r : List (String × DataW Unit)} {ti tp te ts : TypeId} {ms : Array (String × TypeId)} {f : Field}
    (h : laidMet Tryz.prog ((n, .iface "*errors.errorString" (.ptr (.agg [.lit (.string text)]))) :: r) W)
    (hg : Tryz.prog.globalNamed n = some g) (ht : (Tryz.prog.globals[g]?).map (·.type) = some ti) (hi : Tryz.prog.underlying ti = some (.interface ms))
    (hrows : ((List.range Tryz.prog.types.size).all fun u => Tryz.prog.typeName? 3 u != some ("*" ++ "errors.errorString") || u == tp) = true)
    (hnamed : ((List.range Tryz.prog.types.size).all fun e => Tryz.prog.typeName? 2 e != some "errors.errorString" || (match (Tryz.prog.info? e).map (·.desc) with | some (TypeDesc.named _ _) => true | _ => false)) = true)
    (hp : Tryz.prog.underlying tp = some (.pointer te)) (he : Tryz.prog.underlying te = some (.struct #[f])) (hft : f.type = ts) (hfo : f.offset = 0) (hs : Tryz.prog.underlying ts = some .string) (hc : Tryz.prog.cellsOf te = 1) (hcs : Tryz.prog.cellsOf ts = 1) : Hold n oneErr W := by
  obtain ⟨a, s, hv, _⟩ := laid_sentinel h hg ht hi (fun u hu => typeName_ptr_named (nm := "errors.errorString") hrows hnamed (by decide) u (by rw [star]; exact hu)) hp he hft hfo hs hc hcs
  exact .inr ⟨_, hv, _, _, rfl⟩
/-- A law's row by a contract that may look at the world's shape. -/
theorem returns_and_shaped {H : Type} {enc : TypeId × Value → H} {a : Assume} {C : Checked} {os : Os} {f : FuncId} {fn : Func} {s : ChangeSpec} {conds : List PathCond} {apart fresh handsOn again : Bool} {X : World → Array Value → Prop}
    (hX : ∀ (w w' : World) (args : Array Value), w.heap = w'.heap → X w args → X w' args)
    (own : ownKnob C.prog.godebug = none) (started : os.Started) (noInit : C.prog.inits.idxOf? f = none) (hfn : C.prog.funcs[f]? = some fn)
    (witness : ∃ (w : World) (tape : Tape) (i : Input), w.os = os ∧ (w.forCall tape i).Shaped C.prog ∧ i.vars = [] ∧ Input.okWide C.prog (w.forCall tape i) .any w.heap.size f i ∧
      ((s.pre enc C.prog fn conds apart (w.forCall tape i).memory i.args ∧ X (w.forCall tape i).memory i.args) ∧ sizedMet enc C.prog fn (OpenSpec.ofChange s) apart (w.forCall tape i).memory i.args) ∧ a.holds C.prog (lone (Frame.enter C.prog f i.args .normal) [] (w.forCall tape i)))
    (contract : ∀ (W : World) (base : Nat) (args : Array Value) (ds gs : List (DataW H)) (before : List MemPlace),
      (∀ (j : Nat) t v, fn.params[j]? = some t → args[j]? = some v → Value.okWide C.prog W .any base t v) →
      DataW.Whole enc C.prog fn.params.toList s.vars apart W args.toList ds gs before →
      W.ShapedOpen C.prog → X W args →
      Calls C.prog f args W fun e W' => ∃ v, e = .returned v ∧ s.post enc C.prog fn apart fresh handsOn again W args v W') :
    ReturnsInHanded a C os f .any (fun w args => (s.pre enc C.prog fn conds apart w args ∧ X w args) ∧ sizedMet enc C.prog fn (OpenSpec.ofChange s) apart w args) (s.post enc C.prog fn apart fresh handsOn again) := by
  refine returnsInHanded_of_calls own started noInit witness ?_
  intro w tape i _ hsh _ hok hpre _
  obtain ⟨_, _, _, fn', hfn', _, _, _, _, hval⟩ := hok
  have e : fn' = fn := Option.some.inj (hfn'.symm.trans hfn)
  subst e
  obtain ⟨⟨⟨ds, gs, before, hw, hc⟩, hx⟩, hz⟩ := hpre
  have hw' := DataW.Whole.of_heap (w' := w.forCall tape i) (by rfl) hw
  refine (contract (w.forCall tape i) w.heap.size i.args ds gs before hval hw' hsh (hX _ _ _ (by rfl) hx)).mono fun e W' ⟨v, he, hp⟩ => ?_
  subst he
  exact ChangeSpec.post_blind hp
end Go.Proofs.YtahfdkdneojkmaaGreatDoor.Vc
end
section
/- Part TI: the laws' sizes, copies and comparisons of places and desks. -/
namespace Go.Proofs.YtahfdkdneojkmaaGreatDoor.Vc
open Go.Proofs
set_option maxRecDepth 10000
set_option maxHeartbeats 4000000
/-! ### Sizes -/
def szpost (n : Int) (B : Prop) (K : AV → Prop) : Prop := ∀ v : Int, -1 ≤ v → v ≤ n → (0 ≤ v → B) → K (.int .i64 v)
def rng (n : Int) : Prop := 0 ≤ n ∧ n ≤ 9223372036854775807
def fitS (n : Int) (l : List ByteArray) : Prop := l.length ≤ n ∧ ∀ r ∈ l, r.size ≤ n
def C154 : List AV → (AV → Prop) → Prop := con (X := List ByteArray × Int) (fun x => [slS x.1, .int .i64 x.2]) (fun x => (x.1.length < 9223372036854775808 ∧ ∀ r ∈ x.1, r.size < 9223372036854775808) ∧ rng x.2) fun x K => szpost x.2 (fitS x.2 x.1) K
def fitPl (n : Int) (x : Place) : Prop := x.bs.length ≤ n ∧ fitS n x.rules
def C128 : List AV → (AV → Prop) → Prop := con (X := Place × Int) (fun x => [enPl x.1, .int .i64 x.2]) (fun x => placeI x.1 ∧ rng x.2) fun x K => szpost x.2 (fitPl x.2 x.1) K
theorem fitS_mono {n m : Int} (h : n ≤ m) {l : List ByteArray} (hl : fitS n l) : fitS m l := ⟨Int.le_trans hl.1 h, fun r hr => Int.le_trans (hl.2 r hr) h⟩
theorem fitPl_mono {n m : Int} (h : n ≤ m) {x : Place} (hl : fitPl n x) : fitPl m x := ⟨Int.le_trans hl.1 h, fitS_mono h hl.2⟩
def fitPs (n : Int) (l : List Place) : Prop := l.length ≤ n ∧ ∀ x ∈ l, fitPl n x
def C162 : List AV → (AV → Prop) → Prop := con (X := List Place × Int) (fun x => [slP x.1, .int .i64 x.2]) (fun x => placesI x.1 ∧ rng x.2) fun x K => szpost x.2 (fitPs x.2 x.1) K
def fitDe (n : Int) (d : Desk) : Prop := fitPl n d.now ∧ fitPs n d.past
def C138 : List AV → (AV → Prop) → Prop := con (X := Desk × Int) (fun x => [enDe x.1, .int .i64 x.2]) (fun x => deskI x.1 ∧ rng x.2) fun x K => szpost x.2 (fitDe x.2 x.1) K
/-! ### Copies -/
def cpG {α : Type} (enc : α → List AV) (d : α) (z : List AV) (l : List α) (i : Nat) : Nat → List AV := fun j => if j < i then enc (l.getD j d) else z
section
variable {α : Type} {enc : α → List AV} {d : α} {z : List AV} {l : List α}
theorem cpG_step {i j : Nat} : cpG enc d z l (i + 1) j = setF (cpG enc d z l i) i (enc (l.getD i d)) j := by
  unfold cpG setF
  cases h : Nat.beq j i with
  | true =>
    obtain rfl := Nat.eq_of_beq_eq_true h
    rw [if_pos (by omega)]; rfl
  | false =>
    have := Nat.ne_of_beq_eq_false h
    simp only [cond_false]
    by_cases hj : j < i
    · rw [if_pos hj, if_pos (by omega)]
    · rw [if_neg hj, if_neg (by omega)]
theorem cpG_at {i : Nat} : cpG enc d z l i i = z := if_neg (Nat.lt_irrefl _)
theorem cpG_end {i : Nat} (h : l.length ≤ i) : ∀ j, j < l.length → cpG enc d z l i (0 + j) = enc (l.getD j d) := fun j hj => by
  rw [Nat.zero_add]
  exact if_pos (by omega)
end
def C155 : List AV → (AV → Prop) → Prop := con (X := List ByteArray) (fun l => [slS l]) (fun l => l.length ≤ 1048576) fun l K => K (slS l)
def okPl (x : Place) : Prop := x.bs.length ≤ 1048576 ∧ x.rules.length ≤ 1048576
def C129 : List AV → (AV → Prop) → Prop := con (X := Place) (fun x => [enPl x]) okPl fun x K => K (enPl x)
def okPs (l : List Place) : Prop := l.length ≤ 1048576 ∧ ∀ x ∈ l, okPl x
def C163 : List AV → (AV → Prop) → Prop := con (X := List Place) (fun l => [slP l]) okPs fun l K => K (slP l)
def okDe (d : Desk) : Prop := okPl d.now ∧ okPs d.past
def C140 : List AV → (AV → Prop) → Prop := con (X := Desk) (fun x => [enDe x]) okDe fun x K => K (enDe x)
/-! ### Comparisons: what is the same is found to be the same -/
def C156 : List AV → (AV → Prop) → Prop := con (X := List ByteArray) (fun l => [slS l, slS l]) (fun l => l.length < 9223372036854775808) fun _ K => K (.bool true)
theorem F156 : FF 39 C156 := by
  refine fitE [] (by simp) Tryz.f39 ⟨rfl, by decide +kernel, by decide +kernel⟩ (fun _ _ _ hk h => hk _ h) ?_
  rintro l K h1 h
  refine ⟨Nat.le_of_ble_eq_true rfl, ?_⟩
  repeat' ((conv => whnf); first | refine vA ?_ | with_reducible first | refine v8 ?_ | refine Sp.mk ?_ ?_ | refine vS ?_ | refine vR ?_ | refine vB ?_ | refine br_nt ?_ | refine br_tt ?_ | refine br_ff ?_ | refine vP ?_ | refine vQ ?_ | refine vT ?_ | refine vF ?_ | refine br_and ?_ | refine br_or ?_ | refine br_d (fun _ => ?_) fun _ => ?_ | refine vM (fun _ => ?_) fun _ => ?_)
  refine Lp.mk ⟨Nat, fun i => [(0, slS l), (1, slS l), (5, .int .i64 i)], fun i => [], fun i => i ≤ l.length, fun i => l.length - i, ⟨0, Nat.zero_le _, ⟨⟨[], [], rfl, rfl, ?_, ?_⟩⟩⟩, ?_⟩
  · repeat' ((conv => whnf); first | with_reducible exact True.intro | exact vW | with_reducible refine And.intro ?_ ?_)
  · repeat' ((conv => whnf); first | with_reducible exact True.intro | exact vW | with_reducible refine And.intro ?_ ?_)
  intro i i1
  dsimp only
  repeat' ((conv => whnf); first | refine vA ?_ | with_reducible first | refine v8 ?_ | refine Sp.mk ?_ ?_ | refine vS ?_ | refine vR ?_ | refine vB ?_ | refine br_nt ?_ | refine br_tt ?_ | refine br_ff ?_ | refine vP ?_ | refine vQ ?_ | refine vT ?_ | refine vF ?_ | refine br_and ?_ | refine br_or ?_ | refine br_d (fun _ => ?_) fun _ => ?_ | refine vM (fun _ => ?_) fun _ => ?_)
  · refine Dr.mk ⟨(.rd 0 (.rd 1 (.rd 2 (.rd 3 (.rd 4 (.rd 5 (.rd 6 (.rd 7 (.rd 8 .dn))))))))), by decide +kernel, ?_⟩
    repeat' ((conv => whnf); first | refine vA ?_ | with_reducible first | refine v8 ?_ | refine Sp.mk ?_ ?_ | refine vS ?_ | refine vR ?_ | refine vB ?_ | refine br_nt ?_ | refine br_tt ?_ | refine br_ff ?_ | refine vP ?_ | refine vQ ?_ | refine vT ?_ | refine vF ?_ | refine br_and ?_ | refine br_or ?_ | refine br_d (fun _ => ?_) fun _ => ?_ | refine vM (fun _ => ?_) fun _ => ?_)
    · refine ⟨i + 1, by omega, by omega, ⟨⟨[], [], rfl, rfl, ?_, ?_⟩⟩⟩
      · repeat' ((conv => whnf); first | with_reducible exact True.intro | exact vW | with_reducible refine And.intro ?_ ?_)
      · repeat' ((conv => whnf); first | with_reducible exact True.intro | exact vW | with_reducible refine And.intro ?_ ?_)
    · rename_i hne
      exact absurd rfl hne
  · exact h
def C161 := C156
theorem F161 : FF 35 C161 := by
  refine fitE [] (by simp) Tryz.f35 ⟨rfl, by decide +kernel, by decide +kernel⟩ (fun _ _ _ hk h => hk _ h) ?_
  rintro l K h1 h
  refine ⟨Nat.le_of_ble_eq_true rfl, ?_⟩
  repeat' ((conv => whnf); first | refine vA ?_ | with_reducible first | refine v8 ?_ | refine Sp.mk ?_ ?_ | refine vS ?_ | refine vR ?_ | refine vB ?_ | refine br_nt ?_ | refine br_tt ?_ | refine br_ff ?_ | refine vP ?_ | refine vQ ?_ | refine vT ?_ | refine vF ?_ | refine br_and ?_ | refine br_or ?_ | refine br_d (fun _ => ?_) fun _ => ?_ | refine vM (fun _ => ?_) fun _ => ?_)
  refine Lp.mk ⟨Nat, fun i => [(0, slS l), (1, slS l), (5, .int .i64 i)], fun i => [], fun i => i ≤ l.length, fun i => l.length - i, ⟨0, Nat.zero_le _, ⟨⟨[], [], rfl, rfl, ?_, ?_⟩⟩⟩, ?_⟩
  · repeat' ((conv => whnf); first | with_reducible exact True.intro | exact vW | with_reducible refine And.intro ?_ ?_)
  · repeat' ((conv => whnf); first | with_reducible exact True.intro | exact vW | with_reducible refine And.intro ?_ ?_)
  intro i i1
  dsimp only
  repeat' ((conv => whnf); first | refine vA ?_ | with_reducible first | refine v8 ?_ | refine Sp.mk ?_ ?_ | refine vS ?_ | refine vR ?_ | refine vB ?_ | refine br_nt ?_ | refine br_tt ?_ | refine br_ff ?_ | refine vP ?_ | refine vQ ?_ | refine vT ?_ | refine vF ?_ | refine br_and ?_ | refine br_or ?_ | refine br_d (fun _ => ?_) fun _ => ?_ | refine vM (fun _ => ?_) fun _ => ?_)
  · refine Dr.mk ⟨(.rd 0 (.rd 1 (.rd 2 (.rd 3 (.rd 4 (.rd 5 (.rd 6 (.rd 7 (.rd 8 .dn))))))))), by decide +kernel, ?_⟩
    repeat' ((conv => whnf); first | refine vA ?_ | with_reducible first | refine v8 ?_ | refine Sp.mk ?_ ?_ | refine vS ?_ | refine vR ?_ | refine vB ?_ | refine br_nt ?_ | refine br_tt ?_ | refine br_ff ?_ | refine vP ?_ | refine vQ ?_ | refine vT ?_ | refine vF ?_ | refine br_and ?_ | refine br_or ?_ | refine br_d (fun _ => ?_) fun _ => ?_ | refine vM (fun _ => ?_) fun _ => ?_)
    · refine ⟨i + 1, by omega, by omega, ⟨⟨[], [], rfl, rfl, ?_, ?_⟩⟩⟩
      · repeat' ((conv => whnf); first | with_reducible exact True.intro | exact vW | with_reducible refine And.intro ?_ ?_)
      · repeat' ((conv => whnf); first | with_reducible exact True.intro | exact vW | with_reducible refine And.intro ?_ ?_)
    · rename_i hne
      exact absurd rfl hne
  · exact h
def C160 : List AV → (AV → Prop) → Prop := con (X := List Int) (fun l => [slI l, slI l]) (fun l => l.length < 9223372036854775808) fun _ K => K (.bool true)
theorem F160 : FF 34 C160 := by
  refine fitE [] (by simp) Tryz.f34 ⟨rfl, by decide +kernel, by decide +kernel⟩ (fun _ _ _ hk h => hk _ h) ?_
  rintro l K h1 h
  refine ⟨Nat.le_of_ble_eq_true rfl, ?_⟩
  repeat' ((conv => whnf); first | refine vA ?_ | with_reducible first | refine v8 ?_ | refine Sp.mk ?_ ?_ | refine vS ?_ | refine vR ?_ | refine vB ?_ | refine br_nt ?_ | refine br_tt ?_ | refine br_ff ?_ | refine vP ?_ | refine vQ ?_ | refine vT ?_ | refine vF ?_ | refine br_and ?_ | refine br_or ?_ | refine br_d (fun _ => ?_) fun _ => ?_ | refine vM (fun _ => ?_) fun _ => ?_)
  refine Lp.mk ⟨Nat, fun i => [(0, slI l), (1, slI l), (5, .int .i64 i)], fun i => [], fun i => i ≤ l.length, fun i => l.length - i, ⟨0, Nat.zero_le _, ⟨⟨[], [], rfl, rfl, ?_, ?_⟩⟩⟩, ?_⟩
  · repeat' ((conv => whnf); first | with_reducible exact True.intro | exact vW | with_reducible refine And.intro ?_ ?_)
  · repeat' ((conv => whnf); first | with_reducible exact True.intro | exact vW | with_reducible refine And.intro ?_ ?_)
  intro i i1
  dsimp only
  repeat' ((conv => whnf); first | refine vA ?_ | with_reducible first | refine v8 ?_ | refine Sp.mk ?_ ?_ | refine vS ?_ | refine vR ?_ | refine vB ?_ | refine br_nt ?_ | refine br_tt ?_ | refine br_ff ?_ | refine vP ?_ | refine vQ ?_ | refine vT ?_ | refine vF ?_ | refine br_and ?_ | refine br_or ?_ | refine br_d (fun _ => ?_) fun _ => ?_ | refine vM (fun _ => ?_) fun _ => ?_)
  · refine Dr.mk ⟨(.rd 0 (.rd 1 (.rd 2 (.rd 3 (.rd 4 (.rd 5 (.rd 6 (.rd 7 (.rd 8 .dn))))))))), by decide +kernel, ?_⟩
    repeat' ((conv => whnf); first | refine vA ?_ | with_reducible first | refine v8 ?_ | refine Sp.mk ?_ ?_ | refine vS ?_ | refine vR ?_ | refine vB ?_ | refine br_nt ?_ | refine br_tt ?_ | refine br_ff ?_ | refine vP ?_ | refine vQ ?_ | refine vT ?_ | refine vF ?_ | refine br_and ?_ | refine br_or ?_ | refine br_d (fun _ => ?_) fun _ => ?_ | refine vM (fun _ => ?_) fun _ => ?_)
    · refine ⟨i + 1, by omega, by omega, ⟨⟨[], [], rfl, rfl, ?_, ?_⟩⟩⟩
      · repeat' ((conv => whnf); first | with_reducible exact True.intro | exact vW | with_reducible refine And.intro ?_ ?_)
      · repeat' ((conv => whnf); first | with_reducible exact True.intro | exact vW | with_reducible refine And.intro ?_ ?_)
  · exact h
def lenI (x : Place) : Prop := x.bs.length ≤ 1048576 ∧ x.rules.length < 9223372036854775808
def C130 : List AV → (AV → Prop) → Prop := con (X := Place) (fun x => [enPl x, enPl x]) lenI fun _ K => K (.bool true)
theorem F130 : FF 19 C130 := by
  refine fitE [(38, C16), (39, C156)] (by simp only [List.mem_cons, List.not_mem_nil, or_false]; rintro _ (rfl | rfl) <;> first | exact F16 | exact F156) Tryz.f19 ⟨rfl, by decide +kernel, by decide +kernel⟩ (fun _ _ _ hk h => hk _ h) ?_
  rintro ⟨p, bs, rs⟩ K ⟨h1, h2⟩ h
  refine ⟨Nat.le_of_ble_eq_true rfl, ?_⟩
  dsimp only [enPl, plC] at h1 h2 h ⊢
  repeat' ((conv => whnf); first | refine vA ?_ | with_reducible first | refine v8 ?_ | refine Sp.mk ?_ ?_ | refine vS ?_ | refine vR ?_ | refine vB ?_ | refine br_nt ?_ | refine br_tt ?_ | refine br_ff ?_ | refine vP ?_ | refine vQ ?_ | refine vT ?_ | refine vF ?_ | refine br_and ?_ | refine br_or ?_ | refine br_d (fun _ => ?_) fun _ => ?_ | refine vM (fun _ => ?_) fun _ => ?_)
  refine ⟨⟨p, bs⟩, ?_, ⟨h1⟩, ?_⟩
  · repeat' ((conv => whnf); first | with_reducible exact True.intro | exact vW | with_reducible refine And.intro ?_ ?_)
  repeat' ((conv => whnf); first | refine vA ?_ | with_reducible first | refine v8 ?_ | refine Sp.mk ?_ ?_ | refine vS ?_ | refine vR ?_ | refine vB ?_ | refine br_nt ?_ | refine br_tt ?_ | refine br_ff ?_ | refine vP ?_ | refine vQ ?_ | refine vT ?_ | refine vF ?_ | refine br_and ?_ | refine br_or ?_ | refine br_d (fun _ => ?_) fun _ => ?_ | refine vM (fun _ => ?_) fun _ => ?_)
  refine ⟨rs, ?_, ⟨h2⟩, ?_⟩
  · repeat' ((conv => whnf); first | with_reducible exact True.intro | exact vW | with_reducible refine And.intro ?_ ?_)
  repeat' ((conv => whnf); first | refine vA ?_ | with_reducible first | refine v8 ?_ | refine Sp.mk ?_ ?_ | refine vS ?_ | refine vR ?_ | refine vB ?_ | refine br_nt ?_ | refine br_tt ?_ | refine br_ff ?_ | refine vP ?_ | refine vQ ?_ | refine vT ?_ | refine vF ?_ | refine br_and ?_ | refine br_or ?_ | refine br_d (fun _ => ?_) fun _ => ?_ | refine vM (fun _ => ?_) fun _ => ?_)
  exact h
def C137 := C130
theorem F137 : FF 17 C137 := by
  refine fitE [(34, C160), (35, C161)] (by simp only [List.mem_cons, List.not_mem_nil, or_false]; rintro _ (rfl | rfl) <;> first | exact F160 | exact F161) Tryz.f17 ⟨rfl, by decide +kernel, by decide +kernel⟩ (fun _ _ _ hk h => hk _ h) ?_
  rintro ⟨p, bs, rs⟩ K ⟨h1, h2⟩ h
  refine ⟨Nat.le_of_ble_eq_true rfl, ?_⟩
  dsimp only [enPl, plC] at h1 h2 h ⊢
  repeat' ((conv => whnf); first | refine vA ?_ | with_reducible first | refine v8 ?_ | refine Sp.mk ?_ ?_ | refine vS ?_ | refine vR ?_ | refine vB ?_ | refine br_nt ?_ | refine br_tt ?_ | refine br_ff ?_ | refine vP ?_ | refine vQ ?_ | refine vT ?_ | refine vF ?_ | refine br_and ?_ | refine br_or ?_ | refine br_d (fun _ => ?_) fun _ => ?_ | refine vM (fun _ => ?_) fun _ => ?_)
  refine ⟨bs, ?_, ⟨by omega⟩, ?_⟩
  · repeat' ((conv => whnf); first | with_reducible exact True.intro | exact vW | with_reducible refine And.intro ?_ ?_)
  repeat' ((conv => whnf); first | refine vA ?_ | with_reducible first | refine v8 ?_ | refine Sp.mk ?_ ?_ | refine vS ?_ | refine vR ?_ | refine vB ?_ | refine br_nt ?_ | refine br_tt ?_ | refine br_ff ?_ | refine vP ?_ | refine vQ ?_ | refine vT ?_ | refine vF ?_ | refine br_and ?_ | refine br_or ?_ | refine br_d (fun _ => ?_) fun _ => ?_ | refine vM (fun _ => ?_) fun _ => ?_)
  refine ⟨rs, ?_, ⟨h2⟩, ?_⟩
  · repeat' ((conv => whnf); first | with_reducible exact True.intro | exact vW | with_reducible refine And.intro ?_ ?_)
  repeat' ((conv => whnf); first | refine vA ?_ | with_reducible first | refine v8 ?_ | refine Sp.mk ?_ ?_ | refine vS ?_ | refine vR ?_ | refine vB ?_ | refine br_nt ?_ | refine br_tt ?_ | refine br_ff ?_ | refine vP ?_ | refine vQ ?_ | refine vT ?_ | refine vF ?_ | refine br_and ?_ | refine br_or ?_ | refine br_d (fun _ => ?_) fun _ => ?_ | refine vM (fun _ => ?_) fun _ => ?_)
  exact h
def lensI (l : List Place) : Prop := l.length < 9223372036854775808 ∧ ∀ x ∈ l, lenI x
def C164 : List AV → (AV → Prop) → Prop := con (X := List Place) (fun l => [slP l, slP l]) lensI fun _ K => K (.bool true)
def lenD (d : Desk) : Prop := lenI d.now ∧ lensI d.past
def C141 : List AV → (AV → Prop) → Prop := con (X := Desk) (fun d => [enDe d, enDe d]) lenD fun _ K => K (.bool true)
def C134 := C141
def C135 : List AV → (AV → Prop) → Prop := con (X := Unit) (fun _ => [enDe default]) (fun _ => True) fun _ K => K (.bool true)
end Go.Proofs.YtahfdkdneojkmaaGreatDoor.Vc
end
section
/- Part TJ: laws on places, desks and new stores. -/
namespace Go.Proofs.YtahfdkdneojkmaaGreatDoor.Vc
open Go.Proofs
set_option maxRecDepth 10000
set_option maxHeartbeats 4000000
theorem fit_ok {x : Place} (h : fitPl 1048576 x) : okPl x := ⟨by have := h.1; omega, by have := h.2.1; omega⟩
theorem ok_len {x : Place} (h : okPl x) : lenI x := ⟨h.1, by have := h.2; omega⟩
theorem fitD_ok {d : Desk} (h : fitDe 1048576 d) : okDe d := ⟨fit_ok h.1, by have := h.2.1; omega, fun x hx => fit_ok (h.2.2 x hx)⟩
theorem okD_len {d : Desk} (h : okDe d) : lenD d := ⟨ok_len h.1, by have := h.2.1; omega, fun x hx => ok_len (h.2.2 x hx)⟩
def C118 : List AV → (AV → Prop) → Prop := con (X := Place) (fun x => [enPl x]) placeI fun _ K => K (.bool true)
theorem bodyless : (⟨#[]⟩ : ByteArray).size = 0 := rfl
def C121 := C118
/-! ### Stores -/
structure Store where
  saved : ByteArray
  log : ByteArray
  sure : Int
  deriving Inhabited, DecidableEq
def stC (s : Store) : List AV := [.str s.saved, .str s.log, .int .i64 s.sure]
def enSt (s : Store) : AV := .agg (stC s)
def newSt (x : Place) : Store := ⟨ptext x, ⟨#[]⟩, 0⟩
def C145 : List AV → (AV → Prop) → Prop := con (X := Place) (fun x => [enPl x]) placeI fun x K => K (.tup [enSt (newSt x), .bool (decide (placeOk x))])
def C144 := C145
def C146 : List AV → (AV → Prop) → Prop := con (X := Store) (fun s => [enSt s, enSt s]) (fun _ => True) fun _ K => K (.bool true)
def C122 := C118
def C120 : List AV → (AV → Prop) → Prop := con (X := Desk) (fun x => [enDe x]) deskI fun _ K => K (.bool true)
end Go.Proofs.YtahfdkdneojkmaaGreatDoor.Vc
end
section
/- Part OQ: stores, deeds and texts that come in, opened. -/
namespace Go.Proofs.YtahfdkdneojkmaaGreatDoor.Vc
open Go.Proofs Go.ChangeShapes Go.WideShapes Go.ChangeAt Go.RowKit
section
variable (P : Program)
def IsStore (t : TypeId) : Prop := P.cellsOf t = 3 ∧ ∃ f0 f1 f2, P.underlying t = some (.struct #[f0, f1, f2]) ∧ f0.offset = 0 ∧ f1.offset = 1 ∧ f2.offset = 2 ∧ P.underlying f0.type = some .string ∧ P.underlying f1.type = some .string ∧ P.underlying f2.type = some (.int .i64) ∧ P.cellsOf f0.type = 1 ∧ P.cellsOf f1.type = 1 ∧ P.cellsOf f2.type = 1
end
section
variable {H : Type} {enc : TypeId × Value → H} {P : Program} {w : World} {spare : Nat → Bool} {held : Bool}
theorem op_store {t : TypeId} {v : Value} {d : DataW H} {ps : List MemPlace} {r : Reach} {b0 : Nat} (hT : IsStore P t) (hv : Value.okWide P w r b0 t v) (h : DataW.Trod enc P w 0 spare held t v d ps) :
    ∃ x : Store, PV (Rw0 w) w (enSt x) v ∧ (x.saved.size < 9223372036854775808 ∧ x.log.size < 9223372036854775808 ∧ i64r x.sure) := by
  obtain ⟨ce, f0, f1, f2, ht, o0, o1, o2, k0, k1, k2, c0, c1, c2⟩ := hT
  obtain ⟨cs, rfl, hcs⟩ := okWide_struct ht hv
  obtain ⟨fuel, hf⟩ := h
  obtain ⟨y0, y1, y2, n, _, hl, g0, g1, g2⟩ := Go.Deep.trod_struct3 ht hf
  have e0 : (Value.agg cs).cells.toList = cs.toList := rfl
  rw [e0] at g0 g1 g2 hl
  rw [ce] at hl
  obtain ⟨cs⟩ := cs
  match cs, hl with
  | [v0, v1, v2], _ =>
    simp [o0, o1, o2, c0, c1, c2] at g0 g1 g2
    obtain ⟨s, e4, _, w3⟩ := DataW.trod_string k0 g0
    obtain ⟨l, e5, _, w4⟩ := DataW.trod_string k1 g1
    obtain ⟨k, e1, _, w0⟩ := DataW.trod_int k2 g2
    simp only [List.cons.injEq, and_true] at e1 e4 e5
    subst e1; subst e4; subst e5
    have : maxLen = 9223372036854775807 := rfl
    refine ⟨⟨s, l, k⟩, .agg _ _ rfl fun j hj => ?_, by show s.size < _; omega, by show l.size < _; omega, i64_wf w0⟩
    match j, hj with
    | 0, _ => exact .data (.str _)
    | 1, _ => exact .data (.str _)
    | 2, _ => exact .data (.int _ _)
theorem op_str {t : TypeId} {v : Value} {d : DataW H} {ps : List MemPlace} {r : Reach} {b0 : Nat} (ht : P.underlying t = some .string) (hv : Value.okWide P w r b0 t v) (h : DataW.Trod enc P w 0 spare held t v d ps) : ∃ s : ByteArray, v = .string s ∧ s.size < 9223372036854775808 := by
  obtain ⟨s, rfl⟩ := okWide_string ht hv
  obtain ⟨fuel, hf⟩ := h
  obtain ⟨q, e1, _, w0⟩ := DataW.trod_string ht hf
  have e2 : (Value.string s).cells.toList = [.string s] := rfl
  rw [e2] at e1
  cases e1
  have : maxLen = 9223372036854775807 := rfl
  exact ⟨s, rfl, by omega⟩
end
end Go.Proofs.YtahfdkdneojkmaaGreatDoor.Vc
end
section
/- Part UA: texts that are cut, and numbers that are read. -/
namespace Go.Proofs.YtahfdkdneojkmaaGreatDoor.Vc
open Go.Proofs
set_option maxRecDepth 10000
/-! ### Numbers -/
def digB (b : UInt8) : Prop := 48 ≤ b.toNat ∧ b.toNat ≤ 57
def valL (a : Nat) : List UInt8 → Nat
  | [] => a
  | b :: l => valL (a * 10 + (b.toNat - 48)) l
theorem valL_app : ∀ (l m : List UInt8) (a : Nat), valL a (l ++ m) = valL (valL a l) m
  | [], _, _ => rfl
  | _ :: l, m, _ => valL_app l m _
theorem valL_ge : ∀ (l : List UInt8) (a : Nat), a ≤ valL a l
  | [], _ => Nat.le_refl _
  | _ :: l, a => Nat.le_trans (by omega) (valL_ge l _)
theorem dig_toNat {k : Nat} (h : k < 10) : (UInt8.ofNat (48 + k)).toNat = 48 + k := by
  rw [UInt8.toNat_ofNat']
  exact Nat.mod_eq_of_lt (by omega)
theorem dec_val (n : Nat) : valL 0 (Lib.decDigits n) = n := by
  induction n using Nat.strongRecOn with
  | _ n ih =>
    rw [Lib.decDigits]
    split
    · rename_i h
      show 0 * 10 + ((UInt8.ofNat (48 + n)).toNat - 48) = n
      rw [dig_toNat h]
      omega
    · rename_i h
      rw [valL_app, ih (n / 10) (by omega)]
      show n / 10 * 10 + ((UInt8.ofNat (48 + n % 10)).toNat - 48) = n
      rw [dig_toNat (by omega)]
      omega
theorem dec_dig (n : Nat) : ∀ b ∈ Lib.decDigits n, digB b := by
  induction n using Nat.strongRecOn with
  | _ n ih =>
    rw [Lib.decDigits]
    split
    · rename_i h
      intro b hb
      rw [List.mem_singleton.1 hb]
      unfold digB
      rw [dig_toNat h]
      omega
    · rename_i h
      intro b hb
      rcases List.mem_append.1 hb with hb | hb
      · exact ih _ (by omega) b hb
      · rw [List.mem_singleton.1 hb]
        unfold digB
        rw [dig_toNat (by omega)]
        omega
theorem dec_pos (n : Nat) : 1 ≤ (Lib.decDigits n).length := by
  rw [Lib.decDigits]
  split
  · exact Nat.le_refl _
  · rw [List.length_append]; exact Nat.le_add_left _ _
theorem dec_len6 {n : Nat} (h : n < 1000000) : (Lib.decDigits n).length ≤ 6 := by
  have key : ∀ k n, n < 10 ^ (k + 1) → (Lib.decDigits n).length ≤ k + 1 := by
    intro k
    induction k with
    | zero => intro n h; rw [Lib.decDigits, dif_pos (by simpa using h)]; exact Nat.le_refl _
    | succ k ih =>
      intro n h
      rw [Lib.decDigits]
      split
      · show 1 ≤ _; omega
      · rw [List.length_append]
        have := ih (n / 10) (by rw [Nat.pow_succ] at h; omega)
        show _ + 1 ≤ _
        omega
  exact key 5 n (by simpa using h)
theorem dec_head (n : Nat) : 1 ≤ n → (Lib.decDigits n).head? ≠ some 48 := by
  induction n using Nat.strongRecOn with
  | _ n ih =>
    intro h1
    rw [Lib.decDigits]
    split
    · rename_i h
      intro e
      have e2 : UInt8.ofNat (48 + n) = 48 := by simpa using e
      have := congrArg UInt8.toNat e2
      rw [dig_toNat h] at this
      have h48 : (48 : UInt8).toNat = 48 := rfl
      omega
    · rename_i h
      have ih2 := ih (n / 10) (by omega) (by omega)
      have hp := dec_pos (n / 10)
      intro e
      cases hl : Lib.decDigits (n / 10) with
      | nil => rw [hl] at hp; simp at hp
      | cons c r => rw [hl] at e ih2; exact ih2 (by simpa using e)
theorem num_list (n : Nat) : (num (n : Int)).data.toList = Lib.decDigits n := by
  show (Lib.decDigits (n : Int).toNat).toArray.toList = _
  rw [Int.toNat_natCast]
theorem num_val (n : Nat) : valL 0 (num (n : Int)).data.toList = n := by rw [num_list, dec_val]
theorem parse_dig : ∀ (l : List UInt8) (a : Nat), (∀ b ∈ l, digB b) → valL a l < 1844674407370955162 → Lib.parseUint10 a l = .ok (valL a l)
  | [], _, _, _ => rfl
  | b :: l, a, hd, hv => by
    have h1 := hd b List.mem_cons_self
    have h2 := valL_ge l (a * 10 + (b.toNat - 48))
    have h3 : valL a (b :: l) = valL (a * 10 + (b.toNat - 48)) l := rfl
    rw [h3] at hv
    rw [Lib.parseUint10, if_pos (show 48 ≤ b.toNat ∧ b.toNat ≤ 57 from h1), if_neg (by omega), if_neg (by omega), parse_dig l _ (fun c hc => hd c (List.mem_cons_of_mem _ hc)) hv]
    rfl
theorem atoi_num {n : Nat} (h : n < 1000000) : Lib.atoiAll (num (n : Int)).data.toList = .ok (n : Int) := by
  rw [num_list]
  have hd := dec_dig n
  have hv := dec_val n
  have hp := dec_pos n
  cases hl : Lib.decDigits n with
  | nil => rw [hl] at hp; simp at hp
  | cons c r =>
    rw [hl] at hd hv
    have hc := hd c List.mem_cons_self
    unfold digB at hc
    unfold Lib.atoiAll
    have e : Lib.parseMag (c :: r) = .ok n := by
      unfold Lib.parseMag
      rw [if_neg (by simp), parse_dig _ _ hd (by rw [hv]; omega), hv]
    simp only
    rw [if_neg (by omega), e]
    simp only
    rw [if_neg (by omega), if_neg (by omega), if_neg (by omega)]
/-! ### Cutting -/
def headApp (x : List UInt8) : List (List UInt8) → List (List UInt8)
  | y :: r => (x ++ y) :: r
  | [] => [x]
def cutL (c : UInt8) : List UInt8 → List (List UInt8)
  | [] => [[]]
  | b :: l => if b = c then [] :: cutL c l else headApp [b] (cutL c l)
theorem headApp_app (x y : List UInt8) : ∀ L, headApp x (headApp y L) = headApp (x ++ y) L
  | [] => rfl
  | z :: r => by show (x ++ (y ++ z)) :: r = _; rw [← List.append_assoc]; rfl
theorem headApp_nil {L : List (List UInt8)} (h : L ≠ []) : headApp [] L = L := by cases L with | nil => exact absurd rfl h | cons => rfl
theorem cutL_ne (c : UInt8) (l : List UInt8) : cutL c l ≠ [] := by
  cases l with
  | nil => exact List.cons_ne_nil _ _
  | cons b l =>
    unfold cutL
    split
    · exact List.cons_ne_nil _ _
    · cases cutL c l <;> exact List.cons_ne_nil _ _
theorem cutL_none {c : UInt8} : ∀ {x : List UInt8}, c ∉ x → cutL c x = [x]
  | [], _ => rfl
  | b :: x, h => by
    unfold cutL
    rw [if_neg (fun e : b = c => h (e ▸ List.mem_cons_self)), cutL_none fun q => h (List.mem_cons_of_mem _ q)]
    rfl
theorem cutL_hit {c : UInt8} {r : List UInt8} : ∀ {x : List UInt8}, c ∉ x → cutL c (x ++ c :: r) = x :: cutL c r
  | [], _ => by show (if c = c then _ else _) = _; rw [if_pos rfl]
  | b :: x, h => by
    show (if b = c then _ else headApp [b] (cutL c (x ++ c :: r))) = _
    rw [if_neg (fun e : b = c => h (e ▸ List.mem_cons_self)), cutL_hit fun q => h (List.mem_cons_of_mem _ q)]
    rfl
theorem index_none {c : UInt8} : ∀ {x : List UInt8}, c ∉ x → Lib.index x [c] = -1
  | [], _ => rfl
  | b :: x, h => by
    have e1 : c ≠ b := fun e => h (e ▸ List.mem_cons_self)
    have hp : ([c] : List UInt8).isPrefixOf (b :: x) = false := by simp [List.isPrefixOf, e1]
    rw [Lib.index, hp, index_none fun q => h (List.mem_cons_of_mem _ q)]
    rfl
theorem index_hit {c : UInt8} {r : List UInt8} : ∀ {x : List UInt8}, c ∉ x → Lib.index (x ++ c :: r) [c] = (x.length : Int)
  | [], _ => by
    show Lib.index (c :: r) [c] = 0
    rw [Lib.index]
    simp [List.isPrefixOf]
  | b :: x, h => by
    have e1 : c ≠ b := fun e => h (e ▸ List.mem_cons_self)
    have hp : ([c] : List UInt8).isPrefixOf (b :: (x ++ c :: r)) = false := by simp [List.isPrefixOf, e1]
    rw [List.cons_append, Lib.index, hp, index_hit fun q => h (List.mem_cons_of_mem _ q)]
    have : ¬ (((x.length : Int) == -1) = true) := fun e => by have := beq_iff_eq.1 e; omega
    simp only [Bool.false_eq_true, if_false]
    rw [if_neg this, List.length_cons]
    omega
theorem first_occ {c : UInt8} : ∀ {l : List UInt8}, c ∈ l → ∃ x r, l = x ++ c :: r ∧ c ∉ x
  | b :: l, h => by
    by_cases e : c = b
    · exact ⟨[], l, by rw [e]; rfl, fun q => by cases q⟩
    · obtain ⟨x, r, e1, e2⟩ := first_occ ((List.mem_cons.1 h).resolve_left e)
      exact ⟨b :: x, r, by rw [e1]; rfl, fun q => (List.mem_cons.1 q).elim e e2⟩
theorem split_cut (c : UInt8) : ∀ (n : Nat) (l : List UInt8), l.length ≤ n → Lib.splitK [c] 0 (Lib.count l [c]) l = cutL c l
  | n, l, hn => by
    by_cases h : c ∈ l
    · obtain ⟨x, r, rfl, hx⟩ := first_occ h
      have hi := index_hit (r := r) hx
      have e1 : (x ++ c :: r).drop (x.length + 1) = r := by
        rw [List.drop_append, List.drop_of_length_le (by omega), show x.length + 1 - x.length = 1 by omega]
        rfl
      have hc : Lib.count (x ++ c :: r) [c] = Lib.count r [c] + 1 := by
        rw [Lib.count_hit (by simp) hi, show ([c] : List UInt8).length = 1 from rfl, e1, Nat.add_comm]
      have hm : ¬ (Lib.index (x ++ c :: r) [c] == -1) = true := fun e => by have := beq_iff_eq.1 e; omega
      rw [hc, Lib.splitK, if_neg hm, hi, Int.toNat_natCast, Nat.add_zero, List.take_left, show ([c] : List UInt8).length = 1 from rfl, e1, cutL_hit hx]
      cases n with
      | zero => simp at hn
      | succ n => rw [split_cut c n r (by simp at hn; omega)]
    · rw [Lib.count_miss (index_none h), cutL_none h]
      rfl
def cutB (s : ByteArray) (c : UInt8) : List ByteArray := (cutL c s.data.toList).map fun l => ⟨l.toArray⟩
theorem splitB_cut (s : ByteArray) (c : UInt8) : Lib.splitB ⟨#[c]⟩ 0 (Lib.countB s ⟨#[c]⟩) s = cutB s c := by
  have h := Lib.splitB_data ⟨#[c]⟩ 0 (Lib.countB s ⟨#[c]⟩) s
  have h2 : Lib.splitK [c] 0 (Lib.countB s ⟨#[c]⟩) s.data.toList = cutL c s.data.toList := split_cut c _ _ (Nat.le_refl _)
  have h3 : (Lib.splitB ⟨#[c]⟩ 0 (Lib.countB s ⟨#[c]⟩) s).map (·.data.toList) = cutL c s.data.toList := h.trans h2
  unfold cutB
  rw [← h3, List.map_map]
  exact (List.map_id _).symm
theorem headApp_len (x : List UInt8) {L : List (List UInt8)} (h : L ≠ []) : (headApp x L).length = L.length := by cases L with | nil => exact absurd rfl h | cons => rfl
theorem cutL_len (c : UInt8) : ∀ l : List UInt8, 1 ≤ (cutL c l).length ∧ (cutL c l).length ≤ l.length + 1
  | [] => ⟨Nat.le_refl _, Nat.le_refl _⟩
  | b :: l => by
    have ih := cutL_len c l
    unfold cutL
    split
    · simp only [List.length_cons]; omega
    · rw [headApp_len _ (cutL_ne c l)]; simp only [List.length_cons]; omega
theorem cutL_mem (c : UInt8) : ∀ (l : List UInt8), ∀ x ∈ cutL c l, x.length ≤ l.length
  | [], x, h => by rw [List.mem_singleton.1 h]; exact Nat.le_refl _
  | b :: l, x, h => by
    have ih := cutL_mem c l
    unfold cutL at h
    split at h
    · rcases List.mem_cons.1 h with rfl | h
      · exact Nat.zero_le _
      · exact Nat.le_trans (ih x h) (Nat.le_succ _)
    · cases e : cutL c l with
      | nil => exact absurd e (cutL_ne c l)
      | cons y r =>
        rw [e] at h ih
        rcases List.mem_cons.1 h with rfl | h
        · have := ih y List.mem_cons_self
          simp only [List.length_append, List.length_cons, List.length_nil]; omega
        · exact Nat.le_trans (ih x (List.mem_cons_of_mem _ h)) (Nat.le_succ _)
theorem cutB_len (s : ByteArray) (c : UInt8) : 1 ≤ (cutB s c).length ∧ (cutB s c).length ≤ s.size + 1 := by
  unfold cutB
  rw [List.length_map]
  exact cutL_len c _
theorem cutB_mem {s : ByteArray} {c : UInt8} {x : ByteArray} (h : x ∈ cutB s c) : x.size ≤ s.size := by
  obtain ⟨l, hl, rfl⟩ := List.mem_map.1 h
  exact cutL_mem c _ l hl
theorem join_cut (c : UInt8) : ∀ {xs : List (List UInt8)}, xs ≠ [] → (∀ x ∈ xs, c ∉ x) → cutL c (Lib.join xs [c]) = xs
  | [], h, _ => absurd rfl h
  | [x], _, h => by rw [Lib.join_one, cutL_none (h x List.mem_cons_self)]
  | x :: y :: r, _, h => by
    have e : Lib.join (x :: y :: r) [c] = x ++ c :: Lib.join (y :: r) [c] := by
      unfold Lib.join List.intercalate
      rw [List.intersperse_cons_cons, List.flatten_cons, List.flatten_cons]
      rfl
    rw [e, cutL_hit (h x List.mem_cons_self), join_cut c (List.cons_ne_nil _ _) fun z hz => h z (List.mem_cons_of_mem _ hz)]
theorem joinB_cut {c : UInt8} {xs : List ByteArray} (h : xs ≠ []) (hc : ∀ x ∈ xs, c ∉ x.data.toList) : cutB (joinB xs ⟨#[c]⟩) c = xs := by
  have e : cutL c (Lib.join (xs.map (·.data.toList)) [c]) = xs.map (·.data.toList) := join_cut c (fun e => h (List.map_eq_nil_iff.1 e)) fun x hx => by
    obtain ⟨y, hy, rfl⟩ := List.mem_map.1 hx
    exact hc y hy
  show (cutL c (Lib.join (xs.map (·.data.toList)) [c])).map _ = _
  rw [e, List.map_map]
  exact List.map_id _
end Go.Proofs.YtahfdkdneojkmaaGreatDoor.Vc
end
section
/- Part UB: strings.Split, strconv.Atoi, and what reads by them. -/
namespace Go.Proofs.YtahfdkdneojkmaaGreatDoor.Vc
open Go.Proofs Go.RowKit Go.Sort
set_option maxRecDepth 10000
set_option maxHeartbeats 4000000
def C211 : List AV → (AV → Prop) → Prop := con (X := ByteArray × UInt8) (fun x => [.str x.1, .str ⟨#[x.2]⟩]) (fun x => x.1.size < 4294967281) fun x K => K (slS (cutB x.1 x.2))
theorem F211 : FF 60 C211 := fun Gl hG => by
  refine ⟨FnOk.has ⟨rfl, by decide +kernel, by decide +kernel⟩ (fn := Tryz.f60), fun us K K' hk ⟨x, h1, h2, h3⟩ => ⟨x, h1, h2, hk _ h3⟩, ?_⟩
  rintro us K ⟨⟨s, c⟩, h1, ⟨h2⟩, h3⟩ R w xs hL hA
  obtain ⟨g1, g2⟩ := exL_PV (R := R) (w := w) us _ h1
  have hA' : ArgsV R w [.str s, .str ⟨#[c]⟩] xs := ⟨hA.1.trans g1, fun j hj => g2 j (g1 ▸ hj) _ (hA.2 j (g1 ▸ hj))⟩
  obtain rfl := args_pl rfl hA'
  have hw := (hG w fun p hp => (hL.gl p hp).2).len
  obtain ⟨cs, hv, m, rfl⟩ := hw.resolve_left (by intro e; have : Tryz.prog.globalNamed "internal/bytealg.MaxLen" = none := e; revert this; decide +kernel)
  refine (Tryz.strings_Split s ⟨#[c]⟩ m w h2 ((World.var?_cell (P := Tryz.prog) (by kernel_rfl) hv 0).trans rfl) (Nat.le_refl _)).mono fun e w' he => ?_
  obtain ⟨rfl, rfl⟩ := he
  have hlen : Lib.countB s ⟨#[c]⟩ + 1 = (cutB s c).length := by rw [← splitB_cut, Lib.splitB_all _ (Nat.le_refl _) 0 _ s rfl]
  rw [splitB_cut, hlen]
  refine ⟨_, _, fun b => R b ∨ b = w.heap.size, rfl, h3, .data (.sl 1 _ _ _ _ (fun i _ => .string ((cutB s c).getD i ⟨#[]⟩)) (Nat.le_refl _) (.inr rfl) (fun i _ => rfl) (fun i hi j hj => ?_) fun i _ j hj => ?_), ⟨?_, fun b h => .inl h, fun b h => h.imp id fun e => by omega, ?_, fun b hb => ?_, rfl, rfl, rfl⟩⟩
  · obtain rfl : j = 0 := by omega
    rw [Nat.mul_one, Nat.add_zero, addr_add, Nat.zero_add, World.cell?_alloc_new]
    rw [List.getElem?_toArray, List.getElem?_map, List.getElem?_eq_getElem hi, List.getD_eq_getElem?_getD, List.getElem?_eq_getElem hi]
    rfl
  · obtain rfl : j = 0 := by omega
    exact .str _
  · rintro b (h | rfl)
    · have := hL.lt b h
      show b < (w.heap.push _).size
      rw [Array.size_push]
      omega
    · show w.heap.size < (w.heap.push _).size
      rw [Array.size_push]
      exact Nat.lt_succ_self _
  · show w.heap.size ≤ (w.heap.push _).size
    rw [Array.size_push]
    exact Nat.le_succ _
  · show (w.heap.push _)[b]? = _
    rw [Array.getElem?_push, if_neg (by omega)]
def C212 : List AV → (AV → Prop) → Prop := con (X := ByteArray) (fun s => [.str s]) (fun s => s.size ≤ 281474976710656) fun s K => ∀ (v : Int) (e : AV), i64r v → e = .nili ∨ e = .ifc → (∀ n : Nat, n < 1000000 → s = num n → v = n ∧ e = .nili) → K (.tup [.int .i64 v, e])
theorem pair_pv {R : Nat → Prop} {w : World} {v : Int} {e : AV} {x : Value} (h : DR R w e x) : PV R w (.tup [.int .i64 v, e]) (.tuple #[.int .i64 v, x]) := by
  refine .tup _ _ rfl fun j hj => ?_
  replace hj : j < 2 := hj
  rcases (show j = 0 ∨ j = 1 by omega) with rfl | rfl
  · exact .data (.int _ _)
  · exact .data h
theorem F212 : FF 82 C212 := fun Gl hG => by
  refine ⟨FnOk.has ⟨rfl, by decide +kernel, by decide +kernel⟩ (fn := Tryz.f82), fun us K K' hk ⟨x, h1, h2, h3⟩ => ⟨x, h1, h2, fun v e q1 q2 q3 => hk _ (h3 v e q1 q2 q3)⟩, ?_⟩
  rintro us K ⟨s, h1, ⟨h2⟩, h3⟩ R w xs hL hA
  obtain ⟨g1, g2⟩ := exL_PV (R := R) (w := w) us _ h1
  have hA' : ArgsV R w [.str s] xs := ⟨hA.1.trans g1, fun j hj => g2 j (g1 ▸ hj) _ (hA.2 j (g1 ▸ hj))⟩
  obtain rfl := args_pl rfl hA'
  have hw := hG w fun p hp => (hL.gl p hp).2
  have hsyn : ∃ tp p, w.var? Tryz.prog "strconv.ErrSyntax" = some #[.iface tp p] := by
    obtain ⟨cs, hv, tp, p, rfl⟩ := hw.syn.resolve_left (by intro e; have : Tryz.prog.globalNamed "strconv.ErrSyntax" = none := e; revert this; decide +kernel)
    exact ⟨tp, p, hv⟩
  have hrng : ∃ tp p, w.var? Tryz.prog "strconv.ErrRange" = some #[.iface tp p] := by
    obtain ⟨cs, hv, tp, p, rfl⟩ := hw.rng.resolve_left (by intro e; have : Tryz.prog.globalNamed "strconv.ErrRange" = none := e; revert this; decide +kernel)
    exact ⟨tp, p, hv⟩
  have hnum : ∀ n : Nat, n < 1000000 → s = num n → Lib.atoiAll s.data.toList = .ok (n : Int) := fun n hn e => by rw [e]; exact atoi_num hn
  cases hr : Lib.atoiAll s.data.toList
  · rename_i v
    obtain ⟨b1, b2⟩ := Lib.atoiAll_bounds hr
    refine (Tryz.strconv_Atoi_ok s (by omega) v hr w).mono fun e w' he => ?_
    obtain ⟨rfl, he⟩ := he
    have hbl : Below w.heap.size w w' := by
      rcases he with rfl | ⟨t, rfl⟩
      · exact ⟨rfl, rfl, rfl, Nat.le_refl _, fun _ _ => rfl⟩
      · exact Go.Joins.below_bytesWorld _ _ _ _ (Nat.le_refl _)
    refine ⟨_, _, R, rfl, h3 v .nili ⟨by omega, by omega⟩ (.inl rfl) fun n hn e => ⟨?_, rfl⟩, pair_pv .nili, ⟨fun b' hb' => Nat.lt_of_lt_of_le (hL.lt b' hb') hbl.size, fun _ h => h, fun _ h => .inl h, hbl.size, fun b' hlt => hbl.block b' hlt, hbl.os, hbl.tape, hbl.output⟩⟩
    have := (hnum n hn e).symm.trans hr
    injection this with this
    exact this.symm
  · obtain ⟨tp, p, hv⟩ := hsyn
    refine (Tryz.strconv_Atoi_syntax_var s h2 hr tp p w hv).mono fun e w' he => ?_
    obtain ⟨N, rfl, _, _, hbl⟩ := he
    exact ⟨_, _, R, rfl, h3 0 .ifc ⟨by decide, by decide⟩ (.inr rfl) (fun n hn e => by have := (hnum n hn e).symm.trans hr; cases this), pair_pv (.ifc _ _), ⟨fun b' hb' => Nat.lt_of_lt_of_le (hL.lt b' hb') hbl.size, fun _ h => h, fun _ h => .inl h, hbl.size, fun b' hlt => hbl.block b' hlt, hbl.os, hbl.tape, hbl.output⟩⟩
  · obtain ⟨tp, p, hv⟩ := hrng
    refine (Tryz.strconv_Atoi_range_var s h2 hr tp p w hv).mono fun e w' he => ?_
    obtain ⟨N, rfl, _, _, hbl⟩ := he
    exact ⟨_, _, R, rfl, h3 _ .ifc (by unfold Lib.atoiSat; split <;> exact ⟨by decide, by decide⟩) (.inr rfl) (fun n hn e => by have := (hnum n hn e).symm.trans hr; cases this), pair_pv (.ifc _ _), ⟨fun b' hb' => Nat.lt_of_lt_of_le (hL.lt b' hb') hbl.size, fun _ h => h, fun _ h => .inl h, hbl.size, fun b' hlt => hbl.block b' hlt, hbl.os, hbl.tape, hbl.output⟩⟩
end Go.Proofs.YtahfdkdneojkmaaGreatDoor.Vc
end
section
/- Part UC: numbers and cuts, by both sides. -/
namespace Go.Proofs.YtahfdkdneojkmaaGreatDoor.Vc
open Go.Proofs
set_option maxRecDepth 10000
set_option maxHeartbeats 4000000
def isNum (s : ByteArray) : Bool := decide (valL 0 s.data.toList < 1000000 ∧ s = num (valL 0 s.data.toList : Nat))
theorem isNum_num {n : Nat} (h : n < 1000000) : isNum (num (n : Int)) = true := by
  unfold isNum
  rw [num_val]
  exact decide_eq_true ⟨h, rfl⟩
theorem isNum_of {s : ByteArray} (h : isNum s = true) : ∃ n : Nat, n < 1000000 ∧ s = num (n : Int) := ⟨_, (of_decide_eq_true h).1, (of_decide_eq_true h).2⟩
theorem isNum_no {s : ByteArray} (h : ¬ ∃ n : Nat, n < 1000000 ∧ s = num (n : Int)) : isNum s = false := by
  cases e : isNum s with
  | false => rfl
  | true => exact absurd (isNum_of e) h
def C213 : List AV → (AV → Prop) → Prop := con (X := ByteArray) (fun s => [.str s]) (fun s => s.size ≤ 281474976710656) fun s K => ∀ v : Int, i64r v → (∀ n : Nat, n < 1000000 → s = num n → v = n) → K (.tup [.int .i64 v, .bool (isNum s)])
theorem F213 : FF 61 C213 := by
  refine fitX [(55, C101), (82, C212)] (by simp only [List.mem_cons, List.not_mem_nil, or_false]; rintro _ (rfl | rfl) <;> first | exact F101 | exact F212) [] (by simp) Tryz.f61 ⟨rfl, by decide +kernel, by decide +kernel⟩ (fun _ _ _ hk h v q1 q2 => hk _ (h v q1 q2)) ?_
  rintro s K hs h
  refine ⟨Nat.le_of_ble_eq_true rfl, ?_⟩
  repeat' ((conv => whnf); first | refine vA ?_ | with_reducible first | refine v8 ?_ | refine Sp.mk ?_ ?_ | refine vS ?_ | refine vR ?_ | refine vB ?_ | refine br_nt ?_ | refine br_tt ?_ | refine br_ff ?_ | refine vP ?_ | refine vQ ?_ | refine vT ?_ | refine vF ?_ | refine br_and ?_ | refine br_or ?_ | refine br_d (fun _ => ?_) fun _ => ?_ | refine vM (fun _ => ?_) fun _ => ?_)
  refine ⟨s, ?_, ⟨hs⟩, ?_⟩
  · repeat' ((conv => whnf); first | with_reducible exact True.intro | exact vW | with_reducible refine And.intro ?_ ?_)
  intro v e ⟨v1, v2⟩ he hn
  have hK := h v ⟨v1, v2⟩ fun n q1 q2 => (hn n q1 q2).1
  rcases he with rfl | rfl
  · repeat' ((conv => whnf); first | refine vA ?_ | with_reducible first | refine v8 ?_ | refine Sp.mk ?_ ?_ | refine vS ?_ | refine vR ?_ | refine vB ?_ | refine br_nt ?_ | refine br_tt ?_ | refine br_ff ?_ | refine vP ?_ | refine vQ ?_ | refine vT ?_ | refine vF ?_ | refine br_and ?_ | refine br_or ?_ | refine br_d (fun _ => ?_) fun _ => ?_ | refine vM (fun _ => ?_) fun _ => ?_)
    · rename_i g1 g2
      refine ⟨v, ?_, ⟨g1, by omega⟩, ?_⟩
      · repeat' ((conv => whnf); first | with_reducible exact True.intro | exact vW | with_reducible refine And.intro ?_ ?_)
      have e0 : isNum s = decide (num v = s) := by
        by_cases e : num v = s
        · rw [decide_eq_true e, ← e]
          obtain ⟨n, rfl⟩ : ∃ n : Nat, v = n := ⟨v.toNat, by omega⟩
          exact isNum_num (by omega)
        · rw [decide_eq_false e]
          exact isNum_no fun ⟨n, q1, q2⟩ => e (by rw [(hn n q1 q2).1, q2])
      rw [e0] at hK
      repeat' ((conv => whnf); first | refine vA ?_ | with_reducible first | refine v8 ?_ | refine Sp.mk ?_ ?_ | refine vS ?_ | refine vR ?_ | refine vB ?_ | refine br_nt ?_ | refine br_tt ?_ | refine br_ff ?_ | refine vP ?_ | refine vQ ?_ | refine vT ?_ | refine vF ?_ | refine br_and ?_ | refine br_or ?_ | refine br_d (fun _ => ?_) fun _ => ?_ | refine vM (fun _ => ?_) fun _ => ?_)
      exact hK
    all_goals
      have e0 : isNum s = false := isNum_no fun ⟨n, q1, q2⟩ => by have := (hn n q1 q2).1; omega
      rw [e0] at hK
      exact hK
  · have e0 : isNum s = false := isNum_no fun ⟨n, q1, q2⟩ => by cases (hn n q1 q2).2
    rw [e0] at hK
    repeat' ((conv => whnf); first | refine vA ?_ | with_reducible first | refine v8 ?_ | refine Sp.mk ?_ ?_ | refine vS ?_ | refine vR ?_ | refine vB ?_ | refine br_nt ?_ | refine br_tt ?_ | refine br_ff ?_ | refine vP ?_ | refine vQ ?_ | refine vT ?_ | refine vF ?_ | refine br_and ?_ | refine br_or ?_ | refine br_d (fun _ => ?_) fun _ => ?_ | refine vM (fun _ => ?_) fun _ => ?_)
    exact hK
/-! ### The reference's cut -/
theorem ext_list {s : ByteArray} {j i : Nat} : (s.extract j i).data.toList = (s.data.toList.drop j).take (i - j) := by
  rw [ByteArray.data_extract, Array.toList_extract]
theorem drop_bt {s : ByteArray} {i : Nat} (h : i < s.size) : ∃ b : UInt8, bt s i = (b.toNat : Int) ∧ s.data.toList.drop i = b :: s.data.toList.drop (i + 1) := by
  have h' : i < s.data.toList.length := by rw [Array.length_toList]; exact h
  refine ⟨s.data.toList[i], ?_, List.drop_eq_getElem_cons h'⟩
  unfold bt
  rw [Array.getD_eq_getD_getElem?, Array.getElem?_eq_getElem (by exact h)]
  rfl
structure cutI (s : ByteArray) (c : UInt8) (P : List ByteArray) (i j : Nat) : Prop where
  ji : j ≤ i
  le : i ≤ s.size
  len : P.length ≤ j
  cut : cutL c s.data.toList = P.map (·.data.toList) ++ headApp (s.extract j i).data.toList (cutL c (s.data.toList.drop i))
theorem cutI_0 (s : ByteArray) (c : UInt8) : cutI s c [] 0 0 := ⟨Nat.le_refl _, Nat.zero_le _, Nat.le_refl _, by
  rw [ext_list]
  exact (headApp_nil (cutL_ne c _)).symm⟩
theorem ext_snocL {s : ByteArray} {j i : Nat} {b : UInt8} (hji : j ≤ i) (h : s.data.toList.drop i = b :: s.data.toList.drop (i + 1)) : (s.extract j (i + 1)).data.toList = (s.extract j i).data.toList ++ [b] := by
  have e : (s.data.toList.drop j).drop (i - j) = b :: s.data.toList.drop (i + 1) := by rw [List.drop_drop, show j + (i - j) = i by omega, h]
  rw [ext_list, ext_list, show i + 1 - j = (i - j) + 1 by omega, List.take_add, e]
  rfl
theorem cutI_hit {s : ByteArray} {c : UInt8} {P : List ByteArray} {i j : Nat} (h : cutI s c P i j) (hi : i < s.size) (hb : bt s i = (c.toNat : Int)) : cutI s c (P ++ [s.extract j i]) (i + 1) (i + 1) := by
  obtain ⟨b, e1, e2⟩ := drop_bt hi
  obtain rfl : b = c := UInt8.toNat_inj.1 (by omega)
  refine ⟨Nat.le_refl _, hi, by rw [List.length_append]; have := h.len; have := h.ji; show _ + 1 ≤ _; omega, ?_⟩
  have e3 : (s.extract (i + 1) (i + 1)).data.toList = [] := by rw [ext_list, Nat.sub_self]; rfl
  rw [h.cut, e2, e3, headApp_nil (cutL_ne _ _), List.map_append, List.append_assoc]
  show _ ++ headApp _ (if b = b then _ else _) = _
  rw [if_pos rfl]
  show _ ++ ((_ ++ []) :: _) = _
  rw [List.append_nil]
  rfl
theorem cutI_miss {s : ByteArray} {c : UInt8} {P : List ByteArray} {i j : Nat} (h : cutI s c P i j) (hi : i < s.size) (hb : ¬ bt s i = (c.toNat : Int)) : cutI s c P (i + 1) j := by
  obtain ⟨b, e1, e2⟩ := drop_bt hi
  refine ⟨Nat.le_succ_of_le h.ji, hi, h.len, ?_⟩
  rw [h.cut, e2, ext_snocL h.ji e2, ← headApp_app]
  show _ ++ headApp _ (if b = c then _ else _) = _
  rw [if_neg fun e => hb (by rw [e1, e])]
theorem cutI_end {s : ByteArray} {c : UInt8} {P : List ByteArray} {j : Nat} (h : cutI s c P s.size j) : cutB s c = P ++ [s.extract j s.size] := by
  unfold cutB
  rw [h.cut, show s.data.toList.drop s.size = [] from List.drop_of_length_le (by rw [Array.length_toList]; exact Nat.le_refl _)]
  show (_ ++ [_ ++ []]).map _ = _
  rw [List.append_nil, List.map_append, List.map_map]
  exact congrArg (· ++ _) (List.map_id _)
theorem ext_pushW {α : Type} {enc : α → List AV} {d : α} {l : List α} {x : α} {g : Nat → List AV} (hg : g 0 = enc x) : l.length + 1 = (l ++ [x]).length ∧ ∀ i, i < l.length + 1 → appF l.length (fun i => enc (l.getD i d)) g (0 + i) = enc ((l ++ [x]).getD i d) := by
  have h := ext_push (enc := enc) (d := d) (l := l) (x := x) (g := g) hg
  refine ⟨h.1.symm, fun i hi => ?_⟩
  rw [Nat.zero_add]
  exact (h.2 i (by rw [h.1]; exact hi)).symm
def C215 : List AV → (AV → Prop) → Prop := con (X := ByteArray × UInt8) (fun x => [.str x.1, .int .u8 (x.2.toNat : Int)]) (fun x => x.1.size < 4294967281) fun x K => K (slS (cutB x.1 x.2))
theorem F215 : FF 36 C215 := by
  refine fitXE [] (by simp) [] (by simp) Tryz.f36 ⟨rfl, by decide +kernel, by decide +kernel⟩ (by intro x K K2 hk h; (try dsimp only at h ⊢); intros; apply hk; first | exact h | (apply h <;> assumption)) ?_
  rintro ⟨s, c⟩ K hs h
  refine ⟨Nat.le_of_ble_eq_true rfl, ?_⟩
  dsimp only at h hs ⊢
  have hc := c.toNat_lt
  repeat' ((conv => whnf); first | refine vA ?_ | with_reducible first | refine v8 ?_ | refine Sp.mk ?_ ?_ | refine vS ?_ | refine vR ?_ | refine vB ?_ | refine br_nt ?_ | refine br_tt ?_ | refine br_ff ?_ | refine vP ?_ | refine vQ ?_ | refine vT ?_ | refine vF ?_ | refine br_and ?_ | refine br_or ?_ | refine br_d (fun _ => ?_) fun _ => ?_ | refine vM (fun _ => ?_) fun _ => ?_)
  refine Lp.mk ⟨List ByteArray × Nat × Nat, fun x => [(0, .str s), (1, .int .u8 (c.toNat : Int)), (5, .row 0 1 0 x.1.length), (6, .int .i64 x.2.2), (7, .int .i64 x.2.1)], fun x => [.row 1 x.1.length fun k => encS (x.1.getD k ⟨#[]⟩)], fun x => cutI s c x.1 x.2.1 x.2.2, fun x => s.size - x.2.1, ⟨([], 0, 0), cutI_0 s c, ⟨⟨[none], [], rfl, rfl, ?_, ?_⟩⟩⟩, ?_⟩
  · repeat' ((conv => whnf); first | with_reducible exact True.intro | exact vW | with_reducible refine And.intro ?_ ?_)
  · repeat' ((conv => whnf); first | with_reducible exact True.intro | exact vW | with_reducible refine And.intro ?_ ?_)
  rintro ⟨P, i, j⟩ hI
  have i1 := hI.ji
  have i2 := hI.le
  have i3 := hI.len
  dsimp only at i1 i2 i3 hI ⊢
  repeat' ((conv => whnf); first | refine vA ?_ | with_reducible first | refine v8 ?_ | refine Sp.mk ?_ ?_ | refine vS ?_ | refine vR ?_ | refine vB ?_ | refine br_nt ?_ | refine br_tt ?_ | refine br_ff ?_ | refine vP ?_ | refine vQ ?_ | refine vT ?_ | refine vF ?_ | refine br_and ?_ | refine br_or ?_ | refine br_d (fun _ => ?_) fun _ => ?_ | refine vM (fun _ => ?_) fun _ => ?_)
  · rename_i q1 q2
    refine ⟨(P ++ [s.extract j i], i + 1, i + 1), cutI_hit hI (by omega) q2, by dsimp only; omega, ⟨⟨[some 2], [], rfl, rfl, ?_, ?_⟩⟩⟩
    · repeat' ((conv => whnf); first | with_reducible exact True.intro | exact vW | with_reducible refine And.intro ?_ ?_)
      all_goals exact Chk.mk ⟨rfl, by rw [List.length_append]; rfl⟩
    · repeat' ((conv => whnf); first | with_reducible exact True.intro | exact vW | with_reducible refine And.intro ?_ ?_)
      all_goals exact Chk.mk (ext_push rfl)
  · rename_i q1 q2
    refine ⟨(P, i + 1, j), cutI_miss hI (by omega) q2, by dsimp only; omega, ⟨⟨[some 0], [], rfl, rfl, ?_, ?_⟩⟩⟩
    · repeat' ((conv => whnf); first | with_reducible exact True.intro | exact vW | with_reducible refine And.intro ?_ ?_)
    · repeat' ((conv => whnf); first | with_reducible exact True.intro | exact vW | with_reducible refine And.intro ?_ ?_)
  · rename_i q1
    obtain rfl : i = s.size := by omega
    rw [cutI_end hI] at h
    refine ⟨_, ?_, h⟩
    repeat' ((conv => whnf); first | with_reducible exact True.intro | exact vW | with_reducible refine And.intro ?_ ?_)
    all_goals exact Chk.mk (ext_pushW rfl)
/-! ### The reference's digits -/
theorem take_bt {s : ByteArray} {i : Nat} (h : i < s.size) : ∃ b : UInt8, bt s i = (b.toNat : Int) ∧ b ∈ s.data.toList ∧ s.data.toList.take (i + 1) = s.data.toList.take i ++ [b] := by
  obtain ⟨b, e1, e2⟩ := drop_bt h
  have h' : i < s.data.toList.length := by rw [Array.length_toList]; exact h
  refine ⟨b, e1, ?_, ?_⟩
  · have : b ∈ s.data.toList.drop i := by rw [e2]; exact List.mem_cons_self
    exact List.mem_of_mem_drop this
  · rw [List.take_add, e2]; rfl
theorem num_len {n : Nat} (h : n < 1000000) : 1 ≤ (num (n : Int)).size ∧ (num (n : Int)).size ≤ 6 := by
  have e : (num (n : Int)).size = (Lib.decDigits n).length := by rw [← num_list]; exact (Array.length_toList).symm
  rw [e]
  exact ⟨dec_pos n, dec_len6 h⟩
theorem num_bt {n i : Nat} (h : i < (num (n : Int)).size) : 48 ≤ bt (num (n : Int)) i ∧ bt (num (n : Int)) i ≤ 57 := by
  obtain ⟨b, e1, e2, _⟩ := take_bt h
  rw [num_list] at e2
  have := dec_dig n b e2
  unfold digB at this
  omega
theorem num_0 {n : Nat} (h : 1 < (num (n : Int)).size) : ¬ bt (num (n : Int)) 0 = 48 := by
  obtain ⟨b, e1, e2⟩ := drop_bt (s := num (n : Int)) (i := 0) (by omega)
  rw [List.drop_zero, num_list] at e2
  intro e
  have hb : b = 48 := UInt8.toNat_inj.1 (by have : (48 : UInt8).toNat = 48 := rfl; omega)
  have h1 : 1 ≤ n := by
    rcases Nat.eq_zero_or_pos n with rfl | h1
    · have : (num ((0 : Nat) : Int)).size = 1 := by
        rw [show (num ((0 : Nat) : Int)).size = (Lib.decDigits 0).length by rw [← num_list]; exact (Array.length_toList).symm, Lib.decDigits]
        rfl
      omega
    · exact h1
  exact dec_head n h1 (by rw [e2, hb]; rfl)
theorem val_step {s : ByteArray} {i : Nat} {b : UInt8} (h : s.data.toList.take (i + 1) = s.data.toList.take i ++ [b]) : valL 0 (s.data.toList.take (i + 1)) = valL 0 (s.data.toList.take i) * 10 + (b.toNat - 48) := by rw [h, valL_app]; rfl
def C216 : List AV → (AV → Prop) → Prop := con (X := ByteArray) (fun s => [.str s]) (fun s => s.size < 9223372036854775808) fun s K => ∀ v : Int, i64r v → (∀ n : Nat, n < 1000000 → s = num n → v = n) → K (.int .i64 v)
theorem F216 : FF 37 C216 := by
  refine fitX [(23, C35)] (by simp only [List.mem_cons, List.not_mem_nil, or_false]; rintro _ rfl <;> first | exact F35) [] (by simp) Tryz.f37 ⟨rfl, by decide +kernel, by decide +kernel⟩ (fun _ _ _ hk h v q1 q2 => hk _ (h v q1 q2)) ?_
  rintro s K hs h
  refine ⟨Nat.le_of_ble_eq_true rfl, ?_⟩
  repeat' ((conv => whnf); first | refine vA ?_ | with_reducible first | refine v8 ?_ | refine Sp.mk ?_ ?_ | refine vS ?_ | refine vR ?_ | refine vB ?_ | refine br_nt ?_ | refine br_tt ?_ | refine br_ff ?_ | refine vP ?_ | refine vQ ?_ | refine vT ?_ | refine vF ?_ | refine br_and ?_ | refine br_or ?_ | refine br_d (fun _ => ?_) fun _ => ?_ | refine vM (fun _ => ?_) fun _ => ?_)
  refine ⟨((s.size : Int), 1, 6), ?_, ⟨trivial⟩, ?_⟩
  · repeat' ((conv => whnf); first | with_reducible exact True.intro | exact vW | with_reducible refine And.intro ?_ ?_)
  dsimp only
  have hno : (∀ n : Nat, n < 1000000 → s = num n → False) → K (.int .i64 (-1)) := fun hn => h (-1) ⟨by decide, by decide⟩ fun n q1 q2 => (hn n q1 q2).elim
  apply later
  · intro key
    repeat' ((conv => whnf); first | refine vA ?_ | with_reducible first | refine v8 ?_ | refine Sp.mk ?_ ?_ | refine vS ?_ | refine vR ?_ | refine vB ?_ | refine br_nt ?_ | refine br_tt ?_ | refine br_ff ?_ | refine vP ?_ | refine vQ ?_ | refine vT ?_ | refine vF ?_ | refine br_and ?_ | refine br_or ?_ | refine br_d (fun _ => ?_) fun _ => ?_ | refine vM (fun _ => ?_) fun _ => ?_)
    · rename_i q1 q2 q3
      refine hno fun n hn e => ?_
      subst e
      exact num_0 (by omega) q3
    · rename_i q1 q2 q3
      replace q1 : 1 ≤ s.size ∧ s.size ≤ 6 := by omega
      clear q2 q3
      refine Lp.mk ⟨Nat, fun i => [(0, .str s), (3, .int .i64 (valL 0 (s.data.toList.take i) : Nat)), (4, .int .i64 i)], fun _ => [], fun i => i ≤ s.size ∧ valL 0 (s.data.toList.take i) + 1 ≤ 10 ^ i, fun i => s.size - i, ⟨0, ⟨Nat.zero_le _, Nat.le_refl _⟩, ⟨⟨[], [], rfl, rfl, ?_, ?_⟩⟩⟩, ?_⟩
      · repeat' ((conv => whnf); first | with_reducible exact True.intro | exact vW | with_reducible refine And.intro ?_ ?_)
      · repeat' ((conv => whnf); first | with_reducible exact True.intro | exact vW | with_reducible refine And.intro ?_ ?_)
      revert q1
      exact key.t
    · rename_i q1 q2
      replace q1 : 1 ≤ s.size ∧ s.size ≤ 6 := by omega
      clear q2
      refine Lp.mk ⟨Nat, fun i => [(0, .str s), (3, .int .i64 (valL 0 (s.data.toList.take i) : Nat)), (4, .int .i64 i)], fun _ => [], fun i => i ≤ s.size ∧ valL 0 (s.data.toList.take i) + 1 ≤ 10 ^ i, fun i => s.size - i, ⟨0, ⟨Nat.zero_le _, Nat.le_refl _⟩, ⟨⟨[], [], rfl, rfl, ?_, ?_⟩⟩⟩, ?_⟩
      · repeat' ((conv => whnf); first | with_reducible exact True.intro | exact vW | with_reducible refine And.intro ?_ ?_)
      · repeat' ((conv => whnf); first | with_reducible exact True.intro | exact vW | with_reducible refine And.intro ?_ ?_)
      revert q1
      exact key.t
    · rename_i q1
      refine hno fun n hn e => q1 ?_
      subst e
      have := num_len hn
      omega
  rintro ⟨h1, h6⟩ i ⟨i1, i2⟩
  have ip : 10 ^ i ≤ 10 ^ 6 := Nat.pow_le_pow_right (by decide) (by omega)
  have ip' : (10 : Nat) ^ 6 = 1000000 := by decide
  dsimp only
  by_cases hi : i < s.size
  · obtain ⟨b, e1, e2, e3⟩ := take_bt hi
    have hv := val_step e3
    have hb := b.toNat_lt
    have e1' : bt s (i : Int).toNat = (b.toNat : Int) := e1
    have hbad : ¬ digB b → K (.int .i64 (-1)) := fun hd => hno fun n hn e => hd (by subst e; rw [num_list] at e2; exact dec_dig n b e2)
    repeat' ((conv => whnf); first | refine vA ?_ | with_reducible first | refine v8 ?_ | refine Sp.mk ?_ ?_ | refine vS ?_ | refine vR ?_ | refine vB ?_ | refine br_nt ?_ | refine br_tt ?_ | refine br_ff ?_ | refine vP ?_ | refine vQ ?_ | refine vT ?_ | refine vF ?_ | refine br_and ?_ | refine br_or ?_ | refine br_d (fun _ => ?_) fun _ => ?_ | refine vM (fun _ => ?_) fun _ => ?_)
    · exact hbad fun q => by unfold digB at q; omega
    · exact hbad fun q => by unfold digB at q; omega
    · refine ⟨i + 1, ⟨by omega, by rw [hv, Nat.pow_succ]; omega⟩, by omega, ⟨⟨[], [], rfl, rfl, ?_, ?_⟩⟩⟩
      · repeat' ((conv => whnf); first | with_reducible exact True.intro | exact vW | with_reducible refine And.intro ?_ ?_)
      · repeat' ((conv => whnf); first | with_reducible exact True.intro | exact vW | with_reducible refine And.intro ?_ ?_)
  · obtain rfl : i = s.size := by omega
    have ht : s.data.toList.take s.size = s.data.toList := List.take_of_length_le (by rw [Array.length_toList]; exact Nat.le_refl _)
    rw [ht] at i2 ⊢
    repeat' ((conv => whnf); first | refine vA ?_ | with_reducible first | refine v8 ?_ | refine Sp.mk ?_ ?_ | refine vS ?_ | refine vR ?_ | refine vB ?_ | refine br_nt ?_ | refine br_tt ?_ | refine br_ff ?_ | refine vP ?_ | refine vQ ?_ | refine vT ?_ | refine vF ?_ | refine br_and ?_ | refine br_or ?_ | refine br_d (fun _ => ?_) fun _ => ?_ | refine vM (fun _ => ?_) fun _ => ?_)
    exact h _ ⟨by omega, by omega⟩ fun n hn e => by rw [e, num_val]
end Go.Proofs.YtahfdkdneojkmaaGreatDoor.Vc
end
section
/- Part UD: what a place's text is cut into. -/
namespace Go.Proofs.YtahfdkdneojkmaaGreatDoor.Vc
open Go.Proofs
set_option maxRecDepth 10000
set_option maxHeartbeats 4000000
def visB (s : ByteArray) : Prop := ∀ b ∈ s.data.toList, 33 ≤ b.toNat
theorem vis_app {a b : ByteArray} (ha : visB a) (hb : visB b) : visB (a ++ b) := fun x hx => by
  rw [ByteArray.data_append, Array.toList_append] at hx
  exact (List.mem_append.1 hx).elim (ha x) (hb x)
theorem vis_num {n : Int} (h : 0 ≤ n) : visB (num n) := fun b hb => by
  obtain ⟨k, rfl⟩ : ∃ k : Nat, n = k := ⟨n.toNat, by omega⟩
  rw [num_list] at hb
  have := dec_dig k b hb
  unfold digB at this
  omega
theorem vis_one {k : UInt8} (h : 33 ≤ k.toNat) : visB ⟨#[k]⟩ := fun b hb => by
  rw [List.mem_singleton.1 hb]; exact h
theorem vis_wrap {s : ByteArray} {b : Bool} (h : visB s) : visB (wrapT s b) := by
  unfold wrapT
  split
  · exact vis_app (vis_app (vis_one (by decide)) h) (vis_one (by decide))
  · exact h
theorem vis_letter {a : Int} (h0 : 0 ≤ a) (h : a < 8) : visB (letter a) := vis_one (by
  rw [UInt8.toNat_ofNat', Nat.mod_eq_of_lt (by omega)]
  omega)
theorem vis_join {k : Int} {a b : Pt} (ha : visB a.s) (hb : visB b.s) : visB (join2 k a b).s := by
  unfold join2
  split
  · exact vis_app (vis_app ha (vis_one (by decide))) (vis_wrap hb)
  · exact vis_app (vis_app (vis_wrap ha) (vis_one (by decide))) (vis_wrap hb)
def okM (m : Mark) : Prop := m.kind = 0 → (0 ≤ m.at_ ∧ m.at_ < 8) ∧ 0 ≤ m.need
theorem vis_step {m : Mark} {st : List Pt} (hm : okM m) (h : ∀ p ∈ st, visB p.s) : ∀ p ∈ stepT m st, visB p.s := by
  unfold stepT
  split
  · rename_i e
    have := hm e
    intro p hp
    rcases List.mem_cons.1 hp with rfl | hp
    · exact vis_app (vis_letter this.1.1 this.1.2) (vis_num this.2)
    · exact h p hp
  · match st, h with
    | [], h => exact h
    | [a], h => exact h
    | b :: a :: r, h =>
      intro p hp
      rcases List.mem_cons.1 hp with rfl | hp
      · exact vis_join (h a (List.mem_cons_of_mem _ List.mem_cons_self)) (h b List.mem_cons_self)
      · exact h p (List.mem_cons_of_mem _ (List.mem_cons_of_mem _ hp))
theorem vis_run : ∀ {t : List Mark} {st : List Pt}, (∀ m ∈ t, okM m) → (∀ p ∈ st, visB p.s) → ∀ p ∈ runT t st, visB p.s
  | [], _, _, h => h
  | m :: t, _, hm, h => vis_run (t := t) (fun x hx => hm x (List.mem_cons_of_mem _ hx)) (vis_step (hm m List.mem_cons_self) h)
theorem walk_marks {bs : List Int} (hl : bs.length ≤ 8) : ∀ {t : List Mark} {k j : Nat}, walkP bs t k = some j → ∀ m ∈ t, okM m
  | [], _, _, _, m, hm => by cases hm
  | x :: t, k, j, h, m, hm => by
    simp only [walkP] at h
    cases e : stepP bs x k with
    | none => rw [e] at h; cases h
    | some i =>
      rw [e] at h
      rcases List.mem_cons.1 hm with rfl | hm
      · intro hk
        unfold stepP at e
        split at e
        · rename_i g
          exact ⟨⟨g.2.1, by omega⟩, by omega⟩
        · rename_i g
          split at e
          · rename_i g2
            omega
          · cases e
      · exact walk_marks hl (t := t) (k := i) (j := j) h m hm
theorem vis_term {h : House} {t : List Mark} (ht : termOk h t) : visB (textT t) := by
  have h1 := vis_run (t := t) (st := []) (walk_marks (Nat.le_trans ht.1.2.1 (by decide)) ht.2.2) (fun _ q => by cases q)
  unfold textT partT
  cases e : runT t [] with
  | nil => intro b hb; cases hb
  | cons p r => rw [e] at h1; exact h1 p List.mem_cons_self
theorem vis_rule {h : House} {r : ByteArray} (e : bad h r = false) : visB r := by
  obtain ⟨t, ht⟩ := bad_term e
  obtain ⟨_, g2, g3⟩ := (rdT_iff (by decide)).1 ht
  rw [← g3]
  exact vis_term g2
theorem vis_joinB {s : ByteArray} (hs : visB s) : ∀ {l : List ByteArray}, (∀ x ∈ l, visB x) → visB (joinB l s) := by
  intro l h b hb
  have hb' : b ∈ Lib.join (l.map (·.data.toList)) s.data.toList := hb
  have key : ∀ (l : List (List UInt8)), b ∈ Lib.join l s.data.toList → b ∈ s.data.toList ∨ ∃ x ∈ l, b ∈ x := by
    intro l
    induction l with
    | nil => intro q; cases q
    | cons x l ih =>
      cases l with
      | nil => rw [Lib.join_one]; exact fun q => .inr ⟨x, List.mem_cons_self, q⟩
      | cons y r =>
        have e : Lib.join (x :: y :: r) s.data.toList = x ++ (s.data.toList ++ Lib.join (y :: r) s.data.toList) := by
          unfold Lib.join List.intercalate
          rw [List.intersperse_cons_cons, List.flatten_cons, List.flatten_cons]
        rw [e]
        intro q
        rcases List.mem_append.1 q with q | q
        · exact .inr ⟨x, List.mem_cons_self, q⟩
        · rcases List.mem_append.1 q with q | q
          · exact .inl q
          · exact (ih q).imp id fun ⟨z, hz, hq⟩ => ⟨z, List.mem_cons_of_mem _ hz, hq⟩
  rcases key _ hb' with q | ⟨x, hx, q⟩
  · exact hs b q
  · obtain ⟨y, hy, rfl⟩ := List.mem_map.1 hx
    exact h y hy b q
theorem vis_no {s : ByteArray} (h : visB s) {c : UInt8} (hc : c.toNat < 33) : c ∉ s.data.toList := fun q => by have := h c q; omega
theorem num_nocomma {n : Int} (h : 0 ≤ n) : (44 : UInt8) ∉ (num n).data.toList := fun q => by
  obtain ⟨k, rfl⟩ : ∃ k : Nat, n = k := ⟨n.toNat, by omega⟩
  rw [num_list] at q
  have := dec_dig k _ q
  unfold digB at this
  have h44 : (44 : UInt8).toNat = 44 := rfl
  omega
theorem cut_listT {l : List Int} (h : smallL l) (hne : l ≠ []) : cutB (listT l) 44 = l.map num := joinB_cut (c := 44) (fun e => hne (List.map_eq_nil_iff.1 e)) fun x hx => by
  obtain ⟨n, hn, rfl⟩ := List.mem_map.1 hx
  exact num_nocomma (h.2 n hn).1
theorem cut_plT {x : Place} (h : placeOk x) : cutB (plT x) 32 = num x.p :: listT x.bs :: x.rules := joinB_cut (c := 32) (List.cons_ne_nil _ _) fun y hy => by
  obtain ⟨g1, g2, g3, g4⟩ := placeOk_small h
  refine vis_no ?_ (by decide)
  rcases List.mem_cons.1 hy with rfl | hy
  · exact vis_num g2
  · rcases List.mem_cons.1 hy with rfl | hy
    · exact vis_joinB (vis_one (by decide)) fun z hz => by
        obtain ⟨n, hn, rfl⟩ := List.mem_map.1 hz
        exact vis_num (g1.2 n hn).1
    · exact vis_rule (h.2.2 y hy)
theorem num_inj {m : Nat} {n : Int} (h0 : 0 ≤ n) (h : num (m : Int) = num n) : (m : Int) = n := by
  obtain ⟨k, rfl⟩ : ∃ k : Nat, n = k := ⟨n.toNat, by omega⟩
  have := num_val m
  rw [h, num_val] at this
  rw [this]
/-- A text tells of at most one place. -/
theorem plT_inj {x y : Place} (hx : placeOk x) (hy : placeOk y) (h : plT x = plT y) : x = y := by
  have e := cut_plT hx
  rw [h, cut_plT hy] at e
  obtain ⟨x1, x2, x3⟩ := x
  obtain ⟨y1, y2, y3⟩ := y
  have sx := placeOk_small hx
  have sy := placeOk_small hy
  injection e with e1 e2
  injection e2 with e2 e3
  have nx := placeOk_bs hx
  have ny := placeOk_bs hy
  dsimp only at e1 e2 e3 sx sy nx ny
  have h1 : x1 = y1 := by
    obtain ⟨k, rfl⟩ : ∃ k : Nat, y1 = k := ⟨y1.toNat, by omega⟩
    exact (num_inj sx.2.1 e1).symm
  have e4 := cut_listT sx.1 nx
  rw [← e2, cut_listT sy.1 ny] at e4
  have h2 : x2 = y2 := by
    have key : ∀ (a b : List Int), (∀ n ∈ a, 0 ≤ n) → (∀ n ∈ b, 0 ≤ n) → a.map num = b.map num → a = b := by
      intro a
      induction a with
      | nil => intro b _ _ e; cases b with | nil => rfl | cons => cases e
      | cons n a ih =>
        intro b ha hb e
        cases b with
        | nil => cases e
        | cons m b =>
          rw [List.map_cons, List.map_cons] at e
          injection e with e1 e2
          obtain ⟨k, rfl⟩ : ∃ k : Nat, n = k := ⟨n.toNat, by have := ha n List.mem_cons_self; omega⟩
          rw [num_inj (hb m List.mem_cons_self) e1, ih b (fun z hz => ha z (List.mem_cons_of_mem _ hz)) (fun z hz => hb z (List.mem_cons_of_mem _ hz)) e2]
    exact (key _ _ (fun n hn => (sy.1.2 n hn).1) (fun n hn => (sx.1.2 n hn).1) e4).symm
  rw [h1, h2, e3]
end Go.Proofs.YtahfdkdneojkmaaGreatDoor.Vc
end
section
/- Part UE: places that are read, by the reference. -/
namespace Go.Proofs.YtahfdkdneojkmaaGreatDoor.Vc
open Go.Proofs
set_option maxRecDepth 10000
set_option maxHeartbeats 4000000
def isPt (s : ByteArray) (x : Place) : Prop := placeOk x ∧ plT x = s
def rpPost (s : ByteArray) (K : AV → Prop) : Prop := (∀ x, isPt s x → K (.tup [enPl x, .bool true])) ∧ ((¬ ∃ x, isPt s x) → K (.tup [enPl default, .bool false]))
theorem rpPost.mono {s : ByteArray} {K K2 : AV → Prop} (hk : ∀ r, K r → K2 r) (h : rpPost s K) : rpPost s K2 := ⟨fun x q => hk _ (h.1 x q), fun q => hk _ (h.2 q)⟩
theorem isPt_cut {s : ByteArray} {x : Place} (h : isPt s x) : cutB s 32 = num x.p :: listT x.bs :: x.rules := by rw [← h.2]; exact cut_plT h.1
theorem isPt_len {s : ByteArray} {x : Place} (h : isPt s x) : 3 ≤ (cutB s 32).length := by
  rw [isPt_cut h]
  have := h.1.2.1.1
  simp only [List.length_cons]
  omega
theorem isPt_p {s : ByteArray} {x : Place} (h : isPt s x) : ∃ n : Nat, n < 1000000 ∧ (cutB s 32).getD 0 ⟨#[]⟩ = num n ∧ x.p = n := by
  have := placeOk_small h.1
  rw [isPt_cut h]
  exact ⟨x.p.toNat, by omega, by show num x.p = _; congr 1; omega, by omega⟩
theorem isPt_bs {s : ByteArray} {x : Place} (h : isPt s x) : cutB ((cutB s 32).getD 1 ⟨#[]⟩) 44 = x.bs.map num := by
  rw [isPt_cut h]
  exact cut_listT (placeOk_small h.1).1 (placeOk_bs h.1)
theorem isPt_b {s : ByteArray} {x : Place} (h : isPt s x) {i : Nat} (hi : i < x.bs.length) : ∃ n : Nat, n < 1000000 ∧ (cutB ((cutB s 32).getD 1 ⟨#[]⟩) 44).getD i ⟨#[]⟩ = num n ∧ x.bs.getD i 0 = n := by
  have hs := (placeOk_small h.1).1.2 _ (getD_mem' (d := 0) hi)
  rw [isPt_bs h]
  refine ⟨(x.bs.getD i 0).toNat, by omega, ?_, by omega⟩
  rw [List.getD_eq_getElem?_getD, List.getElem?_map, List.getElem?_eq_getElem hi, List.getD_eq_getElem?_getD, List.getElem?_eq_getElem hi] at *
  show num _ = num _
  congr 1
  have : (x.bs[i]?.getD 0 : Int) = x.bs[i] := by rw [List.getElem?_eq_getElem hi]; rfl
  simp only [Option.getD_some] at hs ⊢
  omega
theorem isPt_rs {s : ByteArray} {x : Place} (h : isPt s x) : (cutB s 32).drop 2 = x.rules := by rw [isPt_cut h]; rfl
theorem isPt_one {s : ByteArray} {x y : Place} (h : isPt s x) (g : isPt s y) : x = y := plT_inj h.1 g.1 (h.2.trans g.2.symm)
theorem isPt_ne {s : ByteArray} {x : Place} (h : isPt s x) : s ≠ ⟨#[]⟩ := fun e => by
  have := isPt_len h
  rw [e] at this
  exact absurd this (by decide)
def C219 : List AV → (AV → Prop) → Prop := con (X := ByteArray) (fun s => [.str s]) (fun s => s.size < 4294967281) rpPost
theorem F219 : FF 18 C219 := by
  refine fitXE [(36, C215), (37, C216), (13, C142)] (by simp only [List.mem_cons, List.not_mem_nil, or_false]; rintro _ (rfl | rfl | rfl) <;> first | exact F215 | exact F216 | exact F142) [] (by simp) Tryz.f18 ⟨rfl, by decide +kernel, by decide +kernel⟩ (fun _ _ _ hk h => h.mono hk) ?_
  rintro s K hs ⟨h, hno⟩
  refine ⟨Nat.le_of_ble_eq_true rfl, ?_⟩
  repeat' ((conv => whnf); first | refine vA ?_ | with_reducible first | refine v8 ?_ | refine Sp.mk ?_ ?_ | refine vS ?_ | refine vR ?_ | refine vB ?_ | refine br_nt ?_ | refine br_tt ?_ | refine br_ff ?_ | refine vP ?_ | refine vQ ?_ | refine vT ?_ | refine vF ?_ | refine br_and ?_ | refine br_or ?_ | refine br_d (fun _ => ?_) fun _ => ?_ | refine vM (fun _ => ?_) fun _ => ?_)
  refine ⟨(s, 32), ?_, ⟨hs⟩, ?_⟩
  · repeat' ((conv => whnf); first | with_reducible exact True.intro | exact vW | with_reducible refine And.intro ?_ ?_)
  obtain ⟨L, hL⟩ : ∃ L, cutB s 32 = L := ⟨_, rfl⟩
  have hl2 := (cutB_len s 32).2
  have hlm : ∀ x ∈ L, x.size ≤ s.size := fun x hx => cutB_mem (c := 32) (hL ▸ hx)
  have hx3 : ∀ x, isPt s x → 3 ≤ L.length := fun x q => hL ▸ isPt_len q
  dsimp only
  rw [hL] at hl2 ⊢
  repeat' ((conv => whnf); first | refine vA ?_ | with_reducible first | refine v8 ?_ | refine Sp.mk ?_ ?_ | refine vS ?_ | refine vR ?_ | refine vB ?_ | refine br_nt ?_ | refine br_tt ?_ | refine br_ff ?_ | refine vP ?_ | refine vQ ?_ | refine vT ?_ | refine vF ?_ | refine br_and ?_ | refine br_or ?_ | refine br_d (fun _ => ?_) fun _ => ?_ | refine vM (fun _ => ?_) fun _ => ?_)
  · rename_i h3
    refine ⟨_, ?_, hno fun ⟨x, q⟩ => by have := hx3 x q; omega⟩
    repeat' ((conv => whnf); first | with_reducible exact True.intro | exact vW | with_reducible refine And.intro ?_ ?_)
  rename_i h3
  obtain ⟨Q, hQ⟩ : ∃ Q, L.drop 2 = Q := ⟨_, rfl⟩
  have hQl : Q.length = L.length - 2 := by rw [← hQ, List.length_drop]
  have hQe : Q.length = (L.length : Int).toNat - Int.toNat 2 ∧ ∀ i, i < Q.length → encS (Q.getD i ⟨#[]⟩) = encS (L.getD (Int.toNat 2 + i) ⟨#[]⟩) := ⟨hQl, fun i _ => by
    rw [← hQ, List.getD_eq_getElem?_getD, List.getElem?_drop, ← List.getD_eq_getElem?_getD]
    rfl⟩
  apply later
  · intro key
    refine Dr.mk ⟨(.rd 0 (.rd 1 (.rd 2 (.rd 6 (.rd 7 (.ef 3 (.rd 4 (.ef 5 (.ef 8 (.rd 9 (.ef 10 (.ef 11 .dn .no) .no)) (.ef 10 (.ef 8 (.rd 9 (.ef 11 .dn .no)) .no) .no)) (.ef 10 (.ef 5 (.ef 8 (.rd 9 (.ef 11 .dn .no)) .no) .no) .no))) (.ef 5 (.ef 3 (.rd 4 (.ef 8 (.rd 9 (.ef 10 (.ef 11 .dn .no) .no)) (.ef 10 (.ef 8 (.rd 9 (.ef 11 .dn .no)) .no) .no))) (.ef 10 (.ef 3 (.rd 4 (.ef 8 (.rd 9 (.ef 11 .dn .no)) .no)) .no) .no)) (.ef 10 (.ef 3 (.rd 4 (.ef 5 (.ef 8 (.rd 9 (.ef 11 .dn .no)) .no) .no)) (.ef 5 (.ef 3 (.rd 4 (.ef 8 (.rd 9 (.ef 11 .dn .no)) .no)) .no) .no)) .no)))))))), by decide +kernel, ?_⟩
    repeat' ((conv => whnf); first | refine vA ?_ | with_reducible first | refine v8 ?_ | refine Sp.mk ?_ ?_ | refine vS ?_ | refine vR ?_ | refine vB ?_ | refine br_nt ?_ | refine br_tt ?_ | refine br_ff ?_ | refine vP ?_ | refine vQ ?_ | refine vT ?_ | refine vF ?_ | refine br_and ?_ | refine br_or ?_ | refine br_d (fun _ => ?_) fun _ => ?_ | refine vM (fun _ => ?_) fun _ => ?_)
    all_goals
      refine ⟨L.getD 0 ⟨#[]⟩, ?_, ⟨by have := hlm _ (getD_mem' (l := L) (i := 0) (d := ⟨#[]⟩) (by omega)); omega⟩, ?_⟩
      · repeat' ((conv => whnf); first | with_reducible exact True.intro | exact vW | with_reducible refine And.intro ?_ ?_)
      intro v hv hn
      have hp : ∀ x, isPt s x → v = x.p := fun x q => by
        obtain ⟨n, n1, n2, n3⟩ := isPt_p q
        rw [hL] at n2
        rw [hn n n1 n2, n3]
      repeat' ((conv => whnf); first | with_reducible refine wk_at 5 ?_ | with_reducible refine wk_at1 5 ?_ | with_reducible refine wk_at2 5 ?_ | refine vA ?_ | with_reducible first | refine v8 ?_ | refine Sp.mk ?_ ?_ | refine vS ?_ | refine vR ?_ | refine vB ?_ | refine br_nt ?_ | refine br_tt ?_ | refine br_ff ?_ | refine vP ?_ | refine vQ ?_ | refine vT ?_ | refine vF ?_ | refine br_and ?_ | refine br_or ?_ | refine br_d (fun _ => ?_) fun _ => ?_ | refine vM (fun _ => ?_) fun _ => ?_)
    all_goals
      refine ⟨Wk.go [(0, .str s), (2, .ptr 0 0), (4, slS L), (5, .ptr 1 0)] [.box [.int .i64 0, .nils, .nils], .box [.int .i64 v, .nils, .row 2 1 0 Q.length], .row 1 Q.length fun i => encS (Q.getD i ⟨#[]⟩)] ?_ ?_⟩
      · first | (refine ⟨⟨[some 0, some 1, some 2], [], rfl, rfl, ?_, ?_⟩⟩ <;> (repeat' ((conv => whnf); first | with_reducible exact True.intro | exact vW | with_reducible refine And.intro ?_ ?_ | exact Chk.mk hQe)) <;> fail) | (refine ⟨⟨[some 0, some 2, some 1], [], rfl, rfl, ?_, ?_⟩⟩ <;> (repeat' ((conv => whnf); first | with_reducible exact True.intro | exact vW | with_reducible refine And.intro ?_ ?_ | exact Chk.mk hQe)) <;> fail)
      clear hn
      revert v
      exact key.t
  intro v hv hp
  obtain ⟨M, hM⟩ : ∃ M, cutB (L.getD 1 ⟨#[]⟩) 44 = M := ⟨_, rfl⟩
  have h1s := hlm _ (getD_mem' (l := L) (i := 1) (d := ⟨#[]⟩) (by omega))
  have hMl := (cutB_len (L.getD 1 ⟨#[]⟩) 44).2
  have hMm : ∀ x ∈ M, x.size ≤ s.size := fun x hx => Nat.le_trans (cutB_mem (c := 44) (hM ▸ hx)) h1s
  have hMx : ∀ x, isPt s x → M = x.bs.map num := fun x q => by rw [← hM, ← hL]; exact isPt_bs q
  have hMb : ∀ x, isPt s x → ∀ i, i < x.bs.length → ∃ n : Nat, n < 1000000 ∧ M.getD i ⟨#[]⟩ = num n ∧ x.bs.getD i 0 = n := fun x q i hi => by rw [← hM, ← hL]; exact isPt_b q hi
  repeat' ((conv => whnf); first | refine vA ?_ | with_reducible first | refine v8 ?_ | refine Sp.mk ?_ ?_ | refine vS ?_ | refine vR ?_ | refine vB ?_ | refine br_nt ?_ | refine br_tt ?_ | refine br_ff ?_ | refine vP ?_ | refine vQ ?_ | refine vT ?_ | refine vF ?_ | refine br_and ?_ | refine br_or ?_ | refine br_d (fun _ => ?_) fun _ => ?_ | refine vM (fun _ => ?_) fun _ => ?_)
  refine ⟨(L.getD 1 ⟨#[]⟩, 44), ?_, ⟨by dsimp only; omega⟩, ?_⟩
  · repeat' ((conv => whnf); first | with_reducible exact True.intro | exact vW | with_reducible refine And.intro ?_ ?_)
  dsimp only
  rw [hM] at hMl ⊢
  repeat' ((conv => whnf); first | refine vA ?_ | with_reducible first | refine v8 ?_ | refine Sp.mk ?_ ?_ | refine vS ?_ | refine vR ?_ | refine vB ?_ | refine br_nt ?_ | refine br_tt ?_ | refine br_ff ?_ | refine vP ?_ | refine vQ ?_ | refine vT ?_ | refine vF ?_ | refine br_and ?_ | refine br_or ?_ | refine br_d (fun _ => ?_) fun _ => ?_ | refine vM (fun _ => ?_) fun _ => ?_)
  refine Lp.mk ⟨List Int, fun B => [(0, .str s), (2, .ptr 0 0), (5, .ptr 1 0), (6, slS M), (7, .int .i64 B.length)], fun B => [.box [.int .i64 0, .nils, .nils], .box [.int .i64 v, .row 3 1 0 B.length, .row 2 1 0 Q.length], .row 1 Q.length fun i => encS (Q.getD i ⟨#[]⟩), .row 1 B.length fun i => encI (B.getD i 0)],
    fun B => B.length ≤ M.length ∧ (∀ n ∈ B, i64r n) ∧ ∀ x, isPt s x → B = x.bs.take B.length, fun B => M.length - B.length, ⟨[], ⟨Nat.zero_le _, (fun _ q => by cases q), (fun _ _ => rfl)⟩, ⟨⟨[some 0, some 1, some 2, none], [], rfl, rfl, ?_, ?_⟩⟩⟩, ?_⟩
  · repeat' ((conv => whnf); first | with_reducible exact True.intro | exact vW | with_reducible refine And.intro ?_ ?_)
  · repeat' ((conv => whnf); first | with_reducible exact True.intro | exact vW | with_reducible refine And.intro ?_ ?_)
  rintro B ⟨i1, i2, i3⟩
  dsimp only
  by_cases hk : B.length < M.length
  · repeat' ((conv => whnf); first | refine vA ?_ | with_reducible first | refine v8 ?_ | refine Sp.mk ?_ ?_ | refine vS ?_ | refine vR ?_ | refine vB ?_ | refine br_nt ?_ | refine br_tt ?_ | refine br_ff ?_ | refine vP ?_ | refine vQ ?_ | refine vT ?_ | refine vF ?_ | refine br_and ?_ | refine br_or ?_ | refine br_d (fun _ => ?_) fun _ => ?_ | refine vM (fun _ => ?_) fun _ => ?_)
    refine Dr.mk ⟨(.rd 0 (.rd 1 (.rd 2 (.rd 3 (.rd 4 (.rd 5 (.rd 6 (.ef 7 (.ef 8 (.ef 9 (.rd 10 (.rd 11 (.ef 12 .dn .no))) .no) .no) .no)))))))), by decide +kernel, ?_⟩
    repeat' ((conv => whnf); first | refine vA ?_ | with_reducible first | refine v8 ?_ | refine Sp.mk ?_ ?_ | refine vS ?_ | refine vR ?_ | refine vB ?_ | refine br_nt ?_ | refine br_tt ?_ | refine br_ff ?_ | refine vP ?_ | refine vQ ?_ | refine vT ?_ | refine vF ?_ | refine br_and ?_ | refine br_or ?_ | refine br_d (fun _ => ?_) fun _ => ?_ | refine vM (fun _ => ?_) fun _ => ?_)
    refine ⟨M.getD B.length ⟨#[]⟩, ?_, ⟨by have := hMm _ (getD_mem' (d := ⟨#[]⟩) hk); omega⟩, ?_⟩
    · repeat' ((conv => whnf); first | with_reducible exact True.intro | exact vW | with_reducible refine And.intro ?_ ?_)
    intro w hw hn
    have hnext : ∀ x, isPt s x → B ++ [w] = x.bs.take (B.length + 1) := fun x q => by
      have e2 := hMx x q
      have e3 : x.bs.length = M.length := by rw [e2, List.length_map]
      obtain ⟨n, n1, n2, n3⟩ := hMb x q B.length (by omega)
      rw [take_succ' 0 (by omega), ← i3 x q, hn n n1 n2, n3]
    have hi2 : ∀ n ∈ B ++ [w], i64r n := fun n hm => (List.mem_append.1 hm).elim (i2 n) fun hm => by rw [List.mem_singleton.1 hm]; exact hw
    have hBl : (B ++ [w]).length = B.length + 1 := by rw [List.length_append]; rfl
    repeat' ((conv => whnf); first | refine vA ?_ | with_reducible first | refine v8 ?_ | refine Sp.mk ?_ ?_ | refine vS ?_ | refine vR ?_ | refine vB ?_ | refine br_nt ?_ | refine br_tt ?_ | refine br_ff ?_ | refine vP ?_ | refine vQ ?_ | refine vT ?_ | refine vF ?_ | refine br_and ?_ | refine br_or ?_ | refine br_d (fun _ => ?_) fun _ => ?_ | refine vM (fun _ => ?_) fun _ => ?_)
    refine ⟨B ++ [w], ⟨by omega, hi2, fun x q => by rw [hBl]; exact hnext x q⟩, by omega, ?_⟩
    first | (refine ⟨⟨[some 0, some 1, some 2, some 5], [], rfl, rfl, ?_, ?_⟩⟩ <;> (repeat' ((conv => whnf); first | with_reducible exact True.intro | exact vW | with_reducible refine And.intro ?_ ?_ | exact Chk.mk ⟨rfl, hBl⟩ | exact Chk.mk (ext_push rfl))) <;> fail) | (refine ⟨⟨[some 0, some 1, some 2, some 4], [], rfl, rfl, ?_, ?_⟩⟩ <;> (repeat' ((conv => whnf); first | with_reducible exact True.intro | exact vW | with_reducible refine And.intro ?_ ?_ | exact Chk.mk ⟨rfl, hBl⟩ | exact Chk.mk (ext_push rfl))) <;> fail)
  · have hBx : ∀ x, isPt s x → x = ⟨v, B, Q⟩ := fun x q => by
      have e1 := i3 x q
      have e2 := hMx x q
      have e3 : x.bs.length = M.length := by rw [e2, List.length_map]
      rw [List.take_of_length_le (by omega)] at e1
      have e4 := isPt_rs q
      rw [hL, hQ] at e4
      obtain ⟨xp, xb, xr⟩ := x
      have e5 := hp _ q
      dsimp only at e1 e4 e5
      rw [e1, e4, e5]
    have hyI : placeI ⟨v, B, Q⟩ := ⟨⟨⟨hv, i2⟩, by show B.length < _; omega⟩, by show Q.length < _; omega, fun r hr => by have := hlm r (by rw [← hQ] at hr; exact List.mem_of_mem_drop hr); omega⟩
    have hno' : (¬ ptext ⟨v, B, Q⟩ = s ∨ s = ⟨#[]⟩) → K (.tup [enPl default, .bool false]) := fun q => hno fun ⟨x, g⟩ => by
      rcases q with q | q
      · rw [← hBx x g] at q
        exact q ((if_pos g.1).trans g.2)
      · exact isPt_ne g q
    have hyes : ptext ⟨v, B, Q⟩ = s → s ≠ ⟨#[]⟩ → K (.tup [enPl ⟨v, B, Q⟩, .bool true]) := fun e ne => h _ (by
      by_cases hO : placeOk ⟨v, B, Q⟩
      · exact ⟨hO, (if_pos hO).symm.trans e⟩
      · exact absurd ((if_neg hO).symm.trans e).symm ne)
    repeat' ((conv => whnf); first | refine vA ?_ | with_reducible first | refine v8 ?_ | refine Sp.mk ?_ ?_ | refine vS ?_ | refine vR ?_ | refine vB ?_ | refine br_nt ?_ | refine br_tt ?_ | refine br_ff ?_ | refine vP ?_ | refine vQ ?_ | refine vT ?_ | refine vF ?_ | refine br_and ?_ | refine br_or ?_ | refine br_d (fun _ => ?_) fun _ => ?_ | refine vM (fun _ => ?_) fun _ => ?_)
    · rename_i hs0
      refine ⟨_, ?_, hno' (.inr hs0)⟩
      repeat' ((conv => whnf); first | with_reducible exact True.intro | exact vW | with_reducible refine And.intro ?_ ?_)
    · rename_i hs0
      refine ⟨⟨v, B, Q⟩, ?_, ⟨hyI⟩, ?_⟩
      · repeat' ((conv => whnf); first | with_reducible exact True.intro | exact vW | with_reducible refine And.intro ?_ ?_)
        all_goals exact Chk.mk ⟨rfl, fun i _ => by dsimp only; rw [Nat.zero_add]⟩
      repeat' ((conv => whnf); first | refine vA ?_ | with_reducible first | refine v8 ?_ | refine Sp.mk ?_ ?_ | refine vS ?_ | refine vR ?_ | refine vB ?_ | refine br_nt ?_ | refine br_tt ?_ | refine br_ff ?_ | refine vP ?_ | refine vQ ?_ | refine vT ?_ | refine vF ?_ | refine br_and ?_ | refine br_or ?_ | refine br_d (fun _ => ?_) fun _ => ?_ | refine vM (fun _ => ?_) fun _ => ?_)
      · rename_i he
        refine ⟨_, ?_, hyes he hs0⟩
        repeat' ((conv => whnf); first | with_reducible exact True.intro | exact vW | with_reducible refine And.intro ?_ ?_)
        all_goals exact Chk.mk ⟨rfl, fun i _ => by dsimp only; rw [Nat.zero_add]⟩
      · rename_i he
        refine ⟨_, ?_, hno' (.inl he)⟩
        repeat' ((conv => whnf); first | with_reducible exact True.intro | exact vW | with_reducible refine And.intro ?_ ?_)
end Go.Proofs.YtahfdkdneojkmaaGreatDoor.Vc
end
