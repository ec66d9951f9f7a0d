/- Part TG: the texts of places. -/
import Derived.Lib.Join
import Derived.WalkKit
import Derived.ProofKit
import Derived.OpenShut
import Derived.ShutString
import Derived.ChangeOld
import Derived.Below
import Derived.SizedLaws
import Derived.Carry
import Derived.Deep.Strs
import Derived.SliceStrings
import Derived.Handed
import Derived.JoinedOf
import Derived.LaidSub
import Derived.Lay
import Derived.Lib.LaidTab
import Derived.Lib.SmallJoins
import Derived.SevenTiedAt
import Derived.Test.YtahfdkdneojkmaaDoorRows
import Derived.Test.YtahfdkdneojkmaaDoorCards
import Derived.Test.YtahfdkdneojkmaaDoorTie
import Derived.Test.YtahfdkdneojkmaaDoorVc4
section
namespace Go.Proofs.YtahfdkdneojkmaaDoor.Vc
open Go.Proofs
set_option maxRecDepth 10000
set_option maxHeartbeats 4000000
/-! ### strings.Join -/
theorem addr_at {w : World} {ad : Addr} {v : Value} (h : w.cell? (ad.add 0) = some v) : ad = ⟨ad.block, ad.off, none⟩ := by
  have h' : w.cell? ad = some v := h
  unfold World.cell? at h'
  split at h'
  · split at h'
    · cases h'
    · rename_i e
      cases ad with
      | mk b o sp => cases sp with
        | none => rfl
        | some k => exact absurd rfl e
  · cases h'
theorem addr_add {b o j : Nat} : (⟨b, o, none⟩ : Addr).add j = ⟨b, o + j, none⟩ := by
  unfold Addr.add
  split
  · rename_i e; subst e; rfl
  · rfl
theorem dr_strs {R : Nat → Prop} {w : World} {xs : List ByteArray} {y : Value} (h : DR R w (slS xs) y) : (xs = [] ∧ ∃ a c, y = .slice a 0 c) ∨ ∃ b o c, y = .slice (some ⟨b, o, none⟩) xs.length c ∧ xs.length ≤ c ∧ R b ∧ ∀ (j : Nat) x, xs[j]? = some x → w.cell? ⟨b, o + j, none⟩ = some (.string x) := by
  generalize hn : xs.length = n at h ⊢
  unfold slS at h
  rw [hn] at h
  cases h with
  | sl0 s f a cap => exact .inl ⟨List.eq_nil_of_length_eq_zero hn, a, cap, rfl⟩
  | sl sz len f ad cap g h1 h2 h3 h4 h5 =>
    rcases Nat.eq_zero_or_pos n with rfl | hp
    · exact .inl ⟨List.eq_nil_of_length_eq_zero hn, _, _, rfl⟩
    · have ha := addr_at (h4 0 hp 0 (by decide))
      rw [ha] at h4
      refine .inr ⟨ad.block, ad.off, cap, by rw [← ha], h1, h2, fun j x hx => ?_⟩
      obtain ⟨hj, e⟩ := List.getElem?_eq_some_iff.1 hx
      have h6 := h4 j (by omega) 0 (by decide)
      have h7 := h5 j (by omega) 0 (by decide)
      rw [addr_add, Nat.mul_one, Nat.add_zero] at h6
      rw [h6]
      have e2 : xs.getD j ⟨#[]⟩ = x := by rw [List.getD_eq_getElem?_getD, hx]; rfl
      have h8 : DR R w (.str (xs.getD j ⟨#[]⟩)) (g j 0) := h7
      rw [e2] at h8
      generalize g j 0 = v at h8 ⊢
      cases h8
      rfl
def joinB (xs : List ByteArray) (sep : ByteArray) : ByteArray := ⟨(Lib.join (xs.map (·.data.toList)) sep.data.toList).toArray⟩
def C181 : List AV → (AV → Prop) → Prop := con (X := List ByteArray × ByteArray) (fun x => [slS x.1, .str x.2]) (fun x => x.1.length ≤ 140737488355328 ∧ (joinB x.1 x.2).size ≤ 140737488355328) fun x K => K (.str (joinB x.1 x.2))
theorem F181 : FF 87 C181 := fun Gl hG => by
  refine ⟨FnOk.has ⟨rfl, by decide +kernel, by decide +kernel⟩ (fn := Tryd.f87), fun us K K' hk ⟨x, h1, h2, h3⟩ => ⟨x, h1, h2, hk _ h3⟩, ?_⟩
  rintro us K ⟨⟨l, s⟩, h1, ⟨h2, h4⟩, h3⟩ R w xs hL hA
  obtain ⟨g1, g2⟩ := exL_PV (R := R) (w := w) us _ h1
  replace g1 : us.length = 2 := g1
  have a0 : PV R w (slS l) (xs.getD 0 Go.undef) := g2 0 (by omega) _ (hA.2 0 (by omega))
  have a1 : PV R w (.str s) (xs.getD 1 Go.undef) := g2 1 (by omega) _ (hA.2 1 (by omega))
  have hsz : xs.size = 2 := hA.1.trans g1
  have ex : xs = #[xs.getD 0 Go.undef, xs.getD 1 Go.undef] := by
    apply Array.ext
    · simpa using hsz
    · intro i h1 h2
      have : i = 0 ∨ i = 1 := by omega
      rcases this with rfl | rfl <;> simp [h1]
  rw [ex]
  generalize xs.getD 0 Go.undef = x0 at a0
  generalize xs.getD 1 Go.undef = x1 at a1
  obtain rfl : x1 = .string s := by cases a1 with | data a1 => cases a1; rfl
  obtain a0 : DR R w (slS l) x0 := by cases a0 with | data a0 => exact a0
  rcases dr_strs a0 with ⟨rfl, a, c, rfl⟩ | ⟨b, o, c, rfl, hc, hb, hcell⟩
  · refine (Tryd.strings_Join_none a c s w).mono fun e w' he => ?_
    obtain ⟨rfl, rfl⟩ := he
    exact ⟨_, _, R, rfl, h3, .data (.str _), ⟨hL.lt, fun _ h => h, fun _ h => .inl h, Nat.le_refl _, fun _ _ => rfl, rfl, rfl, rfl⟩⟩
  · refine (Tryd.strings_Join b o c l s w hcell (hL.lt b hb) h2 hc (by have h4' : (joinB l s).data.size ≤ _ := h4; simpa [joinB] using h4')).mono fun e w' he => ?_
    obtain ⟨rfl, hbl⟩ := he
    exact ⟨_, _, R, rfl, h3, .data (.str _), ⟨fun b' hb' => Nat.lt_of_lt_of_le (hL.lt b' hb') hbl.size, fun _ h => h, fun _ h => .inl h, hbl.size, fun b' hlt => hbl.block b' hlt, hbl.os, hbl.tape, hbl.output⟩⟩
theorem joinB_app {l : List ByteArray} {x sep : ByteArray} (h : l ≠ []) : joinB (l ++ [x]) sep = joinB l sep ++ sep ++ x := by
  have key : ∀ (l : List (List UInt8)) (x sep : List UInt8), l ≠ [] → Lib.join (l ++ [x]) sep = Lib.join l sep ++ sep ++ x := by
    intro l x sep
    induction l with
    | nil => intro h; exact absurd rfl h
    | cons a l ih =>
      intro _
      cases l with
      | nil => simp [Lib.join, List.intercalate, List.intersperse]
      | cons b l =>
        have h2 := ih (by simp)
        unfold Lib.join List.intercalate at h2 ⊢
        simp only [List.cons_append, List.intersperse_cons_cons, List.flatten_cons] at h2 ⊢
        rw [h2]
        simp [List.append_assoc]
  unfold joinB
  rw [List.map_append, List.map_cons, List.map_nil, key _ _ _ (by simpa using h)]
  apply ByteArray.ext
  simp
theorem joinB_one (x sep : ByteArray) : joinB [x] sep = x := by
  unfold joinB
  rw [List.map_cons, List.map_nil, Lib.join_one]
theorem joinB_nil (sep : ByteArray) : joinB [] sep = ⟨#[]⟩ := rfl
theorem joinB_two (x y sep : ByteArray) : joinB [x, y] sep = x ++ sep ++ y := by
  have := joinB_app (l := [x]) (x := y) (sep := sep) (by simp)
  rwa [joinB_one] at this
theorem joinB_size {sep : ByteArray} {M : Nat} : ∀ (n : Nat) (l : List ByteArray), l.length = n → (∀ x ∈ l, x.size ≤ M) → (joinB l sep).size ≤ l.length * (M + sep.size)
  | 0, l, h, _ => by
    have : l = [] := List.eq_nil_of_length_eq_zero h
    subst this
    exact Nat.zero_le _
  | n + 1, l, h, hM => by
    rcases List.eq_nil_or_concat l with rfl | ⟨l', x, rfl⟩
    · simp at h
    · rw [List.concat_eq_append] at h hM ⊢
      simp only [List.length_append, List.length_cons, List.length_nil] at h
      have hx := hM x (by simp)
      rcases Nat.eq_zero_or_pos n with rfl | hn
      · have : l' = [] := List.eq_nil_of_length_eq_zero (by omega)
        subst this
        rw [List.nil_append, joinB_one]
        simp only [List.length_cons, List.length_nil, Nat.zero_add, Nat.one_mul]
        omega
      · have ih := joinB_size (sep := sep) n l' (by omega) fun y hy => hM y (by simp [hy])
        rw [joinB_app (fun e => by subst e; simp at h; omega), ByteArray.size_append, ByteArray.size_append, List.length_append, Nat.add_mul]
        simp only [List.length_cons, List.length_nil, Nat.zero_add, Nat.one_mul]
        omega
/-! ### Lists of numbers -/
def comma : ByteArray := ⟨#[44]⟩
def space : ByteArray := ⟨#[32]⟩
def listT (l : List Int) : ByteArray := joinB (l.map num) comma
def smallL (l : List Int) : Prop := l.length ≤ 1000 ∧ ∀ n ∈ l, 0 ≤ n ∧ n < 100
theorem listT_size {l : List Int} (h : smallL l) : (listT l).size ≤ 3000 := by
  have := joinB_size (sep := comma) (M := 2) _ (l.map num) rfl fun x hx => by
    obtain ⟨n, hn, rfl⟩ := List.mem_map.1 hx
    exact num_size (h.2 n hn).1 (h.2 n hn).2
  have h1 := h.1
  rw [List.length_map, show comma.size = 1 from rfl] at this
  exact Nat.le_trans this (by omega)
theorem map_take_snoc {l : List Int} {i : Nat} (h : i < l.length) : (l.take (i + 1)).map num = (l.take i).map num ++ [num (l.getD i 0)] := by
  rw [take_succ' 0 h, List.map_append]
  rfl
def C182 : List AV → (AV → Prop) → Prop := con (X := List Int) (fun l => [slI l]) smallL fun l K => K (.str (listT l))
theorem F182 : FF 89 C182 := by
  refine fitE [(88, C101), (87, C181)] (by simp only [List.mem_cons, List.not_mem_nil, or_false]; rintro _ (rfl | rfl) <;> first | exact F101 | exact F181) Tryd.f89 ⟨rfl, by decide +kernel, by decide +kernel⟩ (fun _ _ _ hk h => hk _ h) ?_
  rintro l K ⟨h1, h2⟩ h
  refine ⟨Nat.le_of_ble_eq_true rfl, ?_⟩
  have hs := listT_size ⟨h1, h2⟩
  unfold listT at h hs
  repeat' ((conv => whnf); first | refine vA ?_ | with_reducible first | refine v8 ?_ | refine Sp.mk ?_ ?_ | refine vS ?_ | refine vR ?_ | refine vB ?_ | refine br_nt ?_ | refine br_tt ?_ | refine br_ff ?_ | refine vP ?_ | refine vQ ?_ | refine vT ?_ | refine vF ?_ | refine br_and ?_ | refine br_or ?_ | refine br_d (fun _ => ?_) fun _ => ?_ | refine vM (fun _ => ?_) fun _ => ?_)
  refine Lp.mk ⟨Nat, fun i => [(3, .row 0 1 0 ((l.take i).map num).length), (7, slI l), (8, .int .i64 l.length), (9, .int .i64 i)], fun i => [.row 1 ((l.take i).map num).length fun j => encS (((l.take i).map num).getD j ⟨#[]⟩)], fun i => i ≤ l.length, fun i => l.length - i, ⟨0, Nat.zero_le _, ⟨⟨[none], [], rfl, rfl, ?_, ?_⟩⟩⟩, ?_⟩
  · repeat' ((conv => whnf); first | with_reducible exact True.intro | exact vW | with_reducible refine And.intro ?_ ?_)
  · repeat' ((conv => whnf); first | with_reducible exact True.intro | exact vW | with_reducible refine And.intro ?_ ?_)
  intro i i1
  dsimp only
  have hl : ((l.take i).map num).length ≤ 1000 := by rw [List.length_map, List.length_take]; omega
  repeat' ((conv => whnf); first | refine vA ?_ | with_reducible first | refine v8 ?_ | refine Sp.mk ?_ ?_ | refine vS ?_ | refine vR ?_ | refine vB ?_ | refine br_nt ?_ | refine br_tt ?_ | refine br_ff ?_ | refine vP ?_ | refine vQ ?_ | refine vT ?_ | refine vF ?_ | refine br_and ?_ | refine br_or ?_ | refine br_d (fun _ => ?_) fun _ => ?_ | refine vM (fun _ => ?_) fun _ => ?_)
  · rename_i hi
    have hi : i < l.length := by omega
    have hb := h2 _ (getD_mem' (d := 0) hi)
    refine ⟨l.getD i 0, ?_, ⟨by omega, by omega⟩, ?_⟩
    · repeat' ((conv => whnf); first | with_reducible exact True.intro | exact vW | with_reducible refine And.intro ?_ ?_)
    repeat' ((conv => whnf); first | refine vA ?_ | with_reducible first | refine v8 ?_ | refine Sp.mk ?_ ?_ | refine vS ?_ | refine vR ?_ | refine vB ?_ | refine br_nt ?_ | refine br_tt ?_ | refine br_ff ?_ | refine vP ?_ | refine vQ ?_ | refine vT ?_ | refine vF ?_ | refine br_and ?_ | refine br_or ?_ | refine br_d (fun _ => ?_) fun _ => ?_ | refine vM (fun _ => ?_) fun _ => ?_)
    refine ⟨i + 1, by omega, by omega, ⟨⟨[some 2], [], rfl, rfl, ?_, ?_⟩⟩⟩
    · repeat' ((conv => whnf); first | with_reducible exact True.intro | exact vW | with_reducible refine And.intro ?_ ?_)
      all_goals exact Chk.mk ⟨rfl, by rw [map_take_snoc hi, List.length_append]; rfl⟩
    · repeat' ((conv => whnf); first | with_reducible exact True.intro | exact vW | with_reducible refine And.intro ?_ ?_)
      all_goals exact Chk.mk (by rw [map_take_snoc hi]; exact ext_push rfl)
  · rename_i hi
    have e : l.take i = l := List.take_of_length_le (by omega)
    rw [e] at hl ⊢
    refine ⟨(l.map num, comma), ?_, ⟨by dsimp only; omega, by dsimp only; omega⟩, ?_⟩
    · repeat' ((conv => whnf); first | with_reducible exact True.intro | exact vW | with_reducible refine And.intro ?_ ?_)
      all_goals exact Chk.mk ⟨rfl, fun i _ => by dsimp only; rw [Nat.zero_add]⟩
    repeat' ((conv => whnf); first | refine vA ?_ | with_reducible first | refine v8 ?_ | refine Sp.mk ?_ ?_ | refine vS ?_ | refine vR ?_ | refine vB ?_ | refine br_nt ?_ | refine br_tt ?_ | refine br_ff ?_ | refine vP ?_ | refine vQ ?_ | refine vT ?_ | refine vF ?_ | refine br_and ?_ | refine br_or ?_ | refine br_d (fun _ => ?_) fun _ => ?_ | refine vM (fun _ => ?_) fun _ => ?_)
    exact h
def C165 : List AV → (AV → Prop) → Prop := con (X := List Int) (fun l => [slI l]) smallL fun l K => K (.str (if l.length = 0 then ⟨#[110, 111, 110, 101]⟩ else listT l))
theorem take_smallL {l : List Int} (h : smallL l) (i : Nat) : smallL (l.take i) := ⟨by rw [List.length_take]; have := h.1; omega, fun n hn => h.2 n (List.mem_of_mem_take hn)⟩
theorem listT_snoc {l : List Int} {i : Nat} (h : i < l.length) : listT (l.take (i + 1)) = (if (i : Int) > 0 then listT (l.take i) ++ comma else listT (l.take i)) ++ num (l.getD i 0) := by
  unfold listT
  rw [map_take_snoc h]
  by_cases h0 : (i : Int) > 0
  · rw [if_pos h0, joinB_app]
    intro e
    have := congrArg List.length e
    rw [List.length_map, List.length_take] at this
    simp only [List.length_nil] at this
    omega
  · have : i = 0 := by omega
    subst this
    rw [if_neg h0]
    simp only [List.take_zero, List.map_nil, List.nil_append]
    rw [joinB_one, joinB_nil]
    apply ByteArray.ext
    simp
theorem F165 : FF 60 C165 := by
  refine fitE [(59, C106)] (by simp only [List.mem_cons, List.not_mem_nil, or_false]; rintro _ rfl <;> first | exact F106) Tryd.f60 ⟨rfl, by decide +kernel, by decide +kernel⟩ (fun _ _ _ hk h => hk _ h) ?_
  rintro l K ⟨h1, h2⟩ h
  refine ⟨Nat.le_of_ble_eq_true rfl, ?_⟩
  repeat' ((conv => whnf); first | refine vA ?_ | with_reducible first | refine v8 ?_ | refine Sp.mk ?_ ?_ | refine vS ?_ | refine vR ?_ | refine vB ?_ | refine br_nt ?_ | refine br_tt ?_ | refine br_ff ?_ | refine vP ?_ | refine vQ ?_ | refine vT ?_ | refine vF ?_ | refine br_and ?_ | refine br_or ?_ | refine br_d (fun _ => ?_) fun _ => ?_ | refine vM (fun _ => ?_) fun _ => ?_)
  refine Lp.mk ⟨Nat, fun i => [(0, slI l), (3, .str (listT (l.take i))), (4, .int .i64 i)], fun i => [], fun i => i ≤ l.length, fun i => l.length - i, ⟨0, Nat.zero_le _, ⟨⟨[], [], rfl, rfl, ?_, ?_⟩⟩⟩, ?_⟩
  · repeat' ((conv => whnf); first | with_reducible exact True.intro | exact vW | with_reducible refine And.intro ?_ ?_)
  · repeat' ((conv => whnf); first | with_reducible exact True.intro | exact vW | with_reducible refine And.intro ?_ ?_)
  intro i i1
  dsimp only
  have hs := listT_size (take_smallL ⟨h1, h2⟩ i)
  have hz : comma.size = 1 := rfl
  have hz' : (⟨#[44]⟩ : ByteArray).size = 1 := rfl
  repeat' ((conv => whnf); first | refine ⟨Chk.mk (by (try dsimp only); (repeat rw [ByteArray.size_append]); omega), ?_⟩ | refine vA ?_ | with_reducible first | refine v8 ?_ | refine Sp.mk ?_ ?_ | refine vS ?_ | refine vR ?_ | refine vB ?_ | refine br_nt ?_ | refine br_tt ?_ | refine br_ff ?_ | refine vP ?_ | refine vQ ?_ | refine vT ?_ | refine vF ?_ | refine br_and ?_ | refine br_or ?_ | refine br_d (fun _ => ?_) fun _ => ?_ | refine vM (fun _ => ?_) fun _ => ?_)
  · rename_i hi h0
    have hi : i < l.length := by omega
    have hb := h2 _ (getD_mem' (d := 0) hi)
    have hn := num_size hb.1 hb.2
    have hsn := listT_snoc hi
    rw [if_pos h0] at hsn
    refine ⟨l.getD i 0, ?_, ⟨by omega, by omega⟩, ?_⟩
    · repeat' ((conv => whnf); first | with_reducible exact True.intro | exact vW | with_reducible refine And.intro ?_ ?_)
    repeat' ((conv => whnf); first | refine ⟨Chk.mk (by (try dsimp only); (repeat rw [ByteArray.size_append]); omega), ?_⟩ | refine vA ?_ | with_reducible first | refine v8 ?_ | refine Sp.mk ?_ ?_ | refine vS ?_ | refine vR ?_ | refine vB ?_ | refine br_nt ?_ | refine br_tt ?_ | refine br_ff ?_ | refine vP ?_ | refine vQ ?_ | refine vT ?_ | refine vF ?_ | refine br_and ?_ | refine br_or ?_ | refine br_d (fun _ => ?_) fun _ => ?_ | refine vM (fun _ => ?_) fun _ => ?_)
    refine ⟨i + 1, by omega, by omega, ⟨⟨[], [], rfl, rfl, ?_, ?_⟩⟩⟩
    · repeat' ((conv => whnf); first | with_reducible exact True.intro | exact vW | with_reducible refine And.intro ?_ ?_)
    · repeat' ((conv => whnf); first | with_reducible exact True.intro | exact vW | with_reducible refine And.intro ?_ ?_)
  · rename_i hi h0
    have hi : i < l.length := by omega
    have hb := h2 _ (getD_mem' (d := 0) hi)
    have hn := num_size hb.1 hb.2
    have hsn := listT_snoc hi
    rw [if_neg h0] at hsn
    refine ⟨l.getD i 0, ?_, ⟨by omega, by omega⟩, ?_⟩
    · repeat' ((conv => whnf); first | with_reducible exact True.intro | exact vW | with_reducible refine And.intro ?_ ?_)
    repeat' ((conv => whnf); first | refine ⟨Chk.mk (by (try dsimp only); (repeat rw [ByteArray.size_append]); omega), ?_⟩ | refine vA ?_ | with_reducible first | refine v8 ?_ | refine Sp.mk ?_ ?_ | refine vS ?_ | refine vR ?_ | refine vB ?_ | refine br_nt ?_ | refine br_tt ?_ | refine br_ff ?_ | refine vP ?_ | refine vQ ?_ | refine vT ?_ | refine vF ?_ | refine br_and ?_ | refine br_or ?_ | refine br_d (fun _ => ?_) fun _ => ?_ | refine vM (fun _ => ?_) fun _ => ?_)
    refine ⟨i + 1, by omega, by omega, ⟨⟨[], [], rfl, rfl, ?_, ?_⟩⟩⟩
    · repeat' ((conv => whnf); first | with_reducible exact True.intro | exact vW | with_reducible refine And.intro ?_ ?_)
    · repeat' ((conv => whnf); first | with_reducible exact True.intro | exact vW | with_reducible refine And.intro ?_ ?_)
  · rename_i hi h0
    rw [if_pos (by omega)] at h
    exact h
  · rename_i hi h0
    rw [if_neg (by omega)] at h
    rw [List.take_of_length_le (by omega)]
    exact h
/-! ### Places -/
def plT (x : Place) : ByteArray := joinB (num x.p :: listT x.bs :: x.rules) space
/-- The text of a place, or none. -/
def ptext (x : Place) : ByteArray := if placeOk x then plT x else ⟨#[]⟩
theorem bad_size {h : House} {r : ByteArray} (e : bad h r = false) : r.size ≤ 80 := by
  unfold bad at e
  cases e2 : rdT 49 h r with
  | none => rw [e2] at e; cases e
  | some t => exact ((rdT_iff (by decide)).1 e2).1
theorem bad_term {h : House} {r : ByteArray} (e : bad h r = false) : ∃ t, rdT 49 h r = some t := by
  unfold bad at e
  cases e2 : rdT 49 h r with
  | none => rw [e2] at e; cases e
  | some t => exact ⟨t, rfl⟩
theorem placeOk_bs {x : Place} (h : placeOk x) : x.bs ≠ [] := by
  intro e
  obtain ⟨h1, ⟨h2, _⟩, h3⟩ := h
  obtain ⟨t, ht⟩ := bad_term (h3 _ (getD_mem' (l := x.rules) (i := 0) (d := ⟨#[]⟩) (by omega)))
  have hO := ((rdT_iff (by decide)).1 ht).2.1
  have hw : walkP x.bs t 0 = some 1 := hO.2.2
  have tr := Tr.of hw
  have leafin : ∀ {u}, Tr x.bs u → ∃ m, stepP x.bs m 0 = some 1 := fun hu => by
    induction hu with
    | leaf m _ h => exact ⟨m, h⟩
    | node _ _ _ _ _ _ ih _ => exact ih
  obtain ⟨m, hm⟩ := leafin tr
  rw [e] at hm
  unfold stepP at hm
  split at hm
  · rename_i g; have := g.2.2.1; simp only [List.length_nil] at this; omega
  · split at hm
    · rename_i g; omega
    · cases hm
theorem placeOk_small {x : Place} (h : placeOk x) : smallL x.bs ∧ 0 ≤ x.p ∧ x.p < 100 ∧ ∀ r ∈ x.rules, r.size ≤ 80 := by
  have hb := bodies_of h.1
  have hp : people x.p := h.1.1
  exact ⟨⟨Nat.le_trans hb.1 (by omega), fun n hn => by have := hb.2 n hn; omega⟩, by have := hp.1; omega, by have := hp.2; omega, fun r hr => bad_size (h.2.2 r hr)⟩
theorem plT_take_size {x : Place} (h : placeOk x) (i : Nat) : (joinB (num x.p :: listT x.bs :: x.rules.take i) space).size ≤ 20000 := by
  obtain ⟨h1, h2, h3, h4⟩ := placeOk_small h
  have h5 := h.2.1.2
  have := joinB_size (sep := space) (M := 3000) _ (num x.p :: listT x.bs :: x.rules.take i) rfl fun r hr => by
    rcases List.mem_cons.1 hr with rfl | hr
    · exact Nat.le_trans (num_size h2 h3) (by omega)
    · rcases List.mem_cons.1 hr with rfl | hr
      · exact listT_size h1
      · exact Nat.le_trans (h4 r (List.mem_of_mem_take hr)) (by omega)
  rw [show space.size = 1 from rfl] at this
  simp only [List.length_cons, List.length_take] at this
  exact Nat.le_trans this (by omega)
theorem plT_size {x : Place} (h : placeOk x) : (plT x).size ≤ 20000 := by
  have := plT_take_size h x.rules.length
  rwa [List.take_length] at this
theorem ext_front {a b : ByteArray} {l : List ByteArray} {z : List AV} : (a :: b :: l).length = 2 + l.length ∧ ∀ j, j < (a :: b :: l).length → encS ((a :: b :: l).getD j ⟨#[]⟩) = appF 2 (fun i => [encS a, encS b].getD i z) (fun i => encS (l.getD i ⟨#[]⟩)) (0 + j) := by
  refine ⟨by simp only [List.length_cons]; omega, fun j hj => ?_⟩
  rw [Nat.zero_add]
  match j with
  | 0 => rfl
  | 1 => rfl
  | j + 2 =>
    have : Nat.blt (j + 2) 2 = false := by
      cases hb : Nat.blt (j + 2) 2 with
      | false => rfl
      | true => have := blt_t hb; omega
    unfold appF
    rw [this]
    rfl
def C166 : List AV → (AV → Prop) → Prop := con (X := Place) (fun x => [enPl x]) placeOk fun x K => K (.str (plT x))
theorem F166 : FF 61 C166 := by
  refine fitE [(88, C101), (89, C182), (87, C181)] (by simp only [List.mem_cons, List.not_mem_nil, or_false]; rintro _ (rfl | rfl | rfl) <;> first | exact F101 | exact F182 | exact F181) Tryd.f61 ⟨rfl, by decide +kernel, by decide +kernel⟩ (fun _ _ _ hk h => hk _ h) ?_
  rintro ⟨p, bs, rs⟩ K hO h
  refine ⟨Nat.le_of_ble_eq_true rfl, ?_⟩
  have hs := plT_size hO
  obtain ⟨k1, k2, k3, k4⟩ := placeOk_small hO
  have k5 := hO.2.1.2
  have hxf := @ext_front (num p) (listT bs) rs [.str ⟨#[]⟩]
  unfold plT at h hs
  dsimp only [enPl, plC] at h hs k1 k2 k3 k4 k5 ⊢
  repeat' ((conv => whnf); first | refine vA ?_ | with_reducible first | refine v8 ?_ | refine Sp.mk ?_ ?_ | refine vS ?_ | refine vR ?_ | refine vB ?_ | refine br_nt ?_ | refine br_tt ?_ | refine br_ff ?_ | refine vP ?_ | refine vQ ?_ | refine vT ?_ | refine vF ?_ | refine br_and ?_ | refine br_or ?_ | refine br_d (fun _ => ?_) fun _ => ?_ | refine vM (fun _ => ?_) fun _ => ?_)
  refine Dr.mk ⟨(.rd 0 (.rd 1 (.rd 2 (.rd 4 (.rd 5 (.rd 6 (.rd 9 (.rd 10 (.ef 3 (.ef 7 (.ef 8 (.ef 11 (.ef 12 (.rd 13 .dn) .no) .no) .no) .no) .no))))))))), by decide +kernel, ?_⟩
  repeat' ((conv => whnf); first | refine vA ?_ | with_reducible first | refine v8 ?_ | refine Sp.mk ?_ ?_ | refine vS ?_ | refine vR ?_ | refine vB ?_ | refine br_nt ?_ | refine br_tt ?_ | refine br_ff ?_ | refine vP ?_ | refine vQ ?_ | refine vT ?_ | refine vF ?_ | refine br_and ?_ | refine br_or ?_ | refine br_d (fun _ => ?_) fun _ => ?_ | refine vM (fun _ => ?_) fun _ => ?_)
  refine ⟨p, ?_, ⟨k2, by omega⟩, ?_⟩
  · repeat' ((conv => whnf); first | with_reducible exact True.intro | exact vW | with_reducible refine And.intro ?_ ?_)
  repeat' ((conv => whnf); first | refine vA ?_ | with_reducible first | refine v8 ?_ | refine Sp.mk ?_ ?_ | refine vS ?_ | refine vR ?_ | refine vB ?_ | refine br_nt ?_ | refine br_tt ?_ | refine br_ff ?_ | refine vP ?_ | refine vQ ?_ | refine vT ?_ | refine vF ?_ | refine br_and ?_ | refine br_or ?_ | refine br_d (fun _ => ?_) fun _ => ?_ | refine vM (fun _ => ?_) fun _ => ?_)
  refine ⟨bs, ?_, ⟨k1⟩, ?_⟩
  · repeat' ((conv => whnf); first | with_reducible exact True.intro | exact vW | with_reducible refine And.intro ?_ ?_)
  repeat' ((conv => whnf); first | refine vA ?_ | with_reducible first | refine v8 ?_ | refine Sp.mk ?_ ?_ | refine vS ?_ | refine vR ?_ | refine vB ?_ | refine br_nt ?_ | refine br_tt ?_ | refine br_ff ?_ | refine vP ?_ | refine vQ ?_ | refine vT ?_ | refine vF ?_ | refine br_and ?_ | refine br_or ?_ | refine br_d (fun _ => ?_) fun _ => ?_ | refine vM (fun _ => ?_) fun _ => ?_)
  refine ⟨(num p :: listT bs :: rs, space), ?_, ⟨by dsimp only; simp only [List.length_cons]; omega, by dsimp only; omega⟩, ?_⟩
  · repeat' ((conv => whnf); first | with_reducible exact True.intro | exact vW | with_reducible refine And.intro ?_ ?_)
    all_goals exact Chk.mk ⟨hxf.1.symm, fun i hi => (hxf.2 i (by rw [hxf.1]; exact hi)).symm⟩
  repeat' ((conv => whnf); first | refine vA ?_ | with_reducible first | refine v8 ?_ | refine Sp.mk ?_ ?_ | refine vS ?_ | refine vR ?_ | refine vB ?_ | refine br_nt ?_ | refine br_tt ?_ | refine br_ff ?_ | refine vP ?_ | refine vQ ?_ | refine vT ?_ | refine vF ?_ | refine br_and ?_ | refine br_or ?_ | refine br_d (fun _ => ?_) fun _ => ?_ | refine vM (fun _ => ?_) fun _ => ?_)
  exact h
def C143 : List AV → (AV → Prop) → Prop := con (X := Place) (fun x => [enPl x]) placeI fun x K => K (.str (ptext x))
theorem F143 : FF 30 C143 := by
  refine fitE [(40, C152), (61, C166)] (by simp only [List.mem_cons, List.not_mem_nil, or_false]; rintro _ (rfl | rfl) <;> first | exact F152 | exact F166) Tryd.f30 ⟨rfl, by decide +kernel, by decide +kernel⟩ (fun _ _ _ hk h => hk _ h) ?_
  rintro ⟨p, bs, rs⟩ K hI h
  refine ⟨Nat.le_of_ble_eq_true rfl, ?_⟩
  unfold ptext at h
  dsimp only [enPl, plC] at h ⊢
  repeat' ((conv => whnf); first | refine vA ?_ | with_reducible first | refine v8 ?_ | refine Sp.mk ?_ ?_ | refine vS ?_ | refine vR ?_ | refine vB ?_ | refine br_nt ?_ | refine br_tt ?_ | refine br_ff ?_ | refine vP ?_ | refine vQ ?_ | refine vT ?_ | refine vF ?_ | refine br_and ?_ | refine br_or ?_ | refine br_d (fun _ => ?_) fun _ => ?_ | refine vM (fun _ => ?_) fun _ => ?_)
  refine ⟨⟨p, bs, rs⟩, ?_, ⟨hI⟩, ?_⟩
  · repeat' ((conv => whnf); first | with_reducible exact True.intro | exact vW | with_reducible refine And.intro ?_ ?_)
  repeat' ((conv => whnf); first | refine vA ?_ | with_reducible first | refine v8 ?_ | refine Sp.mk ?_ ?_ | refine vS ?_ | refine vR ?_ | refine vB ?_ | refine br_nt ?_ | refine br_tt ?_ | refine br_ff ?_ | refine vP ?_ | refine vQ ?_ | refine vT ?_ | refine vF ?_ | refine br_and ?_ | refine br_or ?_ | refine br_d (fun _ => ?_) fun _ => ?_ | refine vM (fun _ => ?_) fun _ => ?_)
  · rename_i hO
    rw [if_pos hO] at h
    refine ⟨⟨p, bs, rs⟩, ?_, ⟨hO⟩, ?_⟩
    · repeat' ((conv => whnf); first | with_reducible exact True.intro | exact vW | with_reducible refine And.intro ?_ ?_)
    repeat' ((conv => whnf); first | refine vA ?_ | with_reducible first | refine v8 ?_ | refine Sp.mk ?_ ?_ | refine vS ?_ | refine vR ?_ | refine vB ?_ | refine br_nt ?_ | refine br_tt ?_ | refine br_ff ?_ | refine vP ?_ | refine vQ ?_ | refine vT ?_ | refine vF ?_ | refine br_and ?_ | refine br_or ?_ | refine br_d (fun _ => ?_) fun _ => ?_ | refine vM (fun _ => ?_) fun _ => ?_)
    exact h
  · rename_i hO
    rw [if_neg hO] at h
    exact h
def C142 := C143
theorem F142 : FF 29 C142 := by
  refine fitE [(13, C127), (59, C106), (60, C165)] (by simp only [List.mem_cons, List.not_mem_nil, or_false]; rintro _ (rfl | rfl | rfl) <;> first | exact F127 | exact F106 | exact F165) Tryd.f29 ⟨rfl, by decide +kernel, by decide +kernel⟩ (fun _ _ _ hk h => hk _ h) ?_
  rintro ⟨p, bs, rs⟩ K hI h
  refine ⟨Nat.le_of_ble_eq_true rfl, ?_⟩
  unfold ptext at h
  dsimp only [enPl, plC] at h ⊢
  repeat' ((conv => whnf); first | refine vA ?_ | with_reducible first | refine v8 ?_ | refine Sp.mk ?_ ?_ | refine vS ?_ | refine vR ?_ | refine vB ?_ | refine br_nt ?_ | refine br_tt ?_ | refine br_ff ?_ | refine vP ?_ | refine vQ ?_ | refine vT ?_ | refine vF ?_ | refine br_and ?_ | refine br_or ?_ | refine br_d (fun _ => ?_) fun _ => ?_ | refine vM (fun _ => ?_) fun _ => ?_)
  refine ⟨⟨p, bs, rs⟩, ?_, ⟨hI⟩, ?_⟩
  · repeat' ((conv => whnf); first | with_reducible exact True.intro | exact vW | with_reducible refine And.intro ?_ ?_)
  repeat' ((conv => whnf); first | refine vA ?_ | with_reducible first | refine v8 ?_ | refine Sp.mk ?_ ?_ | refine vS ?_ | refine vR ?_ | refine vB ?_ | refine br_nt ?_ | refine br_tt ?_ | refine br_ff ?_ | refine vP ?_ | refine vQ ?_ | refine vT ?_ | refine vF ?_ | refine br_and ?_ | refine br_or ?_ | refine br_d (fun _ => ?_) fun _ => ?_ | refine vM (fun _ => ?_) fun _ => ?_)
  · rename_i hO
    rw [if_pos hO] at h
    unfold plT at h
    have hsz := plT_take_size hO
    obtain ⟨k1, k2, k3, k4⟩ := placeOk_small hO
    have k5 := hO.2.1.2
    have k6 := placeOk_bs hO
    have k7 := listT_size k1
    have k8 := num_size k2 k3
    have hz : space.size = 1 := rfl
    have hz' : (⟨#[32]⟩ : ByteArray).size = 1 := rfl
    dsimp only at h hsz k1 k2 k3 k4 k5 k6 k7 k8
    have h0 : ¬ bs.length = 0 := fun e => k6 (List.eq_nil_of_length_eq_zero e)
    have hj : num p ++ ⟨#[32]⟩ ++ listT bs = joinB (num p :: listT bs :: rs.take 0) space := (joinB_two _ _ _).symm
    have hn : ∀ i, i < rs.length → joinB (num p :: listT bs :: rs.take (i + 1)) space = joinB (num p :: listT bs :: rs.take i) space ++ ⟨#[32]⟩ ++ rs.getD i ⟨#[]⟩ := fun i hi => by
      rw [take_succ' (d := ⟨#[]⟩) hi, ← List.cons_append, ← List.cons_append, joinB_app (by simp)]
      rfl
    refine Dr.mk ⟨(.rd 0 (.rd 1 (.rd 2 (.rd 5 (.rd 6 (.rd 7 (.ef 3 (.rd 4 (.ef 8 (.rd 9 (.rd 10 .dn)) .no)) .no))))))), by decide +kernel, ?_⟩
    repeat' ((conv => whnf); first | refine vA ?_ | with_reducible first | refine v8 ?_ | refine Sp.mk ?_ ?_ | refine vS ?_ | refine vR ?_ | refine vB ?_ | refine br_nt ?_ | refine br_tt ?_ | refine br_ff ?_ | refine vP ?_ | refine vQ ?_ | refine vT ?_ | refine vF ?_ | refine br_and ?_ | refine br_or ?_ | refine br_d (fun _ => ?_) fun _ => ?_ | refine vM (fun _ => ?_) fun _ => ?_)
    refine ⟨p, ?_, ⟨k2, by omega⟩, ?_⟩
    · repeat' ((conv => whnf); first | with_reducible exact True.intro | exact vW | with_reducible refine And.intro ?_ ?_)
    repeat' ((conv => whnf); first | refine ⟨Chk.mk (by (try dsimp only); (repeat rw [ByteArray.size_append]); omega), ?_⟩ | refine vA ?_ | with_reducible first | refine v8 ?_ | refine Sp.mk ?_ ?_ | refine vS ?_ | refine vR ?_ | refine vB ?_ | refine br_nt ?_ | refine br_tt ?_ | refine br_ff ?_ | refine vP ?_ | refine vQ ?_ | refine vT ?_ | refine vF ?_ | refine br_and ?_ | refine br_or ?_ | refine br_d (fun _ => ?_) fun _ => ?_ | refine vM (fun _ => ?_) fun _ => ?_)
    refine ⟨bs, ?_, ⟨k1⟩, ?_⟩
    · repeat' ((conv => whnf); first | with_reducible exact True.intro | exact vW | with_reducible refine And.intro ?_ ?_)
    dsimp only
    rw [if_neg h0]
    repeat' ((conv => whnf); first | refine ⟨Chk.mk (by (try dsimp only); (repeat rw [ByteArray.size_append]); omega), ?_⟩ | refine vA ?_ | with_reducible first | refine v8 ?_ | refine Sp.mk ?_ ?_ | refine vS ?_ | refine vR ?_ | refine vB ?_ | refine br_nt ?_ | refine br_tt ?_ | refine br_ff ?_ | refine vP ?_ | refine vQ ?_ | refine vT ?_ | refine vF ?_ | refine br_and ?_ | refine br_or ?_ | refine br_d (fun _ => ?_) fun _ => ?_ | refine vM (fun _ => ?_) fun _ => ?_)
    rw [hj]
    refine Lp.mk ⟨Nat, fun i => [(1, .ptr 0 0), (3, .str (joinB (num p :: listT bs :: rs.take i) space)), (4, .int .i64 i)], fun _ => [.box (plC ⟨p, bs, rs⟩)], fun i => i ≤ rs.length, fun i => rs.length - i, ⟨0, Nat.zero_le _, ⟨⟨[some 0], [], rfl, rfl, ?_, ?_⟩⟩⟩, ?_⟩
    · repeat' ((conv => whnf); first | with_reducible exact True.intro | exact vW | with_reducible refine And.intro ?_ ?_)
    · repeat' ((conv => whnf); first | with_reducible exact True.intro | exact vW | with_reducible refine And.intro ?_ ?_)
    intro i i1
    have hsi := hsz i
    have hr : (rs.getD (i : Int).toNat ⟨#[]⟩).size ≤ 80 := by
      rcases Nat.lt_or_ge i rs.length with g | g
      · exact k4 _ (getD_mem' g)
      · rw [Int.toNat_natCast, List.getD_eq_getElem?_getD, List.getElem?_eq_none g]
        exact Nat.zero_le _
    dsimp only [plC]
    repeat' ((conv => whnf); first | refine ⟨Chk.mk (by (try dsimp only); (repeat rw [ByteArray.size_append]); omega), ?_⟩ | refine vA ?_ | with_reducible first | refine v8 ?_ | refine Sp.mk ?_ ?_ | refine vS ?_ | refine vR ?_ | refine vB ?_ | refine br_nt ?_ | refine br_tt ?_ | refine br_ff ?_ | refine vP ?_ | refine vQ ?_ | refine vT ?_ | refine vF ?_ | refine br_and ?_ | refine br_or ?_ | refine br_d (fun _ => ?_) fun _ => ?_ | refine vM (fun _ => ?_) fun _ => ?_)
    · rename_i hi
      have hi : i < rs.length := by omega
      have hn' := hn i hi
      refine ⟨i + 1, by omega, by omega, ⟨⟨[some 0], [], rfl, rfl, ?_, ?_⟩⟩⟩
      · repeat' ((conv => whnf); first | with_reducible exact True.intro | exact vW | with_reducible refine And.intro ?_ ?_)
      · repeat' ((conv => whnf); first | with_reducible exact True.intro | exact vW | with_reducible refine And.intro ?_ ?_)
    · rename_i hi
      rw [List.take_of_length_le (by omega)]
      exact h
  · rename_i hO
    rw [if_neg hO] at h
    exact h
end Go.Proofs.YtahfdkdneojkmaaDoor.Vc
end
section
/- Part ZF0: the laws' copies and comparisons of numbers and houses. -/
namespace Go.Proofs.YtahfdkdneojkmaaDoor.Vc
open Go.Proofs
set_option maxRecDepth 10000
set_option maxHeartbeats 4000000
def C9 : List AV → (AV → Prop) → Prop := con (X := House × Int) (fun x => [enH x.1, .int .i64 x.2]) (fun x => x.1.bs.length < 9223372036854775808 ∧ 0 ≤ x.2 ∧ x.2 ≤ 9223372036854775807) fun x K => K (.int .i64 (if x.2 - x.1.bs.length < 0 then -1 else x.2 - x.1.bs.length))
theorem F9 : FF 45 C9 := by
  refine fitE [(82, C34)] (by simp only [List.mem_cons, List.not_mem_nil, or_false]; rintro _ rfl <;> first | exact F34) Tryd.f45 ⟨rfl, by decide +kernel, by decide +kernel⟩ (fun _ _ _ hk h => hk _ h) ?_
  rintro ⟨⟨p, l⟩, n⟩ K ⟨h1, h2, h3⟩ h
  refine ⟨Nat.le_of_ble_eq_true rfl, ?_⟩
  dsimp only at h1 h2 h3 h ⊢
  repeat' ((conv => whnf); first | refine vA ?_ | with_reducible first | refine v8 ?_ | refine Sp.mk ?_ ?_ | refine vS ?_ | refine vR ?_ | refine vB ?_ | refine br_nt ?_ | refine br_tt ?_ | refine br_ff ?_ | refine vP ?_ | refine vQ ?_ | refine vT ?_ | refine vF ?_ | refine br_and ?_ | refine br_or ?_ | refine br_d (fun _ => ?_) fun _ => ?_ | refine vM (fun _ => ?_) fun _ => ?_)
  refine ⟨(l, n), ?_, ⟨h1, h2, h3⟩, ?_⟩
  · repeat' ((conv => whnf); first | with_reducible exact True.intro | exact vW | with_reducible refine And.intro ?_ ?_)
  dsimp only
  by_cases hn : n - l.length < 0
  · rw [if_pos hn] at h ⊢
    repeat' ((conv => whnf); first | refine vA ?_ | with_reducible first | refine v8 ?_ | refine Sp.mk ?_ ?_ | refine vS ?_ | refine vR ?_ | refine vB ?_ | refine br_nt ?_ | refine br_tt ?_ | refine br_ff ?_ | refine vP ?_ | refine vQ ?_ | refine vT ?_ | refine vF ?_ | refine br_and ?_ | refine br_or ?_ | refine br_d (fun _ => ?_) fun _ => ?_ | refine vM (fun _ => ?_) fun _ => ?_)
    exact h
  · rw [if_neg hn] at h ⊢
    repeat' ((conv => whnf); first | refine vA ?_ | with_reducible first | refine v8 ?_ | refine Sp.mk ?_ ?_ | refine vS ?_ | refine vR ?_ | refine vB ?_ | refine br_nt ?_ | refine br_tt ?_ | refine br_ff ?_ | refine vP ?_ | refine vQ ?_ | refine vT ?_ | refine vF ?_ | refine br_and ?_ | refine br_or ?_ | refine br_d (fun _ => ?_) fun _ => ?_ | refine vM (fun _ => ?_) fun _ => ?_)
    exact h
def cpI (l : List Int) (i : Nat) : Nat → List AV := fun j => if j < i then encI (l.getD j 0) else [.int .i64 0]
theorem cpI_step {l : List Int} {i j : Nat} : cpI l (i + 1) j = setF (cpI l i) i (encI (l.getD i 0)) j := by
  unfold cpI setF
  cases h : Nat.beq j i with
  | true =>
    obtain rfl := Nat.eq_of_beq_eq_true h
    rw [if_pos (by omega)]; rfl
  | false =>
    have := Nat.ne_of_beq_eq_false h
    simp only [cond_false]
    by_cases hj : j < i
    · rw [if_pos hj, if_pos (by omega)]
    · rw [if_neg hj, if_neg (by omega)]
theorem cpI_at {l : List Int} {i : Nat} : cpI l i i = [.int .i64 0] := if_neg (Nat.lt_irrefl _)
theorem cpI_end {l : List Int} {i : Nat} (h : ¬ i < l.length) : (fun j => cpI l i (0 + j)) = fun j => encI (l.getD j 0) := by
  funext j
  unfold cpI
  rw [Nat.zero_add]
  by_cases hj : j < i
  · rw [if_pos hj]
  · rw [if_neg hj, List.getD_eq_getElem?_getD, List.getElem?_eq_none (by omega)]
    rfl
def C14 : List AV → (AV → Prop) → Prop := con (X := List Int) (fun l => [slI l]) (fun l => l.length ≤ 1048576) fun l K => K (slI l)
theorem F14 : FF 83 C14 := by
  refine fitE [] (by simp) Tryd.f83 ⟨rfl, by decide +kernel, by decide +kernel⟩ (fun _ _ _ hk h => hk _ h) ?_
  rintro l K h1 h
  refine ⟨Nat.le_of_ble_eq_true rfl, ?_⟩
  repeat' ((conv => whnf); first | ((with_reducible refine And.intro (Chk.mk ?_) ?_); (focus (refine ⟨rfl, ?_, ?_, ?_⟩; (focus omega); (focus omega); (focus (show (8 : Int) * _ ≤ _; omega))))) | refine vA ?_ | with_reducible first | refine v8 ?_ | refine Sp.mk ?_ ?_ | refine vS ?_ | refine vR ?_ | refine vB ?_ | refine br_nt ?_ | refine br_tt ?_ | refine br_ff ?_ | refine vP ?_ | refine vQ ?_ | refine vT ?_ | refine vF ?_ | refine br_and ?_ | refine br_or ?_ | refine br_d (fun _ => ?_) fun _ => ?_ | refine vM (fun _ => ?_) fun _ => ?_)
  refine Lp.mk ⟨Nat, fun i => [(0, slI l), (2, .nils), (3, .row 0 1 0 l.length), (4, .int .i64 i)], fun i => [.row 1 l.length (cpI l i)], fun i => i ≤ l.length, fun i => l.length - i, ⟨0, Nat.zero_le _, ⟨⟨[some 0], [], rfl, rfl, ?_, ?_⟩⟩⟩, ?_⟩
  · repeat' ((conv => whnf); first | with_reducible exact True.intro | exact vW | with_reducible refine And.intro ?_ ?_)
  · repeat' ((conv => whnf); first | with_reducible exact True.intro | exact vW | with_reducible refine And.intro ?_ ?_)
  intro i i1
  dsimp only
  repeat' ((conv => whnf); first | refine vA ?_ | with_reducible first | refine v8 ?_ | refine Sp.mk ?_ ?_ | refine vS ?_ | refine vR ?_ | refine vB ?_ | refine br_nt ?_ | refine br_tt ?_ | refine br_ff ?_ | refine vP ?_ | refine vQ ?_ | refine vT ?_ | refine vF ?_ | refine br_and ?_ | refine br_or ?_ | refine br_d (fun _ => ?_) fun _ => ?_ | refine vM (fun _ => ?_) fun _ => ?_)
  · refine ⟨i + 1, by show i + 1 ≤ l.length; omega, by show l.length - (i + 1) < l.length - i; omega, ⟨⟨[some 0], [], rfl, rfl, ?_, ?_⟩⟩⟩
    · repeat' ((conv => whnf); first | with_reducible exact True.intro | exact vW | with_reducible refine And.intro ?_ ?_)
    · repeat' ((conv => whnf); first | with_reducible exact True.intro | exact vW | with_reducible refine And.intro ?_ ?_)
      exact Chk.mk ⟨rfl, fun j _ => by rw [cpI_step, Nat.zero_add, Int.toNat_natCast, cpI_at]; rfl⟩
  · rw [cpI_end (by omega)]
    exact h
def C12 : List AV → (AV → Prop) → Prop := con (X := House) (fun h => [enH h]) (fun h => h.bs.length ≤ 1048576) fun h K => K (enH h)
theorem F12 : FF 47 C12 := by
  refine fitE [(83, C14)] (by simp only [List.mem_cons, List.not_mem_nil, or_false]; rintro _ rfl <;> first | exact F14) Tryd.f47 ⟨rfl, by decide +kernel, by decide +kernel⟩ (fun _ _ _ hk h => hk _ h) ?_
  rintro ⟨p, bs⟩ K h1 h
  refine ⟨Nat.le_of_ble_eq_true rfl, ?_⟩
  dsimp only at h1 h ⊢
  repeat' ((conv => whnf); first | refine vA ?_ | with_reducible first | refine v8 ?_ | refine Sp.mk ?_ ?_ | refine vS ?_ | refine vR ?_ | refine vB ?_ | refine br_nt ?_ | refine br_tt ?_ | refine br_ff ?_ | refine vP ?_ | refine vQ ?_ | refine vT ?_ | refine vF ?_ | refine br_and ?_ | refine br_or ?_ | refine br_d (fun _ => ?_) fun _ => ?_ | refine vM (fun _ => ?_) fun _ => ?_)
  refine ⟨bs, ?_, ⟨h1⟩, ?_⟩
  · repeat' ((conv => whnf); first | with_reducible exact True.intro | exact vW | with_reducible refine And.intro ?_ ?_)
  repeat' ((conv => whnf); first | refine vA ?_ | with_reducible first | refine v8 ?_ | refine Sp.mk ?_ ?_ | refine vS ?_ | refine vR ?_ | refine vB ?_ | refine br_nt ?_ | refine br_tt ?_ | refine br_ff ?_ | refine vP ?_ | refine vQ ?_ | refine vT ?_ | refine vF ?_ | refine br_and ?_ | refine br_or ?_ | refine br_d (fun _ => ?_) fun _ => ?_ | refine vM (fun _ => ?_) fun _ => ?_)
  exact h
def C18 : List AV → (AV → Prop) → Prop := con (X := List Int) (fun l => [slI l, slI l]) (fun l => l.length ≤ 1048576) fun _ K => K (.bool true)
theorem F18 : FF 84 C18 := by
  refine fitE [] (by simp) Tryd.f84 ⟨rfl, by decide +kernel, by decide +kernel⟩ (fun _ _ _ hk h => hk _ h) ?_
  rintro l K h1 h
  refine ⟨Nat.le_of_ble_eq_true rfl, ?_⟩
  repeat' ((conv => whnf); first | refine vA ?_ | with_reducible first | refine v8 ?_ | refine Sp.mk ?_ ?_ | refine vS ?_ | refine vR ?_ | refine vB ?_ | refine br_nt ?_ | refine br_tt ?_ | refine br_ff ?_ | refine vP ?_ | refine vQ ?_ | refine vT ?_ | refine vF ?_ | refine br_and ?_ | refine br_or ?_ | refine br_d (fun _ => ?_) fun _ => ?_ | refine vM (fun _ => ?_) fun _ => ?_)
  refine Lp.mk ⟨Nat, fun i => [(0, slI l), (1, slI l), (5, .int .i64 i)], fun i => [], fun i => i ≤ l.length, fun i => l.length - i, ⟨0, Nat.zero_le _, ⟨⟨[], [], rfl, rfl, ?_, ?_⟩⟩⟩, ?_⟩
  · repeat' ((conv => whnf); first | with_reducible exact True.intro | exact vW | with_reducible refine And.intro ?_ ?_)
  · repeat' ((conv => whnf); first | with_reducible exact True.intro | exact vW | with_reducible refine And.intro ?_ ?_)
  intro i i1
  dsimp only
  repeat' ((conv => whnf); first | refine vA ?_ | with_reducible first | refine v8 ?_ | refine Sp.mk ?_ ?_ | refine vS ?_ | refine vR ?_ | refine vB ?_ | refine br_nt ?_ | refine br_tt ?_ | refine br_ff ?_ | refine vP ?_ | refine vQ ?_ | refine vT ?_ | refine vF ?_ | refine br_and ?_ | refine br_or ?_ | refine br_d (fun _ => ?_) fun _ => ?_ | refine vM (fun _ => ?_) fun _ => ?_)
  · refine Dr.mk ⟨(.rd 0 (.rd 1 (.rd 2 (.rd 3 (.rd 4 (.rd 5 (.rd 6 (.rd 7 (.rd 8 .dn))))))))), by decide +kernel, ?_⟩
    repeat' ((conv => whnf); first | refine vA ?_ | with_reducible first | refine v8 ?_ | refine Sp.mk ?_ ?_ | refine vS ?_ | refine vR ?_ | refine vB ?_ | refine br_nt ?_ | refine br_tt ?_ | refine br_ff ?_ | refine vP ?_ | refine vQ ?_ | refine vT ?_ | refine vF ?_ | refine br_and ?_ | refine br_or ?_ | refine br_d (fun _ => ?_) fun _ => ?_ | refine vM (fun _ => ?_) fun _ => ?_)
    refine ⟨i + 1, by show i + 1 ≤ l.length; omega, by show l.length - (i + 1) < l.length - i; omega, ⟨⟨[], [], rfl, rfl, ?_, ?_⟩⟩⟩
    · repeat' ((conv => whnf); first | with_reducible exact True.intro | exact vW | with_reducible refine And.intro ?_ ?_)
    · repeat' ((conv => whnf); first | with_reducible exact True.intro | exact vW | with_reducible refine And.intro ?_ ?_)
  · exact h
def C16 : List AV → (AV → Prop) → Prop := con (X := House) (fun h => [enH h, enH h]) (fun h => h.bs.length ≤ 1048576) fun _ K => K (.bool true)
theorem F16 : FF 49 C16 := by
  refine fitE [(84, C18)] (by simp only [List.mem_cons, List.not_mem_nil, or_false]; rintro _ rfl <;> first | exact F18) Tryd.f49 ⟨rfl, by decide +kernel, by decide +kernel⟩ (fun _ _ _ hk h => hk _ h) ?_
  rintro ⟨p, bs⟩ K h1 h
  refine ⟨Nat.le_of_ble_eq_true rfl, ?_⟩
  dsimp only at h1 h ⊢
  repeat' ((conv => whnf); first | refine vA ?_ | with_reducible first | refine v8 ?_ | refine Sp.mk ?_ ?_ | refine vS ?_ | refine vR ?_ | refine vB ?_ | refine br_nt ?_ | refine br_tt ?_ | refine br_ff ?_ | refine vP ?_ | refine vQ ?_ | refine vT ?_ | refine vF ?_ | refine br_and ?_ | refine br_or ?_ | refine br_d (fun _ => ?_) fun _ => ?_ | refine vM (fun _ => ?_) fun _ => ?_)
  refine ⟨bs, ?_, ⟨h1⟩, ?_⟩
  · repeat' ((conv => whnf); first | with_reducible exact True.intro | exact vW | with_reducible refine And.intro ?_ ?_)
  repeat' ((conv => whnf); first | refine vA ?_ | with_reducible first | refine v8 ?_ | refine Sp.mk ?_ ?_ | refine vS ?_ | refine vR ?_ | refine vB ?_ | refine br_nt ?_ | refine br_tt ?_ | refine br_ff ?_ | refine vP ?_ | refine vQ ?_ | refine vT ?_ | refine vF ?_ | refine br_and ?_ | refine br_or ?_ | refine br_d (fun _ => ?_) fun _ => ?_ | refine vM (fun _ => ?_) fun _ => ?_)
  exact h
end Go.Proofs.YtahfdkdneojkmaaDoor.Vc
end
section
/- Part TH: desks; the laws' copies and comparisons of places and desks. -/
namespace Go.Proofs.YtahfdkdneojkmaaDoor.Vc
open Go.Proofs
set_option maxRecDepth 10000
set_option maxHeartbeats 4000000
structure Desk where
  now : Place
  past : List Place
  deriving Inhabited
abbrev slP (l : List Place) : AV := .sl 3 l.length fun i => plC (l.getD i default)
def deC (d : Desk) : List AV := [.int .i64 d.now.p, slI d.now.bs, slS d.now.rules, slP d.past]
def enDe (d : Desk) : AV := .agg (deC d)
def deskI (d : Desk) : Prop := placeI d.now ∧ d.past.length < 9223372036854775808 ∧ ∀ p ∈ d.past, placeI p
abbrev deskOk (d : Desk) : Prop := placeOk d.now ∧ d.past.length ≤ 8 ∧ ∀ p ∈ d.past, placeOk p
def C180 : List AV → (AV → Prop) → Prop := con (X := Place) (fun x => [enPl x]) placeI fun x K => K (.bool (!decide (placeOk x)))
theorem F180 : FF 86 C180 := by
  refine fitE [(40, C152)] (by simp only [List.mem_cons, List.not_mem_nil, or_false]; rintro _ rfl <;> first | exact F152) Tryd.f86 ⟨rfl, by decide +kernel, by decide +kernel⟩ (fun _ _ _ hk h => hk _ h) ?_
  rintro ⟨p, bs, rs⟩ K hI h
  refine ⟨Nat.le_of_ble_eq_true rfl, ?_⟩
  dsimp only [enPl, plC] at h ⊢
  repeat' ((conv => whnf); first | refine vA ?_ | with_reducible first | refine v8 ?_ | refine Sp.mk ?_ ?_ | refine vS ?_ | refine vR ?_ | refine vB ?_ | refine br_nt ?_ | refine br_tt ?_ | refine br_ff ?_ | refine vP ?_ | refine vQ ?_ | refine vT ?_ | refine vF ?_ | refine br_and ?_ | refine br_or ?_ | refine br_d (fun _ => ?_) fun _ => ?_ | refine vM (fun _ => ?_) fun _ => ?_)
  refine ⟨⟨p, bs, rs⟩, ?_, ⟨hI⟩, ?_⟩
  · repeat' ((conv => whnf); first | with_reducible exact True.intro | exact vW | with_reducible refine And.intro ?_ ?_)
  repeat' ((conv => whnf); first | refine vA ?_ | with_reducible first | refine v8 ?_ | refine Sp.mk ?_ ?_ | refine vS ?_ | refine vR ?_ | refine vB ?_ | refine br_nt ?_ | refine br_tt ?_ | refine br_ff ?_ | refine vP ?_ | refine vQ ?_ | refine vT ?_ | refine vF ?_ | refine br_and ?_ | refine br_or ?_ | refine br_d (fun _ => ?_) fun _ => ?_ | refine vM (fun _ => ?_) fun _ => ?_)
  exact h
def placesI (l : List Place) : Prop := l.length < 9223372036854775808 ∧ ∀ p ∈ l, placeI p
def C194 : List AV → (AV → Prop) → Prop := con (X := List Place) (fun l => [slP l, .fn 86 [] []]) placesI fun l K => ixpost l.length (fun i => ¬ placeOk (l.getD i default)) K
theorem F194 : FF 105 C194 := by
  refine fitE [(86, C180)] (by simp only [List.mem_cons, List.not_mem_nil, or_false]; rintro _ rfl; exact F180) Tryd.f105 ⟨rfl, by decide +kernel, by decide +kernel⟩ (fun _ _ _ hk h i h1 h2 h3 h4 => hk _ (h i h1 h2 h3 h4)) ?_
  rintro l K ⟨h1, h2⟩ h
  refine ⟨Nat.le_of_ble_eq_true rfl, ?_⟩
  repeat' ((conv => whnf); first | refine vA ?_ | with_reducible first | refine v8 ?_ | refine Sp.mk ?_ ?_ | refine vS ?_ | refine vR ?_ | refine vB ?_ | refine br_nt ?_ | refine br_tt ?_ | refine br_ff ?_ | refine vP ?_ | refine vQ ?_ | refine vT ?_ | refine vF ?_ | refine br_and ?_ | refine br_or ?_ | refine br_d (fun _ => ?_) fun _ => ?_ | refine vM (fun _ => ?_) fun _ => ?_)
  refine Lp.mk ⟨Nat, fun i => [(0, slP l), (1, .fn 86 [] []), (7, .int .i64 l.length), (8, .int .i64 i)], fun _ => [], fun i => i ≤ l.length ∧ ∀ j, j < i → placeOk (l.getD j default), fun i => l.length - i, ⟨0, ⟨Nat.zero_le _, fun j hj => absurd hj (Nat.not_lt_zero _)⟩, ⟨⟨[], [], rfl, rfl, ?_, ?_⟩⟩⟩, ?_⟩
  · repeat' ((conv => whnf); first | with_reducible exact True.intro | exact vW | with_reducible refine And.intro ?_ ?_)
  · repeat' ((conv => whnf); first | with_reducible exact True.intro | exact vW | with_reducible refine And.intro ?_ ?_)
  rintro i ⟨i1, i2⟩
  dsimp only
  repeat' ((conv => whnf); first | refine vA ?_ | with_reducible first | refine v8 ?_ | refine Sp.mk ?_ ?_ | refine vS ?_ | refine vR ?_ | refine vB ?_ | refine br_nt ?_ | refine br_tt ?_ | refine br_ff ?_ | refine vP ?_ | refine vQ ?_ | refine vT ?_ | refine vF ?_ | refine br_and ?_ | refine br_or ?_ | refine br_d (fun _ => ?_) fun _ => ?_ | refine vM (fun _ => ?_) fun _ => ?_)
  · rename_i hi
    have hi : i < l.length := by omega
    refine ⟨l.getD i default, ?_, ⟨h2 _ (getD_mem' hi)⟩, ?_⟩
    · repeat' ((conv => whnf); first | with_reducible exact True.intro | exact vW | with_reducible refine And.intro ?_ ?_)
    repeat' ((conv => whnf); first | refine vA ?_ | with_reducible first | refine v8 ?_ | refine Sp.mk ?_ ?_ | refine vS ?_ | refine vR ?_ | refine vB ?_ | refine br_nt ?_ | refine br_tt ?_ | refine br_ff ?_ | refine vP ?_ | refine vQ ?_ | refine vT ?_ | refine vF ?_ | refine br_and ?_ | refine br_or ?_ | refine br_d (fun _ => ?_) fun _ => ?_ | refine vM (fun _ => ?_) fun _ => ?_)
    · rename_i hb
      refine ⟨i + 1, ⟨by omega, fun j hj => ?_⟩, by omega, ⟨⟨[], [], rfl, rfl, ?_, ?_⟩⟩⟩
      · by_cases e : j = i
        · subst e; exact hb
        · exact i2 j (by omega)
      · repeat' ((conv => whnf); first | with_reducible exact True.intro | exact vW | with_reducible refine And.intro ?_ ?_)
      · repeat' ((conv => whnf); first | with_reducible exact True.intro | exact vW | with_reducible refine And.intro ?_ ?_)
    · rename_i hb
      exact h i (by omega) (by omega) (fun e => by omega) (fun _ => hb)
  · rename_i hi
    exact h (-1) (by omega) (by omega) (fun _ j hj => Classical.not_not.2 (i2 j (by omega))) (fun e => absurd e (by decide))
def C179 : List AV → (AV → Prop) → Prop := con (X := List Place) (fun l => [slP l, .fn 86 [] []]) placesI fun l K => K (.bool (decide (¬ ∀ p ∈ l, placeOk p)))
theorem F179 : FF 85 C179 := by
  refine fitE [(105, C194)] (by simp only [List.mem_cons, List.not_mem_nil, or_false]; rintro _ rfl <;> first | exact F194) Tryd.f85 ⟨rfl, by decide +kernel, by decide +kernel⟩ (fun _ _ _ hk h => hk _ h) ?_
  rintro l K hI h
  refine ⟨Nat.le_of_ble_eq_true rfl, ?_⟩
  repeat' ((conv => whnf); first | refine vA ?_ | with_reducible first | refine v8 ?_ | refine Sp.mk ?_ ?_ | refine vS ?_ | refine vR ?_ | refine vB ?_ | refine br_nt ?_ | refine br_tt ?_ | refine br_ff ?_ | refine vP ?_ | refine vQ ?_ | refine vT ?_ | refine vF ?_ | refine br_and ?_ | refine br_or ?_ | refine br_d (fun _ => ?_) fun _ => ?_ | refine vM (fun _ => ?_) fun _ => ?_)
  refine ⟨l, ?_, ⟨hI⟩, ?_⟩
  · repeat' ((conv => whnf); first | with_reducible exact True.intro | exact vW | with_reducible refine And.intro ?_ ?_)
  intro i g1 g2 g3 g4
  have e : decide (i ≥ 0) = decide (¬ ∀ p ∈ l, placeOk p) := by
    refine decide_eq_decide.2 ⟨fun hi q => ?_, fun q => ?_⟩
    · exact g4 hi (q _ (getD_mem' (by omega)))
    · by_cases hi : i ≥ 0
      · exact hi
      · exfalso
        exact q (all_of_getD (d := default) fun j hj => Classical.not_not.1 (g3 (by omega) j hj))
  rw [← e] at h
  repeat' ((conv => whnf); first | refine vA ?_ | with_reducible first | refine v8 ?_ | refine Sp.mk ?_ ?_ | refine vS ?_ | refine vR ?_ | refine vB ?_ | refine br_nt ?_ | refine br_tt ?_ | refine br_ff ?_ | refine vP ?_ | refine vQ ?_ | refine vT ?_ | refine vF ?_ | refine br_and ?_ | refine br_or ?_ | refine br_d (fun _ => ?_) fun _ => ?_ | refine vM (fun _ => ?_) fun _ => ?_)
  exact h
def C159 : List AV → (AV → Prop) → Prop := con (X := Desk) (fun d => [enDe d]) deskI fun d K => K (.bool (decide (deskOk d)))
theorem F159 : FF 53 C159 := by
  refine fitE [(40, C152), (85, C179)] (by simp only [List.mem_cons, List.not_mem_nil, or_false]; rintro _ (rfl | rfl) <;> first | exact F152 | exact F179) Tryd.f53 ⟨rfl, by decide +kernel, by decide +kernel⟩ (fun _ _ _ hk h => hk _ h) ?_
  rintro ⟨⟨p, bs, rs⟩, l⟩ K hI h
  refine ⟨Nat.le_of_ble_eq_true rfl, ?_⟩
  have hI1 := hI.1
  have hI2 := hI.2
  have hI3 := hI.2.1
  dsimp only [enDe, deC] at h hI1 hI2 hI3 ⊢
  repeat' ((conv => whnf); first | refine vA ?_ | with_reducible first | refine v8 ?_ | refine Sp.mk ?_ ?_ | refine vS ?_ | refine vR ?_ | refine vB ?_ | refine br_nt ?_ | refine br_tt ?_ | refine br_ff ?_ | refine vP ?_ | refine vQ ?_ | refine vT ?_ | refine vF ?_ | refine br_and ?_ | refine br_or ?_ | refine br_d (fun _ => ?_) fun _ => ?_ | refine vM (fun _ => ?_) fun _ => ?_)
  refine ⟨⟨p, bs, rs⟩, ?_, ⟨hI1⟩, ?_⟩
  · repeat' ((conv => whnf); first | with_reducible exact True.intro | exact vW | with_reducible refine And.intro ?_ ?_)
  repeat' ((conv => whnf); first | refine vA ?_ | with_reducible first | refine v8 ?_ | refine Sp.mk ?_ ?_ | refine vS ?_ | refine vR ?_ | refine vB ?_ | refine br_nt ?_ | refine br_tt ?_ | refine br_ff ?_ | refine vP ?_ | refine vQ ?_ | refine vT ?_ | refine vF ?_ | refine br_and ?_ | refine br_or ?_ | refine br_d (fun _ => ?_) fun _ => ?_ | refine vM (fun _ => ?_) fun _ => ?_)
  · rename_i hO h8
    refine ⟨l, ?_, ⟨hI2⟩, ?_⟩
    · repeat' ((conv => whnf); first | with_reducible exact True.intro | exact vW | with_reducible refine And.intro ?_ ?_)
    have e : (!decide (¬ ∀ p ∈ l, placeOk p)) = decide (deskOk ⟨⟨p, bs, rs⟩, l⟩) := by
      rw [← decide_not]
      exact decide_eq_decide.2 ⟨fun q => ⟨hO, by dsimp only; omega, Classical.not_not.1 q⟩, fun q => Classical.not_not.2 q.2.2⟩
    rw [← e] at h
    repeat' ((conv => whnf); first | refine vA ?_ | with_reducible first | refine v8 ?_ | refine Sp.mk ?_ ?_ | refine vS ?_ | refine vR ?_ | refine vB ?_ | refine br_nt ?_ | refine br_tt ?_ | refine br_ff ?_ | refine vP ?_ | refine vQ ?_ | refine vT ?_ | refine vF ?_ | refine br_and ?_ | refine br_or ?_ | refine br_d (fun _ => ?_) fun _ => ?_ | refine vM (fun _ => ?_) fun _ => ?_)
    exact h
  · rename_i hO h8
    exact yesF h fun q => by have := q.2.1; dsimp only at this; omega
  · rename_i hO
    exact yesF h fun q => hO q.1
def C136 := C159
theorem F136 : FF 23 C136 := by
  refine fitE [(53, C159)] (by simp only [List.mem_cons, List.not_mem_nil, or_false]; rintro _ rfl <;> first | exact F159) Tryd.f23 ⟨rfl, by decide +kernel, by decide +kernel⟩ (fun _ _ _ hk h => hk _ h) ?_
  rintro ⟨⟨p, bs, rs⟩, l⟩ K hI h
  refine ⟨Nat.le_of_ble_eq_true rfl, ?_⟩
  dsimp only [enDe, deC] at h ⊢
  repeat' ((conv => whnf); first | refine vA ?_ | with_reducible first | refine v8 ?_ | refine Sp.mk ?_ ?_ | refine vS ?_ | refine vR ?_ | refine vB ?_ | refine br_nt ?_ | refine br_tt ?_ | refine br_ff ?_ | refine vP ?_ | refine vQ ?_ | refine vT ?_ | refine vF ?_ | refine br_and ?_ | refine br_or ?_ | refine br_d (fun _ => ?_) fun _ => ?_ | refine vM (fun _ => ?_) fun _ => ?_)
  refine ⟨⟨⟨p, bs, rs⟩, l⟩, ?_, ⟨hI⟩, ?_⟩
  · repeat' ((conv => whnf); first | with_reducible exact True.intro | exact vW | with_reducible refine And.intro ?_ ?_)
  repeat' ((conv => whnf); first | refine vA ?_ | with_reducible first | refine v8 ?_ | refine Sp.mk ?_ ?_ | refine vS ?_ | refine vR ?_ | refine vB ?_ | refine br_nt ?_ | refine br_tt ?_ | refine br_ff ?_ | refine vP ?_ | refine vQ ?_ | refine vT ?_ | refine vF ?_ | refine br_and ?_ | refine br_or ?_ | refine br_d (fun _ => ?_) fun _ => ?_ | refine vM (fun _ => ?_) fun _ => ?_)
  exact h
def C139 := C159
theorem F139 : FF 26 C139 := by
  refine fitE [(13, C127)] (by simp only [List.mem_cons, List.not_mem_nil, or_false]; rintro _ rfl <;> first | exact F127) Tryd.f26 ⟨rfl, by decide +kernel, by decide +kernel⟩ (fun _ _ _ hk h => hk _ h) ?_
  rintro ⟨⟨p, bs, rs⟩, l⟩ K hI h
  refine ⟨Nat.le_of_ble_eq_true rfl, ?_⟩
  have hI1 := hI.1
  have hI2 := hI.2.2
  have hI3 := hI.2.1
  dsimp only [enDe, deC] at h hI1 hI2 hI3 ⊢
  repeat' ((conv => whnf); first | refine vA ?_ | with_reducible first | refine v8 ?_ | refine Sp.mk ?_ ?_ | refine vS ?_ | refine vR ?_ | refine vB ?_ | refine br_nt ?_ | refine br_tt ?_ | refine br_ff ?_ | refine vP ?_ | refine vQ ?_ | refine vT ?_ | refine vF ?_ | refine br_and ?_ | refine br_or ?_ | refine br_d (fun _ => ?_) fun _ => ?_ | refine vM (fun _ => ?_) fun _ => ?_)
  refine Lp.mk ⟨Nat, fun i => [(1, .ptr 0 0), (3, .int .i64 i)], fun _ => [.box (deC ⟨⟨p, bs, rs⟩, l⟩)], fun i => i ≤ l.length ∧ ∀ j, j < i → placeOk (l.getD j default), fun i => l.length - i, ⟨0, ⟨Nat.zero_le _, fun j hj => absurd hj (Nat.not_lt_zero _)⟩, ⟨⟨[some 0], [], rfl, rfl, ?_, ?_⟩⟩⟩, ?_⟩
  · repeat' ((conv => whnf); first | with_reducible exact True.intro | exact vW | with_reducible refine And.intro ?_ ?_)
  · repeat' ((conv => whnf); first | with_reducible exact True.intro | exact vW | with_reducible refine And.intro ?_ ?_)
  rintro i ⟨i1, i2⟩
  dsimp only [deC]
  repeat' ((conv => whnf); first | refine vA ?_ | with_reducible first | refine v8 ?_ | refine Sp.mk ?_ ?_ | refine vS ?_ | refine vR ?_ | refine vB ?_ | refine br_nt ?_ | refine br_tt ?_ | refine br_ff ?_ | refine vP ?_ | refine vQ ?_ | refine vT ?_ | refine vF ?_ | refine br_and ?_ | refine br_or ?_ | refine br_d (fun _ => ?_) fun _ => ?_ | refine vM (fun _ => ?_) fun _ => ?_)
  · rename_i hi
    have hi : i < l.length := by omega
    refine ⟨l.getD i default, ?_, ⟨hI2 _ (getD_mem' hi)⟩, ?_⟩
    · repeat' ((conv => whnf); first | with_reducible exact True.intro | exact vW | with_reducible refine And.intro ?_ ?_)
    repeat' ((conv => whnf); first | refine vA ?_ | with_reducible first | refine v8 ?_ | refine Sp.mk ?_ ?_ | refine vS ?_ | refine vR ?_ | refine vB ?_ | refine br_nt ?_ | refine br_tt ?_ | refine br_ff ?_ | refine vP ?_ | refine vQ ?_ | refine vT ?_ | refine vF ?_ | refine br_and ?_ | refine br_or ?_ | refine br_d (fun _ => ?_) fun _ => ?_ | refine vM (fun _ => ?_) fun _ => ?_)
    · rename_i hb
      refine ⟨i + 1, ⟨by omega, fun j hj => ?_⟩, by omega, ⟨⟨[some 0], [], rfl, rfl, ?_, ?_⟩⟩⟩
      · by_cases e : j = i
        · subst e; exact hb
        · exact i2 j (by omega)
      · repeat' ((conv => whnf); first | with_reducible exact True.intro | exact vW | with_reducible refine And.intro ?_ ?_)
      · repeat' ((conv => whnf); first | with_reducible exact True.intro | exact vW | with_reducible refine And.intro ?_ ?_)
    · rename_i hb
      exact yesF h fun q => hb (q.2.2 _ (getD_mem' hi))
  · rename_i hi
    have hall : ∀ p ∈ l, placeOk p := all_of_getD (d := default) fun j hj => i2 j (by omega)
    refine ⟨⟨p, bs, rs⟩, ?_, ⟨hI1⟩, ?_⟩
    · repeat' ((conv => whnf); first | with_reducible exact True.intro | exact vW | with_reducible refine And.intro ?_ ?_)
    repeat' ((conv => whnf); first | refine vA ?_ | with_reducible first | refine v8 ?_ | refine Sp.mk ?_ ?_ | refine vS ?_ | refine vR ?_ | refine vB ?_ | refine br_nt ?_ | refine br_tt ?_ | refine br_ff ?_ | refine vP ?_ | refine vQ ?_ | refine vT ?_ | refine vF ?_ | refine br_and ?_ | refine br_or ?_ | refine br_d (fun _ => ?_) fun _ => ?_ | refine vM (fun _ => ?_) fun _ => ?_)
    · rename_i hO
      exact yesD h ⟨fun q => by have := q.2.1; dsimp only at this; omega, fun q => ⟨hO, by dsimp only; omega, hall⟩⟩
    · rename_i hO
      exact yesF h fun q => hO q.1
end Go.Proofs.YtahfdkdneojkmaaDoor.Vc
end
section
/- Part OP: places and desks that come in, opened. -/
namespace Go.Proofs.YtahfdkdneojkmaaDoor.Vc
open Go.Proofs Go.ChangeShapes Go.WideShapes Go.ChangeAt Go.RowKit
theorem i64_wf {n : Int} (h : (Lit.int .i64 n).wf = true) : i64r n := by
  simp only [Lit.wf, Bool.and_eq_true, decide_eq_true_eq] at h
  exact h
def Rw0 (w : World) : Nat → Prop := fun b => b < w.heap.size
theorem cell_lt {w : World} {a : Addr} {v : Value} (h : w.cell? a = some v) : a.block < w.heap.size := by
  unfold World.cell? at h
  rcases Nat.lt_or_ge a.block w.heap.size with h1 | h1
  · exact h1
  · rw [Array.getElem?_eq_none h1] at h; cases h
theorem choose_lt' {α : Type} [Inhabited α] {n : Nat} {p : Nat → α → Prop} (h : ∀ i, i < n → ∃ y, p i y) : ∃ l : List α, l.length = n ∧ ∀ i, i < n → p i (l.getD i default) := by
  induction n with
  | zero => exact ⟨[], rfl, fun i hi => absurd hi (Nat.not_lt_zero _)⟩
  | succ n ih =>
    obtain ⟨l, h1, h2⟩ := ih fun i hi => h i (by omega)
    obtain ⟨y, hy⟩ := h n (by omega)
    refine ⟨l ++ [y], by simp [h1], fun i hi => ?_⟩
    by_cases hin : i < n
    · have := h2 i hin
      rwa [List.getD_eq_getElem?_getD, List.getElem?_append_left (by omega), ← List.getD_eq_getElem?_getD]
    · have : i = n := by omega
      subst this
      rw [List.getD_eq_getElem?_getD, List.getElem?_append_right (by omega), h1]
      simpa using hy
section
variable (P : Program)
def IsInts (t : TypeId) : Prop := P.cellsOf t = 1 ∧ ∃ e, P.underlying t = some (.slice e) ∧ P.underlying e = some (.int .i64) ∧ P.cellsOf e = 1
def IsStrs (t : TypeId) : Prop := P.cellsOf t = 1 ∧ ∃ e, P.underlying t = some (.slice e) ∧ P.underlying e = some .string ∧ P.cellsOf e = 1
def IsHouse (t : TypeId) : Prop := P.cellsOf t = 2 ∧ ∃ f0 f1, P.underlying t = some (.struct #[f0, f1]) ∧ f0.offset = 0 ∧ f1.offset = 1 ∧ P.underlying f0.type = some (.int .i64) ∧ P.cellsOf f0.type = 1 ∧ IsInts P f1.type
def IsPlace (t : TypeId) : Prop := P.cellsOf t = 3 ∧ ∃ f0 f1, P.underlying t = some (.struct #[f0, f1]) ∧ f0.offset = 0 ∧ f1.offset = 2 ∧ IsHouse P f0.type ∧ IsStrs P f1.type
def IsPlaces (t : TypeId) : Prop := P.cellsOf t = 1 ∧ ∃ e, P.underlying t = some (.slice e) ∧ IsPlace P e
def IsDesk (t : TypeId) : Prop := P.cellsOf t = 4 ∧ ∃ f0 f1, P.underlying t = some (.struct #[f0, f1]) ∧ f0.offset = 0 ∧ f1.offset = 3 ∧ IsPlace P f0.type ∧ IsPlaces P f1.type
end
/-- Cells and what they are. -/
def DRL (w : World) (l : List AV) (cs : List Value) : Prop := cs.length = l.length ∧ ∀ j, j < l.length → DR (Rw0 w) w (l.getD j .undef) (cs.getD j Go.undef)
section
variable {H : Type} {enc : TypeId × Value → H} {P : Program} {w : World} {spare : Nat → Bool} {held : Bool}
theorem take_len {α : Type} {l : List α} {n : Nat} (h : n ≤ l.length) : (l.take n).length = n := by rw [List.length_take]; omega
theorem op_ints {t : TypeId} {fuel : Nat} {v : Value} {x : DataW H × List MemPlace} (hT : IsInts P t) (h : DataW.trod enc P w 0 spare held fuel t [v] = some x) :
    ∃ l : List Int, DR (Rw0 w) w (slI l) v ∧ (∀ n ∈ l, i64r n) ∧ l.length < 9223372036854775808 := by
  obtain ⟨_, e, ht, he, hc⟩ := hT
  rcases open_ints ht he hc h with ⟨hcs, _⟩ | ⟨a, len, cap, zs, hcs, _, hl, hm, hz, _, hcell, hw⟩
  · simp only [List.cons.injEq, and_true] at hcs
    subst hcs
    exact ⟨[], .sl0 _ _ _ _, fun n hn => (by cases hn), by decide⟩
  · simp only [List.cons.injEq, and_true] at hcs
    subst hcs
    have hlz : len ≤ zs.length := by rw [hz]; split <;> omega
    have hln := take_len hlz
    refine ⟨zs.take len, ?_, fun n hn => i64_wf (hw n (List.mem_of_mem_take hn)), by rw [hln]; have : maxLen = 9223372036854775807 := rfl; omega⟩
    show DR (Rw0 w) w (.sl 1 (zs.take len).length fun i => encI ((zs.take len).getD i 0)) _
    rw [hln]
    rcases Nat.eq_zero_or_pos len with rfl | hpos
    · exact .sl0 _ _ _ _
    have h0 := hcell 0 (by omega)
    have hb := cell_lt h0
    rw [add_block] at hb
    refine .sl 1 len _ a cap (fun i _ => .int .i64 (zs.getD i 0)) hl hb (fun i hi => rfl) (fun i hi j hj => ?_) (fun i hi j hj => ?_)
    · have : j = 0 := by omega
      subst this
      rw [Nat.mul_one, Nat.add_zero]
      exact hcell i (by omega)
    · have : j = 0 := by omega
      subst this
      have e : (zs.take len).getD i 0 = zs.getD i 0 := by
        simp only [List.getD_eq_getElem?_getD]
        rw [List.getElem?_take_of_lt hi]
      show DR _ _ (.int .i64 ((zs.take len).getD i 0)) _
      rw [e]
      exact .int _ _
theorem op_strs {t : TypeId} {fuel : Nat} {v : Value} {x : DataW H × List MemPlace} (hT : IsStrs P t) (h : DataW.trod enc P w 0 spare held fuel t [v] = some x) :
    ∃ l : List ByteArray, DR (Rw0 w) w (slS l) v ∧ (∀ r ∈ l, r.size < 9223372036854775808) ∧ l.length < 9223372036854775808 := by
  obtain ⟨_, e, ht, he, hc⟩ := hT
  rcases open_strings ht he hc h with ⟨hcs, _⟩ | ⟨a, len, cap, zs, hcs, _, hl, hm, hz, _, hcell, hw⟩
  · simp only [List.cons.injEq, and_true] at hcs
    subst hcs
    exact ⟨[], .sl0 _ _ _ _, fun n hn => (by cases hn), by decide⟩
  · simp only [List.cons.injEq, and_true] at hcs
    subst hcs
    have hmx : maxLen = 9223372036854775807 := rfl
    have hlz : len ≤ zs.length := by rw [hz]; split <;> omega
    have hln := take_len hlz
    refine ⟨zs.take len, ?_, fun n hn => by have := hw n (List.mem_of_mem_take hn); omega, by rw [hln]; omega⟩
    show DR (Rw0 w) w (.sl 1 (zs.take len).length fun i => encS ((zs.take len).getD i ⟨#[]⟩)) _
    rw [hln]
    rcases Nat.eq_zero_or_pos len with rfl | hpos
    · exact .sl0 _ _ _ _
    have h0 := hcell 0 (by omega)
    have hb := cell_lt h0
    rw [add_block] at hb
    refine .sl 1 len _ a cap (fun i _ => .string (zs.getD i ByteArray.empty)) hl hb (fun i hi => rfl) (fun i hi j hj => ?_) (fun i hi j hj => ?_)
    · have : j = 0 := by omega
      subst this
      rw [Nat.mul_one, Nat.add_zero]
      exact hcell i (by omega)
    · have : j = 0 := by omega
      subst this
      have e : (zs.take len).getD i ⟨#[]⟩ = zs.getD i ByteArray.empty := by
        simp only [List.getD_eq_getElem?_getD]
        rw [List.getElem?_take_of_lt hi, List.getElem?_eq_getElem (by omega)]
        rfl
      show DR _ _ (.str ((zs.take len).getD i ⟨#[]⟩)) _
      rw [e]
      exact .str _
theorem op_houseC {t : TypeId} {fuel : Nat} {cs : List Value} {x : DataW H × List MemPlace} (hT : IsHouse P t) (h : DataW.trod enc P w 0 spare held fuel t cs = some x) : ∃ h : House, DRL w [.int .i64 h.p, slI h.bs] cs ∧ houI h := by
  obtain ⟨ce, f0, f1, ht, o0, o1, k0, c0, k1⟩ := hT
  obtain ⟨y0, y1, n, _, hl, g0, g1⟩ := trod_struct2 ht h
  rw [ce] at hl
  match cs, hl with
  | [v0, v1], _ =>
    simp [o0, o1, c0, k1.1] at g0 g1
    obtain ⟨p, e1, _, w0⟩ := DataW.trod_int k0 g0
    simp only [List.cons.injEq, and_true] at e1
    subst e1
    obtain ⟨l, q1, q2, q3⟩ := op_ints k1 g1
    refine ⟨⟨p, l⟩, ⟨rfl, fun j hj => ?_⟩, ⟨i64_wf w0, q2⟩, q3⟩
    match j, hj with
    | 0, _ => exact .int _ _
    | 1, _ => exact q1
theorem op_placeC {t : TypeId} {fuel : Nat} {cs : List Value} {x : DataW H × List MemPlace} (hT : IsPlace P t) (h : DataW.trod enc P w 0 spare held fuel t cs = some x) : ∃ x : Place, DRL w (plC x) cs ∧ placeI x := by
  obtain ⟨ce, f0, f1, ht, o0, o1, k0, k1⟩ := hT
  obtain ⟨y0, y1, n, _, hl, g0, g1⟩ := trod_struct2 ht h
  rw [ce] at hl
  match cs, hl with
  | [v0, v1, v2], _ =>
    simp [o0, o1, k0.1, k1.1] at g0 g1
    obtain ⟨hh, q1, q2⟩ := op_houseC k0 g0
    obtain ⟨l, r1, r2, r3⟩ := op_strs k1 g1
    refine ⟨⟨hh.p, hh.bs, l⟩, ⟨rfl, fun j hj => ?_⟩, q2, r3, r2⟩
    match j, hj with
    | 0, _ => exact q1.2 0 (by simp)
    | 1, _ => exact q1.2 1 (by simp)
    | 2, _ => exact r1
theorem op_places {t : TypeId} {fuel : Nat} {v : Value} {x : DataW H × List MemPlace} (hT : IsPlaces P t) (h : DataW.trod enc P w 0 spare held fuel t [v] = some x) : ∃ l : List Place, DR (Rw0 w) w (slP l) v ∧ placesI l := by
  obtain ⟨_, e, ht, hE⟩ := hT
  rcases DataW.trod_slice ht h with ⟨hcs, _⟩ | ⟨a, len, cap, elems, rest, n, _, hcs, _, _, hl, hm, hel, hx, _, _⟩
  · simp only [List.cons.injEq, and_true] at hcs
    subst hcs
    exact ⟨[], .sl0 _ _ _ _, by decide, fun n hn => (by cases hn)⟩
  · simp only [List.cons.injEq, and_true] at hcs
    subst hcs
    rw [hE.1] at hx
    have each : ∀ i, i < len → ∃ m : Place, placeI m ∧ ∃ cs : List Value, DRL w (plC m) cs ∧ ∀ j, j < 3 → w.cell? (a.add (i * 3 + j)) = some (cs.getD j Go.undef) := by
      intro i hi
      have h1 := hx i hi
      rw [List.getElem?_eq_getElem (by omega), Option.bind_eq_some_iff] at h1
      obtain ⟨cs, h2, h3⟩ := h1
      obtain ⟨_, hlen, hcell⟩ := World.cells?_some h2
      obtain ⟨m, q, hmi⟩ := op_placeC hE h3
      refine ⟨m, hmi, cs, q, fun j hj => ?_⟩
      have := hcell j hj
      rw [add_add] at this
      have hj' : j < cs.length := by rw [q.1]; exact hj
      rw [this, List.getD_eq_getElem?_getD, List.getElem?_eq_getElem hj']
      rfl
    obtain ⟨l, h1, h2⟩ := choose_lt' each
    subst h1
    refine ⟨l, ?_, by have : maxLen = 9223372036854775807 := rfl; omega, all_of_getD (d := default) fun i hi => (h2 i hi).1⟩
    rcases Nat.eq_zero_or_pos l.length with h0 | hpos
    · show DR _ _ (.sl 3 l.length _) (.slice _ l.length _)
      rw [h0]
      exact .sl0 _ _ _ _
    obtain ⟨cs0, _, hc0⟩ := (h2 0 hpos).2
    have hb := cell_lt (hc0 0 (by decide))
    rw [add_block] at hb
    have h3 : ∀ i, i < l.length → ∃ cs : List Value, DRL w (plC (l.getD i default)) cs ∧ ∀ j, j < 3 → w.cell? (a.add (i * 3 + j)) = some (cs.getD j Go.undef) := fun i hi => (h2 i hi).2
    refine .sl 3 l.length _ a cap (fun i j => (w.cell? (a.add (i * 3 + j))).getD Go.undef) hl hb (fun i hi => rfl) (fun i hi j hj => ?_) (fun i hi j hj => ?_)
    · obtain ⟨cs, _, hc⟩ := h3 i hi
      rw [hc j hj]; rfl
    · obtain ⟨cs, hd, hc⟩ := h3 i hi
      rw [hc j hj]
      exact hd.2 j hj
theorem op_deskC {t : TypeId} {fuel : Nat} {cs : List Value} {x : DataW H × List MemPlace} (hT : IsDesk P t) (h : DataW.trod enc P w 0 spare held fuel t cs = some x) : ∃ d : Desk, DRL w (deC d) cs ∧ deskI d := by
  obtain ⟨ce, f0, f1, ht, o0, o1, k0, k1⟩ := hT
  obtain ⟨y0, y1, n, _, hl, g0, g1⟩ := trod_struct2 ht h
  rw [ce] at hl
  match cs, hl with
  | [v0, v1, v2, v3], _ =>
    simp [o0, o1, k0.1, k1.1] at g0 g1
    obtain ⟨p, q1, q2⟩ := op_placeC k0 g0
    obtain ⟨l, r1, r2⟩ := op_places k1 g1
    refine ⟨⟨p, l⟩, ⟨rfl, fun j hj => ?_⟩, q2, r2⟩
    match j, hj with
    | 0, _ => exact q1.2 0 (by simp [plC])
    | 1, _ => exact q1.2 1 (by simp [plC])
    | 2, _ => exact q1.2 2 (by simp [plC])
    | 3, _ => exact r1
theorem DRL.pv {l : List AV} {cs : Array Value} (h : DRL w l cs.toList) : PV (Rw0 w) w (.agg l) (.agg cs) := .agg _ _ (by simpa using h.1) fun j hj => by
  have := h.2 j hj
  rw [List.getD_eq_getElem?_getD (l := cs.toList), Array.getElem?_toList, ← Array.getD_eq_getD_getElem?] at this
  exact .data this
theorem op_place {t : TypeId} {v : Value} {d : DataW H} {ps : List MemPlace} {r : Reach} {b0 : Nat} (hT : IsPlace P t) (hv : Value.okWide P w r b0 t v) (h : DataW.Trod enc P w 0 spare held t v d ps) : ∃ x : Place, PV (Rw0 w) w (enPl x) v ∧ placeI x := by
  obtain ⟨_, f0, f1, ht, _⟩ := id hT
  obtain ⟨cs, rfl, hcs⟩ := okWide_struct ht hv
  obtain ⟨fuel, hf⟩ := h
  obtain ⟨x, h1, h2⟩ := op_placeC hT hf
  exact ⟨x, DRL.pv h1, h2⟩
theorem op_desk {t : TypeId} {v : Value} {d : DataW H} {ps : List MemPlace} {r : Reach} {b0 : Nat} (hT : IsDesk P t) (hv : Value.okWide P w r b0 t v) (h : DataW.Trod enc P w 0 spare held t v d ps) : ∃ x : Desk, PV (Rw0 w) w (enDe x) v ∧ deskI x := by
  obtain ⟨_, f0, f1, ht, _⟩ := id hT
  obtain ⟨cs, rfl, hcs⟩ := okWide_struct ht hv
  obtain ⟨fuel, hf⟩ := h
  obtain ⟨x, h1, h2⟩ := op_deskC hT hf
  exact ⟨x, DRL.pv h1, h2⟩
end
end Go.Proofs.YtahfdkdneojkmaaDoor.Vc
end
section
/- Part RK: rows of a door seat: what the listed tables give. -/
namespace Go.Proofs.YtahfdkdneojkmaaDoor.Vc
open Go.Proofs Go.ChangeShapes Go.WideShapes Go.ChangeAt Go.RowKit Go.Proofs.YtahfdkdneojkmaaDoor
theorem own : ownKnob Tryd.prog.godebug = none := by kernel_rfl
theorem laidOut : laidOutB Tryd.prog = true := by kernel_rfl
/-- A contract, as a call of ours that leaves all that was there. -/
theorem FF.below {f : FuncId} {C : List AV → (AV → Prop) → Prop} (hF : FF f C) {us : List AV} {b : Bool} (h : C us fun r => r = .bool b) {w : World} (hw : Good w) {xs : Array Value} (ha : ArgsV (Rw0 w) w us xs) :
    Calls Tryd.prog f xs w fun e w' => e = .returned (.bool b) ∧ Below w.heap.size w w' := by
  obtain ⟨g, ob, hg, ho⟩ : ∃ g ob, Tryd.prog.globalNamed "internal/strconv.uint64pow10" = some g ∧ w.heap[g]? = some ob := by
    unfold Good Lib.TabIs World.var? at hw
    cases hg : Tryd.prog.globalNamed "internal/strconv.uint64pow10" with
    | none => rw [hg] at hw; cases hw
    | some g =>
      rw [hg] at hw
      cases ho : w.heap[g]? with
      | none => simp [ho] at hw
      | some ob => exact ⟨g, ob, rfl, ho⟩
  have hG : GOk [(g, ob)] := fun w' h' => by
    have h1 := h' _ List.mem_cons_self
    unfold Good Lib.TabIs World.var? at hw ⊢
    rw [hg] at hw ⊢
    simp only [Option.bind_some] at hw ⊢
    rw [show w'.heap[g]? = w.heap[g]? from h1.trans ho.symm]
    exact hw
  have hb : ∀ p, p ∈ [(g, ob)] → w.heap[p.1]? = some p.2 := fun p hp => by
    obtain rfl := List.mem_singleton.1 hp
    exact ho
  exact ((hF _ hG).ok us _ h (Rw0 w) w xs ⟨fun _ h => h, fun p hp => ⟨(Array.getElem?_eq_some_iff.1 (hb p hp)).1, hb p hp⟩⟩ ha).mono fun e w' he => by
    obtain ⟨r, x, R', rfl, rfl, hv, hA⟩ := he
    cases hv with
    | data hd => cases hd; exact ⟨rfl, hA.os, hA.tape, hA.output, hA.size, hA.same⟩
section
variable {H : Type} {enc : TypeId × Value → H} {P : Program} {w : World} {spare : Nat → Bool} {held : Bool} {R : Nat → Prop}
theorem op_int {t : TypeId} {v : Value} {d : DataW H} {ps : List MemPlace} {r : Reach} {b0 : Nat} (ht : P.underlying t = some (.int .i64)) (hv : Value.okWide P w r b0 t v) (h : DataW.Trod enc P w 0 spare held t v d ps) : ∃ n : Int, v = .int .i64 n ∧ i64r n := by
  obtain ⟨n, rfl⟩ := okWide_int ht hv
  obtain ⟨fuel, hf⟩ := h
  obtain ⟨m, e1, _, w0⟩ := DataW.trod_int ht hf
  have e2 : (Value.int .i64 n).cells.toList = [.int .i64 n] := rfl
  rw [e2] at e1
  cases e1
  exact ⟨n, rfl, i64_wf w0⟩
theorem u8_wf {n : Int} (h : (Lit.int .u8 n).wf = true) : u8r n := by
  simp only [Lit.wf, Bool.and_eq_true, decide_eq_true_eq] at h
  obtain ⟨h1, h2⟩ := h
  have e1 : IntKind.u8.min = 0 := by decide
  have e2 : IntKind.u8.max = 255 := by decide
  unfold u8r
  omega
theorem op_bytes {t e : TypeId} {fuel : Nat} {v : Value} {x : DataW H × List MemPlace} (ht : P.underlying t = some (.slice e)) (he : P.underlying e = some (.int .u8)) (hc : P.cellsOf e = 1) (h : DataW.trod enc P w 0 spare held fuel t [v] = some x) :
    ∃ l : List Int, DR (Rw0 w) w (slB l) v ∧ (∀ n ∈ l, u8r n) ∧ l.length < 9223372036854775808 := by
  rcases open_ints ht he hc h with ⟨hcs, _⟩ | ⟨a, len, cap, zs, hcs, _, hl, hm, hz, _, hcell, hw⟩
  · simp only [List.cons.injEq, and_true] at hcs
    subst hcs
    exact ⟨[], .sl0 _ _ _ _, fun n hn => (by cases hn), by decide⟩
  · simp only [List.cons.injEq, and_true] at hcs
    subst hcs
    have hlz : len ≤ zs.length := by rw [hz]; split <;> omega
    have hln := take_len hlz
    refine ⟨zs.take len, ?_, fun n hn => u8_wf (hw n (List.mem_of_mem_take hn)), by rw [hln]; have : maxLen = 9223372036854775807 := rfl; omega⟩
    show DR (Rw0 w) w (.sl 1 (zs.take len).length fun i => [.int .u8 ((zs.take len).getD i 0)]) _
    rw [hln]
    rcases Nat.eq_zero_or_pos len with rfl | hpos
    · exact .sl0 _ _ _ _
    have h0 := hcell 0 (by omega)
    have hb := cell_lt h0
    rw [add_block] at hb
    refine .sl 1 len _ a cap (fun i _ => .int .u8 (zs.getD i 0)) hl hb (fun i hi => rfl) (fun i hi j hj => ?_) (fun i hi j hj => ?_)
    · have : j = 0 := by omega
      subst this
      rw [Nat.mul_one, Nat.add_zero]
      exact hcell i (by omega)
    · have : j = 0 := by omega
      subst this
      have e : (zs.take len).getD i 0 = zs.getD i 0 := by
        simp only [List.getD_eq_getElem?_getD]
        rw [List.getElem?_take_of_lt hi]
      show DR _ _ (.int .u8 ((zs.take len).getD i 0)) _
      rw [e]
      exact .int _ _
end
end Go.Proofs.YtahfdkdneojkmaaDoor.Vc
end
section
/- Part DB: the texts of deeds. -/
namespace Go.Proofs.YtahfdkdneojkmaaDoor.Vc
open Go.Proofs
structure Dd where
  kind : Int
  a : Int
  b : Int
  words : ByteArray
  deriving Inhabited, DecidableEq
def encD (d : Dd) : List AV := [.int .i64 d.kind, .int .i64 d.a, .int .i64 d.b, .str d.words]
abbrev ded (d : Dd) : AV := .agg (encD d)
def tx (l : List UInt8) : ByteArray := ⟨l.toArray⟩
def plainW (s : ByteArray) : Bool := decide (¬ s = ⟨#[]⟩) && !spc s
/-- A deed's text. -/
def deedT (d : Dd) : ByteArray :=
  if d.a < 0 ∨ 99 < d.a ∨ d.b < 0 ∨ 99 < d.b then ⟨#[]⟩
  else if d.kind = 0 ∧ d.b = 0 ∧ d.words = ⟨#[]⟩ then ⟨#[98, 111, 100, 121, 32]⟩ ++ num d.a
  else if d.kind = 1 ∧ d.a = 0 ∧ d.b = 0 ∧ plainW d.words = true then ⟨#[114, 117, 108, 101, 32]⟩ ++ d.words
  else if d.kind = 2 ∧ plainW d.words = true then ⟨#[97, 109, 101, 110, 100, 32]⟩ ++ num d.a ++ ⟨#[32]⟩ ++ num d.b ++ ⟨#[32]⟩ ++ d.words
  else if d.kind = 3 ∧ d.words = ⟨#[]⟩ then ⟨#[100, 114, 111, 112, 32]⟩ ++ num d.a ++ ⟨#[32]⟩ ++ num d.b
  else if d.kind = 4 ∧ d.a = 0 ∧ d.b = 0 ∧ d.words = ⟨#[]⟩ then ⟨#[98, 97, 99, 107]⟩
  else ⟨#[]⟩
theorem sz1 : (⟨#[98, 111, 100, 121, 32]⟩ : ByteArray).size = 5 := rfl
theorem sz2 : (⟨#[114, 117, 108, 101, 32]⟩ : ByteArray).size = 5 := rfl
theorem sz3 : (⟨#[97, 109, 101, 110, 100, 32]⟩ : ByteArray).size = 6 := rfl
theorem sz4 : (⟨#[100, 114, 111, 112, 32]⟩ : ByteArray).size = 5 := rfl
theorem sz5 : (⟨#[32]⟩ : ByteArray).size = 1 := rfl
def C108 : List AV → (AV → Prop) → Prop := con (X := Dd) (fun d => [ded d]) (fun _ => True) fun d K => K (ded d)
def C107 : List AV → (AV → Prop) → Prop := con (X := Dd × Int) (fun x => [ded x.1, .int .i64 x.2]) (fun x => x.1.words.size < 9223372036854775808 ∧ 0 ≤ x.2 ∧ x.2 ≤ 9223372036854775807) fun x K => K (.int .i64 (if x.2 - x.1.words.size < 0 then -1 else x.2 - x.1.words.size))
def C103 : List AV → (AV → Prop) → Prop := con (X := Dd) (fun d => [ded d]) (fun d => d.words.size ≤ 1048576) fun d K => K (.str (deedT d))
end Go.Proofs.YtahfdkdneojkmaaDoor.Vc
end
section
/- Part TM: what a deed makes of a place, by the reference. -/
namespace Go.Proofs.YtahfdkdneojkmaaDoor.Vc
open Go.Proofs
set_option maxRecDepth 10000
set_option maxHeartbeats 4000000
structure Hc where
  h : House
  t : List Mark
  c : Int
def consB (x : Hc) : Bool := decide (termOk x.h x.t) && (decide (crowd x.h.p x.c) && says x.h.bs x.c x.t)
def C209 : List AV → (AV → Prop) → Prop := con (X := Hc) (fun x => [enH x.h, slM x.t, .int .i64 x.c]) (fun x => termI x.h x.t ∧ i64r x.c) fun x K => K (.bool (consB x))
theorem sayOk_of' {p : Int} {bs : List Int} {t : List Mark} (h : termOk ⟨p, bs⟩ t) {c : Int} (hc : crowd p c) : sayOk ⟨p, bs, t, c⟩ := by
  have pw2 := (pw_le hc.1).2
  have hl := h.2.1
  have hcl := hc.2
  exact ⟨by show t.length < 4611686018427387904; omega, h.2.2, fun b hb => by have g : crowd p b := (h.1.2.2 b hb).1; have := g.2; omega, hcl.1, by show c < 64; omega⟩
theorem F209 : FF 130 C209 := by
  refine fitE [(78, C33), (80, C62), (138, C36)] (by simp only [List.mem_cons, List.not_mem_nil, or_false]; rintro _ (rfl | rfl | rfl) <;> first | exact F33 | exact F62 | exact F36) Tryd.f130 ⟨rfl, by decide +kernel, by decide +kernel⟩ (fun _ _ _ hk h => hk _ h) ?_
  rintro ⟨⟨p, bs⟩, t, c⟩ K ⟨hI, hc⟩ h
  refine ⟨Nat.le_of_ble_eq_true rfl, ?_⟩
  have hp := hI.1.1
  unfold consB at h
  dsimp only [enH] at h hc hp ⊢
  repeat' ((conv => whnf); first | refine vA ?_ | with_reducible first | refine v8 ?_ | refine Sp.mk ?_ ?_ | refine vS ?_ | refine vR ?_ | refine vB ?_ | refine br_nt ?_ | refine br_tt ?_ | refine br_ff ?_ | refine vP ?_ | refine vQ ?_ | refine vT ?_ | refine vF ?_ | refine br_and ?_ | refine br_or ?_ | refine br_d (fun _ => ?_) fun _ => ?_ | refine vM (fun _ => ?_) fun _ => ?_)
  refine ⟨(⟨p, bs⟩, t), ?_, ⟨hI⟩, ?_⟩
  · repeat' ((conv => whnf); first | with_reducible exact True.intro | exact vW | with_reducible refine And.intro ?_ ?_)
  repeat' ((conv => whnf); first | refine vA ?_ | with_reducible first | refine v8 ?_ | refine Sp.mk ?_ ?_ | refine vS ?_ | refine vR ?_ | refine vB ?_ | refine br_nt ?_ | refine br_tt ?_ | refine br_ff ?_ | refine vP ?_ | refine vQ ?_ | refine vT ?_ | refine vF ?_ | refine br_and ?_ | refine br_or ?_ | refine br_d (fun _ => ?_) fun _ => ?_ | refine vM (fun _ => ?_) fun _ => ?_)
  · rename_i hO
    have hO' : termOk ⟨p, bs⟩ t := hO
    rw [decide_eq_true hO', Bool.true_and] at h
    refine ⟨(p, c), ?_, ⟨hp, hc⟩, ?_⟩
    · repeat' ((conv => whnf); first | with_reducible exact True.intro | exact vW | with_reducible refine And.intro ?_ ?_)
    repeat' ((conv => whnf); first | refine vA ?_ | with_reducible first | refine v8 ?_ | refine Sp.mk ?_ ?_ | refine vS ?_ | refine vR ?_ | refine vB ?_ | refine br_nt ?_ | refine br_tt ?_ | refine br_ff ?_ | refine vP ?_ | refine vQ ?_ | refine vT ?_ | refine vF ?_ | refine br_and ?_ | refine br_or ?_ | refine br_d (fun _ => ?_) fun _ => ?_ | refine vM (fun _ => ?_) fun _ => ?_)
    · rename_i hcr
      have hcr' : crowd p c := hcr
      rw [decide_eq_true hcr', Bool.true_and] at h
      refine ⟨⟨p, bs, t, c⟩, ?_, ⟨sayOk_of' hO' hcr'⟩, ?_⟩
      · repeat' ((conv => whnf); first | with_reducible exact True.intro | exact vW | with_reducible refine And.intro ?_ ?_)
      repeat' ((conv => whnf); first | refine vA ?_ | with_reducible first | refine v8 ?_ | refine Sp.mk ?_ ?_ | refine vS ?_ | refine vR ?_ | refine vB ?_ | refine br_nt ?_ | refine br_tt ?_ | refine br_ff ?_ | refine vP ?_ | refine vQ ?_ | refine vT ?_ | refine vF ?_ | refine br_and ?_ | refine br_or ?_ | refine br_d (fun _ => ?_) fun _ => ?_ | refine vM (fun _ => ?_) fun _ => ?_)
      exact h
    · rename_i hcr
      have hcr' : ¬ crowd p c := hcr
      rw [decide_eq_false hcr', Bool.false_and] at h
      exact h
  · rename_i hO
    have hO' : ¬ termOk ⟨p, bs⟩ t := hO
    rw [decide_eq_false hO', Bool.false_and] at h
    exact h
/-- Does a rule of a place consent? -/
def consR (x : Place) (r c : Int) : Bool := if 0 ≤ r ∧ r < x.rules.length then (match rdT 49 x.h (x.rules.getD r.toNat ⟨#[]⟩) with
  | some t => decide (crowd x.p c) && says x.bs c t
  | none => false) else false
structure Pc where
  x : Place
  r : Int
  c : Int
def C206 : List AV → (AV → Prop) → Prop := con (X := Pc) (fun x => [enPl x.x, .int .i64 x.r, .int .i64 x.c]) (fun x => placeI x.x ∧ i64r x.r ∧ i64r x.c) fun x K => K (.bool (consR x.x x.r x.c))
theorem rdT_termI {h : House} (hI : houI h) {s : ByteArray} {t : List Mark} (e : rdT 49 h s = some t) : termI h t ∧ termOk h t := by
  obtain ⟨g1, g2, g3⟩ := (rdT_iff (by decide)).1 e
  have hs := (read_tr (lo := 49) (bodies_of g2.1) (by decide) (Tr.of g2.2.2)).2 80 (by rw [g3]; exact g1) [] (by simp)
  rw [List.append_nil] at hs
  have hs' : eitherP (partF 49 80) (bys (textT t)) = some (t, []) := by rw [hs]; rfl
  have hm := eitherP_sane (by decide) 80 _ _ _ hs'
  have hl := g2.2.1
  exact ⟨⟨hI.1, hI.2, hm, by omega⟩, g2⟩
theorem F206 : FF 120 C206 := by
  refine fitE [(43, C35), (41, C153), (130, C209)] (by simp only [List.mem_cons, List.not_mem_nil, or_false]; rintro _ (rfl | rfl | rfl) <;> first | exact F35 | exact F153 | exact F209) Tryd.f120 ⟨rfl, by decide +kernel, by decide +kernel⟩ (fun _ _ _ hk h => hk _ h) ?_
  rintro ⟨⟨p, bs, rs⟩, r, c⟩ K ⟨hI, hr, hc⟩ h
  refine ⟨Nat.le_of_ble_eq_true rfl, ?_⟩
  have hI1 := hI.1
  have hI2 := hI.2.1
  have hI3 := hI.2.2
  unfold consR at h
  dsimp only [enPl, plC] at h hr hc hI2 hI3 ⊢
  repeat' ((conv => whnf); first | refine vA ?_ | with_reducible first | refine v8 ?_ | refine Sp.mk ?_ ?_ | refine vS ?_ | refine vR ?_ | refine vB ?_ | refine br_nt ?_ | refine br_tt ?_ | refine br_ff ?_ | refine vP ?_ | refine vQ ?_ | refine vT ?_ | refine vF ?_ | refine br_and ?_ | refine br_or ?_ | refine br_d (fun _ => ?_) fun _ => ?_ | refine vM (fun _ => ?_) fun _ => ?_)
  refine ⟨(r, 0, rs.length - 1), ?_, ⟨trivial⟩, ?_⟩
  · repeat' ((conv => whnf); first | with_reducible exact True.intro | exact vW | with_reducible refine And.intro ?_ ?_)
  dsimp only
  repeat' ((conv => whnf); first | refine vA ?_ | with_reducible first | refine v8 ?_ | refine Sp.mk ?_ ?_ | refine vS ?_ | refine vR ?_ | refine vB ?_ | refine br_nt ?_ | refine br_tt ?_ | refine br_ff ?_ | refine vP ?_ | refine vQ ?_ | refine vT ?_ | refine vF ?_ | refine br_and ?_ | refine br_or ?_ | refine br_d (fun _ => ?_) fun _ => ?_ | refine vM (fun _ => ?_) fun _ => ?_)
  · rename_i g
    rw [if_pos (by omega)] at h
    have hr2 : r.toNat < rs.length := by omega
    refine Dr.mk ⟨(.rd 0 (.rd 1 (.rd 2 (.rd 3 (.rd 4 (.rd 5 (.rd 6 (.ef 7 (.rd 8 (.rd 9 (.rd 10 (.rd 11 (.rd 12 .dn))))) .no)))))))), by decide +kernel, ?_⟩
    repeat' ((conv => whnf); first | refine vA ?_ | with_reducible first | refine v8 ?_ | refine Sp.mk ?_ ?_ | refine vS ?_ | refine vR ?_ | refine vB ?_ | refine br_nt ?_ | refine br_tt ?_ | refine br_ff ?_ | refine vP ?_ | refine vQ ?_ | refine vT ?_ | refine vF ?_ | refine br_and ?_ | refine br_or ?_ | refine br_d (fun _ => ?_) fun _ => ?_ | refine vM (fun _ => ?_) fun _ => ?_)
    refine ⟨⟨⟨p, bs⟩, rs.getD r.toNat ⟨#[]⟩⟩, ?_, ⟨hI1, getD_len hI3 hr2⟩, ?_⟩
    · repeat' ((conv => whnf); first | with_reducible exact True.intro | exact vW | with_reducible refine And.intro ?_ ?_)
    refine And.intro (fun e => ?_) (fun t e => ?_)
    · have e' : rdT 49 (Place.h ⟨p, bs, rs⟩) (rs.getD r.toNat ⟨#[]⟩) = none := by rw [← rdT_eq]; exact e
      rw [e'] at h
      repeat' ((conv => whnf); first | refine vA ?_ | with_reducible first | refine v8 ?_ | refine Sp.mk ?_ ?_ | refine vS ?_ | refine vR ?_ | refine vB ?_ | refine br_nt ?_ | refine br_tt ?_ | refine br_ff ?_ | refine vP ?_ | refine vQ ?_ | refine vT ?_ | refine vF ?_ | refine br_and ?_ | refine br_or ?_ | refine br_d (fun _ => ?_) fun _ => ?_ | refine vM (fun _ => ?_) fun _ => ?_)
      refine ⟨⟨⟨p, bs⟩, [], c⟩, ?_, ⟨⟨hI1.1, hI1.2, by simp, by simp⟩, hc⟩, ?_⟩
      · repeat' ((conv => whnf); first | with_reducible exact True.intro | exact vW | with_reducible refine And.intro ?_ ?_)
      have hno : consB ⟨⟨p, bs⟩, [], c⟩ = false := by
        unfold consB
        rw [decide_eq_false (fun q => by have := q.2.2; simp [walkP] at this)]
        rfl
      dsimp only
      rw [hno]
      repeat' ((conv => whnf); first | refine vA ?_ | with_reducible first | refine v8 ?_ | refine Sp.mk ?_ ?_ | refine vS ?_ | refine vR ?_ | refine vB ?_ | refine br_nt ?_ | refine br_tt ?_ | refine br_ff ?_ | refine vP ?_ | refine vQ ?_ | refine vT ?_ | refine vF ?_ | refine br_and ?_ | refine br_or ?_ | refine br_d (fun _ => ?_) fun _ => ?_ | refine vM (fun _ => ?_) fun _ => ?_)
      exact h
    · have e' : rdT 49 (Place.h ⟨p, bs, rs⟩) (rs.getD r.toNat ⟨#[]⟩) = some t := by rw [← rdT_eq]; exact e
      rw [e'] at h
      obtain ⟨ht, hO⟩ := rdT_termI hI1 e'
      repeat' ((conv => whnf); first | refine vA ?_ | with_reducible first | refine v8 ?_ | refine Sp.mk ?_ ?_ | refine vS ?_ | refine vR ?_ | refine vB ?_ | refine br_nt ?_ | refine br_tt ?_ | refine br_ff ?_ | refine vP ?_ | refine vQ ?_ | refine vT ?_ | refine vF ?_ | refine br_and ?_ | refine br_or ?_ | refine br_d (fun _ => ?_) fun _ => ?_ | refine vM (fun _ => ?_) fun _ => ?_)
      refine ⟨⟨⟨p, bs⟩, t, c⟩, ?_, ⟨ht, hc⟩, ?_⟩
      · repeat' ((conv => whnf); first | with_reducible exact True.intro | exact vW | with_reducible refine And.intro ?_ ?_)
      have hyes : consB ⟨⟨p, bs⟩, t, c⟩ = (decide (crowd p c) && says bs c t) := by
        unfold consB
        rw [decide_eq_true (show termOk ⟨p, bs⟩ t from hO), Bool.true_and]
      dsimp only
      rw [hyes]
      repeat' ((conv => whnf); first | refine vA ?_ | with_reducible first | refine v8 ?_ | refine Sp.mk ?_ ?_ | refine vS ?_ | refine vR ?_ | refine vB ?_ | refine br_nt ?_ | refine br_tt ?_ | refine br_ff ?_ | refine vP ?_ | refine vQ ?_ | refine vT ?_ | refine vF ?_ | refine br_and ?_ | refine br_or ?_ | refine br_d (fun _ => ?_) fun _ => ?_ | refine vM (fun _ => ?_) fun _ => ?_)
      exact h
  · rename_i g
    rw [if_neg (by omega)] at h
    exact h
/-! ### Copies with memory of their own -/
def plG (x : Place) : AV := .agg [.int .i64 x.p, .row 0 1 0 x.bs.length, .row 1 1 0 x.rules.length]
def plO (x : Place) : List Obj := [.row 1 x.bs.length fun i => encI (x.bs.getD i 0), .row 1 x.rules.length fun i => encS (x.rules.getD i ⟨#[]⟩)]
def C158g : GC := conG (X := Place) (fun x => [enPl x]) (fun _ => []) (fun x => x.rules.length ≤ 100000000 ∧ x.bs.length ≤ 100000000) fun x K => K (plG x) (plO x)
theorem F158g : GG 52 C158g := by
  refine fitG [] (by simp) [] (by simp) Tryd.f52 ⟨rfl, by decide +kernel, by decide +kernel⟩ (by intro x K K2 hk h; (try dsimp only at h ⊢); intros; apply hk; first | exact h | (apply h <;> assumption)) ?_
  rintro ⟨p, bs, rs⟩ K ⟨h1, h2⟩ h
  refine ⟨Nat.le_of_ble_eq_true rfl, ?_⟩
  unfold plG plO at h
  dsimp only [enPl, plC] at h h1 h2 ⊢
  repeat' ((conv => whnf); first | refine vA ?_ | with_reducible first | refine v8 ?_ | refine Sp.mk ?_ ?_ | refine vS ?_ | refine vR ?_ | refine vB ?_ | refine br_nt ?_ | refine br_tt ?_ | refine br_ff ?_ | refine vP ?_ | refine vQ ?_ | refine vT ?_ | refine vF ?_ | refine br_and ?_ | refine br_or ?_ | refine br_d (fun _ => ?_) fun _ => ?_ | refine vM (fun _ => ?_) fun _ => ?_)
  refine Dr.mk ⟨(.rd 0 (.rd 1 (.rd 2 (.rd 4 (.rd 5 (.rd 6 (.rd 10 (.rd 11 (.ef 3 (.ef 7 (.rd 8 (.ef 9 (.ef 12 (.rd 13 (.ef 14 .dn .no)) .no) .no)) (.ef 9 (.ef 7 (.rd 8 (.ef 12 (.rd 13 (.ef 14 .dn .no)) .no)) .no) .no)) (.ef 9 (.ef 3 (.ef 7 (.rd 8 (.ef 12 (.rd 13 (.ef 14 .dn .no)) .no)) .no) .no) .no)))))))))), by decide +kernel, ?_⟩
  repeat' ((conv => whnf); first | refine vA ?_ | with_reducible first | refine v8 ?_ | refine Sp.mk ?_ ?_ | refine vS ?_ | refine vR ?_ | refine vB ?_ | refine br_nt ?_ | refine br_tt ?_ | refine br_ff ?_ | refine vP ?_ | refine vQ ?_ | refine vT ?_ | refine vF ?_ | refine br_and ?_ | refine br_or ?_ | refine br_d (fun _ => ?_) fun _ => ?_ | refine vM (fun _ => ?_) fun _ => ?_)
  all_goals
    first
    | (refine ⟨_, _, [some 2, some 3], [], rfl, rfl, ?_, ?_, h⟩ <;> (repeat' ((conv => whnf); first | with_reducible exact True.intro | exact vW | with_reducible refine And.intro ?_ ?_)) <;> fail)
    | (refine ⟨_, _, [some 3, some 2], [], rfl, rfl, ?_, ?_, h⟩ <;> (repeat' ((conv => whnf); first | with_reducible exact True.intro | exact vW | with_reducible refine And.intro ?_ ?_)) <;> fail)
def C157g := C158g
theorem F157g : GG 51 C157g := by
  refine fitG [] (by simp) [] (by simp) Tryd.f51 ⟨rfl, by decide +kernel, by decide +kernel⟩ (by intro x K K2 hk h; (try dsimp only at h ⊢); intros; apply hk; first | exact h | (apply h <;> assumption)) ?_
  rintro ⟨p, bs, rs⟩ K ⟨h1, h2⟩ h
  refine ⟨Nat.le_of_ble_eq_true rfl, ?_⟩
  unfold plG plO at h
  dsimp only [enPl, plC] at h h1 h2 ⊢
  repeat' ((conv => whnf); first | refine vA ?_ | with_reducible first | refine v8 ?_ | refine Sp.mk ?_ ?_ | refine vS ?_ | refine vR ?_ | refine vB ?_ | refine br_nt ?_ | refine br_tt ?_ | refine br_ff ?_ | refine vP ?_ | refine vQ ?_ | refine vT ?_ | refine vF ?_ | refine br_and ?_ | refine br_or ?_ | refine br_d (fun _ => ?_) fun _ => ?_ | refine vM (fun _ => ?_) fun _ => ?_)
  refine Dr.mk ⟨(.rd 0 (.rd 1 (.rd 2 (.rd 4 (.rd 5 (.rd 6 (.rd 10 (.rd 11 (.ef 3 (.ef 7 (.rd 8 (.ef 9 (.ef 12 (.rd 13 (.ef 14 .dn .no)) .no) .no)) (.ef 9 (.ef 7 (.rd 8 (.ef 12 (.rd 13 (.ef 14 .dn .no)) .no)) .no) .no)) (.ef 9 (.ef 3 (.ef 7 (.rd 8 (.ef 12 (.rd 13 (.ef 14 .dn .no)) .no)) .no) .no) .no)))))))))), by decide +kernel, ?_⟩
  repeat' ((conv => whnf); first | refine vA ?_ | with_reducible first | refine v8 ?_ | refine Sp.mk ?_ ?_ | refine vS ?_ | refine vR ?_ | refine vB ?_ | refine br_nt ?_ | refine br_tt ?_ | refine br_ff ?_ | refine vP ?_ | refine vQ ?_ | refine vT ?_ | refine vF ?_ | refine br_and ?_ | refine br_or ?_ | refine br_d (fun _ => ?_) fun _ => ?_ | refine vM (fun _ => ?_) fun _ => ?_)
  all_goals
    first
    | (refine ⟨_, _, [some 2, some 3], [], rfl, rfl, ?_, ?_, h⟩ <;> (repeat' ((conv => whnf); first | with_reducible exact True.intro | exact vW | with_reducible refine And.intro ?_ ?_)) <;> fail)
    | (refine ⟨_, _, [some 3, some 2], [], rfl, rfl, ?_, ?_, h⟩ <;> (repeat' ((conv => whnf); first | with_reducible exact True.intro | exact vW | with_reducible refine And.intro ?_ ?_)) <;> fail)
theorem ext_sym {α : Type} {enc : α → List AV} {d : α} {l : List α} {n : Nat} {g : Nat → List AV} (h : l.length = n ∧ ∀ j, j < l.length → enc (l.getD j d) = g j) : n = l.length ∧ ∀ j, j < n → g (0 + j) = enc (l.getD j d) := ⟨h.1.symm, fun j hj => by rw [Nat.zero_add]; exact (h.2 j (by rw [h.1]; exact hj)).symm⟩
theorem consR_in {x : Place} {r c : Int} (h : consR x r c = true) : (0 ≤ r ∧ r < x.rules.length) ∧ r.toNat < x.rules.length := by
  unfold consR at h
  split at h
  · rename_i g
    exact ⟨g, by omega⟩
  · cases h
theorem ext_set {l : List ByteArray} {x : ByteArray} {n : Nat} (h : n < l.length) : l.length = (l.set n x).length ∧ ∀ i, i < l.length → setF (fun j => encS (l.getD j ⟨#[]⟩)) (0 + n) (encS x) (0 + i) = encS ((l.set n x).getD i ⟨#[]⟩) := by
  refine ⟨by rw [List.length_set], fun i hi => ?_⟩
  rw [Nat.zero_add, Nat.zero_add, List.getD_eq_getElem?_getD, List.getElem?_set]
  unfold setF
  cases hb : Nat.beq i n with
  | true =>
    obtain rfl := Nat.eq_of_beq_eq_true hb
    rw [if_pos rfl, if_pos h]
    rfl
  | false =>
    have := Nat.ne_of_beq_eq_false hb
    rw [if_neg (fun e => this e.symm), ← List.getD_eq_getElem?_getD]
    rfl
theorem ext_cut {l : List ByteArray} {n : Nat} (h : n < l.length) : n + (l.length - (n + 1)) = (l.take n ++ l.drop (n + 1)).length ∧ ∀ i, i < n + (l.length - (n + 1)) → appF n (fun j => encS (l.getD j ⟨#[]⟩)) (fun j => encS (l.getD (n + 1 + j) ⟨#[]⟩)) (0 + i) = encS ((l.take n ++ l.drop (n + 1)).getD i ⟨#[]⟩) := by
  have := ext_app (enc := encS) (d := ⟨#[]⟩) (l := l) (m := l.drop (n + 1)) (n := n) (g := fun j => encS (l.getD (n + 1 + j) ⟨#[]⟩)) (by omega) fun j hj => by
    rw [List.getD_eq_getElem?_getD, List.getD_eq_getElem?_getD, List.getElem?_drop]
  rw [List.length_drop] at this
  exact ext_sym this
def madeP (x : Place) (a : Dd) : Place :=
  if a.kind = 0 ∧ a.b = 0 ∧ a.words = ⟨#[]⟩ then ⟨x.p, x.bs ++ [a.a], x.rules⟩
  else if a.kind = 1 ∧ a.a = 0 ∧ a.b = 0 then ⟨x.p, x.bs, x.rules ++ [a.words]⟩
  else if a.kind = 2 ∧ consR x a.a a.b = true then ⟨x.p, x.bs, x.rules.set a.a.toNat a.words⟩
  else if a.kind = 3 ∧ a.words = ⟨#[]⟩ ∧ consR x a.a a.b = true then ⟨x.p, x.bs, x.rules.take a.a.toNat ++ x.rules.drop (a.a.toNat + 1)⟩
  else default
section
variable {x : Place} {k a b : Int} {w : ByteArray}
theorem made_0n (h : k = 0) (hn : ¬ (b = 0 ∧ w = ⟨#[]⟩)) : madeP x ⟨k, a, b, w⟩ = default := by
  unfold madeP
  dsimp only
  rw [if_neg (fun q => hn q.2), if_neg (by omega), if_neg (by omega), if_neg (by omega)]
theorem made_1n (h : k = 1) (hn : ¬ (a = 0 ∧ b = 0)) : madeP x ⟨k, a, b, w⟩ = default := by
  unfold madeP
  dsimp only
  rw [if_neg (by omega), if_neg (fun q => hn q.2), if_neg (by omega), if_neg (by omega)]
theorem made_2n (h : k = 2) (hn : consR x a b = false) : madeP x ⟨k, a, b, w⟩ = default := by
  unfold madeP
  dsimp only
  rw [if_neg (by omega), if_neg (by omega), if_neg (fun q => by rw [hn] at q; cases q.2), if_neg (by omega)]
theorem made_3n (h : k = 3) (hn : ¬ (w = ⟨#[]⟩ ∧ consR x a b = true)) : madeP x ⟨k, a, b, w⟩ = default := by
  unfold madeP
  dsimp only
  rw [if_neg (by omega), if_neg (by omega), if_neg (by omega), if_neg (fun q => hn q.2)]
theorem made_n (h0 : ¬ k = 0) (h1 : ¬ k = 1) (h2 : ¬ k = 2) (h3 : ¬ k = 3) : madeP x ⟨k, a, b, w⟩ = default := by
  unfold madeP
  dsimp only
  rw [if_neg (by omega), if_neg (by omega), if_neg (by omega), if_neg (by omega)]
theorem made_0 (h : k = 0) (h1 : b = 0) (h2 : w = ⟨#[]⟩) : madeP x ⟨k, a, b, w⟩ = ⟨x.p, x.bs ++ [a], x.rules⟩ := if_pos ⟨h, h1, h2⟩
theorem made_1 (h : k = 1) (h1 : a = 0) (h2 : b = 0) : madeP x ⟨k, a, b, w⟩ = ⟨x.p, x.bs, x.rules ++ [w]⟩ := by
  unfold madeP
  dsimp only
  rw [if_neg (by omega), if_pos ⟨h, h1, h2⟩]
theorem made_2 (h : k = 2) (h1 : consR x a b = true) : madeP x ⟨k, a, b, w⟩ = ⟨x.p, x.bs, x.rules.set a.toNat w⟩ := by
  unfold madeP
  dsimp only
  rw [if_neg (by omega), if_neg (by omega), if_pos ⟨h, h1⟩]
theorem made_3 (h : k = 3) (h1 : w = ⟨#[]⟩) (h2 : consR x a b = true) : madeP x ⟨k, a, b, w⟩ = ⟨x.p, x.bs, x.rules.take a.toNat ++ x.rules.drop (a.toNat + 1)⟩ := by
  unfold madeP
  dsimp only
  rw [if_neg (by omega), if_neg (by omega), if_neg (by omega), if_pos ⟨h, h1, h2⟩]
end
structure Pd where
  x : Place
  a : Dd
def shortP (x : Place) : Prop := x.rules.length ≤ 100000000 ∧ x.bs.length ≤ 100000000
def dedI (a : Dd) : Prop := i64r a.kind ∧ i64r a.a ∧ i64r a.b ∧ a.words.size < 9223372036854775808
def C199 : List AV → (AV → Prop) → Prop := con (X := Pd) (fun x => [enPl x.x, ded x.a]) (fun x => placeI x.x ∧ shortP x.x ∧ dedI x.a) fun x K => K (enPl (madeP x.x x.a))
theorem F199 : FF 111 C199 := by
  refine fitXE [(120, C206)] (by simp only [List.mem_cons, List.not_mem_nil, or_false]; rintro _ rfl; exact F206) [(52, C158g)] (by simp only [List.mem_cons, List.not_mem_nil, or_false]; rintro _ rfl; exact F158g) Tryd.f111 ⟨rfl, by decide +kernel, by decide +kernel⟩ (fun _ _ _ hk h => hk _ h) ?_
  rintro ⟨⟨p, bs, rs⟩, ⟨k, a, b, w⟩⟩ K ⟨hI, hs, h1, h2, h3, h4⟩ h
  refine ⟨Nat.le_of_ble_eq_true rfl, ?_⟩
  have hs1 := hs.1
  have hs2 := hs.2
  dsimp only [ded, encD, enPl, plC] at h1 h2 h3 h4 hs1 hs2 ⊢
  have x1 := ext_push (enc := encI) (d := 0) (l := bs) (x := a) (g := fun i => (fun i => [[AV.int .i64 a]].getD i [.int .i64 0]) (0 + i)) rfl
  have x2 := ext_push (enc := encS) (d := ⟨#[]⟩) (l := rs) (x := w) (g := fun i => (fun i => [[AV.str w]].getD i [.str ⟨#[]⟩]) (0 + i)) rfl
  have y1 := ext_sym x1
  have y2 := ext_sym x2
  repeat' ((conv => whnf); first | refine vA ?_ | with_reducible first | refine v8 ?_ | refine Sp.mk ?_ ?_ | refine vS ?_ | refine vR ?_ | refine vB ?_ | refine br_nt ?_ | refine br_tt ?_ | refine br_ff ?_ | refine vP ?_ | refine vQ ?_ | refine vT ?_ | refine vF ?_ | refine br_and ?_ | refine br_or ?_ | refine br_d (fun _ => ?_) fun _ => ?_ | refine vM (fun _ => ?_) fun _ => ?_)
  refine ⟨_, _, [], [], rfl, ?_, ?_, ⟨p, bs, rs⟩, rfl, rfl, ⟨hs⟩, ?_⟩
  · repeat' ((conv => whnf); first | with_reducible exact True.intro | exact vW | with_reducible refine And.intro ?_ ?_)
  · repeat' ((conv => whnf); first | with_reducible exact True.intro | exact vW | with_reducible refine And.intro ?_ ?_)
  dsimp only [plG, plO]
  repeat' ((conv => whnf); first | refine vA ?_ | with_reducible first | refine v8 ?_ | refine Sp.mk ?_ ?_ | refine vS ?_ | refine vR ?_ | refine vB ?_ | refine br_nt ?_ | refine br_tt ?_ | refine br_ff ?_ | refine vP ?_ | refine vQ ?_ | refine vT ?_ | refine vF ?_ | refine br_and ?_ | refine br_or ?_ | refine br_d (fun _ => ?_) fun _ => ?_ | refine vM (fun _ => ?_) fun _ => ?_)
  · have e := made_0 (x := ⟨p, bs, rs⟩) (k := k) (b := b) (w := w) (a := a) (by assumption) (by assumption) (by assumption)
    replace h : K (enPl (madeP ⟨p, bs, rs⟩ ⟨k, a, b, w⟩)) := h
    rw [e] at h
    refine ⟨_, ?_, h⟩
    repeat' ((conv => whnf); first | with_reducible exact True.intro | exact vW | with_reducible refine And.intro ?_ ?_)
    all_goals first | exact Chk.mk ⟨rfl, fun i _ => by dsimp only; rw [Nat.zero_add]⟩ | exact Chk.mk y1
  · rename_i q1 q2 q3
    have e := made_0n (x := ⟨p, bs, rs⟩) (a := a) (b := b) q1 fun q => q3 q.2
    replace h : K (enPl (madeP ⟨p, bs, rs⟩ ⟨k, a, b, w⟩)) := h
    rw [e] at h
    refine ⟨_, ?_, h⟩
    repeat' ((conv => whnf); first | with_reducible exact True.intro | exact vW | with_reducible refine And.intro ?_ ?_)
  · rename_i q1 q2
    have e := made_0n (x := ⟨p, bs, rs⟩) (a := a) (b := b) (w := w) q1 fun q => q2 q.1
    replace h : K (enPl (madeP ⟨p, bs, rs⟩ ⟨k, a, b, w⟩)) := h
    rw [e] at h
    refine ⟨_, ?_, h⟩
    repeat' ((conv => whnf); first | with_reducible exact True.intro | exact vW | with_reducible refine And.intro ?_ ?_)
  · rename_i q1 q2 q3 q4
    have e := made_1 (x := ⟨p, bs, rs⟩) (w := w) q1 q2 q3
    replace h : K (enPl (madeP ⟨p, bs, rs⟩ ⟨k, a, b, w⟩)) := h
    rw [e] at h
    refine ⟨_, ?_, h⟩
    repeat' ((conv => whnf); first | with_reducible exact True.intro | exact vW | with_reducible refine And.intro ?_ ?_)
    all_goals first | exact Chk.mk ⟨rfl, fun i _ => by dsimp only; rw [Nat.zero_add]⟩ | exact Chk.mk y2
  · rename_i hw
    exact absurd rfl hw
  · rename_i q1 q2 q3
    have e := made_1n (x := ⟨p, bs, rs⟩) (w := w) (a := a) (b := b) q1 fun q => q3 q.2
    replace h : K (enPl (madeP ⟨p, bs, rs⟩ ⟨k, a, b, w⟩)) := h
    rw [e] at h
    refine ⟨_, ?_, h⟩
    repeat' ((conv => whnf); first | with_reducible exact True.intro | exact vW | with_reducible refine And.intro ?_ ?_)
  · rename_i q1 q2
    have e := made_1n (x := ⟨p, bs, rs⟩) (w := w) (a := a) (b := b) q1 fun q => q2 q.1
    replace h : K (enPl (madeP ⟨p, bs, rs⟩ ⟨k, a, b, w⟩)) := h
    rw [e] at h
    refine ⟨_, ?_, h⟩
    repeat' ((conv => whnf); first | with_reducible exact True.intro | exact vW | with_reducible refine And.intro ?_ ?_)
  · rename_i q1
    refine ⟨⟨⟨p, bs, rs⟩, a, b⟩, ?_, ⟨hI, h2, h3⟩, ?_⟩
    · repeat' ((conv => whnf); first | with_reducible exact True.intro | exact vW | with_reducible refine And.intro ?_ ?_)
    dsimp only
    cases hc : consR ⟨p, bs, rs⟩ a b
    · have e := made_2n (x := ⟨p, bs, rs⟩) (w := w) q1 hc
      repeat' ((conv => whnf); first | refine vA ?_ | with_reducible first | refine v8 ?_ | refine Sp.mk ?_ ?_ | refine vS ?_ | refine vR ?_ | refine vB ?_ | refine br_nt ?_ | refine br_tt ?_ | refine br_ff ?_ | refine vP ?_ | refine vQ ?_ | refine vT ?_ | refine vF ?_ | refine br_and ?_ | refine br_or ?_ | refine br_d (fun _ => ?_) fun _ => ?_ | refine vM (fun _ => ?_) fun _ => ?_)
      replace h : K (enPl (madeP ⟨p, bs, rs⟩ ⟨k, a, b, w⟩)) := h
      rw [e] at h
      refine ⟨_, ?_, h⟩
      repeat' ((conv => whnf); first | with_reducible exact True.intro | exact vW | with_reducible refine And.intro ?_ ?_)
    · have hr := consR_in hc
      dsimp only at hr
      have y3 := ext_set (x := w) hr.2
      have e := made_2 (x := ⟨p, bs, rs⟩) (w := w) q1 hc
      repeat' ((conv => whnf); first | refine vA ?_ | with_reducible first | refine v8 ?_ | refine Sp.mk ?_ ?_ | refine vS ?_ | refine vR ?_ | refine vB ?_ | refine br_nt ?_ | refine br_tt ?_ | refine br_ff ?_ | refine vP ?_ | refine vQ ?_ | refine vT ?_ | refine vF ?_ | refine br_and ?_ | refine br_or ?_ | refine br_d (fun _ => ?_) fun _ => ?_ | refine vM (fun _ => ?_) fun _ => ?_)
      replace h : K (enPl (madeP ⟨p, bs, rs⟩ ⟨k, a, b, w⟩)) := h
      rw [e] at h
      refine ⟨_, ?_, h⟩
      repeat' ((conv => whnf); first | with_reducible exact True.intro | exact vW | with_reducible refine And.intro ?_ ?_)
      all_goals first | exact Chk.mk ⟨rfl, fun i _ => by dsimp only; rw [Nat.zero_add]⟩ | exact Chk.mk y3
  · rename_i q1 q2
    refine ⟨⟨⟨p, bs, rs⟩, a, b⟩, ?_, ⟨hI, h2, h3⟩, ?_⟩
    · repeat' ((conv => whnf); first | with_reducible exact True.intro | exact vW | with_reducible refine And.intro ?_ ?_)
    dsimp only
    cases hc : consR ⟨p, bs, rs⟩ a b
    · have e := made_3n (x := ⟨p, bs, rs⟩) (w := w) (a := a) (b := b) q1 fun q => by rw [hc] at q; cases q.2
      repeat' ((conv => whnf); first | refine vA ?_ | with_reducible first | refine v8 ?_ | refine Sp.mk ?_ ?_ | refine vS ?_ | refine vR ?_ | refine vB ?_ | refine br_nt ?_ | refine br_tt ?_ | refine br_ff ?_ | refine vP ?_ | refine vQ ?_ | refine vT ?_ | refine vF ?_ | refine br_and ?_ | refine br_or ?_ | refine br_d (fun _ => ?_) fun _ => ?_ | refine vM (fun _ => ?_) fun _ => ?_)
      replace h : K (enPl (madeP ⟨p, bs, rs⟩ ⟨k, a, b, w⟩)) := h
      rw [e] at h
      refine ⟨_, ?_, h⟩
      repeat' ((conv => whnf); first | with_reducible exact True.intro | exact vW | with_reducible refine And.intro ?_ ?_)
    · have hr := consR_in hc
      dsimp only at hr
      have y3 := ext_cut hr.2
      have e := made_3 (x := ⟨p, bs, rs⟩) (w := w) q1 q2 hc
      repeat' ((conv => whnf); first | refine vA ?_ | with_reducible first | refine v8 ?_ | refine Sp.mk ?_ ?_ | refine vS ?_ | refine vR ?_ | refine vB ?_ | refine br_nt ?_ | refine br_tt ?_ | refine br_ff ?_ | refine vP ?_ | refine vQ ?_ | refine vT ?_ | refine vF ?_ | refine br_and ?_ | refine br_or ?_ | refine br_d (fun _ => ?_) fun _ => ?_ | refine vM (fun _ => ?_) fun _ => ?_)
      have e5 : (a + 1).toNat = a.toNat + 1 := by omega
      have y4 : a.toNat - Int.toNat 0 + ((rs.length : Int).toNat - (a + 1).toNat) = (rs.take a.toNat ++ rs.drop (a.toNat + 1)).length ∧ ∀ i, i < a.toNat - Int.toNat 0 + ((rs.length : Int).toNat - (a + 1).toNat) → appF (a.toNat - Int.toNat 0) (fun i => (fun i => encS (rs.getD i ⟨#[]⟩)) (Int.toNat 0 + i)) (fun i => (fun i => encS (rs.getD i ⟨#[]⟩)) ((a + 1).toNat + i)) (0 + i) = encS ((rs.take a.toNat ++ rs.drop (a.toNat + 1)).getD i ⟨#[]⟩) := by
        rw [e5, show Int.toNat 0 = 0 from rfl, Nat.sub_zero, Int.toNat_natCast]
        simp only [Nat.zero_add] at y3 ⊢
        exact y3
      refine Dr.mk ⟨(.rd 0 (.rd 1 (.rd 3 (.rd 4 (.rd 5 (.rd 6 (.rd 7 (.rd 9 (.rd 10 (.rd 11 (.rd 12 (.rd 13 (.rd 14 (.ef 2 (.ef 8 (.ef 15 (.rd 16 (.ef 17 .dn .no)) .no) .no) .no)))))))))))))), by decide +kernel, ?_⟩
      repeat' ((conv => whnf); first | refine vA ?_ | with_reducible first | refine v8 ?_ | refine Sp.mk ?_ ?_ | refine vS ?_ | refine vR ?_ | refine vB ?_ | refine br_nt ?_ | refine br_tt ?_ | refine br_ff ?_ | refine vP ?_ | refine vQ ?_ | refine vT ?_ | refine vF ?_ | refine br_and ?_ | refine br_or ?_ | refine br_d (fun _ => ?_) fun _ => ?_ | refine vM (fun _ => ?_) fun _ => ?_)
      replace h : K (enPl (madeP ⟨p, bs, rs⟩ ⟨k, a, b, w⟩)) := h
      rw [e] at h
      refine ⟨_, ?_, h⟩
      repeat' ((conv => whnf); first | with_reducible exact True.intro | exact vW | with_reducible refine And.intro ?_ ?_)
      all_goals first | exact Chk.mk ⟨rfl, fun i _ => by dsimp only; rw [Nat.zero_add]⟩ | exact Chk.mk y4
  · rename_i q1 q2
    have e := made_3n (x := ⟨p, bs, rs⟩) (a := a) (b := b) (w := w) q1 fun q => q2 q.1
    replace h : K (enPl (madeP ⟨p, bs, rs⟩ ⟨k, a, b, w⟩)) := h
    rw [e] at h
    refine ⟨_, ?_, h⟩
    repeat' ((conv => whnf); first | with_reducible exact True.intro | exact vW | with_reducible refine And.intro ?_ ?_)
  · have e := made_n (x := ⟨p, bs, rs⟩) (a := a) (b := b) (w := w) (by assumption) (by assumption) (by assumption) (by assumption)
    replace h : K (enPl (madeP ⟨p, bs, rs⟩ ⟨k, a, b, w⟩)) := h
    rw [e] at h
    refine ⟨_, ?_, h⟩
    repeat' ((conv => whnf); first | with_reducible exact True.intro | exact vW | with_reducible refine And.intro ?_ ?_)
end Go.Proofs.YtahfdkdneojkmaaDoor.Vc
end
