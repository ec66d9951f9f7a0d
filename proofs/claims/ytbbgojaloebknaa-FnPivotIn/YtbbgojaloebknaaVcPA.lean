/- Part PA: the pivot of the dual, from behind; plain. -/
import Derived.Test.YtbbgojaloebknaaVcZS
import Derived.Test.YtbbgojaloebknaaVcZE
namespace Go.Proofs.Ytbbgojaloebknaa.Vc
set_option maxRecDepth 10000
set_option maxHeartbeats 4000000
def sp : List Int → Int
  | [] => 0
  | w :: l => 2 ^ w.toNat + sp l
theorem sp_app : ∀ l m : List Int, sp (l ++ m) = sp l + sp m
  | [], m => by simp [sp]
  | w :: l, m => by simp only [List.cons_append, sp, sp_app l m]; omega
theorem sp_rev : ∀ l : List Int, sp l.reverse = sp l
  | [] => rfl
  | w :: l => by rw [List.reverse_cons, sp_app, sp_rev l]; simp only [sp]; omega
theorem add_new : ∀ c, c < 64 → ∀ w, w < 6 → has (c : Nat) (w : Nat) = false → add (c : Nat) (w : Nat) = ((c + 2 ^ w : Nat) : Int) := by decide +kernel
theorem has_add2 : ∀ c, c < 64 → ∀ w, w < 6 → ∀ x, x < 6 → has (add (c : Nat) (w : Nat)) (x : Nat) = (has (c : Nat) (x : Nat) || decide (x = w)) := by decide +kernel
theorem heads_add : ∀ c, c < 64 → ∀ w, w < 6 → has (c : Nat) (w : Nat) = false → heads (c + 2 ^ w) = heads c + 1 := by decide +kernel
theorem heads_full : ∀ p, p < 7 → ∀ c, c < 2 ^ p → heads c = p → c = 2 ^ p - 1 := by decide +kernel
section
variable {p : Int} {bs : List Int} {t : List Mark}
theorem add_sum (hp : p ≤ 6) {c w : Int} (h1 : 0 ≤ c) (h2 : c < 64) (h3 : 0 ≤ w) (h4 : w < p) (h : has c w = false) : add c w = c + 2 ^ w.toNat := by
  have := add_new c.toNat (by omega) w.toNat (by omega)
  rw [Int.toNat_of_nonneg h1, Int.toNat_of_nonneg h3] at this
  rw [this h]
  have e : ((2 ^ w.toNat : Nat) : Int) = (2 : Int) ^ w.toNat := by norm_cast
  omega
/-- Once each, and all in a range. -/
structure Seen (p : Int) (l : List Int) (c d : Int) : Prop where
  sum : d = c + sp l
  has : ∀ x : Int, 0 ≤ x → x < 6 → Vc.has d x = (Vc.has c x || decide (x ∈ l))
  heads : heads d.toNat = heads c.toNat + l.length
  lt : 0 ≤ d ∧ d < 64
  rng : ∀ w ∈ l, 0 ≤ w ∧ w < p ∧ Vc.has c w = false
  nd : l.Nodup
theorem seen_of (hp : p ≤ 6) : ∀ (l : List Int) (c d : Int), 0 ≤ c → c < 64 → seenP p l c = some d → Seen p l c d
  | [], c, d, h1, h2, h => by
    injection h with h
    subst h
    exact ⟨by simp [sp], fun x _ _ => (by simp), (by simp), ⟨h1, h2⟩, fun w hw => (by cases hw), List.nodup_nil⟩
  | w :: l, c, d, h1, h2, h => by
    unfold seenP at h
    split at h
    · rename_i g
      obtain ⟨g1, g2, g3⟩ := g
      have ga := add_lt h1 h2 g1 (by omega)
      have ih := seen_of hp l _ d ga.1 ga.2 h
      have e1 := add_sum hp h1 h2 g1 g2 g3
      have hx : ∀ x : Int, 0 ≤ x → x < 6 → Vc.has (add c w) x = (Vc.has c x || decide (x = w)) := fun x k1 k2 => by
        have := has_add2 c.toNat (by omega) w.toNat (by omega) x.toNat (by omega)
        rw [Int.toNat_of_nonneg h1, Int.toNat_of_nonneg g1, Int.toNat_of_nonneg k1] at this
        rw [this]
        congr 1
        rw [decide_eq_decide]
        omega
      have hh := heads_add c.toNat (by omega) w.toNat (by omega)
      rw [Int.toNat_of_nonneg h1, Int.toNat_of_nonneg g1] at hh
      have e : ((2 ^ w.toNat : Nat) : Int) = (2 : Int) ^ w.toNat := by norm_cast
      refine ⟨by rw [ih.sum, e1]; simp only [sp]; omega, fun x k1 k2 => ?_, ?_, ih.lt, fun v hv => ?_, ?_⟩
      · rw [ih.has x k1 k2, hx x k1 k2, Bool.or_assoc]
        congr 1
        rw [← Bool.decide_or, decide_eq_decide, List.mem_cons]
      · rw [ih.heads, e1, show (c + 2 ^ w.toNat).toNat = c.toNat + 2 ^ w.toNat by omega, hh g3, List.length_cons]; omega
      · rcases List.mem_cons.1 hv with rfl | hv
        · exact ⟨g1, g2, g3⟩
        · obtain ⟨q1, q2, q3⟩ := ih.rng v hv
          refine ⟨q1, q2, ?_⟩
          rw [hx v q1 (by omega)] at q3
          cases e : Vc.has c v with
          | false => rfl
          | true => rw [e] at q3; cases q3
      · refine List.nodup_cons.2 ⟨fun hm => ?_, ih.nd⟩
        obtain ⟨q1, q2, q3⟩ := ih.rng w hm
        rw [hx w q1 (by omega)] at q3
        simp at q3
    · cases h
theorem seen_mk (hp : p ≤ 6) : ∀ (l : List Int) (c : Int), 0 ≤ c → c < 64 → (∀ w ∈ l, 0 ≤ w ∧ w < p ∧ has c w = false) → l.Nodup → ∃ d, seenP p l c = some d
  | [], c, _, _, _, _ => ⟨c, rfl⟩
  | w :: l, c, h1, h2, hr, hn => by
    obtain ⟨g1, g2, g3⟩ := hr w List.mem_cons_self
    have ga := add_lt h1 h2 g1 (by omega)
    rw [List.nodup_cons] at hn
    unfold seenP
    rw [if_pos ⟨g1, g2, g3⟩]
    refine seen_mk hp l _ ga.1 ga.2 (fun v hv => ?_) hn.2
    obtain ⟨q1, q2, q3⟩ := hr v (List.mem_cons_of_mem _ hv)
    refine ⟨q1, q2, ?_⟩
    have := has_add2 c.toNat (by omega) w.toNat (by omega) v.toNat (by omega)
    rw [Int.toNat_of_nonneg h1, Int.toNat_of_nonneg g1, Int.toNat_of_nonneg q1] at this
    rw [this, q3, Bool.false_or, decide_eq_false_iff_not]
    intro e
    exact hn.1 (by rw [show w = v by omega]; exact hv)
theorem has_zero {x : Int} (h1 : 0 ≤ x) (h2 : x < 6) : has 0 x = false := by
  have := has_not 0 (by omega) 0 (by decide) x.toNat (by omega) (by omega)
  rwa [Int.toNat_of_nonneg h1] at this
theorem seen_split (hp : p ≤ 6) {a b : List Int} {d : Int} (h : seenP p (a ++ b) 0 = some d) : ∃ c, seenP p a 0 = some c ∧ seenP p b c = some d ∧ c = sp a ∧ 0 ≤ c ∧ c < 64 := by
  rw [seenP_app] at h
  cases e : seenP p a 0 with
  | none => rw [e] at h; cases h
  | some c =>
    rw [e] at h
    have s := seen_of hp a 0 c (by decide) (by decide) e
    exact ⟨c, rfl, h, by rw [s.sum]; omega, s.lt.1, s.lt.2⟩
theorem mono_list (ht : termOk ⟨p, bs⟩ t) : ∀ (l : List Int) (c d : Int), 0 ≤ c → c < pw p → seenP p l c = some d → says bs c t = true → d < pw p ∧ says bs d t = true
  | [], c, d, _, h2, h, hs => by injection h with h; exact h ▸ ⟨h2, hs⟩
  | w :: l, c, d, h1, h2, h, hs => by
    unfold seenP at h
    split at h
    · rename_i g
      have pp : people p := ht.1.1
      have pn := pw_nat pp
      have p6 := pp.2
      have ga := add_in p.toNat (by omega) w.toNat (by omega) c.toNat (by omega)
      rw [Int.toNat_of_nonneg h1, Int.toNat_of_nonneg g.1] at ga
      exact mono_list ht l _ d ga.1 (by omega) h (says_mono ht h1 h2 g.1 g.2.1 hs)
    · cases h
theorem pivot_at {v : Int} : ∀ (l : List Int) (c d : Int), seenP p l c = some d → pivotR bs t l c = v → 0 ≤ v → says bs c t = false → ∃ a b e, l = a ++ v :: b ∧ seenP p a c = some e ∧ says bs e t = false ∧ says bs (add e v) t = true
  | [], c, d, _, h, h0, _ => by unfold pivotR at h; omega
  | w :: l, c, d, hs, h, h0, hc => by
    unfold seenP at hs
    split at hs
    · rename_i g
      unfold pivotR at h
      split at h
      · rename_i k
        subst h
        exact ⟨[], l, c, rfl, rfl, hc, k⟩
      · rename_i k
        obtain ⟨a, b, e, h1, h2, h3, h4⟩ := pivot_at l _ d hs h h0 (by simpa using k)
        refine ⟨w :: a, b, e, by rw [h1]; rfl, ?_, h3, h4⟩
        unfold seenP
        rw [if_pos g]
        exact h2
    · cases hs
theorem piv_skip {u : List Mark} : ∀ (r m : List Int) (c d : Int), seenP p r c = some d → (∀ a b e, r = a ++ b → a ≠ [] → seenP p a c = some e → says bs e u = false) → pivotR bs u (r ++ m) c = pivotR bs u m d
  | [], m, c, d, h, _ => by injection h with h; rw [h]; rfl
  | w :: r, m, c, d, h, hn => by
    unfold seenP at h
    split at h
    · rename_i g
      have k := hn [w] r (add c w) rfl (by simp) (by unfold seenP; rw [if_pos g]; rfl)
      rw [List.cons_append, pivotR, if_neg (by rw [k]; decide)]
      refine piv_skip r m _ d h fun a b e h1 h2 h3 => hn (w :: a) b e (by rw [h1]; rfl) (by simp) ?_
      unfold seenP
      rw [if_pos g]
      exact h3
    · cases h
/-- What is known of a pivot. -/
structure Piv (p : Int) (bs : List Int) (t : List Mark) (l : List Int) (v : Int) (a b : List Int) : Prop where
  el : l = a ++ v :: b
  vr : 0 ≤ v ∧ v < p
  lt : 0 ≤ sp a ∧ sp a < pw p
  no : says bs (sp a) t = false
  yes : says bs (add (sp a) v) t = true
  nd : l.Nodup
  lt2 : 0 ≤ add (sp a) v ∧ add (sp a) v < pw p
  rng : ∀ w ∈ l, 0 ≤ w ∧ w < p
theorem pivot_back (ht : termOk ⟨p, bs⟩ t) {l : List Int} (hl : (l.length : Int) = p) (hs : (seenP p l 0).isSome = true) {v : Int} (hv : pivotR bs t l 0 = v) (h0 : 0 ≤ v) :
    ∃ a b, Piv p bs t l v a b ∧ pivotIn ⟨p, bs⟩ (dualT bs t) l.reverse = v := by
  have pp : people p := ht.1.1
  have p6 : p ≤ 6 := pp.2
  have p1 : 1 ≤ p := pp.1
  have pn := pw_nat pp
  have pl := pw_le pp
  obtain ⟨D, hD⟩ := Option.isSome_iff_exists.1 hs
  have S := seen_of p6 l 0 D (by decide) (by decide) hD
  have hfull : ∀ (l : List Int) (D : Int), seenP p l 0 = some D → D < pw p := fun l D h => by
    have S := seen_of p6 l 0 D (by decide) (by decide) h
    rcases Int.lt_or_le D (pw p) with q | q
    · exact q
    · exfalso
      have key : ∀ p, p < 7 → ∀ c, c < 64 → 2 ^ p ≤ c → ∃ x, x < 6 ∧ p ≤ x ∧ has (c : Nat) (x : Nat) = true := by decide +kernel
      obtain ⟨x, x1, x2, x3⟩ := key p.toNat (by omega) D.toNat (by have := S.lt; omega) (by omega)
      rw [Int.toNat_of_nonneg S.lt.1, S.has x (by omega) (by omega), has_zero (by omega) (by omega), Bool.false_or, decide_eq_true_eq] at x3
      have := (S.rng _ x3).2.1
      omega
  have eD : D = full p := by
    have h1 := S.heads
    have h2 := heads_full p.toNat (by omega) D.toNat (by have := hfull l D hD; have := S.lt; omega) (by rw [h1]; show heads 0 + l.length = _; rw [show heads 0 = 0 by decide]; omega)
    have := S.lt
    unfold full
    omega
  obtain ⟨a, b, e, hl2, hea, hno, hyes⟩ := pivot_at l 0 D hD hv h0 (says_none ht)
  have hs2 := hD
  rw [hl2] at hs2
  obtain ⟨c, c1, c2, c3, c4, c5⟩ := seen_split p6 hs2
  have : e = c := Option.some.inj (hea.symm.trans c1)
  subst this
  have hvb := c2
  unfold seenP at hvb
  split at hvb
  case isFalse => cases hvb
  rename_i g
  have ha := hfull a e hea
  have hadd := add_sum p6 c4 c5 g.1 g.2.1 g.2.2
  have hav : seenP p (a ++ [v]) 0 = some (add e v) := by
    rw [seenP_app, c1]
    show seenP p [v] e = _
    unfold seenP
    rw [if_pos g]
    rfl
  have hv2 := hfull _ _ hav
  have ge := add_lt c4 c5 g.1 (by omega)
  refine ⟨a, b, ⟨hl2, ⟨g.1, g.2.1⟩, by rw [← c3]; exact ⟨c4, ha⟩, by rw [← c3]; exact hno, by rw [← c3]; exact hyes, S.nd, by rw [← c3]; exact ⟨ge.1, hv2⟩, fun w hw => ⟨(S.rng w hw).1, (S.rng w hw).2.1⟩⟩, ?_⟩
  have rmem : ∀ w ∈ l.reverse, 0 ≤ w ∧ w < p ∧ has 0 w = false := fun w hw => S.rng w (List.mem_reverse.1 hw)
  obtain ⟨D2, hD2⟩ := seen_mk p6 l.reverse 0 (by decide) (by decide) rmem (List.pairwise_reverse.2 (S.nd.imp Ne.symm))
  unfold pivotIn
  rw [if_pos ⟨termOk_dual ht, by rw [List.length_reverse]; exact hl, by rw [hD2]; rfl⟩]
  have er : l.reverse = b.reverse ++ ([v] ++ a.reverse) := by rw [hl2]; simp
  have hD3 := hD2
  rw [er] at hD3
  obtain ⟨f, f1, f2, f3, f4, f5⟩ := seen_split p6 hD3
  have sD : D = sp a + 2 ^ v.toNat + sp b := by
    rw [S.sum, hl2, sp_app]
    simp only [sp]
    omega
  show pivotR bs (dualT bs t) l.reverse 0 = v
  rw [er, piv_skip b.reverse _ 0 f f1 fun x y z hx _ hz => ?_]
  · rw [List.singleton_append, pivotR, if_pos]
    have g2 : seenP p (v :: a.reverse) f = some D2 := f2
    unfold seenP at g2
    split at g2
    case isFalse => cases g2
    rename_i k
    have k1 := add_sum p6 f4 f5 k.1 k.2.1 k.2.2
    have k2 := add_lt f4 f5 k.1 (by omega)
    rw [sp_rev] at f3
    rw [says_dual ht k2.1 (by unfold full at eD; omega), k1, f3, show full p - (sp b + 2 ^ v.toNat) = sp a by omega, ← c3, hno]
    rfl
  · -- a beginning of the reversed rest
    obtain ⟨hz1, hz2⟩ : z = sp x ∧ 0 ≤ z := by
      have := seen_of p6 x 0 z (by decide) (by decide) hz
      exact ⟨by rw [this.sum]; omega, this.lt.1⟩
    have hzp := hfull x z hz
    have eb : b = y.reverse ++ x.reverse := by rw [← List.reverse_append, ← hx, List.reverse_reverse]
    have sb : sp b = sp y + sp x := by rw [eb, sp_app, sp_rev, sp_rev]
    have hvb2 := hvb
    rw [eb, seenP_app] at hvb2
    cases ey : seenP p y.reverse (add e v) with
    | none => rw [ey] at hvb2; cases hvb2
    | some k =>
      have m := mono_list ht y.reverse _ k ge.1 hv2 ey (by rw [c3]; rw [c3] at hyes; exact hyes)
      have sk := seen_of p6 y.reverse _ k ge.1 ge.2 ey
      have e3 : full p - z = k := by rw [← eD, sD, hz1, sk.sum, hadd, c3, sp_rev]; omega
      rw [says_dual ht hz2 hzp, e3, m.2]
      rfl
end
end Go.Proofs.Ytbbgojaloebknaa.Vc
