/- Part LA3: strings.ContainsAny at space and newline. -/
import Derived.Test.YtbbgojaloebknaaDoorVcLA2
namespace Go.Proofs.YtbbgojaloebknaaDoor.Vc
open Go.Proofs Go.Shelf Go.RowKit Go.Lib
variable {P : Program} {ρ : Ren}
theorem noAny_more {s chars : List UInt8} {i n : Nat} (h : NoAny s chars i) (hn : ∀ j b, i ≤ j → j < i + n → s[j]? = some b → chars.contains b = false) : NoAny s chars (i + n) := fun j b hj hb => by
  by_cases e : j < i
  · exact h j b e hb
  · exact hn j b (by omega) hj hb
theorem sn_high {b : UInt8} (h : 128 ≤ b.toNat) : sn.data.toList.contains b = false := by
  cases e : sn.data.toList.contains b with
  | false => rfl
  | true =>
    have : b = 32 ∨ b = 10 := by simpa [sn] using e
    rcases this with rfl | rfl <;> simp at h
theorem below_iter_at {w wx : World} {s : ByteArray} {i : Nat} (hb : Below w.heap.size w wx) (hk : wx.heap[w.heap.size]? = some (.stringIter s i)) (i' : Nat) :
    Below w.heap.size w (wx.iterAt w.heap.size s i') ∧ (wx.iterAt w.heap.size s i').heap[w.heap.size]? = some (.stringIter s i') :=
  ⟨below_iterAt hb (Nat.le_refl _) s i', iterAt_heap wx _ s i i' hk⟩
set_option maxHeartbeats 8000000 in
set_option maxRecDepth 1000000 in
theorem IndexAny_short_sn (L : Lays.n153 P ρ) (s : ByteArray) (w : World) (h8 : s.size ≤ 8) :
    Calls P (ρ.f 153) #[.string s, .string sn] w fun e w' => e = .returned (.int .i64 (Lib.indexAny s.data.toList sn.data.toList)) ∧ Below w.heap.size w w' := by
  have hemp : sn.toList.isEmpty = false := by rw [Lib.toList_data]; rfl
  have hn1 : ((sn.size : Int) == 1) = false := rfl
  have h8z : decide ((8 : Int) < (s.size : Int)) = false := decide_eq_false (by omega)
  have t3 := L.t3; have a3 := L.a3; have z3 := L.z3; have v3 := L.v3
  have t4 := L.t4; have a4 := L.a4; have z4 := L.z4; have v4 := L.v4
  have t5 := L.t5; have a5 := L.a5; have z5 := L.z5; have v5 := L.v5
  have t9 := L.t9; have a9 := L.a9; have z9 := L.z9; have v9 := L.v9
  have t21 := L.t21; have a21 := L.a21; have z21 := L.z21; have v21 := L.v21
  have e152 : ∀ args w, (callFunc (ρ.f 152) args).run P w = .ok (.enter (ρ.f 152) args) w := enters_of L.f152 (by kernel_rfl) rfl
  have e226 : ∀ args w, (callFunc (ρ.f 226) args).run P w = .ok (.enter (ρ.f 226) args) w := enters_of L.f226 (by kernel_rfl) rfl
  go_enter L.f153, Body.n153_ntmps ρ
  go_wp2_with (go_at_fn (ρ.f 226); refine (Any.strings_shouldUseASCIISet { L with } _ _).mono ?_; rintro e w' ⟨rfl, hw⟩; rw [hw, h8z])
  go_loopg [9, 10] s.size (fun g _ _ wx => ∃ i : Nat, i + g ≤ s.size ∧ s.size ≤ i + g ∧ Below w.heap.size w wx ∧ wx.heap[w.heap.size]? = some (.stringIter s i) ∧ Lib.NoAny s.data.toList sn.data.toList i)
  case atStart => exact ⟨0, by omega, by omega, below_iter _ _ _, World.iter_heap _ _ _, Lib.NoAny.zero _ _⟩
  case round =>
    obtain ⟨i, hig, hgi, hB, hk, hno⟩ := hrel
    have HN : Aside (Lib.NoAny s.data.toList sn.data.toList i) := hno
    have HB : Aside (Below w.heap.size w wr) := hB
    clear hno hB
    cases gk with
    | zero =>
      obtain rfl : i = s.size := by omega
      have hnx := fun ty => run_next_end_at (P := P) wr w.heap.size s s.size ty hk (Nat.lt_irrefl _)
      have HK : Aside (wr.heap[w.heap.size]? = some (.stringIter s s.size)) := hk
      clear hk
      go_wp2
      go_ret
      exact ⟨by rw [Lib.indexAny_none (by rw [← Lib.size_eq]; exact HN.out)]; rfl, HB.out⟩
    | succ g =>
      have hi : i < s.size := by omega
      obtain ⟨x, hx⟩ : ∃ x : UInt8, s[i]'hi = x := ⟨_, rfl⟩
      have hxl : s.data.toList[i]? = some x := by rw [← hx]; exact Lib.data_getElem? s i hi
      by_cases h128 : x.toNat < 128
      · have hnx := fun ty => run_next_ascii_at (P := P) wr w.heap.size s i ty hk hi (by rw [hx]; exact h128)
        rw [hx] at hnx
        have Hx : Aside (s.data.toList[i]? = some x) := hxl
        have HK : Aside (wr.heap[w.heap.size]? = some (.stringIter s i)) := hk
        clear hxl hx hk
        have hcon := Lib.contains_iff_indexByte sn.data.toList x
        have hback : ((x.toNat : Int)).toNat.toUInt8 = x := by simp
        cases hin : sn.data.toList.contains x
        · rw [hin] at hcon
          have hlt : ¬ ((0 : Int) ≤ Lib.indexByte sn.data.toList x) := of_decide_eq_false hcon.symm
          clear hcon
          go_wp2_with (go_at_fn (ρ.f 152); refine (Any.strings_IndexRune_ascii { L with } _ _ _ (by omega) (by omega)).mono ?_; rintro e w' ⟨rfl, hw⟩; rw [hw, hback])
          go_roundg g
          case measure => omega
          case rel =>
            obtain ⟨b1, b2⟩ := below_iter_at HB.out HK.out (i + 1)
            exact ⟨i + 1, by omega, by omega, b1, b2, HN.out.succ Hx.out hin⟩
        · rw [hin] at hcon
          have hge : (0 : Int) ≤ Lib.indexByte sn.data.toList x := of_decide_eq_true hcon.symm
          clear hcon
          go_wp2_with (go_at_fn (ρ.f 152); refine (Any.strings_IndexRune_ascii { L with } _ _ _ (by omega) (by omega)).mono ?_; rintro e w' ⟨rfl, hw⟩; rw [hw, hback])
          go_ret
          exact ⟨by rw [Lib.indexAny_hit HN.out Hx.out hin]; rfl, (below_iter_at HB.out HK.out (i + 1)).1⟩
      · have hxx : 128 ≤ (s[i]'hi).toNat := by rw [hx]; omega
        have hnx := fun ty => run_next_any_at (P := P) wr w.heap.size s i ty hk hi
        obtain ⟨d1, d2⟩ := decode_high s i hi hxx
        obtain ⟨d3, d4⟩ := decode_more s i hi hxx
        have HD : Aside (∀ j, 1 ≤ j → j < (Utf8.decode s i).2 → 128 ≤ (s.get! (i + j)).toNat) := d4
        have Hx : Aside (s.data.toList[i]? = some x) := hxl
        have HK : Aside (wr.heap[w.heap.size]? = some (.stringIter s i)) := hk
        clear hxl hx hk d4 hxx
        generalize hr : (Utf8.decode s i).1 = r at hnx d1
        generalize hm : (Utf8.decode s i).2 = m at hnx d2 d3 HD
        clear hr hm
        have hneg : ¬ ((0 : Int) ≤ -1) := by decide
        go_wp2_with (go_at_fn (ρ.f 152); refine (IndexRune_high { L with } _ _ (by omega)).mono ?_; rintro e w' ⟨rfl, hw⟩)
        go_roundg (s.size - (i + m))
        case measure => omega
        case rel =>
          obtain ⟨b1, b2⟩ := below_iter_at HB.out HK.out (i + m)
          have hlt : w.heap.size < (wr.iterAt w.heap.size s (i + m)).heap.size := (Array.getElem?_eq_some_iff.1 b2).1
          refine ⟨i + m, by omega, by omega, b1.trans ⟨hw.os, hw.tape, hw.output, hw.size, fun k hk => hw.block k (by omega)⟩, (hw.block _ hlt).trans b2, noAny_more HN.out fun j b hj1 hj2 hb => sn_high ?_⟩
          by_cases e : j = i
          · subst e
            have := Hx.out.symm.trans hb
            cases this
            omega
          · have := HD.out (j - i) (by omega) (by omega)
            rw [show i + (j - i) = j + 0 by omega, get_at s j (by omega)] at this
            rw [Lib.data_getElem? s j (by omega)] at hb
            cases hb
            exact this
theorem IndexAny_sn (L : Lays.n153 P ρ) (hv116 : ∀ w, (zeroValue (ρ.t 116)).run P w = .ok (.agg (Array.replicate 256 (.bool false))) w) (hi116 : (P.info? (ρ.t 116)).map (·.size) = some 256) (s : ByteArray) (w : World) (hs : s.size < 4294967281) :
    Calls P (ρ.f 153) #[.string s, .string sn] w fun e w' => e = .returned (.int .i64 (Lib.indexAny s.data.toList sn.data.toList)) ∧ Below w.heap.size w w' := by
  by_cases h8 : s.size ≤ 8
  · exact IndexAny_short_sn L s w h8
  · refine (Any.strings_IndexAny_long L hv116 hi116 s sn w (by decide) (by omega) hs (by decide) ?_).mono fun e w' ⟨h1, h2⟩ => ⟨h1, ?_⟩
    · intro j b hb
      have : b ∈ sn.data.toList := List.mem_of_getElem? hb
      have : b = 32 ∨ b = 10 := by simpa [sn] using this
      rcases this with rfl | rfl <;> decide
    · rw [h2]
      exact ((Below.refl _ _).alloc (Nat.le_refl _) _).alloc (by simp) _
set_option maxHeartbeats 1000000 in
/-- strings.ContainsAny at space and newline, for every string. -/
theorem ContainsAny_sn (L : Lays.n150 P ρ) (h116 : (P.info? (ρ.t 116)).map (fun i => (i.zero, i.size)) = some (some (.agg (Array.replicate 256 (.bool false))), 256)) (s : ByteArray) (w : World) (hs : s.size < 4294967281) :
    Calls P (ρ.f 150) #[.string s, .string sn] w fun e w' => e = .returned (.bool (Lib.containsAny s.data.toList sn.data.toList)) ∧ Below w.heap.size w w' := by
  have c := IndexAny_sn { L with } (zero_of_info h116).1 (zero_of_info h116).2 s w hs
  have t3 := L.t3; have a3 := L.a3; have z3 := L.z3; have v3 := L.v3
  have t4 := L.t4; have a4 := L.a4; have z4 := L.z4; have v4 := L.v4
  have t9 := L.t9; have a9 := L.a9; have z9 := L.z9; have v9 := L.v9
  have e153 : ∀ args w, (callFunc (ρ.f 153) args).run P w = .ok (.enter (ρ.f 153) args) w := enters_of L.f153 (by kernel_rfl) rfl
  go_enter L.f150, Body.n150_ntmps ρ
  go_wp2_with (go_at_fn (ρ.f 153); refine c.mono ?_; rintro e w' ⟨rfl, hw⟩)
  go_ret
  exact ⟨rfl, hw⟩
end Go.Proofs.YtbbgojaloebknaaDoor.Vc
