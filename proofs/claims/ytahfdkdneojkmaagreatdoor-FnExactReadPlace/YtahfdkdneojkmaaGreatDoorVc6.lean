/- Part UF: places that are read, by the implementation. -/
import Derived.Test.YtahfdkdneojkmaaGreatDoorVc5
section
namespace Go.Proofs.YtahfdkdneojkmaaGreatDoor.Vc
open Go.Proofs
set_option maxRecDepth 10000
set_option maxHeartbeats 4000000
def C214 : List AV → (AV → Prop) → Prop := con (X := ByteArray) (fun s => [.str s]) (fun s => s.size < 4294967281) rpPost
theorem placeOk_short' {x : Place} (h : placeOk x) : x.rules.length ≤ 100000000 ∧ x.bs.length ≤ 100000000 := ⟨Nat.le_trans h.2.1.2 (by omega), Nat.le_trans h.1.2.1 (by omega)⟩
theorem isPt_num {s : ByteArray} {x : Place} (h : isPt s x) : isNum ((cutB s 32).getD 0 ⟨#[]⟩) = true := by
  obtain ⟨n, n1, n2, _⟩ := isPt_p h
  rw [n2]
  exact isNum_num n1
theorem F214 : FF 33 C214 := by
  refine fitXE [(60, C211), (61, C213), (27, C152), (28, C166), (62, C157)] (by simp only [List.mem_cons, List.not_mem_nil, or_false]; rintro _ (rfl | rfl | rfl | rfl | rfl) <;> first | exact F211 | exact F213 | exact F152 | exact F166 | exact F157) [] (by simp) Tryz.f33 ⟨rfl, by decide +kernel, by decide +kernel⟩ (fun _ _ _ hk h => h.mono hk) ?_
  rintro s K hs ⟨h, hno⟩
  refine ⟨Nat.le_of_ble_eq_true rfl, ?_⟩
  repeat' ((conv => whnf); first | refine vA ?_ | with_reducible first | refine v8 ?_ | refine Sp.mk ?_ ?_ | refine vS ?_ | refine vR ?_ | refine vB ?_ | refine br_nt ?_ | refine br_tt ?_ | refine br_ff ?_ | refine vP ?_ | refine vQ ?_ | refine vT ?_ | refine vF ?_ | refine br_and ?_ | refine br_or ?_ | refine br_d (fun _ => ?_) fun _ => ?_ | refine vM (fun _ => ?_) fun _ => ?_)
  refine ⟨(s, 32), ?_, ⟨hs⟩, ?_⟩
  · repeat' ((conv => whnf); first | with_reducible exact True.intro | exact vW | with_reducible refine And.intro ?_ ?_)
  obtain ⟨L, hL⟩ : ∃ L, cutB s 32 = L := ⟨_, rfl⟩
  have hl2 := (cutB_len s 32).2
  have hlm : ∀ x ∈ L, x.size ≤ s.size := fun x hx => cutB_mem (c := 32) (hL ▸ hx)
  have hx3 : ∀ x, isPt s x → 3 ≤ L.length := fun x q => hL ▸ isPt_len q
  dsimp only
  rw [hL] at hl2 ⊢
  repeat' ((conv => whnf); first | refine vA ?_ | with_reducible first | refine v8 ?_ | refine Sp.mk ?_ ?_ | refine vS ?_ | refine vR ?_ | refine vB ?_ | refine br_nt ?_ | refine br_tt ?_ | refine br_ff ?_ | refine vP ?_ | refine vQ ?_ | refine vT ?_ | refine vF ?_ | refine br_and ?_ | refine br_or ?_ | refine br_d (fun _ => ?_) fun _ => ?_ | refine vM (fun _ => ?_) fun _ => ?_)
  · rename_i h3
    refine ⟨_, ?_, hno fun ⟨x, q⟩ => by have := hx3 x q; omega⟩
    repeat' ((conv => whnf); first | with_reducible exact True.intro | exact vW | with_reducible refine And.intro ?_ ?_)
  rename_i h3
  obtain ⟨Q, hQ⟩ : ∃ Q, L.drop 2 = Q := ⟨_, rfl⟩
  have hQl : Q.length = L.length - 2 := by rw [← hQ, List.length_drop]
  refine ⟨L.getD 0 ⟨#[]⟩, ?_, ⟨by have := hlm _ (getD_mem' (l := L) (i := 0) (d := ⟨#[]⟩) (by omega)); omega⟩, ?_⟩
  · repeat' ((conv => whnf); first | with_reducible exact True.intro | exact vW | with_reducible refine And.intro ?_ ?_)
  intro v hv hn
  have hp : ∀ x, isPt s x → v = x.p := fun x q => by
    obtain ⟨n, n1, n2, n3⟩ := isPt_p q
    rw [hL] at n2
    rw [hn n n1 n2, n3]
  have hpn : ∀ x, isPt s x → isNum (L.getD 0 ⟨#[]⟩) = true := fun x q => hL ▸ isPt_num q
  generalize isNum (L.getD 0 ⟨#[]⟩) = okp at hpn ⊢
  have hQe : Q.length = (L.length : Int).toNat - Int.toNat 2 ∧ ∀ i, i < Q.length → encS (Q.getD i ⟨#[]⟩) = encS (L.getD (Int.toNat 2 + i) ⟨#[]⟩) := ⟨hQl, fun i _ => by
    rw [← hQ, List.getD_eq_getElem?_getD, List.getElem?_drop, ← List.getD_eq_getElem?_getD]
    rfl⟩
  obtain ⟨M, hM⟩ : ∃ M, cutB (L.getD 1 ⟨#[]⟩) 44 = M := ⟨_, rfl⟩
  have h1s := hlm _ (getD_mem' (l := L) (i := 1) (d := ⟨#[]⟩) (by omega))
  have hMl := (cutB_len (L.getD 1 ⟨#[]⟩) 44).2
  have hMm : ∀ x ∈ M, x.size ≤ s.size := fun x hx => Nat.le_trans (cutB_mem (c := 44) (hM ▸ hx)) h1s
  have hMx : ∀ x, isPt s x → M = x.bs.map num := fun x q => by rw [← hM, ← hL]; exact isPt_bs q
  have hMb : ∀ x, isPt s x → ∀ i, i < x.bs.length → ∃ n : Nat, n < 1000000 ∧ M.getD i ⟨#[]⟩ = num n ∧ x.bs.getD i 0 = n := fun x q i hi => by rw [← hM, ← hL]; exact isPt_b q hi
  repeat' ((conv => whnf); first | refine vA ?_ | with_reducible first | refine v8 ?_ | refine Sp.mk ?_ ?_ | refine vS ?_ | refine vR ?_ | refine vB ?_ | refine br_nt ?_ | refine br_tt ?_ | refine br_ff ?_ | refine vP ?_ | refine vQ ?_ | refine vT ?_ | refine vF ?_ | refine br_and ?_ | refine br_or ?_ | refine br_d (fun _ => ?_) fun _ => ?_ | refine vM (fun _ => ?_) fun _ => ?_)
  refine ⟨(L.getD 1 ⟨#[]⟩, 44), ?_, ⟨by dsimp only; omega⟩, ?_⟩
  · repeat' ((conv => whnf); first | with_reducible exact True.intro | exact vW | with_reducible refine And.intro ?_ ?_)
  dsimp only
  rw [hM] at hMl ⊢
  repeat' ((conv => whnf); first | refine vA ?_ | with_reducible first | refine v8 ?_ | refine Sp.mk ?_ ?_ | refine vS ?_ | refine vR ?_ | refine vB ?_ | refine br_nt ?_ | refine br_tt ?_ | refine br_ff ?_ | refine vP ?_ | refine vQ ?_ | refine vT ?_ | refine vF ?_ | refine br_and ?_ | refine br_or ?_ | refine br_d (fun _ => ?_) fun _ => ?_ | refine vM (fun _ => ?_) fun _ => ?_)
  refine Lp.mk ⟨List Int, fun B => [(0, .str s), (2, .ptr 0 0), (6, .bool okp), (7, .ptr 1 0), (33, slS M), (34, .int .i64 M.length), (35, .int .i64 B.length)], fun B => [.box [.int .i64 0, .nils, .nils], .box [.int .i64 v, .row 2 1 0 B.length, slS Q], .row 1 B.length fun i => encI (B.getD i 0)],
    fun B => B.length ≤ M.length ∧ (∀ n ∈ B, i64r n) ∧ ∀ x, isPt s x → B = x.bs.take B.length, fun B => M.length - B.length, ⟨[], ⟨Nat.zero_le _, (fun _ q => by cases q), (fun _ _ => rfl)⟩, ⟨⟨[some 0, some 1, none], [], rfl, rfl, ?_, ?_⟩⟩⟩, ?_⟩
  · repeat' ((conv => whnf); first | with_reducible exact True.intro | exact vW | with_reducible refine And.intro ?_ ?_)
  · repeat' ((conv => whnf); first | with_reducible exact True.intro | exact vW | with_reducible refine And.intro ?_ ?_)
    all_goals exact Chk.mk hQe
  rintro B ⟨i1, i2, i3⟩
  dsimp only
  by_cases hk : B.length < M.length
  · repeat' ((conv => whnf); first | refine vA ?_ | with_reducible first | refine v8 ?_ | refine Sp.mk ?_ ?_ | refine vS ?_ | refine vR ?_ | refine vB ?_ | refine br_nt ?_ | refine br_tt ?_ | refine br_ff ?_ | refine vP ?_ | refine vQ ?_ | refine vT ?_ | refine vF ?_ | refine br_and ?_ | refine br_or ?_ | refine br_d (fun _ => ?_) fun _ => ?_ | refine vM (fun _ => ?_) fun _ => ?_)
    refine ⟨M.getD B.length ⟨#[]⟩, ?_, ⟨by have := hMm _ (getD_mem' (d := ⟨#[]⟩) hk); omega⟩, ?_⟩
    · repeat' ((conv => whnf); first | with_reducible exact True.intro | exact vW | with_reducible refine And.intro ?_ ?_)
    intro w hw hn
    have hnext : ∀ x, isPt s x → isNum (M.getD B.length ⟨#[]⟩) = true ∧ B ++ [w] = x.bs.take (B.length + 1) := fun x q => by
      have e2 := hMx x q
      have e3 : x.bs.length = M.length := by rw [e2, List.length_map]
      obtain ⟨n, n1, n2, n3⟩ := hMb x q B.length (by omega)
      refine ⟨by rw [n2]; exact isNum_num n1, ?_⟩
      rw [take_succ' 0 (by omega), ← i3 x q, hn n n1 n2, n3]
    have hi2 : ∀ n ∈ B ++ [w], i64r n := fun n hm => (List.mem_append.1 hm).elim (i2 n) fun hm => by rw [List.mem_singleton.1 hm]; exact hw
    have hBl : (B ++ [w]).length = B.length + 1 := by rw [List.length_append]; rfl
    generalize isNum (M.getD B.length ⟨#[]⟩) = okb at hnext ⊢
    cases okb
    · repeat' ((conv => whnf); first | refine vA ?_ | with_reducible first | refine v8 ?_ | refine Sp.mk ?_ ?_ | refine vS ?_ | refine vR ?_ | refine vB ?_ | refine br_nt ?_ | refine br_tt ?_ | refine br_ff ?_ | refine vP ?_ | refine vQ ?_ | refine vT ?_ | refine vF ?_ | refine br_and ?_ | refine br_or ?_ | refine br_d (fun _ => ?_) fun _ => ?_ | refine vM (fun _ => ?_) fun _ => ?_)
      refine ⟨_, ?_, hno fun ⟨x, q⟩ => by cases (hnext x q).1⟩
      repeat' ((conv => whnf); first | with_reducible exact True.intro | exact vW | with_reducible refine And.intro ?_ ?_)
    · repeat' ((conv => whnf); first | refine vA ?_ | with_reducible first | refine v8 ?_ | refine Sp.mk ?_ ?_ | refine vS ?_ | refine vR ?_ | refine vB ?_ | refine br_nt ?_ | refine br_tt ?_ | refine br_ff ?_ | refine vP ?_ | refine vQ ?_ | refine vT ?_ | refine vF ?_ | refine br_and ?_ | refine br_or ?_ | refine br_d (fun _ => ?_) fun _ => ?_ | refine vM (fun _ => ?_) fun _ => ?_)
      refine ⟨B ++ [w], ⟨by omega, hi2, fun x q => by rw [hBl]; exact (hnext x q).2⟩, by omega, ?_⟩
      first | (refine ⟨⟨[some 0, some 1, some 4], [], rfl, rfl, ?_, ?_⟩⟩ <;> (repeat' ((conv => whnf); first | with_reducible exact True.intro | exact vW | with_reducible refine And.intro ?_ ?_ | exact Chk.mk ⟨rfl, hBl⟩ | exact Chk.mk (ext_push rfl))) <;> fail) | (refine ⟨⟨[some 0, some 1, some 3], [], rfl, rfl, ?_, ?_⟩⟩ <;> (repeat' ((conv => whnf); first | with_reducible exact True.intro | exact vW | with_reducible refine And.intro ?_ ?_ | exact Chk.mk ⟨rfl, hBl⟩ | exact Chk.mk (ext_push rfl))) <;> fail)
  · have hBx : ∀ x, isPt s x → x = ⟨v, B, Q⟩ := fun x q => by
      have e1 := i3 x q
      have e2 := hMx x q
      have e3 : x.bs.length = M.length := by rw [e2, List.length_map]
      rw [List.take_of_length_le (by omega)] at e1
      have e4 := isPt_rs q
      rw [hL, hQ] at e4
      obtain ⟨xp, xb, xr⟩ := x
      have e5 := hp _ q
      dsimp only at e1 e4 e5
      rw [e1, e4, e5]
    have hyI : placeI ⟨v, B, Q⟩ := ⟨⟨⟨hv, i2⟩, by show B.length < _; omega⟩, by show Q.length < _; omega, fun r hr => by have := hlm r (by rw [← hQ] at hr; exact List.mem_of_mem_drop hr); omega⟩
    cases okp
    · repeat' ((conv => whnf); first | refine vA ?_ | with_reducible first | refine v8 ?_ | refine Sp.mk ?_ ?_ | refine vS ?_ | refine vR ?_ | refine vB ?_ | refine br_nt ?_ | refine br_tt ?_ | refine br_ff ?_ | refine vP ?_ | refine vQ ?_ | refine vT ?_ | refine vF ?_ | refine br_and ?_ | refine br_or ?_ | refine br_d (fun _ => ?_) fun _ => ?_ | refine vM (fun _ => ?_) fun _ => ?_)
      refine ⟨_, ?_, hno fun ⟨x, q⟩ => by cases hpn x q⟩
      repeat' ((conv => whnf); first | with_reducible exact True.intro | exact vW | with_reducible refine And.intro ?_ ?_)
    by_cases hO : placeOk ⟨v, B, Q⟩
    · repeat' ((conv => whnf); first | refine vA ?_ | with_reducible first | refine v8 ?_ | refine Sp.mk ?_ ?_ | refine vS ?_ | refine vR ?_ | refine vB ?_ | refine br_nt ?_ | refine br_tt ?_ | refine br_ff ?_ | refine vP ?_ | refine vQ ?_ | refine vT ?_ | refine vF ?_ | refine br_and ?_ | refine br_or ?_ | refine br_d (fun _ => ?_) fun _ => ?_ | refine vM (fun _ => ?_) fun _ => ?_)
      refine ⟨⟨v, B, Q⟩, ?_, ⟨hyI⟩, ?_⟩
      · repeat' ((conv => whnf); first | with_reducible exact True.intro | exact vW | with_reducible refine And.intro ?_ ?_)
        all_goals exact Chk.mk ⟨rfl, fun i _ => by dsimp only; rw [Nat.zero_add]⟩
      repeat' ((conv => whnf); first | refine vA ?_ | with_reducible first | refine v8 ?_ | refine Sp.mk ?_ ?_ | refine vS ?_ | refine vR ?_ | refine vB ?_ | refine br_nt ?_ | refine br_tt ?_ | refine br_ff ?_ | refine vP ?_ | refine vQ ?_ | refine vT ?_ | refine vF ?_ | refine br_and ?_ | refine br_or ?_ | refine br_d (fun _ => ?_) fun _ => ?_ | refine vM (fun _ => ?_) fun _ => ?_)
      refine ⟨⟨v, B, Q⟩, ?_, ⟨hO⟩, ?_⟩
      · repeat' ((conv => whnf); first | with_reducible exact True.intro | exact vW | with_reducible refine And.intro ?_ ?_)
        all_goals exact Chk.mk ⟨rfl, fun i _ => by dsimp only; rw [Nat.zero_add]⟩
      repeat' ((conv => whnf); first | with_reducible refine wk_at 16 ?_ | with_reducible refine wk_at1 16 ?_ | with_reducible refine wk_at2 16 ?_ | refine vA ?_ | with_reducible first | refine v8 ?_ | refine Sp.mk ?_ ?_ | refine vS ?_ | refine vR ?_ | refine vB ?_ | refine br_nt ?_ | refine br_tt ?_ | refine br_ff ?_ | refine vP ?_ | refine vQ ?_ | refine vT ?_ | refine vF ?_ | refine br_and ?_ | refine br_or ?_ | refine br_d (fun _ => ?_) fun _ => ?_ | refine vM (fun _ => ?_) fun _ => ?_)
      · rename_i he
        refine ⟨Wk.go [(2, .ptr 0 0), (7, .ptr 1 0)] [.box [.int .i64 0, .nils, .nils], .box [.int .i64 v, slI B, slS Q]] ⟨⟨[some 0, some 1], [2], rfl, rfl, ?_, ?_⟩⟩ ?_⟩
        · repeat' ((conv => whnf); first | with_reducible exact True.intro | exact vW | with_reducible refine And.intro ?_ ?_)
        · repeat' ((conv => whnf); first | with_reducible exact True.intro | exact vW | with_reducible refine And.intro ?_ ?_)
          all_goals exact Chk.mk ⟨rfl, by omega, fun i _ => by dsimp only; rw [Nat.zero_add]⟩
        repeat' ((conv => whnf); first | refine vA ?_ | with_reducible first | refine v8 ?_ | refine Sp.mk ?_ ?_ | refine vS ?_ | refine vR ?_ | refine vB ?_ | refine br_nt ?_ | refine br_tt ?_ | refine br_ff ?_ | refine vP ?_ | refine vQ ?_ | refine vT ?_ | refine vF ?_ | refine br_and ?_ | refine br_or ?_ | refine br_d (fun _ => ?_) fun _ => ?_ | refine vM (fun _ => ?_) fun _ => ?_)
        refine ⟨⟨v, B, Q⟩, ?_, ⟨placeOk_short' hO⟩, ?_⟩
        · repeat' ((conv => whnf); first | with_reducible exact True.intro | exact vW | with_reducible refine And.intro ?_ ?_)
        dsimp only [enPl, plC]
        repeat' ((conv => whnf); first | refine vA ?_ | with_reducible first | refine v8 ?_ | refine Sp.mk ?_ ?_ | refine vS ?_ | refine vR ?_ | refine vB ?_ | refine br_nt ?_ | refine br_tt ?_ | refine br_ff ?_ | refine vP ?_ | refine vQ ?_ | refine vT ?_ | refine vF ?_ | refine br_and ?_ | refine br_or ?_ | refine br_d (fun _ => ?_) fun _ => ?_ | refine vM (fun _ => ?_) fun _ => ?_)
        refine ⟨_, ?_, h ⟨v, B, Q⟩ ⟨hO, he⟩⟩
        repeat' ((conv => whnf); first | with_reducible exact True.intro | exact vW | with_reducible refine And.intro ?_ ?_)
      · rename_i he
        refine ⟨_, ?_, hno fun ⟨x, q⟩ => he (by rw [← hBx x q]; exact q.2)⟩
        repeat' ((conv => whnf); first | with_reducible exact True.intro | exact vW | with_reducible refine And.intro ?_ ?_)
    · repeat' ((conv => whnf); first | refine vA ?_ | with_reducible first | refine v8 ?_ | refine Sp.mk ?_ ?_ | refine vS ?_ | refine vR ?_ | refine vB ?_ | refine br_nt ?_ | refine br_tt ?_ | refine br_ff ?_ | refine vP ?_ | refine vQ ?_ | refine vT ?_ | refine vF ?_ | refine br_and ?_ | refine br_or ?_ | refine br_d (fun _ => ?_) fun _ => ?_ | refine vM (fun _ => ?_) fun _ => ?_)
      refine ⟨⟨v, B, Q⟩, ?_, ⟨hyI⟩, ?_⟩
      · repeat' ((conv => whnf); first | with_reducible exact True.intro | exact vW | with_reducible refine And.intro ?_ ?_)
        all_goals exact Chk.mk ⟨rfl, fun i _ => by dsimp only; rw [Nat.zero_add]⟩
      repeat' ((conv => whnf); first | refine vA ?_ | with_reducible first | refine v8 ?_ | refine Sp.mk ?_ ?_ | refine vS ?_ | refine vR ?_ | refine vB ?_ | refine br_nt ?_ | refine br_tt ?_ | refine br_ff ?_ | refine vP ?_ | refine vQ ?_ | refine vT ?_ | refine vF ?_ | refine br_and ?_ | refine br_or ?_ | refine br_d (fun _ => ?_) fun _ => ?_ | refine vM (fun _ => ?_) fun _ => ?_)
      refine ⟨_, ?_, hno fun ⟨x, q⟩ => hO (by rw [← hBx x q]; exact q.1)⟩
      repeat' ((conv => whnf); first | with_reducible exact True.intro | exact vW | with_reducible refine And.intro ?_ ?_)
end Go.Proofs.YtahfdkdneojkmaaGreatDoor.Vc
end
section
/- Part ZO: the readers of a code. -/
namespace Go.Proofs.YtahfdkdneojkmaaGreatDoor.Vc
open Go.Proofs
set_option maxRecDepth 10000
set_option maxHeartbeats 4000000
/-- A reader of a code. -/
structure Rd where
  b : List Int
  p : Int
def Rd.okn (r : Rd) (n : Int) : Prop := r.b.length ≤ 2000 ∧ (∀ n ∈ r.b, u8r n) ∧ 0 ≤ r.p ∧ r.p ≤ n
abbrev rdO (b : List Int) (p : Int) : Obj := .box [slB b, .int .i64 p]
def Rd.ok (r : Rd) : Prop := r.b.length ≤ 2000 ∧ (∀ n ∈ r.b, u8r n) ∧ 0 ≤ r.p ∧ r.p ≤ 1000000000
theorem u8_getD {b : List Int} (h : ∀ n ∈ b, u8r n) (i : Nat) : 0 ≤ b.getD i 0 ∧ b.getD i 0 < 256 := by
  rw [List.getD_eq_getElem?_getD]
  rcases Nat.lt_or_ge i b.length with hi | hi
  · rw [List.getElem?_eq_getElem hi]; exact h _ (List.getElem_mem hi)
  · rw [List.getElem?_eq_none hi]; exact ⟨by decide, by decide⟩
theorem tmod_in {a n : Int} (h1 : 0 ≤ a) (h2 : 1 ≤ n) : 0 ≤ a.tmod n ∧ a.tmod n < n := by
  rw [Int.tmod_eq_emod_of_nonneg h1]
  exact ⟨Int.emod_nonneg _ (by omega), Int.emod_lt_of_pos _ (by omega)⟩
theorem tdiv_in {a n : Int} (h1 : 0 ≤ a) (h2 : 1 ≤ n) : 0 ≤ a.tdiv n ∧ a.tdiv n ≤ a := by
  rw [Int.tdiv_eq_ediv_of_nonneg h1]
  exact ⟨Int.ediv_nonneg h1 (by omega), Int.ediv_le_self _ h1⟩
theorem xor_in {a b : Int} (h1 : 0 ≤ a) (h2 : a < 4611686018427387904) (h3 : 0 ≤ b) (h4 : b < 4611686018427387904) : 0 ≤ bitop .i64 .xor a b := by
  have e : ∀ n : Int, 0 ≤ n → n < 4611686018427387904 → (BitVec.ofInt 64 n).toNat = n.toNat := fun n g1 g2 => by
    rw [BitVec.toNat_ofInt]
    omega
  have hx : (BitVec.ofInt 64 a ^^^ BitVec.ofInt 64 b).toNat < 2 ^ 62 := by
    rw [BitVec.toNat_xor, e a h1 h2, e b h3 h4]
    exact Nat.xor_lt_two_pow (by omega) (by omega)
  show 0 ≤ IntKind.i64.wrap (((BitVec.ofInt 64 a ^^^ BitVec.ofInt 64 b).toNat : Nat) : Int)
  rw [wi64 (by omega) (by omega)]
  omega
def C52 : GC := conG (X := Rd × Int) (fun x => [.ptr 0 0, .int .i64 x.2]) (fun x => [.box [slB x.1.b, .int .i64 x.1.p]]) (fun x => x.1.ok ∧ i64r x.2) fun x K => ∀ k p' : Int, (x.2 < 1 → k = 0) → (1 ≤ x.2 → 0 ≤ k ∧ k < x.2) → p' = x.1.p + 1 → K (.int .i64 k) [.box [slB x.1.b, .int .i64 p']]
theorem F52 : GG 44 C52 := by
  refine fitG [] (by simp) [] (by simp) Tryz.f44 ⟨rfl, by decide +kernel, by decide +kernel⟩ (by intro x K K2 hk h; (try dsimp only at h ⊢); intros; apply hk; first | exact h | (apply h <;> assumption)) ?_
  rintro ⟨⟨b, p⟩, n⟩ K ⟨⟨h1, h2, h3, h4⟩, h5⟩ h
  refine ⟨Nat.le_of_ble_eq_true rfl, ?_⟩
  dsimp only at h h1 h2 h3 h4 h5 ⊢
  have hb := u8_getD h2
  repeat' ((conv => whnf); first | refine vA ?_ | with_reducible first | refine v8 ?_ | refine Sp.mk ?_ ?_ | refine vS ?_ | refine vR ?_ | refine vB ?_ | refine br_nt ?_ | refine br_tt ?_ | refine br_ff ?_ | refine vP ?_ | refine vQ ?_ | refine vT ?_ | refine vF ?_ | refine br_and ?_ | refine br_or ?_ | refine br_d (fun _ => ?_) fun _ => ?_ | refine vM (fun _ => ?_) fun _ => ?_)
  · refine ⟨_, _, [some 0], [], rfl, rfl, ?_, ?_, h 0 _ (fun _ => rfl) (fun _ => by omega) rfl⟩
    · repeat' ((conv => whnf); first | with_reducible exact True.intro | exact vW | with_reducible refine And.intro ?_ ?_)
    · repeat' ((conv => whnf); first | with_reducible exact True.intro | exact vW | with_reducible refine And.intro ?_ ?_)
  · refine ⟨_, _, [some 0], [], rfl, rfl, ?_, ?_, h 0 _ (fun _ => rfl) (fun _ => by omega) rfl⟩
    · repeat' ((conv => whnf); first | with_reducible exact True.intro | exact vW | with_reducible refine And.intro ?_ ?_)
    · repeat' ((conv => whnf); first | with_reducible exact True.intro | exact vW | with_reducible refine And.intro ?_ ?_)
  · have hx := hb (p + 1 - 1).toNat
    have hm := tmod_in hx.1 (show 1 ≤ n by omega)
    repeat' ((conv => whnf); first | refine vA ?_ | with_reducible first | refine v8 ?_ | refine Sp.mk ?_ ?_ | refine vS ?_ | refine vR ?_ | refine vB ?_ | refine br_nt ?_ | refine br_tt ?_ | refine br_ff ?_ | refine vP ?_ | refine vQ ?_ | refine vT ?_ | refine vF ?_ | refine br_and ?_ | refine br_or ?_ | refine br_d (fun _ => ?_) fun _ => ?_ | refine vM (fun _ => ?_) fun _ => ?_)
    refine ⟨_, _, [some 0], [], rfl, rfl, ?_, ?_, h _ _ (fun _ => by omega) (fun _ => hm) rfl⟩
    · repeat' ((conv => whnf); first | with_reducible exact True.intro | exact vW | with_reducible refine And.intro ?_ ?_)
    · repeat' ((conv => whnf); first | with_reducible exact True.intro | exact vW | with_reducible refine And.intro ?_ ?_)
  · rename_i hn hl hk
    have hl0 : (1 : Int) ≤ b.length := by omega
    have m1 := tmod_in (a := p + 1 - 1) (by omega) hl0
    have m2 := tmod_in (a := (p + 1 - 1) * 7 + 3) (by omega) hl0
    have d1 := tdiv_in (a := p + 1 - 1) (by omega) hl0
    have x1 := hb ((p + 1 - 1).tmod b.length).toNat
    have x2 := hb (((p + 1 - 1) * 7 + 3).tmod b.length).toNat
    refine Dr.mk ⟨(.rd 0 (.rd 1 (.rd 2 (.rd 3 (.rd 4 (.rd 5 (.rd 6 (.rd 7 (.rd 8 (.rd 9 (.rd 10 (.rd 11 (.rd 12 (.rd 13 (.rd 14 (.rd 15 (.rd 16 (.rd 17 (.rd 18 (.rd 19 (.rd 20 (.rd 21 (.rd 22 (.rd 23 (.rd 24 (.rd 25 (.rd 26 (.rd 27 (.rd 28 (.rd 29 (.rd 30 (.rd 31 (.rd 32 (.rd 33 (.rd 34 (.rd 35 (.rd 36 (.rd 37 (.rd 38 (.rd 39 (.rd 40 (.rd 41 (.rd 42 (.rd 43 (.rd 44 (.rd 45 .dn)))))))))))))))))))))))))))))))))))))))))))))), by decide +kernel, ?_⟩
    repeat' ((conv => whnf); first | refine vA ?_ | with_reducible first | refine v8 ?_ | refine Sp.mk ?_ ?_ | refine vS ?_ | refine vR ?_ | refine vB ?_ | refine br_nt ?_ | refine br_tt ?_ | refine br_ff ?_ | refine vP ?_ | refine vQ ?_ | refine vT ?_ | refine vF ?_ | refine br_and ?_ | refine br_or ?_ | refine br_d (fun _ => ?_) fun _ => ?_ | refine vM (fun _ => ?_) fun _ => ?_)
    obtain ⟨S, hS⟩ : ∃ S, b.getD ((p + 1 - 1).tmod b.length).toNat 0 * 131 + b.getD (((p + 1 - 1) * 7 + 3).tmod b.length).toNat 0 * 1117 + (p + 1 - 1) * 29 + (p + 1 - 1).tdiv b.length * 53 = S := ⟨_, rfl⟩
    have hS2 : 0 ≤ S ∧ S ≤ 200000000000 := by omega
    have d2 := tdiv_in (a := S) (n := 64) hS2.1 (by decide)
    have hx := xor_in (a := S) (b := S.tdiv 64) hS2.1 (by omega) d2.1 (by omega)
    have hm := tmod_in hx (show 1 ≤ n by omega)
    rw [hS]
    repeat' ((conv => whnf); first | refine vA ?_ | with_reducible first | refine v8 ?_ | refine Sp.mk ?_ ?_ | refine vS ?_ | refine vR ?_ | refine vB ?_ | refine br_nt ?_ | refine br_tt ?_ | refine br_ff ?_ | refine vP ?_ | refine vQ ?_ | refine vT ?_ | refine vF ?_ | refine br_and ?_ | refine br_or ?_ | refine br_d (fun _ => ?_) fun _ => ?_ | refine vM (fun _ => ?_) fun _ => ?_)
    refine ⟨_, _, [some 0], [], rfl, rfl, ?_, ?_, h _ _ (fun _ => by omega) (fun _ => hm) rfl⟩
    · repeat' ((conv => whnf); first | with_reducible exact True.intro | exact vW | with_reducible refine And.intro ?_ ?_)
    · repeat' ((conv => whnf); first | with_reducible exact True.intro | exact vW | with_reducible refine And.intro ?_ ?_)
def C53 : GC := conG (X := Rd × Int) (fun x => [.ptr 0 0, .int .i64 x.2]) (fun x => [.box [slB x.1.b, .int .i64 x.1.p]]) (fun x => x.1.ok ∧ i64r x.2) fun x K => ∀ (v : Bool) (p' : Int), x.1.p ≤ p' → p' ≤ x.1.p + 1 → K (.bool v) [.box [slB x.1.b, .int .i64 p']]
theorem F53 : GG 49 C53 := by
  refine fitG [] (by simp) [(44, C52)] (by simp only [List.mem_cons, List.not_mem_nil, or_false]; rintro _ rfl <;> first | exact F52) Tryz.f49 ⟨rfl, by decide +kernel, by decide +kernel⟩ (by intro x K K2 hk h; (try dsimp only at h ⊢); intros; apply hk; first | exact h | (apply h <;> assumption)) ?_
  rintro ⟨⟨b, p⟩, n⟩ K ⟨h1, h5⟩ h
  refine ⟨Nat.le_of_ble_eq_true rfl, ?_⟩
  dsimp only at h h1 h5 ⊢
  repeat' ((conv => whnf); first | refine vA ?_ | with_reducible first | refine v8 ?_ | refine Sp.mk ?_ ?_ | refine vS ?_ | refine vR ?_ | refine vB ?_ | refine br_nt ?_ | refine br_tt ?_ | refine br_ff ?_ | refine vP ?_ | refine vQ ?_ | refine vT ?_ | refine vF ?_ | refine br_and ?_ | refine br_or ?_ | refine br_d (fun _ => ?_) fun _ => ?_ | refine vM (fun _ => ?_) fun _ => ?_)
  · refine ⟨_, _, [0], [], rfl, ?_, ?_, (⟨b, p⟩, n), rfl, rfl, ⟨h1, h5⟩, ?_⟩
    · repeat' ((conv => whnf); first | with_reducible exact True.intro | exact vW | with_reducible refine And.intro ?_ ?_)
    · repeat' ((conv => whnf); first | with_reducible exact True.intro | exact vW | with_reducible refine And.intro ?_ ?_)
    intro k p' k1 k2 k3
    dsimp only at k1 k2 k3
    have h6 := h5.1
    have h7 := h5.2
    repeat' ((conv => whnf); first | refine vA ?_ | with_reducible first | refine v8 ?_ | refine Sp.mk ?_ ?_ | refine vS ?_ | refine vR ?_ | refine vB ?_ | refine br_nt ?_ | refine br_tt ?_ | refine br_ff ?_ | refine vP ?_ | refine vQ ?_ | refine vT ?_ | refine vF ?_ | refine br_and ?_ | refine br_or ?_ | refine br_d (fun _ => ?_) fun _ => ?_ | refine vM (fun _ => ?_) fun _ => ?_)
    refine ⟨_, _, [some 0], [], rfl, rfl, ?_, ?_, h (decide (k = n - 1)) p' (by omega) (by omega)⟩
    · repeat' ((conv => whnf); first | with_reducible exact True.intro | exact vW | with_reducible refine And.intro ?_ ?_)
    · repeat' ((conv => whnf); first | with_reducible exact True.intro | exact vW | with_reducible refine And.intro ?_ ?_)
  · refine ⟨_, _, [some 0], [], rfl, rfl, ?_, ?_, h false p (by omega) (by omega)⟩
    · repeat' ((conv => whnf); first | with_reducible exact True.intro | exact vW | with_reducible refine And.intro ?_ ?_)
    · repeat' ((conv => whnf); first | with_reducible exact True.intro | exact vW | with_reducible refine And.intro ?_ ?_)
theorem tk_ext {l : List Int} {n : Nat} (h : n ≤ l.length) : (l.take n).length = n - 0 ∧ ∀ i, i < (l.take n).length → [AV.int .u8 ((l.take n).getD i 0)] = [AV.int .u8 (l.getD (0 + i) 0)] := by
  have e : (l.take n).length = n := by rw [List.length_take]; omega
  refine ⟨by rw [e]; rfl, fun i hi => ?_⟩
  rw [Nat.zero_add, List.getD_eq_getElem?_getD, List.getD_eq_getElem?_getD, List.getElem?_take_of_lt (by omega)]
def C42 : GC := conG (X := List Int) (fun l => [slB l]) (fun _ => []) (fun l => (∀ n ∈ l, u8r n) ∧ l.length < 9223372036854775808) fun _ K => ∀ b, Rd.ok ⟨b, 0⟩ → K (.ptr 0 0) [.box [slB b, .int .i64 0]]
theorem F42 : GG 26 C42 := by
  refine fitG [] (by simp) [] (by simp) Tryz.f26 ⟨rfl, by decide +kernel, by decide +kernel⟩ (by intro x K K2 hk h; (try dsimp only at h ⊢); intros; apply hk; first | exact h | (apply h <;> assumption)) ?_
  rintro l K ⟨h1, h5⟩ h
  refine ⟨Nat.le_of_ble_eq_true rfl, ?_⟩
  repeat' ((conv => whnf); first | refine vA ?_ | with_reducible first | refine v8 ?_ | refine Sp.mk ?_ ?_ | refine vS ?_ | refine vB ?_ | refine br_nt ?_ | refine br_tt ?_ | refine br_ff ?_ | refine vP ?_ | refine vQ ?_ | refine vT ?_ | refine vF ?_ | refine br_and ?_ | refine br_or ?_ | refine br_d (fun _ => ?_) fun _ => ?_ | refine vM (fun _ => ?_) fun _ => ?_)
  refine Wk.rf ?_
  repeat' ((conv => whnf); first | refine vA ?_ | with_reducible first | refine v8 ?_ | refine Sp.mk ?_ ?_ | refine vS ?_ | refine vB ?_ | refine br_nt ?_ | refine br_tt ?_ | refine br_ff ?_ | refine vP ?_ | refine vQ ?_ | refine vT ?_ | refine vF ?_ | refine br_and ?_ | refine br_or ?_ | refine br_d (fun _ => ?_) fun _ => ?_ | refine vM (fun _ => ?_) fun _ => ?_)
  refine Wk.rf ?_
  repeat' ((conv => whnf); first | refine vA ?_ | with_reducible first | refine v8 ?_ | refine Sp.mk ?_ ?_ | refine vS ?_ | refine vB ?_ | refine br_nt ?_ | refine br_tt ?_ | refine br_ff ?_ | refine vP ?_ | refine vQ ?_ | refine vT ?_ | refine vF ?_ | refine br_and ?_ | refine br_or ?_ | refine br_d (fun _ => ?_) fun _ => ?_ | refine vM (fun _ => ?_) fun _ => ?_)
  · refine Wk.go [(0, slB (l.take 2000))] [] ⟨⟨[], [], rfl, rfl, ?_, ?_⟩⟩ ?_
    · repeat' ((conv => whnf); first | with_reducible exact True.intro | exact vW | with_reducible refine And.intro ?_ ?_)
      exact Chk.mk (tk_ext (l := l) (n := 2000) (by omega))
    · repeat' ((conv => whnf); first | with_reducible exact True.intro | exact vW | with_reducible refine And.intro ?_ ?_)
    repeat' ((conv => whnf); first | refine vA ?_ | with_reducible first | refine v8 ?_ | refine Sp.mk ?_ ?_ | refine vS ?_ | refine vR ?_ | refine vB ?_ | refine br_nt ?_ | refine br_tt ?_ | refine br_ff ?_ | refine vP ?_ | refine vQ ?_ | refine vT ?_ | refine vF ?_ | refine br_and ?_ | refine br_or ?_ | refine br_d (fun _ => ?_) fun _ => ?_ | refine vM (fun _ => ?_) fun _ => ?_)
    refine ⟨_, _, [some 0], [], rfl, rfl, ?_, ?_, h (l.take 2000) ⟨?_, fun n hn => h1 n (List.mem_of_mem_take hn), (by decide : (0 : Int) ≤ 0), (by decide : (0 : Int) ≤ 1000000000)⟩⟩
    · repeat' ((conv => whnf); first | with_reducible exact True.intro | exact vW | with_reducible refine And.intro ?_ ?_)
    · repeat' ((conv => whnf); first | with_reducible exact True.intro | exact vW | with_reducible refine And.intro ?_ ?_)
    show (l.take 2000).length ≤ 2000
    rw [List.length_take]; omega
  · repeat' ((conv => whnf); first | refine vA ?_ | with_reducible first | refine v8 ?_ | refine Sp.mk ?_ ?_ | refine vS ?_ | refine vR ?_ | refine vB ?_ | refine br_nt ?_ | refine br_tt ?_ | refine br_ff ?_ | refine vP ?_ | refine vQ ?_ | refine vT ?_ | refine vF ?_ | refine br_and ?_ | refine br_or ?_ | refine br_d (fun _ => ?_) fun _ => ?_ | refine vM (fun _ => ?_) fun _ => ?_)
    refine ⟨_, _, [some 0], [], rfl, rfl, ?_, ?_, h l ⟨by show l.length ≤ 2000; omega, h1, (by decide : (0 : Int) ≤ 0), (by decide : (0 : Int) ≤ 1000000000)⟩⟩
    · repeat' ((conv => whnf); first | with_reducible exact True.intro | exact vW | with_reducible refine And.intro ?_ ?_)
    · repeat' ((conv => whnf); first | with_reducible exact True.intro | exact vW | with_reducible refine And.intro ?_ ?_)
end Go.Proofs.YtahfdkdneojkmaaGreatDoor.Vc
end
section
/- Part ZP: houses and terms that are drawn. -/
namespace Go.Proofs.YtahfdkdneojkmaaGreatDoor.Vc
open Go.Proofs
set_option maxRecDepth 10000
set_option maxHeartbeats 4000000
theorem td8 {a : Int} (h : 0 ≤ a) : a.tdiv 8 = a / 8 := Int.tdiv_eq_ediv_of_nonneg h
def C59 : GC := conG (X := Rd × Int) (fun x => [.ptr 0 0, .int .i64 x.2]) (fun x => [.box [slB x.1.b, .int .i64 x.1.p]]) (fun x => x.1.okn 500000000 ∧ i64r x.2) fun x K => ∀ (h : House) (p' : Int), x.1.p ≤ p' → p' ≤ x.1.p + 20 → 0 ≤ h.p ∧ h.p ≤ 7 → h.bs.length ≤ 4 → (∀ b ∈ h.bs, 0 ≤ b ∧ b ≤ 64) → K (enH h) [.box [slB x.1.b, .int .i64 p']]
theorem F59 : GG 46 C59 := by
  refine fitG [] (by simp) [(44, C52), (49, C53)] (by simp only [List.mem_cons, List.not_mem_nil, or_false]; rintro _ (rfl | rfl) <;> first | exact F52 | exact F53) Tryz.f46 ⟨rfl, by decide +kernel, by decide +kernel⟩ (by intro x K K2 hk h; (try dsimp only at h ⊢); intros; apply hk; first | exact h | (apply h <;> assumption)) ?_
  rintro ⟨⟨b, p⟩, n⟩ K ⟨⟨h1, h2, h3, h4⟩, h5⟩ h
  refine ⟨Nat.le_of_ble_eq_true rfl, ?_⟩
  dsimp only at h h1 h2 h3 h4 h5 ⊢
  repeat' ((conv => whnf); first | refine vA ?_ | with_reducible first | refine v8 ?_ | refine Sp.mk ?_ ?_ | refine vS ?_ | refine vR ?_ | refine vB ?_ | refine br_nt ?_ | refine br_tt ?_ | refine br_ff ?_ | refine vP ?_ | refine vQ ?_ | refine vT ?_ | refine vF ?_ | refine br_and ?_ | refine br_or ?_ | refine br_d (fun _ => ?_) fun _ => ?_ | refine vM (fun _ => ?_) fun _ => ?_)
  refine ⟨_, _, [0], [], rfl, ?_, ?_, (⟨b, p⟩, 5), rfl, rfl, ⟨⟨h1, h2, ?_, ?_⟩, ?_⟩, ?_⟩
  · repeat' ((conv => whnf); first | with_reducible exact True.intro | exact vW | with_reducible refine And.intro ?_ ?_)
    try exact Chk.mk (by rw [pw_sh (by assumption)])
  · repeat' ((conv => whnf); first | with_reducible exact True.intro | exact vW | with_reducible refine And.intro ?_ ?_)
  · dsimp only; omega
  · dsimp only; omega
  · unfold i64r; dsimp only; omega
  intro k1 p1 a0 a1 a2
  dsimp only at a0 a1 a2
  repeat' ((conv => whnf); first | refine vA ?_ | with_reducible first | refine v8 ?_ | refine Sp.mk ?_ ?_ | refine vS ?_ | refine vR ?_ | refine vB ?_ | refine br_nt ?_ | refine br_tt ?_ | refine br_ff ?_ | refine vP ?_ | refine vQ ?_ | refine vT ?_ | refine vF ?_ | refine br_and ?_ | refine br_or ?_ | refine br_d (fun _ => ?_) fun _ => ?_ | refine vM (fun _ => ?_) fun _ => ?_)
  refine ⟨_, _, [0], [], rfl, ?_, ?_, (⟨b, p1⟩, 9), rfl, rfl, ⟨⟨h1, h2, ?_, ?_⟩, ?_⟩, ?_⟩
  · repeat' ((conv => whnf); first | with_reducible exact True.intro | exact vW | with_reducible refine And.intro ?_ ?_)
    try exact Chk.mk (by rw [pw_sh (by assumption)])
  · repeat' ((conv => whnf); first | with_reducible exact True.intro | exact vW | with_reducible refine And.intro ?_ ?_)
  · dsimp only; omega
  · dsimp only; omega
  · unfold i64r; dsimp only; omega
  intro k2 p2 b0 b1 b2
  dsimp only at b0 b1 b2
  have e8 := td8 (a := k2) (by omega)
  obtain ⟨P, hP⟩ : ∃ P, 1 + k1 + k2.tdiv 8 = P := ⟨_, rfl⟩
  have pp : people P := by unfold people; omega
  have pw2 := pw_le pp
  repeat' ((conv => whnf); first | refine vA ?_ | with_reducible first | refine v8 ?_ | refine Sp.mk ?_ ?_ | refine vS ?_ | refine vR ?_ | refine vB ?_ | refine br_nt ?_ | refine br_tt ?_ | refine br_ff ?_ | refine vP ?_ | refine vQ ?_ | refine vT ?_ | refine vF ?_ | refine br_and ?_ | refine br_or ?_ | refine br_d (fun _ => ?_) fun _ => ?_ | refine vM (fun _ => ?_) fun _ => ?_)
  rw [hP]
  repeat' ((conv => whnf); first | refine vA ?_ | with_reducible first | refine v8 ?_ | refine Sp.mk ?_ ?_ | refine vS ?_ | refine vR ?_ | refine vB ?_ | refine br_nt ?_ | refine br_tt ?_ | refine br_ff ?_ | refine vP ?_ | refine vQ ?_ | refine vT ?_ | refine vF ?_ | refine br_and ?_ | refine br_or ?_ | refine br_d (fun _ => ?_) fun _ => ?_ | refine vM (fun _ => ?_) fun _ => ?_)
  refine ⟨_, _, [0], [], rfl, ?_, ?_, (⟨b, p2⟩, 3), rfl, rfl, ⟨⟨h1, h2, ?_, ?_⟩, ?_⟩, ?_⟩
  · repeat' ((conv => whnf); first | with_reducible exact True.intro | exact vW | with_reducible refine And.intro ?_ ?_)
    try exact Chk.mk (by rw [pw_sh (by assumption)])
  · repeat' ((conv => whnf); first | with_reducible exact True.intro | exact vW | with_reducible refine And.intro ?_ ?_)
  · dsimp only; omega
  · dsimp only; omega
  · unfold i64r; dsimp only; omega
  intro k3 p3 c0 c1 c2
  dsimp only at c0 c1 c2
  repeat' ((conv => whnf); first | refine vA ?_ | with_reducible first | refine v8 ?_ | refine Sp.mk ?_ ?_ | refine vS ?_ | refine vR ?_ | refine vB ?_ | refine br_nt ?_ | refine br_tt ?_ | refine br_ff ?_ | refine vP ?_ | refine vQ ?_ | refine vT ?_ | refine vF ?_ | refine br_and ?_ | refine br_or ?_ | refine br_d (fun _ => ?_) fun _ => ?_ | refine vM (fun _ => ?_) fun _ => ?_)
  refine Lp.mk ⟨List Int × Int × Int, fun x => [(0, .ptr 0 0), (1, .int .i64 n), (4, .ptr 1 0), (5, .ptr 2 0), (6, .int .i64 x.2.1)],
    fun x => [rdO b x.2.2, .box [.int .i64 0, .nils], .box [.int .i64 P, .row 3 1 0 x.1.length], .row 1 x.1.length fun j => encI (x.1.getD j 0)],
    fun x => 0 ≤ x.2.1 ∧ x.2.1 + x.1.length = 1 + k3 ∧ x.2.2 = p3 + x.1.length ∧ ∀ b ∈ x.1, 0 ≤ b ∧ b ≤ 64, fun x => x.2.1.toNat, ⟨([], 1 + k3, p3), ⟨by show 0 ≤ 1 + k3; omega, by simp, by simp, by simp⟩, ⟨⟨[some 0, some 1, some 2, none], [], rfl, rfl, ?_, ?_⟩⟩⟩, ?_⟩
  · repeat' ((conv => whnf); first | with_reducible exact True.intro | exact vW | with_reducible refine And.intro ?_ ?_)
  · repeat' ((conv => whnf); first | with_reducible exact True.intro | exact vW | with_reducible refine And.intro ?_ ?_)
  rintro ⟨l, j, q⟩ ⟨i1, i2, i3, i4⟩
  dsimp only at i1 i2 i3 i4 ⊢
  repeat' ((conv => whnf); first | refine vA ?_ | with_reducible first | refine v8 ?_ | refine Sp.mk ?_ ?_ | refine vS ?_ | refine vR ?_ | refine vB ?_ | refine br_nt ?_ | refine br_tt ?_ | refine br_ff ?_ | refine vP ?_ | refine vQ ?_ | refine vT ?_ | refine vF ?_ | refine br_and ?_ | refine br_or ?_ | refine br_d (fun _ => ?_) fun _ => ?_ | refine vM (fun _ => ?_) fun _ => ?_)
  · refine Dr.mk ⟨(.rd 0 (.rd 1 (.rd 2 (.rd 3 (.rd 4 (.rd 5 (.rd 6 (.ef 7 (.rd 8 (.ef 9 (.ef 10 (.rd 11 (.ef 12 .dn .no)) .no) .no)) .no)))))))), by decide +kernel, ?_⟩
    repeat' ((conv => whnf); first | with_reducible refine Wr.ex (wsh pp) ?_ | with_reducible refine Wr.ex (wi64 (by rw [pw_sh pp]; omega) (by rw [pw_sh pp]; omega)) ?_ | refine vA ?_ | with_reducible first | refine v8 ?_ | refine Sp.mk ?_ ?_ | refine vS ?_ | refine vR ?_ | refine vB ?_ | refine br_nt ?_ | refine br_tt ?_ | refine br_ff ?_ | refine vP ?_ | refine vQ ?_ | refine vT ?_ | refine vF ?_ | refine br_and ?_ | refine br_or ?_ | refine br_d (fun _ => ?_) fun _ => ?_ | refine vM (fun _ => ?_) fun _ => ?_)
    refine ⟨_, _, [0], [], rfl, ?_, ?_, (⟨b, q⟩, (pw P - 1)), rfl, rfl, ⟨⟨h1, h2, ?_, ?_⟩, ?_⟩, ?_⟩
    · repeat' ((conv => whnf); first | with_reducible exact True.intro | exact vW | with_reducible refine And.intro ?_ ?_)
      try exact Chk.mk (by rw [pw_sh (by assumption)])
    · repeat' ((conv => whnf); first | with_reducible exact True.intro | exact vW | with_reducible refine And.intro ?_ ?_)
    · dsimp only; omega
    · dsimp only; omega
    · unfold i64r; dsimp only; omega
    intro k4 p4 d0 d1 d2
    dsimp only at d0 d1 d2
    repeat' ((conv => whnf); first | refine vA ?_ | with_reducible first | refine v8 ?_ | refine Sp.mk ?_ ?_ | refine vS ?_ | refine vR ?_ | refine vB ?_ | refine br_nt ?_ | refine br_tt ?_ | refine br_ff ?_ | refine vP ?_ | refine vQ ?_ | refine vT ?_ | refine vF ?_ | refine br_and ?_ | refine br_or ?_ | refine br_d (fun _ => ?_) fun _ => ?_ | refine vM (fun _ => ?_) fun _ => ?_)
    refine ⟨(l ++ [1 + k4], j - 1, p4), ⟨by show 0 ≤ j - 1; omega, by simp; omega, by simp; omega, ?_⟩, by show (j - 1).toNat < j.toNat; omega, ⟨⟨[some 0, some 1, some 2, some 5], [], rfl, rfl, ?_, ?_⟩⟩⟩
    · intro v hv
      rcases List.mem_append.1 hv with hv | hv
      · exact i4 v hv
      · simp at hv; omega
    · repeat' ((conv => whnf); first | with_reducible exact True.intro | exact vW | with_reducible refine And.intro ?_ ?_)
    · repeat' ((conv => whnf); first | with_reducible exact True.intro | exact vW | with_reducible refine And.intro ?_ ?_)
      all_goals exact Chk.mk (ext_push rfl)
  · refine ⟨_, _, [0], [], rfl, ?_, ?_, (⟨b, q⟩, n), rfl, rfl, ⟨⟨h1, h2, ?_, ?_⟩, h5⟩, ?_⟩
    · repeat' ((conv => whnf); first | with_reducible exact True.intro | exact vW | with_reducible refine And.intro ?_ ?_)
    · repeat' ((conv => whnf); first | with_reducible exact True.intro | exact vW | with_reducible refine And.intro ?_ ?_)
    · dsimp only; omega
    · dsimp only; omega
    intro v p5 g1 g2
    dsimp only at g1 g2
    repeat' ((conv => whnf); first | refine vA ?_ | with_reducible first | refine v8 ?_ | refine Sp.mk ?_ ?_ | refine vS ?_ | refine vR ?_ | refine vB ?_ | refine br_nt ?_ | refine br_tt ?_ | refine br_ff ?_ | refine vP ?_ | refine vQ ?_ | refine vT ?_ | refine vF ?_ | refine br_and ?_ | refine br_or ?_ | refine br_d (fun _ => ?_) fun _ => ?_ | refine vM (fun _ => ?_) fun _ => ?_)
    · refine ⟨_, _, [0], [], rfl, ?_, ?_, (⟨b, p5⟩, 3), rfl, rfl, ⟨⟨h1, h2, ?_, ?_⟩, ?_⟩, ?_⟩
      · repeat' ((conv => whnf); first | with_reducible exact True.intro | exact vW | with_reducible refine And.intro ?_ ?_)
        try exact Chk.mk (by rw [pw_sh (by assumption)])
      · repeat' ((conv => whnf); first | with_reducible exact True.intro | exact vW | with_reducible refine And.intro ?_ ?_)
      · dsimp only; omega
      · dsimp only; omega
      · unfold i64r; dsimp only; omega
      intro k6 p6 e0 e1 e2
      dsimp only at e0 e1 e2
      repeat' ((conv => whnf); first | refine vA ?_ | with_reducible first | refine v8 ?_ | refine Sp.mk ?_ ?_ | refine vS ?_ | refine vR ?_ | refine vB ?_ | refine br_nt ?_ | refine br_tt ?_ | refine br_ff ?_ | refine vP ?_ | refine vQ ?_ | refine vT ?_ | refine vF ?_ | refine br_and ?_ | refine br_or ?_ | refine br_d (fun _ => ?_) fun _ => ?_ | refine vM (fun _ => ?_) fun _ => ?_)
      · refine ⟨_, _, [0], [], rfl, ?_, ?_, (⟨b, p6⟩, 2), rfl, rfl, ⟨⟨h1, h2, ?_, ?_⟩, ?_⟩, ?_⟩
        · repeat' ((conv => whnf); first | with_reducible exact True.intro | exact vW | with_reducible refine And.intro ?_ ?_)
          try exact Chk.mk (by rw [pw_sh (by assumption)])
        · repeat' ((conv => whnf); first | with_reducible exact True.intro | exact vW | with_reducible refine And.intro ?_ ?_)
        · dsimp only; omega
        · dsimp only; omega
        · unfold i64r; dsimp only; omega
        intro k7 p7 f0 f1 f2
        dsimp only at f0 f1 f2
        rcases (show k7 = 0 ∨ k7 = 1 by omega) with rfl | rfl
        · repeat' ((conv => whnf); first | refine vA ?_ | with_reducible first | refine v8 ?_ | refine Sp.mk ?_ ?_ | refine vS ?_ | refine vR ?_ | refine vB ?_ | refine br_nt ?_ | refine br_tt ?_ | refine br_ff ?_ | refine vP ?_ | refine vQ ?_ | refine vT ?_ | refine vF ?_ | refine br_and ?_ | refine br_or ?_ | refine br_d (fun _ => ?_) fun _ => ?_ | refine vM (fun _ => ?_) fun _ => ?_)
          refine ⟨_, _, [some 0], [3], rfl, rfl, ?_, ?_, h ⟨0, l⟩ p7 (by omega) (by omega) (by show (0:Int) ≤ 0 ∧ (0:Int) ≤ 7; decide) (by show l.length ≤ 4; omega) i4⟩
          · repeat' ((conv => whnf); first | with_reducible exact True.intro | exact vW | with_reducible refine And.intro ?_ ?_)
          · repeat' ((conv => whnf); first | with_reducible exact True.intro | exact vW | with_reducible refine And.intro ?_ ?_)
        · repeat' ((conv => whnf); first | refine vA ?_ | with_reducible first | refine v8 ?_ | refine Sp.mk ?_ ?_ | refine vS ?_ | refine vR ?_ | refine vB ?_ | refine br_nt ?_ | refine br_tt ?_ | refine br_ff ?_ | refine vP ?_ | refine vQ ?_ | refine vT ?_ | refine vF ?_ | refine br_and ?_ | refine br_or ?_ | refine br_d (fun _ => ?_) fun _ => ?_ | refine vM (fun _ => ?_) fun _ => ?_)
          refine ⟨_, _, [some 0], [3], rfl, rfl, ?_, ?_, h ⟨7, l⟩ p7 (by omega) (by omega) (by show (0:Int) ≤ 7 ∧ (7:Int) ≤ 7; decide) (by show l.length ≤ 4; omega) i4⟩
          · repeat' ((conv => whnf); first | with_reducible exact True.intro | exact vW | with_reducible refine And.intro ?_ ?_)
          · repeat' ((conv => whnf); first | with_reducible exact True.intro | exact vW | with_reducible refine And.intro ?_ ?_)
      · refine ⟨_, _, [some 0], [5], rfl, rfl, ?_, ?_, h ⟨P, l ++ [0]⟩ p6 (by omega) (by omega) ?_ ?_ ?_⟩
        · repeat' ((conv => whnf); first | with_reducible exact True.intro | exact vW | with_reducible refine And.intro ?_ ?_)
          all_goals exact Chk.mk ⟨by simp, by simp, fun i hi => by rw [Nat.zero_add]; exact (ext_push (l := l) (x := (0 : Int)) (enc := encI) (d := 0) rfl).2 i hi⟩
        · repeat' ((conv => whnf); first | with_reducible exact True.intro | exact vW | with_reducible refine And.intro ?_ ?_)
        · show 0 ≤ P ∧ P ≤ 7
          unfold people at pp; omega
        · show (l ++ [0]).length ≤ 4
          simp; omega
        · intro v hv
          rcases List.mem_append.1 hv with hv | hv
          · exact i4 v hv
          · simp at hv; omega
      · refine ⟨_, _, [some 0], [], rfl, rfl, ?_, ?_, h ⟨P, []⟩ p6 (by omega) (by omega) ⟨by show 0 ≤ P; unfold people at pp; omega, by show P ≤ 7; unfold people at pp; omega⟩ (by show 0 ≤ 4; omega) (fun _ hb => by cases hb)⟩
        · repeat' ((conv => whnf); first | with_reducible exact True.intro | exact vW | with_reducible refine And.intro ?_ ?_)
        · repeat' ((conv => whnf); first | with_reducible exact True.intro | exact vW | with_reducible refine And.intro ?_ ?_)
    · refine ⟨_, _, [some 0], [3], rfl, rfl, ?_, ?_, h ⟨P, l⟩ p5 (by omega) (by omega) (by show 0 ≤ P ∧ P ≤ 7; unfold people at pp; omega) (by show l.length ≤ 4; omega) i4⟩
      · repeat' ((conv => whnf); first | with_reducible exact True.intro | exact vW | with_reducible refine And.intro ?_ ?_)
      · repeat' ((conv => whnf); first | with_reducible exact True.intro | exact vW | with_reducible refine And.intro ?_ ?_)
end Go.Proofs.YtahfdkdneojkmaaGreatDoor.Vc
end
section
/- Part ZQ: terms that are drawn. -/
namespace Go.Proofs.YtahfdkdneojkmaaGreatDoor.Vc
open Go.Proofs
set_option maxRecDepth 10000
set_option maxHeartbeats 4000000
def encP (l : List Mark) : List AV := [slM l]
def sumL : List (List Mark) → Nat
  | [] => 0
  | l :: r => l.length + sumL r
theorem sumL_app : ∀ a b : List (List Mark), sumL (a ++ b) = sumL a + sumL b
  | [], b => by simp [sumL]
  | x :: a, b => by simp only [List.cons_append, sumL, sumL_app a b]; omega
theorem sumL_mem {l : List Mark} : ∀ {P : List (List Mark)}, l ∈ P → l.length ≤ sumL P
  | x :: P, h => by
    rcases List.mem_cons.1 h with rfl | h
    · simp only [sumL]; omega
    · have := sumL_mem h; simp only [sumL]; omega
structure Tx where
  r : Rd
  h : House
  n : Int
theorem app_extG {α : Type} (enc : α → List AV) (d : α) {l : List α} {c : α} {g : Nat → List AV} (hg : g 0 = enc c) : (l ++ [c]).length = l.length + 1 ∧ ∀ j, j < (l ++ [c]).length → enc ((l ++ [c]).getD j d) = appF l.length (fun j => enc (l.getD j d)) g j := by
  refine ⟨by simp, fun j hj => ?_⟩
  simp only [List.length_append, List.length_cons, List.length_nil] at hj
  unfold appF
  rw [List.getD_eq_getElem?_getD, List.getElem?_append]
  cases hb : Nat.blt j l.length with
  | true =>
    have h1 : j < l.length := Nat.le_of_ble_eq_true hb
    rw [if_pos h1, ← List.getD_eq_getElem?_getD]
    rfl
  | false =>
    have : ¬ j < l.length := fun h => by
      have : Nat.blt j l.length = true := Nat.ble_eq_true_of_le h
      rw [this] at hb; cases hb
    have : j = l.length := by omega
    subst this
    rw [if_neg (by omega)]
    simp [hg]
theorem one_ext {l : List (List Mark)} {x y z : Int} : (l ++ [[(⟨x, y, z⟩ : Mark)]]).length = l.length + 1 ∧ ∀ j, j < (l ++ [[(⟨x, y, z⟩ : Mark)]]).length → encP ((l ++ [[(⟨x, y, z⟩ : Mark)]]).getD j []) = appF l.length (fun j => encP (l.getD j []))
    (fun i => (fun i => [[AV.sl 3 1 fun i => (fun i => [[AV.int .i64 x, AV.int .i64 y, AV.int .i64 z]].getD i [AV.int .i64 0, AV.int .i64 0, AV.int .i64 0]) (0 + i)]].getD i [AV.nils]) (0 + i)) j := by
  refine app_extG encP [] ?_
  have e : (fun i => (fun i => [[AV.int .i64 x, AV.int .i64 y, AV.int .i64 z]].getD i [AV.int .i64 0, AV.int .i64 0, AV.int .i64 0]) (0 + i)) = fun i => encM (([⟨x, y, z⟩] : List Mark).getD i default) := by
    funext i
    simp only [Nat.zero_add]
    match i with
    | 0 => rfl
    | i + 1 => rfl
  rw [e]
  rfl
theorem appF_enc {α : Type} (enc : α → List AV) (d : α) (l r : List α) : appF l.length (fun i => enc (l.getD i d)) (fun i => enc (r.getD i d)) = fun i => enc ((l ++ r).getD i d) := by
  funext i
  unfold appF
  rw [List.getD_eq_getElem?_getD (l := l ++ r), List.getElem?_append]
  cases hb : Nat.blt i l.length with
  | true =>
    have h1 : i < l.length := Nat.le_of_ble_eq_true hb
    rw [if_pos h1, ← List.getD_eq_getElem?_getD]
    rfl
  | false =>
    have : ¬ i < l.length := fun h => by
      have : Nat.blt i l.length = true := Nat.ble_eq_true_of_le h
      rw [this] at hb; cases hb
    rw [if_neg this, ← List.getD_eq_getElem?_getD]
    rfl
theorem lit1 {x y z : Int} : (fun i => (fun i => [[AV.int .i64 x, AV.int .i64 y, AV.int .i64 z]].getD i [AV.int .i64 0, AV.int .i64 0, AV.int .i64 0]) (0 + i)) = fun i => encM (([⟨x, y, z⟩] : List Mark).getD i default) := by
  funext i
  simp only [Nat.zero_add]
  match i with
  | 0 => rfl
  | i + 1 => rfl
theorem three_ext {A B : List Mark} {x y z : Int} : (A ++ B ++ [(⟨x, y, z⟩ : Mark)]).length = A.length + B.length + 1 ∧ ∀ j, j < (A ++ B ++ [(⟨x, y, z⟩ : Mark)]).length → encM ((A ++ B ++ [(⟨x, y, z⟩ : Mark)]).getD j default) =
    appF (A.length + B.length) (appF A.length (fun i => encM (A.getD i default)) fun i => encM (B.getD i default)) (fun i => (fun i => [[AV.int .i64 x, AV.int .i64 y, AV.int .i64 z]].getD i [AV.int .i64 0, AV.int .i64 0, AV.int .i64 0]) (0 + i)) j := by
  refine ⟨by simp; omega, fun j _ => ?_⟩
  rw [lit1, appF_enc, show A.length + B.length = (A ++ B).length by simp, appF_enc]
theorem getD_take_app {α : Type} {l r : List α} {n i : Nat} {d : α} (hn : n ≤ l.length) (hi : i < n) : (l.take n ++ r).getD i d = l.getD i d := by
  rw [List.getD_eq_getElem?_getD, List.getElem?_append_left (by rw [List.length_take]; omega), List.getElem?_take_of_lt hi, ← List.getD_eq_getElem?_getD]
theorem merge_ext {P : List (List Mark)} {a c : Nat} {T : List Mark} (h : c ≤ P.length) (ha : a ≤ P.length) : (P.take a ++ [T] ++ P.drop c).length = a + 1 + (P.length - c) ∧ ∀ j, j < (P.take a ++ [T] ++ P.drop c).length → encP ((P.take a ++ [T] ++ P.drop c).getD j []) =
    appF (a + 1) (appF a (fun i => (fun j => encP (P.getD j [])) (0 + 0 + i)) fun i => (fun i => [[AV.sl 3 T.length fun i => (fun j => encM (T.getD j default)) (0 + i)]].getD i [AV.nils]) (0 + i)) (fun i => (fun j => encP (P.getD j [])) (0 + c + i)) j := by
  have hl : (P.take a).length = a := by rw [List.length_take]; omega
  refine ⟨by simp; omega, fun j hj => ?_⟩
  have e1 : (fun i => (fun j => encM (T.getD j default)) (0 + i)) = fun j => encM (T.getD j default) := by funext i; rw [Nat.zero_add]
  rw [e1]
  unfold appF
  cases hb : Nat.blt j (a + 1) with
  | true =>
    have h1 : j < a + 1 := Nat.le_of_ble_eq_true hb
    cases hb2 : Nat.blt j a with
    | true =>
      have h2 : j < a := Nat.le_of_ble_eq_true hb2
      rw [List.append_assoc, getD_take_app ha h2]
      show _ = encP (P.getD (0 + 0 + j) [])
      rw [show 0 + 0 + j = j by omega]
    | false =>
      have h2 : j = a := by
        rcases Nat.lt_or_ge j a with h | h
        · have : Nat.blt j a = true := Nat.ble_eq_true_of_le h
          rw [this] at hb2; cases hb2
        · omega
      subst h2
      rw [List.append_assoc, List.getD_eq_getElem?_getD, List.getElem?_append_right (by omega), hl]
      simp [encP]
  | false =>
    have h1 : a + 1 ≤ j := by
      rcases Nat.lt_or_ge j (a + 1) with h | h
      · have : Nat.blt j (a + 1) = true := Nat.ble_eq_true_of_le h
        rw [this] at hb; cases hb
      · exact h
    show _ = encP (P.getD (0 + c + (j - (a + 1))) [])
    rw [List.getD_eq_getElem?_getD, List.getElem?_append_right (by simp [hl]; omega), List.getElem?_drop, ← List.getD_eq_getElem?_getD]
    congr 2
    simp [hl]
theorem sumL_take_drop : ∀ (P : List (List Mark)) (a : Nat), a + 1 < P.length → sumL (P.take a) + sumL (P.drop (a + 2)) + (P.getD a []).length + (P.getD (a + 1) []).length = sumL P
  | [], a, h => by simp at h
  | [_], a, h => by simp at h
  | x :: y :: P, 0, _ => by simp [sumL]; omega
  | x :: P, a + 1, h => by
    have := sumL_take_drop P a (by simpa using h)
    simp only [List.take_succ_cons, List.drop_succ_cons, sumL, List.getD_cons_succ]
    omega
def C60 : GC := conG (X := Tx) (fun x => [.ptr 0 0, enH x.h, .int .i64 x.n]) (fun x => [.box [slB x.r.b, .int .i64 x.r.p]]) (fun x => x.r.okn 600000000 ∧ x.h.i64 ∧ x.h.bs.length ≤ 8 ∧ i64r x.n) fun x K => ∀ (t : List Mark) (p' : Int), x.r.p ≤ p' → p' ≤ x.r.p + 40 → t.length ≤ 9 → (∀ m ∈ t, m.i64) → K (slM t) [.box [slB x.r.b, .int .i64 p']]
theorem F60 : GG 48 C60 := by
  refine fitG [(69, C48)] (by simp only [List.mem_cons, List.not_mem_nil, or_false]; rintro _ rfl <;> first | exact F48) [(44, C52), (49, C53)] (by simp only [List.mem_cons, List.not_mem_nil, or_false]; rintro _ (rfl | rfl) <;> first | exact F52 | exact F53) Tryz.f48 ⟨rfl, by decide +kernel, by decide +kernel⟩ (by intro x K K2 hk h; (try dsimp only at h ⊢); intros; apply hk; first | exact h | (apply h <;> assumption)) ?_
  rintro ⟨⟨b, p⟩, ⟨hp, bs⟩, n⟩ K ⟨⟨h1, h2, h3, h4⟩, h5, h6, h7⟩ h
  refine ⟨Nat.le_of_ble_eq_true rfl, ?_⟩
  dsimp only [enH] at h h1 h2 h3 h4 h5 h6 h7 ⊢
  repeat' ((conv => whnf); first | refine vA ?_ | with_reducible first | refine v8 ?_ | refine Sp.mk ?_ ?_ | refine vS ?_ | refine vR ?_ | refine vB ?_ | refine br_nt ?_ | refine br_tt ?_ | refine br_ff ?_ | refine vP ?_ | refine vQ ?_ | refine vT ?_ | refine vF ?_ | refine br_and ?_ | refine br_or ?_ | refine br_d (fun _ => ?_) fun _ => ?_ | refine vM (fun _ => ?_) fun _ => ?_)
  · refine ⟨_, _, [0], [], rfl, ?_, ?_, (⟨b, p⟩, 4), rfl, rfl, ⟨⟨h1, h2, ?_, ?_⟩, ?_⟩, ?_⟩
    · repeat' ((conv => whnf); first | with_reducible exact True.intro | exact vW | with_reducible refine And.intro ?_ ?_)
      try exact Chk.mk (by rw [pw_sh (by assumption)])
    · repeat' ((conv => whnf); first | with_reducible exact True.intro | exact vW | with_reducible refine And.intro ?_ ?_)
    · dsimp only; omega
    · dsimp only; omega
    · unfold i64r; dsimp only; omega
    intro k9 p9 z0 z1 z2
    dsimp only at z0 z1 z2
    rcases (show k9 = 0 ∨ k9 = 1 ∨ k9 = 2 ∨ k9 = 3 by omega) with rfl | rfl | rfl | rfl
    · repeat' ((conv => whnf); first | refine vA ?_ | with_reducible first | refine v8 ?_ | refine Sp.mk ?_ ?_ | refine vS ?_ | refine vR ?_ | refine vB ?_ | refine br_nt ?_ | refine br_tt ?_ | refine br_ff ?_ | refine vP ?_ | refine vQ ?_ | refine vT ?_ | refine vF ?_ | refine br_and ?_ | refine br_or ?_ | refine br_d (fun _ => ?_) fun _ => ?_ | refine vM (fun _ => ?_) fun _ => ?_)
      refine ⟨_, _, [some 0], [], rfl, rfl, ?_, ?_, h [] p9 (by omega) (by omega) (by decide) (by simp)⟩
      · repeat' ((conv => whnf); first | with_reducible exact True.intro | exact vW | with_reducible refine And.intro ?_ ?_)
      · repeat' ((conv => whnf); first | with_reducible exact True.intro | exact vW | with_reducible refine And.intro ?_ ?_)
    · repeat' ((conv => whnf); first | refine vA ?_ | with_reducible first | refine v8 ?_ | refine Sp.mk ?_ ?_ | refine vS ?_ | refine vR ?_ | refine vB ?_ | refine br_nt ?_ | refine br_tt ?_ | refine br_ff ?_ | refine vP ?_ | refine vQ ?_ | refine vT ?_ | refine vF ?_ | refine br_and ?_ | refine br_or ?_ | refine br_d (fun _ => ?_) fun _ => ?_ | refine vM (fun _ => ?_) fun _ => ?_)
      refine ⟨_, _, [some 0], [], rfl, rfl, ?_, ?_, h [⟨1, 0, 0⟩] p9 (by omega) (by omega) (by decide) (by simp [Mark.i64, i64r])⟩
      · repeat' ((conv => whnf); first | with_reducible exact True.intro | exact vW | with_reducible refine And.intro ?_ ?_)
        all_goals exact Chk.mk ⟨rfl, fun i hi => by match i, hi with | 0, _ => rfl⟩
      · repeat' ((conv => whnf); first | with_reducible exact True.intro | exact vW | with_reducible refine And.intro ?_ ?_)
    · repeat' ((conv => whnf); first | refine vA ?_ | with_reducible first | refine v8 ?_ | refine Sp.mk ?_ ?_ | refine vS ?_ | refine vR ?_ | refine vB ?_ | refine br_nt ?_ | refine br_tt ?_ | refine br_ff ?_ | refine vP ?_ | refine vQ ?_ | refine vT ?_ | refine vF ?_ | refine br_and ?_ | refine br_or ?_ | refine br_d (fun _ => ?_) fun _ => ?_ | refine vM (fun _ => ?_) fun _ => ?_)
      refine ⟨_, _, [some 0], [], rfl, rfl, ?_, ?_, h [⟨0, 3, 7⟩] p9 (by omega) (by omega) (by decide) (by simp [Mark.i64, i64r])⟩
      · repeat' ((conv => whnf); first | with_reducible exact True.intro | exact vW | with_reducible refine And.intro ?_ ?_)
        all_goals exact Chk.mk ⟨rfl, fun i hi => by match i, hi with | 0, _ => rfl⟩
      · repeat' ((conv => whnf); first | with_reducible exact True.intro | exact vW | with_reducible refine And.intro ?_ ?_)
    · repeat' ((conv => whnf); first | refine vA ?_ | with_reducible first | refine v8 ?_ | refine Sp.mk ?_ ?_ | refine vS ?_ | refine vR ?_ | refine vB ?_ | refine br_nt ?_ | refine br_tt ?_ | refine br_ff ?_ | refine vP ?_ | refine vQ ?_ | refine vT ?_ | refine vF ?_ | refine br_and ?_ | refine br_or ?_ | refine br_d (fun _ => ?_) fun _ => ?_ | refine vM (fun _ => ?_) fun _ => ?_)
      refine ⟨_, _, [some 0], [], rfl, rfl, ?_, ?_, h [⟨0, 0, 1⟩, ⟨0, 0, 1⟩] p9 (by omega) (by omega) (by decide) (by simp [Mark.i64, i64r])⟩
      · repeat' ((conv => whnf); first | with_reducible exact True.intro | exact vW | with_reducible refine And.intro ?_ ?_)
        all_goals exact Chk.mk ⟨rfl, fun i hi => by match i, hi with | 0, _ => rfl | 1, _ => rfl⟩
      · repeat' ((conv => whnf); first | with_reducible exact True.intro | exact vW | with_reducible refine And.intro ?_ ?_)
  refine ⟨_, _, [0], [], rfl, ?_, ?_, (⟨b, p⟩, n), rfl, rfl, ⟨⟨h1, h2, ?_, ?_⟩, h7⟩, ?_⟩
  · repeat' ((conv => whnf); first | with_reducible exact True.intro | exact vW | with_reducible refine And.intro ?_ ?_)
  · repeat' ((conv => whnf); first | with_reducible exact True.intro | exact vW | with_reducible refine And.intro ?_ ?_)
  · dsimp only; omega
  · dsimp only; omega
  intro v p1 g1 g2
  dsimp only at g1 g2
  repeat' ((conv => whnf); first | refine vA ?_ | with_reducible first | refine v8 ?_ | refine Sp.mk ?_ ?_ | refine vS ?_ | refine vR ?_ | refine vB ?_ | refine br_nt ?_ | refine br_tt ?_ | refine br_ff ?_ | refine vP ?_ | refine vQ ?_ | refine vT ?_ | refine vF ?_ | refine br_and ?_ | refine br_or ?_ | refine br_d (fun _ => ?_) fun _ => ?_ | refine vM (fun _ => ?_) fun _ => ?_)
  · refine ⟨_, _, [0], [], rfl, ?_, ?_, (⟨b, p1⟩, 4), rfl, rfl, ⟨⟨h1, h2, ?_, ?_⟩, ?_⟩, ?_⟩
    · repeat' ((conv => whnf); first | with_reducible exact True.intro | exact vW | with_reducible refine And.intro ?_ ?_)
      try exact Chk.mk (by rw [pw_sh (by assumption)])
    · repeat' ((conv => whnf); first | with_reducible exact True.intro | exact vW | with_reducible refine And.intro ?_ ?_)
    · dsimp only; omega
    · dsimp only; omega
    · unfold i64r; dsimp only; omega
    intro k9 p9 z0 z1 z2
    dsimp only at z0 z1 z2
    rcases (show k9 = 0 ∨ k9 = 1 ∨ k9 = 2 ∨ k9 = 3 by omega) with rfl | rfl | rfl | rfl
    · repeat' ((conv => whnf); first | refine vA ?_ | with_reducible first | refine v8 ?_ | refine Sp.mk ?_ ?_ | refine vS ?_ | refine vR ?_ | refine vB ?_ | refine br_nt ?_ | refine br_tt ?_ | refine br_ff ?_ | refine vP ?_ | refine vQ ?_ | refine vT ?_ | refine vF ?_ | refine br_and ?_ | refine br_or ?_ | refine br_d (fun _ => ?_) fun _ => ?_ | refine vM (fun _ => ?_) fun _ => ?_)
      refine ⟨_, _, [some 0], [], rfl, rfl, ?_, ?_, h [] p9 (by omega) (by omega) (by decide) (by simp)⟩
      · repeat' ((conv => whnf); first | with_reducible exact True.intro | exact vW | with_reducible refine And.intro ?_ ?_)
      · repeat' ((conv => whnf); first | with_reducible exact True.intro | exact vW | with_reducible refine And.intro ?_ ?_)
    · repeat' ((conv => whnf); first | refine vA ?_ | with_reducible first | refine v8 ?_ | refine Sp.mk ?_ ?_ | refine vS ?_ | refine vR ?_ | refine vB ?_ | refine br_nt ?_ | refine br_tt ?_ | refine br_ff ?_ | refine vP ?_ | refine vQ ?_ | refine vT ?_ | refine vF ?_ | refine br_and ?_ | refine br_or ?_ | refine br_d (fun _ => ?_) fun _ => ?_ | refine vM (fun _ => ?_) fun _ => ?_)
      refine ⟨_, _, [some 0], [], rfl, rfl, ?_, ?_, h [⟨1, 0, 0⟩] p9 (by omega) (by omega) (by decide) (by simp [Mark.i64, i64r])⟩
      · repeat' ((conv => whnf); first | with_reducible exact True.intro | exact vW | with_reducible refine And.intro ?_ ?_)
        all_goals exact Chk.mk ⟨rfl, fun i hi => by match i, hi with | 0, _ => rfl⟩
      · repeat' ((conv => whnf); first | with_reducible exact True.intro | exact vW | with_reducible refine And.intro ?_ ?_)
    · repeat' ((conv => whnf); first | refine vA ?_ | with_reducible first | refine v8 ?_ | refine Sp.mk ?_ ?_ | refine vS ?_ | refine vR ?_ | refine vB ?_ | refine br_nt ?_ | refine br_tt ?_ | refine br_ff ?_ | refine vP ?_ | refine vQ ?_ | refine vT ?_ | refine vF ?_ | refine br_and ?_ | refine br_or ?_ | refine br_d (fun _ => ?_) fun _ => ?_ | refine vM (fun _ => ?_) fun _ => ?_)
      refine ⟨_, _, [some 0], [], rfl, rfl, ?_, ?_, h [⟨0, 3, 7⟩] p9 (by omega) (by omega) (by decide) (by simp [Mark.i64, i64r])⟩
      · repeat' ((conv => whnf); first | with_reducible exact True.intro | exact vW | with_reducible refine And.intro ?_ ?_)
        all_goals exact Chk.mk ⟨rfl, fun i hi => by match i, hi with | 0, _ => rfl⟩
      · repeat' ((conv => whnf); first | with_reducible exact True.intro | exact vW | with_reducible refine And.intro ?_ ?_)
    · repeat' ((conv => whnf); first | refine vA ?_ | with_reducible first | refine v8 ?_ | refine Sp.mk ?_ ?_ | refine vS ?_ | refine vR ?_ | refine vB ?_ | refine br_nt ?_ | refine br_tt ?_ | refine br_ff ?_ | refine vP ?_ | refine vQ ?_ | refine vT ?_ | refine vF ?_ | refine br_and ?_ | refine br_or ?_ | refine br_d (fun _ => ?_) fun _ => ?_ | refine vM (fun _ => ?_) fun _ => ?_)
      refine ⟨_, _, [some 0], [], rfl, rfl, ?_, ?_, h [⟨0, 0, 1⟩, ⟨0, 0, 1⟩] p9 (by omega) (by omega) (by decide) (by simp [Mark.i64, i64r])⟩
      · repeat' ((conv => whnf); first | with_reducible exact True.intro | exact vW | with_reducible refine And.intro ?_ ?_)
        all_goals exact Chk.mk ⟨rfl, fun i hi => by match i, hi with | 0, _ => rfl | 1, _ => rfl⟩
      · repeat' ((conv => whnf); first | with_reducible exact True.intro | exact vW | with_reducible refine And.intro ?_ ?_)
  refine ⟨_, _, [0], [], rfl, ?_, ?_, (⟨b, p1⟩, 4), rfl, rfl, ⟨⟨h1, h2, ?_, ?_⟩, ?_⟩, ?_⟩
  · repeat' ((conv => whnf); first | with_reducible exact True.intro | exact vW | with_reducible refine And.intro ?_ ?_)
    try exact Chk.mk (by rw [pw_sh (by assumption)])
  · repeat' ((conv => whnf); first | with_reducible exact True.intro | exact vW | with_reducible refine And.intro ?_ ?_)
  · dsimp only; omega
  · dsimp only; omega
  · unfold i64r; dsimp only; omega
  intro k1 p2 a0 a1 a2
  dsimp only at a0 a1 a2
  repeat' ((conv => whnf); first | refine vA ?_ | with_reducible first | refine v8 ?_ | refine Sp.mk ?_ ?_ | refine vS ?_ | refine vR ?_ | refine vB ?_ | refine br_nt ?_ | refine br_tt ?_ | refine br_ff ?_ | refine vP ?_ | refine vQ ?_ | refine vT ?_ | refine vF ?_ | refine br_and ?_ | refine br_or ?_ | refine br_d (fun _ => ?_) fun _ => ?_ | refine vM (fun _ => ?_) fun _ => ?_)
  refine Lp.mk ⟨List (List Mark) × Int × Int, fun x => [(0, .ptr 0 0), (4, .ptr 1 0), (7, .row 2 1 0 x.1.length), (8, .int .i64 x.2.1)],
    fun x => [rdO b x.2.2, .box [.int .i64 hp, slI bs], .row 1 x.1.length fun j => encP (x.1.getD j [])],
    fun x => 0 ≤ x.2.1 ∧ x.2.1 + x.1.length = 1 + k1 ∧ x.2.2 = p2 + 2 * x.1.length ∧ sumL x.1 = x.1.length ∧ ∀ l ∈ x.1, ∀ m ∈ l, m.i64, fun x => x.2.1.toNat, ⟨([], 1 + k1, p2), ⟨by show 0 ≤ 1 + k1; omega, by simp, by simp, rfl, by simp⟩, ⟨⟨[some 0, some 1, none], [], rfl, rfl, ?_, ?_⟩⟩⟩, ?_⟩
  · repeat' ((conv => whnf); first | with_reducible exact True.intro | exact vW | with_reducible refine And.intro ?_ ?_)
  · repeat' ((conv => whnf); first | with_reducible exact True.intro | exact vW | with_reducible refine And.intro ?_ ?_)
  rintro ⟨P, j, q⟩ ⟨i1, i2, i3, i4, i5⟩
  dsimp only at i1 i2 i3 i4 i5 ⊢
  repeat' ((conv => whnf); first | refine vA ?_ | with_reducible first | refine v8 ?_ | refine Sp.mk ?_ ?_ | refine vS ?_ | refine vR ?_ | refine vB ?_ | refine br_nt ?_ | refine br_tt ?_ | refine br_ff ?_ | refine vP ?_ | refine vQ ?_ | refine vT ?_ | refine vF ?_ | refine br_and ?_ | refine br_or ?_ | refine br_d (fun _ => ?_) fun _ => ?_ | refine vM (fun _ => ?_) fun _ => ?_)
  · refine ⟨_, _, [0], [], rfl, ?_, ?_, (⟨b, q⟩, bs.length), rfl, rfl, ⟨⟨h1, h2, ?_, ?_⟩, ?_⟩, ?_⟩
    · repeat' ((conv => whnf); first | with_reducible exact True.intro | exact vW | with_reducible refine And.intro ?_ ?_)
      try exact Chk.mk (by rw [pw_sh (by assumption)])
    · repeat' ((conv => whnf); first | with_reducible exact True.intro | exact vW | with_reducible refine And.intro ?_ ?_)
    · dsimp only; omega
    · dsimp only; omega
    · unfold i64r; dsimp only; omega
    intro k2 p3 c0 c1 c2
    dsimp only at c0 c1 c2
    repeat' ((conv => whnf); first | refine vA ?_ | with_reducible first | refine v8 ?_ | refine Sp.mk ?_ ?_ | refine vS ?_ | refine vR ?_ | refine vB ?_ | refine br_nt ?_ | refine br_tt ?_ | refine br_ff ?_ | refine vP ?_ | refine vQ ?_ | refine vT ?_ | refine vF ?_ | refine br_and ?_ | refine br_or ?_ | refine br_d (fun _ => ?_) fun _ => ?_ | refine vM (fun _ => ?_) fun _ => ?_)
    have hbs := h5.2 _ (getD_mem' (l := bs) (i := k2.toNat) (d := 0) (by omega))
    refine ⟨(if 0 > bs.getD k2.toNat 0 then 0 else bs.getD k2.toNat 0), ?_, ⟨by split <;> (first | exact hbs | exact ⟨by decide, by decide⟩)⟩, ?_⟩
    · repeat' ((conv => whnf); first | with_reducible exact True.intro | exact vW | with_reducible refine And.intro ?_ ?_)
    obtain ⟨H, hH⟩ : ∃ H : Nat, heads ((if 0 > bs.getD k2.toNat 0 then 0 else bs.getD k2.toNat 0) : Int).toNat = H := ⟨_, rfl⟩
    have hH2 : H ≤ 64 := by rw [← hH]; exact heads_le _
    rw [hH]
    obtain ⟨M, hM⟩ : ∃ M : Int, M = if (1 : Int) > (H : Int) then (1 : Int) else (H : Int) := ⟨_, rfl⟩
    have hM2 : 1 ≤ M ∧ M ≤ 64 := by rw [hM]; split <;> omega
    repeat' ((conv => whnf); first | refine vA ?_ | with_reducible first | refine v8 ?_ | refine Sp.mk ?_ ?_ | refine vS ?_ | refine vR ?_ | refine vB ?_ | refine br_nt ?_ | refine br_tt ?_ | refine br_ff ?_ | refine vP ?_ | refine vQ ?_ | refine vT ?_ | refine vF ?_ | refine br_and ?_ | refine br_or ?_ | refine br_d (fun _ => ?_) fun _ => ?_ | refine vM (fun _ => ?_) fun _ => ?_)
    refine ⟨_, _, [0], [], rfl, ?_, ?_, (⟨b, p3⟩, if (1 : Int) > (H : Int) then (1 : Int) else (H : Int)), rfl, rfl, ⟨⟨h1, h2, ?_, ?_⟩, ?_⟩, ?_⟩
    · repeat' ((conv => whnf); first | with_reducible exact True.intro | exact vW | with_reducible refine And.intro ?_ ?_)
      try exact Chk.mk (by rw [pw_sh (by assumption)])
    · repeat' ((conv => whnf); first | with_reducible exact True.intro | exact vW | with_reducible refine And.intro ?_ ?_)
    · dsimp only; omega
    · dsimp only; omega
    · unfold i64r; dsimp only; omega
    intro k3 p4 d0 d1 d2
    dsimp only at d0 d1 d2
    rw [← hM] at d0 d1
    repeat' ((conv => whnf); first | refine vA ?_ | with_reducible first | refine v8 ?_ | refine Sp.mk ?_ ?_ | refine vS ?_ | refine vR ?_ | refine vB ?_ | refine br_nt ?_ | refine br_tt ?_ | refine br_ff ?_ | refine vP ?_ | refine vQ ?_ | refine vT ?_ | refine vF ?_ | refine br_and ?_ | refine br_or ?_ | refine br_d (fun _ => ?_) fun _ => ?_ | refine vM (fun _ => ?_) fun _ => ?_)
    refine ⟨(P ++ [[⟨0, k2, 1 + k3⟩]], j - 1, p4), ⟨by show 0 ≤ j - 1; omega, by simp; omega, by simp; omega, ?_, ?_⟩, by show (j - 1).toNat < j.toNat; omega, ⟨⟨[some 0, some 1, some 5], [], rfl, rfl, ?_, ?_⟩⟩⟩
    · dsimp only
      rw [sumL_app, i4]
      simp [sumL]
    · intro l hl m hm
      rcases List.mem_append.1 hl with hl | hl
      · exact i5 l hl m hm
      · simp at hl
        subst hl
        simp at hm
        subst hm
        unfold Mark.i64 i64r
        dsimp only
        omega
    · repeat' ((conv => whnf); first | with_reducible exact True.intro | exact vW | with_reducible refine And.intro ?_ ?_)
    · repeat' ((conv => whnf); first | with_reducible exact True.intro | exact vW | with_reducible refine And.intro ?_ ?_)
      all_goals exact Chk.mk one_ext
  · have hP : 1 ≤ P.length := by omega
    have hP2 : sumL P + P.length ≤ 8 := by omega
    have hq : q + 2 * P.length ≤ p2 + 16 := by omega
    have hq2 : p2 ≤ q := by omega
    refine Lp.mk ⟨List (List Mark) × Int, fun x => [(0, .ptr 0 0), (7, .row 1 1 0 x.1.length)],
      fun x => [rdO b x.2, .row 1 x.1.length fun j => encP (x.1.getD j [])],
      fun x => 1 ≤ x.1.length ∧ sumL x.1 + x.1.length ≤ 8 ∧ x.2 + 2 * x.1.length ≤ p2 + 16 ∧ p2 ≤ x.2 ∧ ∀ l ∈ x.1, ∀ m ∈ l, m.i64, fun x => x.1.length, ⟨(P, q), ⟨hP, hP2, hq, hq2, i5⟩, ⟨⟨[some 0, some 2], [], rfl, rfl, ?_, ?_⟩⟩⟩, ?_⟩
    · repeat' ((conv => whnf); first | with_reducible exact True.intro | exact vW | with_reducible refine And.intro ?_ ?_)
    · repeat' ((conv => whnf); first | with_reducible exact True.intro | exact vW | with_reducible refine And.intro ?_ ?_)
    clear i1 i2 i3 i4 i5 hP hP2 hq hq2
    rintro ⟨P, q⟩ ⟨i1, i2, i3, i4, i5⟩
    dsimp only at i1 i2 i3 i4 i5 ⊢
    repeat' ((conv => whnf); first | refine vA ?_ | with_reducible first | refine v8 ?_ | refine Sp.mk ?_ ?_ | refine vS ?_ | refine vR ?_ | refine vB ?_ | refine br_nt ?_ | refine br_tt ?_ | refine br_ff ?_ | refine vP ?_ | refine vQ ?_ | refine vT ?_ | refine vF ?_ | refine br_and ?_ | refine br_or ?_ | refine br_d (fun _ => ?_) fun _ => ?_ | refine vM (fun _ => ?_) fun _ => ?_)
    · refine ⟨_, _, [0], [], rfl, ?_, ?_, (⟨b, q⟩, P.length - 1), rfl, rfl, ⟨⟨h1, h2, ?_, ?_⟩, ?_⟩, ?_⟩
      · repeat' ((conv => whnf); first | with_reducible exact True.intro | exact vW | with_reducible refine And.intro ?_ ?_)
        try exact Chk.mk (by rw [pw_sh (by assumption)])
      · repeat' ((conv => whnf); first | with_reducible exact True.intro | exact vW | with_reducible refine And.intro ?_ ?_)
      · dsimp only; omega
      · dsimp only; omega
      · unfold i64r; dsimp only; omega
      intro a p3 c0 c1 c2
      dsimp only at c0 c1 c2
      obtain ⟨A, hA⟩ : ∃ A, P.getD (0 + a.toNat) [] = A := ⟨_, rfl⟩
      obtain ⟨B, hB⟩ : ∃ B, P.getD (0 + (a + 1).toNat) [] = B := ⟨_, rfl⟩
      have mA : A ∈ P := by rw [← hA]; exact getD_mem' (by omega)
      have mB : B ∈ P := by rw [← hB]; exact getD_mem' (by omega)
      have lA : (P.getD (0 + a.toNat) []).length ≤ 8 := by rw [hA]; have := sumL_mem mA; omega
      have lB : (P.getD (0 + (a + 1).toNat) []).length ≤ 8 := by rw [hB]; have := sumL_mem mB; omega
      repeat' ((conv => whnf); first | refine vA ?_ | with_reducible first | refine v8 ?_ | refine Sp.mk ?_ ?_ | refine vS ?_ | refine vR ?_ | refine vB ?_ | refine br_nt ?_ | refine br_tt ?_ | refine br_ff ?_ | refine vP ?_ | refine vQ ?_ | refine vT ?_ | refine vF ?_ | refine br_and ?_ | refine br_or ?_ | refine br_d (fun _ => ?_) fun _ => ?_ | refine vM (fun _ => ?_) fun _ => ?_)
      refine Dr.mk ⟨(.rd 1 (.rd 2 (.rd 3 (.rd 4 (.rd 6 (.rd 7 (.rd 8 (.rd 9 (.rd 10 (.rd 12 (.ef 0 (.ef 5 (.ef 11 (.ef 13 (.rd 14 (.rd 15 (.ef 16 (.ef 17 (.rd 18 .dn) .no) .no))) .no) .no) .no) .no))))))))))), by decide +kernel, ?_⟩
      repeat' ((conv => whnf); first | refine vA ?_ | with_reducible first | refine v8 ?_ | refine Sp.mk ?_ ?_ | refine vS ?_ | refine vR ?_ | refine vB ?_ | refine br_nt ?_ | refine br_tt ?_ | refine br_ff ?_ | refine vP ?_ | refine vQ ?_ | refine vT ?_ | refine vF ?_ | refine br_and ?_ | refine br_or ?_ | refine br_d (fun _ => ?_) fun _ => ?_ | refine vM (fun _ => ?_) fun _ => ?_)
      refine ⟨_, _, [0], [], rfl, ?_, ?_, (⟨b, p3⟩, 2), rfl, rfl, ⟨⟨h1, h2, ?_, ?_⟩, ?_⟩, ?_⟩
      · repeat' ((conv => whnf); first | with_reducible exact True.intro | exact vW | with_reducible refine And.intro ?_ ?_)
        try exact Chk.mk (by rw [pw_sh (by assumption)])
      · repeat' ((conv => whnf); first | with_reducible exact True.intro | exact vW | with_reducible refine And.intro ?_ ?_)
      · dsimp only; omega
      · dsimp only; omega
      · unfold i64r; dsimp only; omega
      intro k p4 d0 d1 d2
      dsimp only at d0 d1 d2
      repeat' ((conv => whnf); first | with_reducible refine wk_at 12 ?_ | with_reducible refine wk_at1 12 ?_ | with_reducible refine wk_at2 12 ?_ | refine vA ?_ | with_reducible first | refine v8 ?_ | refine Sp.mk ?_ ?_ | refine vS ?_ | refine vR ?_ | refine vB ?_ | refine br_nt ?_ | refine br_tt ?_ | refine br_ff ?_ | refine vP ?_ | refine vQ ?_ | refine vT ?_ | refine vF ?_ | refine br_and ?_ | refine br_or ?_ | refine br_d (fun _ => ?_) fun _ => ?_ | refine vM (fun _ => ?_) fun _ => ?_)
      refine ⟨Wk.go [(0, .ptr 0 0), (7, .row 1 1 0 P.length), (10, .int .i64 a), (11, .row 2 3 0 (P.getD (0 + a.toNat) [] ++ P.getD (0 + (a + 1).toNat) [] ++ [(⟨1 + k, 0, 0⟩ : Mark)]).length)]
        [rdO b p4, .row 1 P.length fun j => encP (P.getD j []), .row 3 (P.getD (0 + a.toNat) [] ++ P.getD (0 + (a + 1).toNat) [] ++ [(⟨1 + k, 0, 0⟩ : Mark)]).length fun j => encM ((P.getD (0 + a.toNat) [] ++ P.getD (0 + (a + 1).toNat) [] ++ [(⟨1 + k, 0, 0⟩ : Mark)]).getD j default)] ⟨⟨[some 0, some 1, some 5], [], rfl, rfl, ?_, ?_⟩⟩ ?_⟩
      · repeat' ((conv => whnf); first | with_reducible exact True.intro | exact vW | with_reducible refine And.intro ?_ ?_)
        all_goals exact Chk.mk ⟨rfl, three_ext.1⟩
      · repeat' ((conv => whnf); first | with_reducible exact True.intro | exact vW | with_reducible refine And.intro ?_ ?_)
        all_goals exact Chk.mk three_ext
      rw [hA] at lA
      rw [hB] at lB
      rw [hA, hB]
      obtain ⟨T, hT⟩ : ∃ T, A ++ B ++ [(⟨1 + k, 0, 0⟩ : Mark)] = T := ⟨_, rfl⟩
      have lT : T.length = A.length + B.length + 1 := by rw [← hT]; simp; omega
      rw [hT]
      repeat' ((conv => whnf); first | refine vA ?_ | with_reducible first | refine v8 ?_ | refine Sp.mk ?_ ?_ | refine vS ?_ | refine vR ?_ | refine vB ?_ | refine br_nt ?_ | refine br_tt ?_ | refine br_ff ?_ | refine vP ?_ | refine vQ ?_ | refine vT ?_ | refine vF ?_ | refine br_and ?_ | refine br_or ?_ | refine br_d (fun _ => ?_) fun _ => ?_ | refine vM (fun _ => ?_) fun _ => ?_)
      have hm := sumL_take_drop P a.toNat (by omega)
      have hA' : P.getD a.toNat [] = A := by rw [← hA, Nat.zero_add]
      have hB' : P.getD (a.toNat + 1) [] = B := by rw [← hB, Nat.zero_add, show (a + 1).toNat = a.toNat + 1 by omega]
      rw [hA', hB', show a.toNat + 2 = (a + 2).toNat by omega] at hm
      refine ⟨(P.take a.toNat ++ [T] ++ P.drop (a + 2).toNat, p4), ⟨?_, ?_, ?_, by show p2 ≤ p4; omega, ?_⟩, ?_, ⟨⟨[some 0, some 6], [], rfl, rfl, ?_, ?_⟩⟩⟩
      · simp; omega
      · dsimp only
        rw [sumL_app, sumL_app]
        simp [sumL]
        omega
      · simp; omega
      · intro l hl m hm
        simp only [List.mem_append, List.mem_singleton] at hl
        rcases hl with (hl | rfl) | hl
        · exact i5 l (List.mem_of_mem_take hl) m hm
        · rw [← hT] at hm
          simp only [List.mem_append, List.mem_singleton] at hm
          rcases hm with (hm | hm) | rfl
          · exact i5 A mA m hm
          · exact i5 B mB m hm
          · unfold Mark.i64 i64r; dsimp only; omega
        · exact i5 l (List.mem_of_mem_drop hl) m hm
      · simp; omega
      · repeat' ((conv => whnf); first | with_reducible exact True.intro | exact vW | with_reducible refine And.intro ?_ ?_)
        all_goals exact Chk.mk ⟨rfl, (merge_ext (by omega) (by omega)).1⟩
      · repeat' ((conv => whnf); first | with_reducible exact True.intro | exact vW | with_reducible refine And.intro ?_ ?_)
        all_goals exact Chk.mk (merge_ext (by omega) (by omega))
    · have hl := sumL_mem (getD_mem' (l := P) (i := 0) (d := []) (by omega))
      repeat' ((conv => whnf); first | refine vA ?_ | with_reducible first | refine v8 ?_ | refine Sp.mk ?_ ?_ | refine vS ?_ | refine vR ?_ | refine vB ?_ | refine br_nt ?_ | refine br_tt ?_ | refine br_ff ?_ | refine vP ?_ | refine vQ ?_ | refine vT ?_ | refine vF ?_ | refine br_and ?_ | refine br_or ?_ | refine br_d (fun _ => ?_) fun _ => ?_ | refine vM (fun _ => ?_) fun _ => ?_)
      refine ⟨_, _, [some 0], [], rfl, rfl, ?_, ?_, h (P.getD 0 []) q (by omega) (by omega) (by omega) (i5 _ (getD_mem' (by omega)))⟩
      · repeat' ((conv => whnf); first | with_reducible exact True.intro | exact vW | with_reducible refine And.intro ?_ ?_)
      · repeat' ((conv => whnf); first | with_reducible exact True.intro | exact vW | with_reducible refine And.intro ?_ ?_)
end Go.Proofs.YtahfdkdneojkmaaGreatDoor.Vc
end
section
/- Part TK: places that are drawn. -/
namespace Go.Proofs.YtahfdkdneojkmaaGreatDoor.Vc
open Go.Proofs
set_option maxRecDepth 10000
set_option maxHeartbeats 4000000
structure drawnP (x : Place) : Prop where
  p0 : 0 ≤ x.p
  p1 : x.p ≤ 7
  bl : x.bs.length ≤ 4
  bb : ∀ b ∈ x.bs, 0 ≤ b ∧ b ≤ 64
  rl : x.rules.length ≤ 4
  rr : ∀ r ∈ x.rules, r.size ≤ 10000
theorem drawnP.I {x : Place} (h : drawnP x) : placeI x := ⟨⟨⟨⟨by have := h.p0; show -9223372036854775808 ≤ x.p; omega, by have := h.p1; show x.p ≤ 9223372036854775807; omega⟩, fun b hb => by have := h.bb b hb; exact ⟨by omega, by omega⟩⟩, by have := h.bl; show x.bs.length < _; omega⟩, by have := h.rl; omega, fun r hr => by have := h.rr r hr; omega⟩
theorem drawnP.len {x : Place} (h : drawnP x) : lenI x := ⟨by have := h.bl; omega, by have := h.rl; omega⟩
theorem ttext_size (h : House) (t : List Mark) : (ttext (h, t)).size ≤ 10000 := by
  unfold ttext
  split
  · rename_i g
    exact text_size (bodies_of g.1) g.2.2 g.2.1
  · exact Nat.zero_le _
theorem set0_ext {l : List ByteArray} {x : ByteArray} {i : Nat} (h : 0 < l.length) : encS ((l.set 0 x).getD i ⟨#[]⟩) = setF (fun j => encS (l.getD j ⟨#[]⟩)) 0 (encS x) (0 + i) := by
  rw [Nat.zero_add]
  unfold setF
  cases i with
  | zero => cases l <;> first | rfl | (simp at h)
  | succ i => cases l <;> first | rfl | simp
def C151 : GC := conG (X := Rd × Int) (fun x => [.ptr 0 0, .int .i64 x.2]) (fun x => [rdO x.1.b x.1.p]) (fun x => x.1.okn 400000000 ∧ i64r x.2) fun x K => ∀ (y : Place) (p' : Int), x.1.p ≤ p' → p' ≤ x.1.p + 250 → drawnP y → K (enPl y) [rdO x.1.b p']
theorem F151 : GG 25 C151 := by
  refine fitG [(47, C173)] (by simp only [List.mem_cons, List.not_mem_nil, or_false]; rintro _ rfl <;> first | exact F173) [(44, C52), (49, C53), (46, C59), (48, C60)] (by simp only [List.mem_cons, List.not_mem_nil, or_false]; rintro _ (rfl | rfl | rfl | rfl) <;> first | exact F52 | exact F53 | exact F59 | exact F60) Tryz.f25 ⟨rfl, by decide +kernel, by decide +kernel⟩ (by intro x K K2 hk h; (try dsimp only at h ⊢); intros; apply hk; first | exact h | (apply h <;> assumption)) ?_
  rintro ⟨⟨b, p⟩, n⟩ K ⟨⟨h1, h2, h3, h4⟩, h5⟩ h
  refine ⟨Nat.le_of_ble_eq_true rfl, ?_⟩
  dsimp only at h h1 h2 h3 h4 h5 ⊢
  repeat' ((conv => whnf); first | refine vA ?_ | with_reducible first | refine v8 ?_ | refine Sp.mk ?_ ?_ | refine vS ?_ | refine vR ?_ | refine vB ?_ | refine br_nt ?_ | refine br_tt ?_ | refine br_ff ?_ | refine vP ?_ | refine vQ ?_ | refine vT ?_ | refine vF ?_ | refine br_and ?_ | refine br_or ?_ | refine br_d (fun _ => ?_) fun _ => ?_ | refine vM (fun _ => ?_) fun _ => ?_)
  refine ⟨_, _, [0], [], rfl, ?_, ?_, (⟨b, p⟩, 0), rfl, rfl, ⟨⟨h1, h2, h3, by dsimp only; omega⟩, by unfold i64r; dsimp only; omega⟩, ?_⟩
  · repeat' ((conv => whnf); first | with_reducible exact True.intro | exact vW | with_reducible refine And.intro ?_ ?_)
  · repeat' ((conv => whnf); first | with_reducible exact True.intro | exact vW | with_reducible refine And.intro ?_ ?_)
  rintro ⟨P, bs⟩ p1 g1 g2 g3 g4 g5
  dsimp only [enH] at g1 g2 g3 g4 g5 ⊢
  repeat' ((conv => whnf); first | refine vA ?_ | with_reducible first | refine v8 ?_ | refine Sp.mk ?_ ?_ | refine vS ?_ | refine vR ?_ | refine vB ?_ | refine br_nt ?_ | refine br_tt ?_ | refine br_ff ?_ | refine vP ?_ | refine vQ ?_ | refine vT ?_ | refine vF ?_ | refine br_and ?_ | refine br_or ?_ | refine br_d (fun _ => ?_) fun _ => ?_ | refine vM (fun _ => ?_) fun _ => ?_)
  refine ⟨_, _, [0], [], rfl, ?_, ?_, (⟨b, p1⟩, 3), rfl, rfl, ⟨⟨h1, h2, ?_, ?_⟩, ?_⟩, ?_⟩
  · repeat' ((conv => whnf); first | with_reducible exact True.intro | exact vW | with_reducible refine And.intro ?_ ?_)
    try exact Chk.mk (by rw [pw_sh (by assumption)])
  · repeat' ((conv => whnf); first | with_reducible exact True.intro | exact vW | with_reducible refine And.intro ?_ ?_)
  · dsimp only; omega
  · dsimp only; omega
  · unfold i64r; dsimp only; omega
  intro k2 p2 a0 a1 a2
  dsimp only at a0 a1 a2
  repeat' ((conv => whnf); first | refine vA ?_ | with_reducible first | refine v8 ?_ | refine Sp.mk ?_ ?_ | refine vS ?_ | refine vR ?_ | refine vB ?_ | refine br_nt ?_ | refine br_tt ?_ | refine br_ff ?_ | refine vP ?_ | refine vQ ?_ | refine vT ?_ | refine vF ?_ | refine br_and ?_ | refine br_or ?_ | refine br_d (fun _ => ?_) fun _ => ?_ | refine vM (fun _ => ?_) fun _ => ?_)
  refine Lp.mk ⟨List ByteArray × Int × Int, fun x => [(0, .ptr 0 0), (1, .int .i64 n), (4, .ptr 1 0), (5, .ptr 2 0), (6, .int .i64 x.2.1)],
    fun x => [rdO b x.2.2, .box [.int .i64 0, .nils, .nils], .box [.int .i64 P, slI bs, .row 3 1 0 x.1.length], .row 1 x.1.length fun j => encS (x.1.getD j ⟨#[]⟩)],
    fun x => 0 ≤ x.2.1 ∧ x.2.1 + x.1.length = 1 + k2 ∧ p2 ≤ x.2.2 ∧ x.2.2 ≤ p2 + 40 * x.1.length ∧ ∀ r ∈ x.1, r.size ≤ 10000, fun x => x.2.1.toNat, ⟨([], 1 + k2, p2), ⟨by show 0 ≤ 1 + k2; omega, by simp, by dsimp only; omega, by simp, by simp⟩, ⟨⟨[some 0, some 1, some 2, none], [], rfl, rfl, ?_, ?_⟩⟩⟩, ?_⟩
  · repeat' ((conv => whnf); first | with_reducible exact True.intro | exact vW | with_reducible refine And.intro ?_ ?_)
  · repeat' ((conv => whnf); first | with_reducible exact True.intro | exact vW | with_reducible refine And.intro ?_ ?_)
  rintro ⟨l, j, q⟩ ⟨i1, i2, i3, i4, i5⟩
  dsimp only at i1 i2 i3 i4 i5 ⊢
  have hI : House.i64 ⟨P, bs⟩ := ⟨⟨by dsimp only; omega, by dsimp only; omega⟩, fun b hb => by have := g5 b hb; exact ⟨by omega, by omega⟩⟩
  repeat' ((conv => whnf); first | refine vA ?_ | with_reducible first | refine v8 ?_ | refine Sp.mk ?_ ?_ | refine vS ?_ | refine vR ?_ | refine vB ?_ | refine br_nt ?_ | refine br_tt ?_ | refine br_ff ?_ | refine vP ?_ | refine vQ ?_ | refine vT ?_ | refine vF ?_ | refine br_and ?_ | refine br_or ?_ | refine br_d (fun _ => ?_) fun _ => ?_ | refine vM (fun _ => ?_) fun _ => ?_)
  · rename_i hj
    refine Dr.mk ⟨(.rd 0 (.rd 1 (.rd 2 (.rd 3 (.rd 4 (.rd 5 (.rd 6 (.ef 7 (.ef 8 (.ef 9 (.ef 10 (.rd 11 (.ef 12 .dn .no)) .no) .no) .no) .no)))))))), by decide +kernel, ?_⟩
    repeat' ((conv => whnf); first | refine vA ?_ | with_reducible first | refine v8 ?_ | refine Sp.mk ?_ ?_ | refine vS ?_ | refine vR ?_ | refine vB ?_ | refine br_nt ?_ | refine br_tt ?_ | refine br_ff ?_ | refine vP ?_ | refine vQ ?_ | refine vT ?_ | refine vF ?_ | refine br_and ?_ | refine br_or ?_ | refine br_d (fun _ => ?_) fun _ => ?_ | refine vM (fun _ => ?_) fun _ => ?_)
    refine ⟨_, _, [0], [], rfl, ?_, ?_, ⟨⟨b, q⟩, ⟨P, bs⟩, 0⟩, rfl, rfl, ⟨⟨h1, h2, by dsimp only; omega, by dsimp only; omega⟩, hI, by dsimp only; omega, by unfold i64r; dsimp only; omega⟩, ?_⟩
    · repeat' ((conv => whnf); first | with_reducible exact True.intro | exact vW | with_reducible refine And.intro ?_ ?_)
    · repeat' ((conv => whnf); first | with_reducible exact True.intro | exact vW | with_reducible refine And.intro ?_ ?_)
    intro t p' t1 t2 t3 t4
    dsimp only at t1 t2 t3 t4 ⊢
    repeat' ((conv => whnf); first | refine vA ?_ | with_reducible first | refine v8 ?_ | refine Sp.mk ?_ ?_ | refine vS ?_ | refine vR ?_ | refine vB ?_ | refine br_nt ?_ | refine br_tt ?_ | refine br_ff ?_ | refine vP ?_ | refine vQ ?_ | refine vT ?_ | refine vF ?_ | refine br_and ?_ | refine br_or ?_ | refine br_d (fun _ => ?_) fun _ => ?_ | refine vM (fun _ => ?_) fun _ => ?_)
    refine ⟨(⟨P, bs⟩, t), ?_, ⟨hI, by dsimp only; omega, t4, by dsimp only; omega⟩, ?_⟩
    · repeat' ((conv => whnf); first | with_reducible exact True.intro | exact vW | with_reducible refine And.intro ?_ ?_)
    have hts := ttext_size ⟨P, bs⟩ t
    repeat' ((conv => whnf); first | refine vA ?_ | with_reducible first | refine v8 ?_ | refine Sp.mk ?_ ?_ | refine vS ?_ | refine vR ?_ | refine vB ?_ | refine br_nt ?_ | refine br_tt ?_ | refine br_ff ?_ | refine vP ?_ | refine vQ ?_ | refine vT ?_ | refine vF ?_ | refine br_and ?_ | refine br_or ?_ | refine br_d (fun _ => ?_) fun _ => ?_ | refine vM (fun _ => ?_) fun _ => ?_)
    refine ⟨(l ++ [ttext (⟨P, bs⟩, t)], j - 1, p'), ⟨by dsimp only; omega, by simp only [List.length_append, List.length_cons, List.length_nil]; omega, by dsimp only; omega, by simp only [List.length_append, List.length_cons, List.length_nil]; omega, fun r hr => ?_⟩, by dsimp only; omega, ⟨⟨[some 0, some 1, some 2, some 5], [], rfl, rfl, ?_, ?_⟩⟩⟩
    · rcases List.mem_append.1 hr with hr | hr
      · exact i5 r hr
      · rw [List.mem_singleton.1 hr]; exact hts
    · repeat' ((conv => whnf); first | with_reducible exact True.intro | exact vW | with_reducible refine And.intro ?_ ?_)
    · repeat' ((conv => whnf); first | with_reducible exact True.intro | exact vW | with_reducible refine And.intro ?_ ?_)
      all_goals first | exact Chk.mk (ext_push rfl) | exact Chk.mk ⟨rfl, by simp⟩
  · have hl : l.length ≤ 3 := by omega
    have hD : ∀ (P' : Int) (l' : List ByteArray), 0 ≤ P' → P' ≤ 7 → l'.length ≤ 4 → (∀ r ∈ l', r.size ≤ 10000) → drawnP ⟨P', bs, l'⟩ := fun P' l' q0 q1 q2 q3 => ⟨q0, q1, g4, g5, q2, q3⟩
    repeat' ((conv => whnf); first | refine vA ?_ | with_reducible first | refine v8 ?_ | refine Sp.mk ?_ ?_ | refine vS ?_ | refine vR ?_ | refine vB ?_ | refine br_nt ?_ | refine br_tt ?_ | refine br_ff ?_ | refine vP ?_ | refine vQ ?_ | refine vT ?_ | refine vF ?_ | refine br_and ?_ | refine br_or ?_ | refine br_d (fun _ => ?_) fun _ => ?_ | refine vM (fun _ => ?_) fun _ => ?_)
    refine ⟨_, _, [0], [], rfl, ?_, ?_, (⟨b, q⟩, n), rfl, rfl, ⟨⟨h1, h2, by dsimp only; omega, by dsimp only; omega⟩, h5⟩, ?_⟩
    · repeat' ((conv => whnf); first | with_reducible exact True.intro | exact vW | with_reducible refine And.intro ?_ ?_)
    · repeat' ((conv => whnf); first | with_reducible exact True.intro | exact vW | with_reducible refine And.intro ?_ ?_)
    intro v p' v1 v2
    dsimp only at v1 v2 ⊢
    repeat' ((conv => whnf); first | refine vA ?_ | with_reducible first | refine v8 ?_ | refine Sp.mk ?_ ?_ | refine vS ?_ | refine vR ?_ | refine vB ?_ | refine br_nt ?_ | refine br_tt ?_ | refine br_ff ?_ | refine vP ?_ | refine vQ ?_ | refine vT ?_ | refine vF ?_ | refine br_and ?_ | refine br_or ?_ | refine br_d (fun _ => ?_) fun _ => ?_ | refine vM (fun _ => ?_) fun _ => ?_)
    · refine ⟨_, _, [0], [], rfl, ?_, ?_, (⟨b, p'⟩, 3), rfl, rfl, ⟨⟨h1, h2, ?_, ?_⟩, ?_⟩, ?_⟩
      · repeat' ((conv => whnf); first | with_reducible exact True.intro | exact vW | with_reducible refine And.intro ?_ ?_)
        try exact Chk.mk (by rw [pw_sh (by assumption)])
      · repeat' ((conv => whnf); first | with_reducible exact True.intro | exact vW | with_reducible refine And.intro ?_ ?_)
      · dsimp only; omega
      · dsimp only; omega
      · unfold i64r; dsimp only; omega
      intro k5 p5 e0 e1 e2
      dsimp only at e0 e1 e2
      repeat' ((conv => whnf); first | refine vA ?_ | with_reducible first | refine v8 ?_ | refine Sp.mk ?_ ?_ | refine vS ?_ | refine vR ?_ | refine vB ?_ | refine br_nt ?_ | refine br_tt ?_ | refine br_ff ?_ | refine vP ?_ | refine vQ ?_ | refine vT ?_ | refine vF ?_ | refine br_and ?_ | refine br_or ?_ | refine br_d (fun _ => ?_) fun _ => ?_ | refine vM (fun _ => ?_) fun _ => ?_)
      · refine ⟨_, _, [some 0], [3], rfl, rfl, ?_, ?_, h ⟨P, bs, l.set 0 ⟨#[40, 65, 49, 41]⟩⟩ p5 (by omega) (by omega) (hD P _ (by omega) (by omega) (by rw [List.length_set]; omega) (fun r hr => (List.mem_or_eq_of_mem_set hr).elim (fun hr => i5 r hr) (fun e => by rw [e]; exact (by decide : (4 : Nat) ≤ 10000))))⟩
        · repeat' ((conv => whnf); first | with_reducible exact True.intro | exact vW | with_reducible refine And.intro ?_ ?_)
          all_goals exact Chk.mk ⟨by rw [List.length_set], by omega, fun i _ => set0_ext (by omega)⟩
        · repeat' ((conv => whnf); first | with_reducible exact True.intro | exact vW | with_reducible refine And.intro ?_ ?_)
      · refine ⟨_, _, [some 0], [3], rfl, rfl, ?_, ?_, h ⟨7, bs, l⟩ p5 (by omega) (by omega) (hD 7 l (by omega) (by omega) (by omega) i5)⟩
        · repeat' ((conv => whnf); first | with_reducible exact True.intro | exact vW | with_reducible refine And.intro ?_ ?_)
          all_goals exact Chk.mk ⟨rfl, by omega, fun i _ => by rw [Nat.zero_add]⟩
        · repeat' ((conv => whnf); first | with_reducible exact True.intro | exact vW | with_reducible refine And.intro ?_ ?_)
      · refine ⟨_, _, [some 0], [], rfl, rfl, ?_, ?_, h default p5 (by omega) (by omega) ⟨by decide, by decide, by decide, (fun _ hb => by cases hb), by decide, (fun _ hb => by cases hb)⟩⟩
        · repeat' ((conv => whnf); first | with_reducible exact True.intro | exact vW | with_reducible refine And.intro ?_ ?_)
        · repeat' ((conv => whnf); first | with_reducible exact True.intro | exact vW | with_reducible refine And.intro ?_ ?_)
    · refine ⟨_, _, [some 0], [3], rfl, rfl, ?_, ?_, h ⟨P, bs, l⟩ p' (by omega) (by omega) (hD P l (by omega) (by omega) (by omega) i5)⟩
      · repeat' ((conv => whnf); first | with_reducible exact True.intro | exact vW | with_reducible refine And.intro ?_ ?_)
        all_goals exact Chk.mk ⟨rfl, by omega, fun i _ => by rw [Nat.zero_add]⟩
      · repeat' ((conv => whnf); first | with_reducible exact True.intro | exact vW | with_reducible refine And.intro ?_ ?_)
def bytesI (l : List Int) : Prop := (∀ n ∈ l, u8r n) ∧ l.length < 9223372036854775808
def dpost (K : AV → Prop) : Prop := ∀ y : Place, drawnP y → K (enPl y)
def C125 : List AV → (AV → Prop) → Prop := con (X := List Int) (fun l => [slB l]) bytesI fun _ K => dpost K
def C131 := C125
/-! ### A further body leaves terms what they are -/
theorem stepP_more' {bs cs : List Int} {m : Mark} {k j : Nat} (h : stepP bs m k = some j) : stepP (bs ++ cs) m k = some j := by
  unfold stepP at h ⊢
  split at h
  · rename_i g
    obtain ⟨g0, g1, g2, g3, g4⟩ := g
    have e : (bs ++ cs).getD m.at_.toNat 0 = bs.getD m.at_.toNat 0 := by
      rw [List.getD_eq_getElem?_getD, List.getElem?_append_left (by omega), ← List.getD_eq_getElem?_getD]
    rw [if_pos ⟨g0, g1, by rw [List.length_append]; omega, g3, by rw [e]; exact g4⟩]
    exact h
  · rename_i g
    split at h
    · rename_i g2
      rw [if_neg (by omega), if_pos g2]
      exact h
    · cases h
theorem walkP_more {bs cs : List Int} : ∀ {t : List Mark} {k j : Nat}, walkP bs t k = some j → walkP (bs ++ cs) t k = some j
  | [], _, _, h => h
  | m :: t, k, j, h => by
    simp only [walkP] at h ⊢
    cases e : stepP bs m k with
    | none => rw [e] at h; cases h
    | some i =>
      rw [e] at h
      rw [stepP_more' e]
      exact walkP_more (t := t) h
theorem house_more {p : Int} {bs : List Int} {c : Int} (h : houseOk ⟨p, bs⟩) (hl : bs.length < 4) (hc : crowd p c) (h0 : c ≠ 0) : houseOk ⟨p, bs ++ [c]⟩ :=
  ⟨h.1, by show (bs ++ [c]).length ≤ 4; simp only [List.length_append, List.length_cons, List.length_nil]; omega, fun b hb => (List.mem_append.1 hb).elim (fun hb => h.2.2 b hb) fun hb => by rw [List.mem_singleton.1 hb]; exact ⟨hc, h0⟩⟩
theorem bad_more {p : Int} {bs : List Int} {c : Int} {r : ByteArray} (hh : houseOk ⟨p, bs ++ [c]⟩) (h : bad ⟨p, bs⟩ r = false) : bad ⟨p, bs ++ [c]⟩ r = false := by
  obtain ⟨t, ht⟩ := bad_term h
  obtain ⟨g1, g2, g3⟩ := (rdT_iff (by decide)).1 ht
  have : rdT 49 ⟨p, bs ++ [c]⟩ r = some t := (rdT_iff (by decide)).2 ⟨g1, ⟨hh, g2.2.1, walkP_more g2.2.2⟩, g3⟩
  unfold bad
  rw [this]
  rfl
theorem place_more {p : Int} {bs : List Int} {rs : List ByteArray} {c : Int} (h : placeOk ⟨p, bs, rs⟩) (hl : bs.length < 4) (hc : crowd p c) (h0 : c ≠ 0) : placeOk ⟨p, bs ++ [c], rs⟩ := by
  have hh := house_more (c := c) h.1 hl hc h0
  exact ⟨hh, h.2.1, fun r hr => bad_more hh (h.2.2 r hr)⟩
theorem place_first {p : Int} {bs : List Int} {rs : List ByteArray} (h : placeOk ⟨p, bs, rs⟩) : placeOk ⟨p, bs, rs.take 1⟩ := by
  have := h.2.1
  dsimp only at this
  refine ⟨h.1, ?_, fun r hr => h.2.2 r (List.mem_of_mem_take hr)⟩
  dsimp only
  rw [List.length_take]
  omega
theorem crowd_one {p : Int} (h : people p) : crowd p 1 := ⟨h, by decide, by have := pw_le h; omega⟩
theorem no_place : ¬ placeOk default := fun h => by
  have := h.1.1.1
  exact absurd this (by decide)
theorem take1_ext {l : List ByteArray} {i : Nat} (h : i < 1) : encS (l.getD (0 + i) ⟨#[]⟩) = encS ((l.take 1).getD i ⟨#[]⟩) := by
  rw [Nat.zero_add, List.getD_eq_getElem?_getD, List.getD_eq_getElem?_getD, List.getElem?_take_of_lt h]
def C117 : List AV → (AV → Prop) → Prop := con (X := List Int) (fun l => [slB l]) bytesI fun _ K => K (.bool true)
end Go.Proofs.YtahfdkdneojkmaaGreatDoor.Vc
end
section
/- Part UG: texts of places are read: the law. -/
namespace Go.Proofs.YtahfdkdneojkmaaGreatDoor.Vc
open Go.Proofs
set_option maxRecDepth 10000
set_option maxHeartbeats 4000000
def C218 := C214
theorem F218 : FF 16 C218 := by
  refine fitXE [(33, C214)] (by simp only [List.mem_cons, List.not_mem_nil, or_false]; rintro _ rfl; exact F214) [] (by simp) Tryz.f16 ⟨rfl, by decide +kernel, by decide +kernel⟩ (fun _ _ _ hk h => h.mono hk) ?_
  rintro s K hs ⟨h, hno⟩
  refine ⟨Nat.le_of_ble_eq_true rfl, ?_⟩
  repeat' ((conv => whnf); first | refine vA ?_ | with_reducible first | refine v8 ?_ | refine Sp.mk ?_ ?_ | refine vS ?_ | refine vR ?_ | refine vB ?_ | refine br_nt ?_ | refine br_tt ?_ | refine br_ff ?_ | refine vP ?_ | refine vQ ?_ | refine vT ?_ | refine vF ?_ | refine br_and ?_ | refine br_or ?_ | refine br_d (fun _ => ?_) fun _ => ?_ | refine vM (fun _ => ?_) fun _ => ?_)
  refine ⟨s, ?_, ⟨hs⟩, ?_⟩
  · repeat' ((conv => whnf); first | with_reducible exact True.intro | exact vW | with_reducible refine And.intro ?_ ?_)
  refine ⟨fun x q => ?_, fun q => ?_⟩
  · have h := h x q
    obtain ⟨p, bs, rs⟩ := x
    dsimp only [enPl, plC]
    repeat' ((conv => whnf); first | refine vA ?_ | with_reducible first | refine v8 ?_ | refine Sp.mk ?_ ?_ | refine vS ?_ | refine vR ?_ | refine vB ?_ | refine br_nt ?_ | refine br_tt ?_ | refine br_ff ?_ | refine vP ?_ | refine vQ ?_ | refine vT ?_ | refine vF ?_ | refine br_and ?_ | refine br_or ?_ | refine br_d (fun _ => ?_) fun _ => ?_ | refine vM (fun _ => ?_) fun _ => ?_)
    refine ⟨_, ?_, h⟩
    repeat' ((conv => whnf); first | with_reducible exact True.intro | exact vW | with_reducible refine And.intro ?_ ?_)
  · have h := hno q
    dsimp only [enPl, plC]
    repeat' ((conv => whnf); first | refine vA ?_ | with_reducible first | refine v8 ?_ | refine Sp.mk ?_ ?_ | refine vS ?_ | refine vR ?_ | refine vB ?_ | refine br_nt ?_ | refine br_tt ?_ | refine br_ff ?_ | refine vP ?_ | refine vQ ?_ | refine vT ?_ | refine vF ?_ | refine br_and ?_ | refine br_or ?_ | refine br_d (fun _ => ?_) fun _ => ?_ | refine vM (fun _ => ?_) fun _ => ?_)
    refine ⟨_, ?_, h⟩
    repeat' ((conv => whnf); first | with_reducible exact True.intro | exact vW | with_reducible refine And.intro ?_ ?_)
def C225 := C125
theorem F225 : FF 11 C225 := by
  refine fitX [] (by simp) [(26, C42), (25, C151)] (by simp only [List.mem_cons, List.not_mem_nil, or_false]; rintro _ (rfl | rfl) <;> first | exact F42 | exact F151) Tryz.f11 ⟨rfl, by decide +kernel, by decide +kernel⟩ (fun _ _ _ hk h y hy => hk _ (h y hy)) ?_
  rintro l K hl h
  refine ⟨Nat.le_of_ble_eq_true rfl, ?_⟩
  repeat' ((conv => whnf); first | refine vA ?_ | with_reducible first | refine v8 ?_ | refine Sp.mk ?_ ?_ | refine vS ?_ | refine vR ?_ | refine vB ?_ | refine br_nt ?_ | refine br_tt ?_ | refine br_ff ?_ | refine vP ?_ | refine vQ ?_ | refine vT ?_ | refine vF ?_ | refine br_and ?_ | refine br_or ?_ | refine br_d (fun _ => ?_) fun _ => ?_ | refine vM (fun _ => ?_) fun _ => ?_)
  refine ⟨_, _, [], [], rfl, ?_, ?_, l, rfl, rfl, ⟨hl⟩, ?_⟩
  · repeat' ((conv => whnf); first | with_reducible exact True.intro | exact vW | with_reducible refine And.intro ?_ ?_)
  · repeat' ((conv => whnf); first | with_reducible exact True.intro | exact vW | with_reducible refine And.intro ?_ ?_)
  intro b hb
  dsimp only
  repeat' ((conv => whnf); first | refine vA ?_ | with_reducible first | refine v8 ?_ | refine Sp.mk ?_ ?_ | refine vS ?_ | refine vR ?_ | refine vB ?_ | refine br_nt ?_ | refine br_tt ?_ | refine br_ff ?_ | refine vP ?_ | refine vQ ?_ | refine vT ?_ | refine vF ?_ | refine br_and ?_ | refine br_or ?_ | refine br_d (fun _ => ?_) fun _ => ?_ | refine vM (fun _ => ?_) fun _ => ?_)
  refine ⟨_, _, [1], [], rfl, ?_, ?_, (⟨b, 0⟩, 9), rfl, rfl, ⟨⟨hb.1, hb.2.1, by dsimp only; omega, by dsimp only; omega⟩, by unfold i64r; dsimp only; omega⟩, ?_⟩
  · repeat' ((conv => whnf); first | with_reducible exact True.intro | exact vW | with_reducible refine And.intro ?_ ?_)
  · repeat' ((conv => whnf); first | with_reducible exact True.intro | exact vW | with_reducible refine And.intro ?_ ?_)
  intro y p' _ _ hy
  repeat' ((conv => whnf); first | refine vA ?_ | with_reducible first | refine v8 ?_ | refine Sp.mk ?_ ?_ | refine vS ?_ | refine vR ?_ | refine vB ?_ | refine br_nt ?_ | refine br_tt ?_ | refine br_ff ?_ | refine vP ?_ | refine vQ ?_ | refine vT ?_ | refine vF ?_ | refine br_and ?_ | refine br_or ?_ | refine br_d (fun _ => ?_) fun _ => ?_ | refine vM (fun _ => ?_) fun _ => ?_)
  exact h y hy
def C228 : List AV → (AV → Prop) → Prop := con (X := List Int) (fun l => [slB l]) bytesI fun _ K => K (.bool true)
theorem F228 : FF 4 C228 := by
  refine fitE [(11, C225), (13, C142), (12, C143), (14, C126), (15, C22), (16, C218), (17, C137)] (by simp only [List.mem_cons, List.not_mem_nil, or_false]; rintro _ (rfl | rfl | rfl | rfl | rfl | rfl | rfl) <;> first | exact F225 | exact F142 | exact F143 | exact F126 | exact F22 | exact F218 | exact F137) Tryz.f4 ⟨rfl, by decide +kernel, by decide +kernel⟩ (fun _ _ _ hk h => hk _ h) ?_
  rintro l K hl h
  refine ⟨Nat.le_of_ble_eq_true rfl, ?_⟩
  have hll := hl.2
  repeat' ((conv => whnf); first | refine vA ?_ | with_reducible first | refine v8 ?_ | refine Sp.mk ?_ ?_ | refine vS ?_ | refine vR ?_ | refine vB ?_ | refine br_nt ?_ | refine br_tt ?_ | refine br_ff ?_ | refine vP ?_ | refine vQ ?_ | refine vT ?_ | refine vF ?_ | refine br_and ?_ | refine br_or ?_ | refine br_d (fun _ => ?_) fun _ => ?_ | refine vM (fun _ => ?_) fun _ => ?_)
  · exact h
  refine ⟨l, ?_, ⟨hl⟩, ?_⟩
  · repeat' ((conv => whnf); first | with_reducible exact True.intro | exact vW | with_reducible refine And.intro ?_ ?_)
  rintro ⟨p, bs, rs⟩ hy
  have hI := hy.I
  dsimp only [enPl, plC]
  repeat' ((conv => whnf); first | refine vA ?_ | with_reducible first | refine v8 ?_ | refine Sp.mk ?_ ?_ | refine vS ?_ | refine vR ?_ | refine vB ?_ | refine br_nt ?_ | refine br_tt ?_ | refine br_ff ?_ | refine vP ?_ | refine vQ ?_ | refine vT ?_ | refine vF ?_ | refine br_and ?_ | refine br_or ?_ | refine br_d (fun _ => ?_) fun _ => ?_ | refine vM (fun _ => ?_) fun _ => ?_)
  refine ⟨⟨p, bs, rs⟩, ?_, ⟨hI⟩, ?_⟩
  · repeat' ((conv => whnf); first | with_reducible exact True.intro | exact vW | with_reducible refine And.intro ?_ ?_)
  repeat' ((conv => whnf); first | refine vA ?_ | with_reducible first | refine v8 ?_ | refine Sp.mk ?_ ?_ | refine vS ?_ | refine vR ?_ | refine vB ?_ | refine br_nt ?_ | refine br_tt ?_ | refine br_ff ?_ | refine vP ?_ | refine vQ ?_ | refine vT ?_ | refine vF ?_ | refine br_and ?_ | refine br_or ?_ | refine br_d (fun _ => ?_) fun _ => ?_ | refine vM (fun _ => ?_) fun _ => ?_)
  refine ⟨⟨p, bs, rs⟩, ?_, ⟨hI⟩, ?_⟩
  · repeat' ((conv => whnf); first | with_reducible exact True.intro | exact vW | with_reducible refine And.intro ?_ ?_)
  by_cases hO : placeOk ⟨p, bs, rs⟩
  · have e0 : ptext ⟨p, bs, rs⟩ = plT ⟨p, bs, rs⟩ := if_pos hO
    have hpt : isPt (plT ⟨p, bs, rs⟩) ⟨p, bs, rs⟩ := ⟨hO, rfl⟩
    have hne := isPt_ne hpt
    have hsz := plT_size hO
    dsimp only
    rw [e0]
    repeat' ((conv => whnf); first | refine vA ?_ | with_reducible first | refine v8 ?_ | refine Sp.mk ?_ ?_ | refine vS ?_ | refine vR ?_ | refine vB ?_ | refine br_nt ?_ | refine br_tt ?_ | refine br_ff ?_ | refine vP ?_ | refine vQ ?_ | refine vT ?_ | refine vF ?_ | refine br_and ?_ | refine br_or ?_ | refine br_d (fun _ => ?_) fun _ => ?_ | refine vM (fun _ => ?_) fun _ => ?_)
    · refine ⟨plT ⟨p, bs, rs⟩, ?_, ⟨by omega⟩, ?_⟩
      · repeat' ((conv => whnf); first | with_reducible exact True.intro | exact vW | with_reducible refine And.intro ?_ ?_)
      refine ⟨fun x q => ?_, fun q => (q ⟨_, hpt⟩).elim⟩
      obtain rfl := isPt_one q hpt
      dsimp only [enPl, plC]
      repeat' ((conv => whnf); first | refine vA ?_ | with_reducible first | refine v8 ?_ | refine Sp.mk ?_ ?_ | refine vS ?_ | refine vR ?_ | refine vB ?_ | refine br_nt ?_ | refine br_tt ?_ | refine br_ff ?_ | refine vP ?_ | refine vQ ?_ | refine vT ?_ | refine vF ?_ | refine br_and ?_ | refine br_or ?_ | refine br_d (fun _ => ?_) fun _ => ?_ | refine vM (fun _ => ?_) fun _ => ?_)
      refine ⟨⟨p, bs, rs⟩, ?_, ⟨hy.len⟩, ?_⟩
      · repeat' ((conv => whnf); first | with_reducible exact True.intro | exact vW | with_reducible refine And.intro ?_ ?_)
      repeat' ((conv => whnf); first | refine vA ?_ | with_reducible first | refine v8 ?_ | refine Sp.mk ?_ ?_ | refine vS ?_ | refine vR ?_ | refine vB ?_ | refine br_nt ?_ | refine br_tt ?_ | refine br_ff ?_ | refine vP ?_ | refine vQ ?_ | refine vT ?_ | refine vF ?_ | refine br_and ?_ | refine br_or ?_ | refine br_d (fun _ => ?_) fun _ => ?_ | refine vM (fun _ => ?_) fun _ => ?_)
      exact h
    · rename_i q
      exact absurd rfl q
  · have e0 : ptext ⟨p, bs, rs⟩ = ⟨#[]⟩ := if_neg hO
    dsimp only
    rw [e0]
    repeat' ((conv => whnf); first | refine vA ?_ | with_reducible first | refine v8 ?_ | refine Sp.mk ?_ ?_ | refine vS ?_ | refine vR ?_ | refine vB ?_ | refine br_nt ?_ | refine br_tt ?_ | refine br_ff ?_ | refine vP ?_ | refine vQ ?_ | refine vT ?_ | refine vF ?_ | refine br_and ?_ | refine br_or ?_ | refine br_d (fun _ => ?_) fun _ => ?_ | refine vM (fun _ => ?_) fun _ => ?_)
    · refine ⟨⟨p, bs, rs⟩, ?_, ⟨hI⟩, ?_⟩
      · repeat' ((conv => whnf); first | with_reducible exact True.intro | exact vW | with_reducible refine And.intro ?_ ?_)
      repeat' ((conv => whnf); first | refine vA ?_ | with_reducible first | refine v8 ?_ | refine Sp.mk ?_ ?_ | refine vS ?_ | refine vR ?_ | refine vB ?_ | refine br_nt ?_ | refine br_tt ?_ | refine br_ff ?_ | refine vP ?_ | refine vQ ?_ | refine vT ?_ | refine vF ?_ | refine br_and ?_ | refine br_or ?_ | refine br_d (fun _ => ?_) fun _ => ?_ | refine vM (fun _ => ?_) fun _ => ?_)
      refine ⟨(), ?_, ⟨trivial⟩, ?_⟩
      · repeat' ((conv => whnf); first | with_reducible exact True.intro | exact vW | with_reducible refine And.intro ?_ ?_)
      repeat' ((conv => whnf); first | refine vA ?_ | with_reducible first | refine v8 ?_ | refine Sp.mk ?_ ?_ | refine vS ?_ | refine vR ?_ | refine vB ?_ | refine br_nt ?_ | refine br_tt ?_ | refine br_ff ?_ | refine vP ?_ | refine vQ ?_ | refine vT ?_ | refine vF ?_ | refine br_and ?_ | refine br_or ?_ | refine br_d (fun _ => ?_) fun _ => ?_ | refine vM (fun _ => ?_) fun _ => ?_)
      exact h
    · rename_i q
      exact absurd rfl q
end Go.Proofs.YtahfdkdneojkmaaGreatDoor.Vc
end
section
/- Part UM: marks in memory of one's own. -/
namespace Go.Proofs.YtahfdkdneojkmaaGreatDoor.Vc
open Go.Proofs
set_option maxRecDepth 10000
set_option maxHeartbeats 4000000
def digT : Nat → Nat → ByteArray → ByteArray
  | 0, _, acc => acc
  | k + 1, n, acc => if n = 0 then acc else digT k (n / 10) (⟨#[UInt8.ofNat (48 + n % 10)]⟩ ++ acc)
/-- The text of a mark. -/
def mkT (n : Int) : ByteArray := if n ≤ 0 then ⟨#[109, 48]⟩ else ⟨#[109]⟩ ++ digT 40 n.toNat ⟨#[]⟩
def mksI (n : Int) (k : Nat) : List Int := (List.range k).map fun (i : Nat) => n + (i : Int)
def mksS (n : Int) (k : Nat) : List ByteArray := (List.range k).map fun (i : Nat) => mkT (n + (i : Int))
theorem mksI_len (n : Int) (k : Nat) : (mksI n k).length = k := by simp [mksI]
theorem mksS_len (n : Int) (k : Nat) : (mksS n k).length = k := by simp [mksS]
theorem mksI_get {n : Int} {k i : Nat} (h : i < k) : (mksI n k).getD i 0 = n + (i : Int) := by
  unfold mksI
  rw [List.getD_eq_getElem?_getD, List.getElem?_map, List.getElem?_range h]
  rfl
theorem mksS_get {n : Int} {k i : Nat} (h : i < k) : (mksS n k).getD i ⟨#[]⟩ = mkT (n + (i : Int)) := by
  unfold mksS
  rw [List.getD_eq_getElem?_getD, List.getElem?_map, List.getElem?_range h]
  rfl
structure Mk where
  l : List Int
  n : Int
def mixF (i : Nat) (f g : Nat → List AV) : Nat → List AV := fun j => cond (Nat.blt j i) (f j) (g j)
theorem mix_at {i : Nat} {f g : Nat → List AV} : mixF i f g i = g i := by
  have : Nat.blt i i = false := by
    cases h : Nat.blt i i with
    | false => rfl
    | true => exact absurd (Nat.le_of_ble_eq_true h) (Nat.not_succ_le_self _)
  unfold mixF
  rw [this]
  rfl
theorem mix_set {i : Nat} {f g : Nat → List AV} {v : List AV} (hv : v = f i) (j : Nat) : mixF (i + 1) f g j = setF (mixF i f g) i v j := by
  unfold setF mixF
  rcases Nat.lt_trichotomy j i with h | rfl | h
  · have h1 : Nat.blt j (i + 1) = true := Nat.ble_eq_true_of_le (by omega)
    have h2 : Nat.blt j i = true := Nat.ble_eq_true_of_le h
    have h3 : Nat.beq j i = false := by cases e : Nat.beq j i with | false => rfl | true => have := Nat.eq_of_beq_eq_true e; omega
    rw [h1, h2, h3]
    rfl
  · have h1 : Nat.blt j (j + 1) = true := Nat.ble_eq_true_of_le (Nat.le_refl _)
    have h3 : Nat.beq j j = true := Nat.beq_refl j
    rw [h1, h3, hv]
    rfl
  · have h1 : Nat.blt j (i + 1) = false := by cases e : Nat.blt j (i + 1) with | false => rfl | true => have := Nat.le_of_ble_eq_true e; omega
    have h2 : Nat.blt j i = false := by cases e : Nat.blt j i with | false => rfl | true => have := Nat.le_of_ble_eq_true e; omega
    have h3 : Nat.beq j i = false := by cases e : Nat.beq j i with | false => rfl | true => have := Nat.eq_of_beq_eq_true e; omega
    rw [h1, h2, h3]
    rfl
theorem mix_lt {i j : Nat} {f g : Nat → List AV} (h : j < i) : mixF i f g j = f j := by
  unfold mixF
  rw [show Nat.blt j i = true from Nat.ble_eq_true_of_le h]
  rfl
theorem mix_step {i N : Nat} {f g : Nat → List AV} {v : AV} (hv : setCells (g i) 0 [v] = f i) : N = N ∧ ∀ j, j < N → mixF (i + 1) f g j = setF (mixF i f g) (0 + i) (setCells (mixF i f g (0 + i)) 0 [v]) j := ⟨rfl, fun j _ => by rw [Nat.zero_add, mix_at, hv]; exact mix_set rfl j⟩
def C185 : GC := conG (X := Mk) (fun x => [.row 0 1 0 x.l.length, .int .i64 x.n]) (fun x => [.row 1 x.l.length fun i => encI (x.l.getD i 0)]) (fun x => 0 ≤ x.n ∧ x.n ≤ 1000000000000 ∧ x.l.length ≤ 1000000000000) fun x K => K (.int .i64 (x.n + x.l.length)) [.row 1 x.l.length fun i => encI ((mksI x.n x.l.length).getD i 0)]
theorem F185 : GG 64 C185 := by
  refine fitG [] (by simp) [] (by simp) Tryz.f64 ⟨rfl, by decide +kernel, by decide +kernel⟩ (by intro x K K2 hk h; (try dsimp only at h ⊢); intros; apply hk; first | exact h | (apply h <;> assumption)) ?_
  rintro ⟨l, n⟩ K ⟨h1, h2, h3⟩ h
  refine ⟨Nat.le_of_ble_eq_true rfl, ?_⟩
  dsimp only at h h1 h2 h3 ⊢
  repeat' ((conv => whnf); first | refine vA ?_ | with_reducible first | refine v8 ?_ | refine Sp.mk ?_ ?_ | refine vS ?_ | refine vR ?_ | refine vB ?_ | refine br_nt ?_ | refine br_tt ?_ | refine br_ff ?_ | refine vP ?_ | refine vQ ?_ | refine vT ?_ | refine vF ?_ | refine br_and ?_ | refine br_or ?_ | refine br_d (fun _ => ?_) fun _ => ?_ | refine vM (fun _ => ?_) fun _ => ?_)
  refine Lp.mk ⟨Nat, fun i => [(0, .row 0 1 0 l.length), (1, .int .i64 (n + i)), (5, .int .i64 i)], fun i => [.row 1 l.length (mixF i (fun j => encI (n + (j : Int))) fun j => encI (l.getD j 0))], fun i => i ≤ l.length, fun i => l.length - i, ⟨0, Nat.zero_le _, ⟨⟨[some 0], [], rfl, rfl, ?_, ?_⟩⟩⟩, ?_⟩
  · repeat' ((conv => whnf); first | with_reducible exact True.intro | exact vW | with_reducible refine And.intro ?_ ?_)
  · repeat' ((conv => whnf); first | with_reducible exact True.intro | exact vW | with_reducible refine And.intro ?_ ?_)
  intro i i1
  dsimp only
  repeat' ((conv => whnf); first | refine vA ?_ | with_reducible first | refine v8 ?_ | refine Sp.mk ?_ ?_ | refine vS ?_ | refine vR ?_ | refine vB ?_ | refine br_nt ?_ | refine br_tt ?_ | refine br_ff ?_ | refine vP ?_ | refine vQ ?_ | refine vT ?_ | refine vF ?_ | refine br_and ?_ | refine br_or ?_ | refine br_d (fun _ => ?_) fun _ => ?_ | refine vM (fun _ => ?_) fun _ => ?_)
  · refine ⟨i + 1, by omega, by omega, ⟨⟨[some 0], [], rfl, rfl, ?_, ?_⟩⟩⟩
    · repeat' ((conv => whnf); first | with_reducible exact True.intro | exact vW | with_reducible refine And.intro ?_ ?_)
    · repeat' ((conv => whnf); first | with_reducible exact True.intro | exact vW | with_reducible refine And.intro ?_ ?_)
      all_goals exact Chk.mk (mix_step rfl)
  · obtain rfl : i = l.length := by omega
    refine ⟨_, _, [some 0], [], rfl, rfl, ?_, ?_, h⟩
    · repeat' ((conv => whnf); first | with_reducible exact True.intro | exact vW | with_reducible refine And.intro ?_ ?_)
    · repeat' ((conv => whnf); first | with_reducible exact True.intro | exact vW | with_reducible refine And.intro ?_ ?_)
      all_goals exact Chk.mk ⟨rfl, fun j hj => by show encI _ = _; rw [mksI_get hj, mix_lt hj]⟩
/-- Marks that are held. -/
structure Hd where
  k : Nat
  n : Int
def C189 : List AV → (AV → Prop) → Prop := con (X := Hd) (fun x => [slI (mksI x.n x.k), .int .i64 x.n]) (fun x => 0 ≤ x.n ∧ x.n ≤ 1000000000000 ∧ x.k ≤ 1000000000000) fun x K => K (.int .i64 (x.n + x.k))
theorem F189 : FF 66 C189 := by
  refine fitE [] (by simp) Tryz.f66 ⟨rfl, by decide +kernel, by decide +kernel⟩ (fun _ _ _ hk h => hk _ h) ?_
  rintro ⟨k, n⟩ K ⟨h1, h2, h3⟩ h
  refine ⟨Nat.le_of_ble_eq_true rfl, ?_⟩
  dsimp only at h h1 h2 h3 ⊢
  have hl := mksI_len n k
  obtain ⟨l, hle⟩ : ∃ l, mksI n k = l := ⟨_, rfl⟩
  rw [hle] at hl ⊢
  have hg : ∀ i : Nat, i < k → l.getD i 0 = n + i := fun i hi => by rw [← hle]; exact mksI_get hi
  repeat' ((conv => whnf); first | refine vA ?_ | with_reducible first | refine v8 ?_ | refine Sp.mk ?_ ?_ | refine vS ?_ | refine vR ?_ | refine vB ?_ | refine br_nt ?_ | refine br_tt ?_ | refine br_ff ?_ | refine vP ?_ | refine vQ ?_ | refine vT ?_ | refine vF ?_ | refine br_and ?_ | refine br_or ?_ | refine br_d (fun _ => ?_) fun _ => ?_ | refine vM (fun _ => ?_) fun _ => ?_)
  refine Lp.mk ⟨Nat, fun i => [(0, slI l), (1, .int .i64 (n + i)), (5, .int .i64 i)], fun _ => [], fun i => i ≤ l.length, fun i => l.length - i, ⟨0, Nat.zero_le _, ⟨⟨[], [], rfl, rfl, ?_, ?_⟩⟩⟩, ?_⟩
  · repeat' ((conv => whnf); first | with_reducible exact True.intro | exact vW | with_reducible refine And.intro ?_ ?_)
  · repeat' ((conv => whnf); first | with_reducible exact True.intro | exact vW | with_reducible refine And.intro ?_ ?_)
  intro i i1
  dsimp only
  by_cases hi : i < l.length
  · have hgi := hg i (by omega)
    have hgi' : l.getD (i : Int).toNat 0 = n + i := hgi
    repeat' ((conv => whnf); first | refine vA ?_ | with_reducible first | refine v8 ?_ | refine Sp.mk ?_ ?_ | refine vS ?_ | refine vR ?_ | refine vB ?_ | refine br_nt ?_ | refine br_tt ?_ | refine br_ff ?_ | refine vP ?_ | refine vQ ?_ | refine vT ?_ | refine vF ?_ | refine br_and ?_ | refine br_or ?_ | refine br_d (fun _ => ?_) fun _ => ?_ | refine vM (fun _ => ?_) fun _ => ?_)
    · refine ⟨i + 1, by omega, by omega, ⟨⟨[], [], rfl, rfl, ?_, ?_⟩⟩⟩
      · repeat' ((conv => whnf); first | with_reducible exact True.intro | exact vW | with_reducible refine And.intro ?_ ?_)
      · repeat' ((conv => whnf); first | with_reducible exact True.intro | exact vW | with_reducible refine And.intro ?_ ?_)
  · obtain rfl : i = l.length := by omega
    rw [← hl] at h
    repeat' ((conv => whnf); first | refine vA ?_ | with_reducible first | refine v8 ?_ | refine Sp.mk ?_ ?_ | refine vS ?_ | refine vR ?_ | refine vB ?_ | refine br_nt ?_ | refine br_tt ?_ | refine br_ff ?_ | refine vP ?_ | refine vQ ?_ | refine vT ?_ | refine vF ?_ | refine br_and ?_ | refine br_or ?_ | refine br_d (fun _ => ?_) fun _ => ?_ | refine vM (fun _ => ?_) fun _ => ?_)
    exact h
structure Dg where
  m : Nat
  k : Nat
  acc : ByteArray
def C186 : List AV → (AV → Prop) → Prop := con (X := Int) (fun n => [.int .i64 n]) (fun n => 0 ≤ n ∧ n ≤ 4000000000000) fun n K => K (.str (mkT n))
theorem F186 : FF 65 C186 := by
  refine fitE [] (by simp) Tryz.f65 ⟨rfl, by decide +kernel, by decide +kernel⟩ (fun _ _ _ hk h => hk _ h) ?_
  rintro n K ⟨h1, h2⟩ h
  refine ⟨Nat.le_of_ble_eq_true rfl, ?_⟩
  unfold mkT at h
  by_cases h0 : n ≤ 0
  · rw [if_pos h0] at h
    repeat' ((conv => whnf); first | refine vA ?_ | with_reducible first | refine v8 ?_ | refine Sp.mk ?_ ?_ | refine vS ?_ | refine vR ?_ | refine vB ?_ | refine br_nt ?_ | refine br_tt ?_ | refine br_ff ?_ | refine vP ?_ | refine vQ ?_ | refine vT ?_ | refine vF ?_ | refine br_and ?_ | refine br_or ?_ | refine br_d (fun _ => ?_) fun _ => ?_ | refine vM (fun _ => ?_) fun _ => ?_)
    exact h
  rw [if_neg h0] at h
  have h40 : (4000000000000 : Nat) < 10 ^ 40 := by decide
  repeat' ((conv => whnf); first | refine vA ?_ | with_reducible first | refine v8 ?_ | refine Sp.mk ?_ ?_ | refine vS ?_ | refine vR ?_ | refine vB ?_ | refine br_nt ?_ | refine br_tt ?_ | refine br_ff ?_ | refine vP ?_ | refine vQ ?_ | refine vT ?_ | refine vF ?_ | refine br_and ?_ | refine br_or ?_ | refine br_d (fun _ => ?_) fun _ => ?_ | refine vM (fun _ => ?_) fun _ => ?_)
  refine Lp.mk ⟨Dg, fun x => [(0, .int .i64 x.m), (3, .str x.acc)], fun _ => [], fun x => digT x.k x.m x.acc = digT 40 n.toNat ⟨#[]⟩ ∧ x.m < 10 ^ x.k ∧ x.acc.size + x.k ≤ 40 ∧ x.m ≤ 4000000000000, fun x => x.m, ⟨⟨n.toNat, 40, ⟨#[]⟩⟩, ⟨rfl, by dsimp only; omega, Nat.le_refl _, by dsimp only; omega⟩, ⟨⟨[], [], rfl, rfl, ?_, ?_⟩⟩⟩, ?_⟩
  · repeat' ((conv => whnf); first | with_reducible exact True.intro | exact vW | with_reducible refine And.intro ?_ ?_)
    all_goals exact Chk.mk (by dsimp only; omega)
  · repeat' ((conv => whnf); first | with_reducible exact True.intro | exact vW | with_reducible refine And.intro ?_ ?_)
  rintro ⟨m, k, acc⟩ ⟨i1, i2, i3, i4⟩
  dsimp only at i1 i2 i3 i4 ⊢
  by_cases hm : 0 < m
  · cases k with
    | zero => simp at i2; omega
    | succ k =>
      have e1 : (m : Int).tmod 10 = (m % 10 : Nat) := by rw [Int.tmod_eq_emod_of_nonneg (by omega)]; omega
      have e2 : (m : Int).tdiv 10 = (m / 10 : Nat) := by rw [Int.tdiv_eq_ediv_of_nonneg (by omega)]; omega
      repeat' ((conv => whnf); first | refine vA ?_ | with_reducible first | refine v8 ?_ | refine Sp.mk ?_ ?_ | refine vS ?_ | refine vR ?_ | refine vB ?_ | refine br_nt ?_ | refine br_tt ?_ | refine br_ff ?_ | refine vP ?_ | refine vQ ?_ | refine vT ?_ | refine vF ?_ | refine br_and ?_ | refine br_or ?_ | refine br_d (fun _ => ?_) fun _ => ?_ | refine vM (fun _ => ?_) fun _ => ?_)
      (conv => whnf)
      rw [e1]
      repeat' ((conv => whnf); first | refine vA ?_ | with_reducible first | refine v8 ?_ | refine Sp.mk ?_ ?_ | refine vS ?_ | refine vR ?_ | refine vB ?_ | refine br_nt ?_ | refine br_tt ?_ | refine br_ff ?_ | refine vP ?_ | refine vQ ?_ | refine vT ?_ | refine vF ?_ | refine br_and ?_ | refine br_or ?_ | refine br_d (fun _ => ?_) fun _ => ?_ | refine vM (fun _ => ?_) fun _ => ?_)
      refine ⟨Chk.mk (by rw [str1]; show 1 + acc.size ≤ _; omega), ?_⟩
      rw [str1]
      have e3 : (48 + ((m % 10 : Nat) : Int)).toNat = 48 + m % 10 := by omega
      rw [e3]
      repeat' ((conv => whnf); first | refine vA ?_ | with_reducible first | refine v8 ?_ | refine Sp.mk ?_ ?_ | refine vS ?_ | refine vR ?_ | refine vB ?_ | refine br_nt ?_ | refine br_tt ?_ | refine br_ff ?_ | refine vP ?_ | refine vQ ?_ | refine vT ?_ | refine vF ?_ | refine br_and ?_ | refine br_or ?_ | refine br_d (fun _ => ?_) fun _ => ?_ | refine vM (fun _ => ?_) fun _ => ?_)
      (conv => whnf)
      try rw [e2]
      repeat' ((conv => whnf); first | refine vA ?_ | with_reducible first | refine v8 ?_ | refine Sp.mk ?_ ?_ | refine vS ?_ | refine vR ?_ | refine vB ?_ | refine br_nt ?_ | refine br_tt ?_ | refine br_ff ?_ | refine vP ?_ | refine vQ ?_ | refine vT ?_ | refine vF ?_ | refine br_and ?_ | refine br_or ?_ | refine br_d (fun _ => ?_) fun _ => ?_ | refine vM (fun _ => ?_) fun _ => ?_)
      have e4 : digT k (m / 10) (⟨#[UInt8.ofNat (48 + m % 10)]⟩ ++ acc) = digT 40 n.toNat ⟨#[]⟩ := by
        rw [← i1]
        show _ = if m = 0 then acc else _
        rw [if_neg (by omega)]
      refine ⟨⟨m / 10, k, ⟨#[UInt8.ofNat (48 + m % 10)]⟩ ++ acc⟩, ⟨e4, by rw [Nat.pow_succ] at i2; dsimp only; omega, by rw [ByteArray.size_append]; show 1 + acc.size + k ≤ 40; omega, by dsimp only; omega⟩, by dsimp only; omega, ⟨⟨[], [], rfl, rfl, ?_, ?_⟩⟩⟩
      · repeat' ((conv => whnf); first | with_reducible exact True.intro | exact vW | with_reducible refine And.intro ?_ ?_)
      · repeat' ((conv => whnf); first | with_reducible exact True.intro | exact vW | with_reducible refine And.intro ?_ ?_)
  · obtain rfl : m = 0 := by omega
    have e : digT k 0 acc = acc := by cases k <;> rfl
    rw [e] at i1
    rw [← i1] at h
    repeat' ((conv => whnf); first | refine vA ?_ | with_reducible first | refine v8 ?_ | refine Sp.mk ?_ ?_ | refine vS ?_ | refine vR ?_ | refine vB ?_ | refine br_nt ?_ | refine br_tt ?_ | refine br_ff ?_ | refine vP ?_ | refine vQ ?_ | refine vT ?_ | refine vF ?_ | refine br_and ?_ | refine br_or ?_ | refine br_d (fun _ => ?_) fun _ => ?_ | refine vM (fun _ => ?_) fun _ => ?_)
    refine ⟨⟨by show 1 + acc.size ≤ _; omega⟩, ?_⟩
    repeat' ((conv => whnf); first | refine vA ?_ | with_reducible first | refine v8 ?_ | refine Sp.mk ?_ ?_ | refine vS ?_ | refine vR ?_ | refine vB ?_ | refine br_nt ?_ | refine br_tt ?_ | refine br_ff ?_ | refine vP ?_ | refine vQ ?_ | refine vT ?_ | refine vF ?_ | refine br_and ?_ | refine br_or ?_ | refine br_d (fun _ => ?_) fun _ => ?_ | refine vM (fun _ => ?_) fun _ => ?_)
    exact h
structure Ms where
  l : List ByteArray
  n : Int
def C169 : GC := conG (X := Ms) (fun x => [.row 0 1 0 x.l.length, .int .i64 x.n]) (fun x => [.row 1 x.l.length fun i => encS (x.l.getD i ⟨#[]⟩)]) (fun x => 0 ≤ x.n ∧ x.n ≤ 2000000000000 ∧ x.l.length ≤ 1000000000000) fun x K => K (.int .i64 (x.n + x.l.length)) [.row 1 x.l.length fun i => encS ((mksS x.n x.l.length).getD i ⟨#[]⟩)]
theorem F169 : GG 41 C169 := by
  refine fitG [(65, C186)] (by simp only [List.mem_cons, List.not_mem_nil, or_false]; rintro _ rfl <;> first | exact F186) [] (by simp) Tryz.f41 ⟨rfl, by decide +kernel, by decide +kernel⟩ (by intro x K K2 hk h; (try dsimp only at h ⊢); intros; apply hk; first | exact h | (apply h <;> assumption)) ?_
  rintro ⟨l, n⟩ K ⟨h1, h2, h3⟩ h
  refine ⟨Nat.le_of_ble_eq_true rfl, ?_⟩
  dsimp only at h h1 h2 h3 ⊢
  repeat' ((conv => whnf); first | refine vA ?_ | with_reducible first | refine v8 ?_ | refine Sp.mk ?_ ?_ | refine vS ?_ | refine vR ?_ | refine vB ?_ | refine br_nt ?_ | refine br_tt ?_ | refine br_ff ?_ | refine vP ?_ | refine vQ ?_ | refine vT ?_ | refine vF ?_ | refine br_and ?_ | refine br_or ?_ | refine br_d (fun _ => ?_) fun _ => ?_ | refine vM (fun _ => ?_) fun _ => ?_)
  refine Lp.mk ⟨Nat, fun i => [(0, .row 0 1 0 l.length), (1, .int .i64 (n + i)), (5, .int .i64 i)], fun i => [.row 1 l.length (mixF i (fun j => encS (mkT (n + (j : Int)))) fun j => encS (l.getD j ⟨#[]⟩))], fun i => i ≤ l.length, fun i => l.length - i, ⟨0, Nat.zero_le _, ⟨⟨[some 0], [], rfl, rfl, ?_, ?_⟩⟩⟩, ?_⟩
  · repeat' ((conv => whnf); first | with_reducible exact True.intro | exact vW | with_reducible refine And.intro ?_ ?_)
  · repeat' ((conv => whnf); first | with_reducible exact True.intro | exact vW | with_reducible refine And.intro ?_ ?_)
  intro i i1
  dsimp only
  repeat' ((conv => whnf); first | refine vA ?_ | with_reducible first | refine v8 ?_ | refine Sp.mk ?_ ?_ | refine vS ?_ | refine vR ?_ | refine vB ?_ | refine br_nt ?_ | refine br_tt ?_ | refine br_ff ?_ | refine vP ?_ | refine vQ ?_ | refine vT ?_ | refine vF ?_ | refine br_and ?_ | refine br_or ?_ | refine br_d (fun _ => ?_) fun _ => ?_ | refine vM (fun _ => ?_) fun _ => ?_)
  · refine ⟨n + i, ?_, ⟨by omega, by omega⟩, ?_⟩
    · repeat' ((conv => whnf); first | with_reducible exact True.intro | exact vW | with_reducible refine And.intro ?_ ?_)
    repeat' ((conv => whnf); first | refine vA ?_ | with_reducible first | refine v8 ?_ | refine Sp.mk ?_ ?_ | refine vS ?_ | refine vR ?_ | refine vB ?_ | refine br_nt ?_ | refine br_tt ?_ | refine br_ff ?_ | refine vP ?_ | refine vQ ?_ | refine vT ?_ | refine vF ?_ | refine br_and ?_ | refine br_or ?_ | refine br_d (fun _ => ?_) fun _ => ?_ | refine vM (fun _ => ?_) fun _ => ?_)
    refine ⟨i + 1, by omega, by omega, ⟨⟨[some 0], [], rfl, rfl, ?_, ?_⟩⟩⟩
    · repeat' ((conv => whnf); first | with_reducible exact True.intro | exact vW | with_reducible refine And.intro ?_ ?_)
    · repeat' ((conv => whnf); first | with_reducible exact True.intro | exact vW | with_reducible refine And.intro ?_ ?_)
      all_goals exact Chk.mk (mix_step rfl)
  · obtain rfl : i = l.length := by omega
    refine ⟨_, _, [some 0], [], rfl, rfl, ?_, ?_, h⟩
    · repeat' ((conv => whnf); first | with_reducible exact True.intro | exact vW | with_reducible refine And.intro ?_ ?_)
    · repeat' ((conv => whnf); first | with_reducible exact True.intro | exact vW | with_reducible refine And.intro ?_ ?_)
      all_goals exact Chk.mk ⟨rfl, fun j hj => by show encS _ = _; rw [mksS_get hj, mix_lt hj]⟩
def C188 : List AV → (AV → Prop) → Prop := con (X := Hd) (fun x => [slS (mksS x.n x.k), .int .i64 x.n]) (fun x => 0 ≤ x.n ∧ x.n ≤ 2000000000000 ∧ x.k ≤ 1000000000000) fun x K => K (.int .i64 (x.n + x.k))
theorem F188 : FF 43 C188 := by
  refine fitE [(65, C186)] (by simp only [List.mem_cons, List.not_mem_nil, or_false]; rintro _ rfl <;> first | exact F186) Tryz.f43 ⟨rfl, by decide +kernel, by decide +kernel⟩ (fun _ _ _ hk h => hk _ h) ?_
  rintro ⟨k, n⟩ K ⟨h1, h2, h3⟩ h
  refine ⟨Nat.le_of_ble_eq_true rfl, ?_⟩
  dsimp only at h h1 h2 h3 ⊢
  have hl := mksS_len n k
  obtain ⟨l, hle⟩ : ∃ l, mksS n k = l := ⟨_, rfl⟩
  rw [hle] at hl ⊢
  have hg : ∀ i : Nat, i < k → l.getD i ⟨#[]⟩ = mkT (n + i) := fun i hi => by rw [← hle]; exact mksS_get hi
  repeat' ((conv => whnf); first | refine vA ?_ | with_reducible first | refine v8 ?_ | refine Sp.mk ?_ ?_ | refine vS ?_ | refine vR ?_ | refine vB ?_ | refine br_nt ?_ | refine br_tt ?_ | refine br_ff ?_ | refine vP ?_ | refine vQ ?_ | refine vT ?_ | refine vF ?_ | refine br_and ?_ | refine br_or ?_ | refine br_d (fun _ => ?_) fun _ => ?_ | refine vM (fun _ => ?_) fun _ => ?_)
  refine Lp.mk ⟨Nat, fun i => [(0, slS l), (1, .int .i64 (n + i)), (5, .int .i64 i)], fun _ => [], fun i => i ≤ l.length, fun i => l.length - i, ⟨0, Nat.zero_le _, ⟨⟨[], [], rfl, rfl, ?_, ?_⟩⟩⟩, ?_⟩
  · repeat' ((conv => whnf); first | with_reducible exact True.intro | exact vW | with_reducible refine And.intro ?_ ?_)
  · repeat' ((conv => whnf); first | with_reducible exact True.intro | exact vW | with_reducible refine And.intro ?_ ?_)
  intro i i1
  dsimp only
  by_cases hi : i < l.length
  · have hgi := hg i (by omega)
    have hgi' : l.getD (i : Int).toNat ⟨#[]⟩ = mkT (n + i) := hgi
    repeat' ((conv => whnf); first | refine vA ?_ | with_reducible first | refine v8 ?_ | refine Sp.mk ?_ ?_ | refine vS ?_ | refine vR ?_ | refine vB ?_ | refine br_nt ?_ | refine br_tt ?_ | refine br_ff ?_ | refine vP ?_ | refine vQ ?_ | refine vT ?_ | refine vF ?_ | refine br_and ?_ | refine br_or ?_ | refine br_d (fun _ => ?_) fun _ => ?_ | refine vM (fun _ => ?_) fun _ => ?_)
    refine Dr.mk ⟨(.rd 0 (.rd 1 (.rd 2 (.rd 3 (.rd 4 (.ef 5 (.rd 6 .dn) .no)))))), by decide +kernel, ?_⟩
    repeat' ((conv => whnf); first | refine vA ?_ | with_reducible first | refine v8 ?_ | refine Sp.mk ?_ ?_ | refine vS ?_ | refine vR ?_ | refine vB ?_ | refine br_nt ?_ | refine br_tt ?_ | refine br_ff ?_ | refine vP ?_ | refine vQ ?_ | refine vT ?_ | refine vF ?_ | refine br_and ?_ | refine br_or ?_ | refine br_d (fun _ => ?_) fun _ => ?_ | refine vM (fun _ => ?_) fun _ => ?_)
    refine ⟨n + i, ?_, ⟨by omega, by omega⟩, ?_⟩
    · repeat' ((conv => whnf); first | with_reducible exact True.intro | exact vW | with_reducible refine And.intro ?_ ?_)
    repeat' ((conv => whnf); first | refine vA ?_ | with_reducible first | refine v8 ?_ | refine Sp.mk ?_ ?_ | refine vS ?_ | refine vR ?_ | refine vB ?_ | refine br_nt ?_ | refine br_tt ?_ | refine br_ff ?_ | refine vP ?_ | refine vQ ?_ | refine vT ?_ | refine vF ?_ | refine br_and ?_ | refine br_or ?_ | refine br_d (fun _ => ?_) fun _ => ?_ | refine vM (fun _ => ?_) fun _ => ?_)
    refine ⟨i + 1, by omega, by omega, ⟨⟨[], [], rfl, rfl, ?_, ?_⟩⟩⟩
    · repeat' ((conv => whnf); first | with_reducible exact True.intro | exact vW | with_reducible refine And.intro ?_ ?_)
    · repeat' ((conv => whnf); first | with_reducible exact True.intro | exact vW | with_reducible refine And.intro ?_ ?_)
  · obtain rfl : i = l.length := by omega
    rw [← hl] at h
    repeat' ((conv => whnf); first | refine vA ?_ | with_reducible first | refine v8 ?_ | refine Sp.mk ?_ ?_ | refine vS ?_ | refine vR ?_ | refine vB ?_ | refine br_nt ?_ | refine br_tt ?_ | refine br_ff ?_ | refine vP ?_ | refine vQ ?_ | refine vT ?_ | refine vF ?_ | refine br_and ?_ | refine br_or ?_ | refine br_d (fun _ => ?_) fun _ => ?_ | refine vM (fun _ => ?_) fun _ => ?_)
    exact h
structure Mh where
  p : Int
  l : List Int
  n : Int
def C168 : GC := conG (X := Mh) (fun x => [.agg [.int .i64 x.p, .row 0 1 0 x.l.length], .int .i64 x.n]) (fun x => [.row 1 x.l.length fun i => encI (x.l.getD i 0)]) (fun x => 0 ≤ x.n ∧ x.n ≤ 1000000000000 ∧ x.l.length ≤ 1000000000000) fun x K => K (.int .i64 (x.n + x.l.length)) [.row 1 x.l.length fun i => encI ((mksI x.n x.l.length).getD i 0)]
theorem F168 : GG 40 C168 := by
  refine fitG [] (by simp) [(64, C185)] (by simp only [List.mem_cons, List.not_mem_nil, or_false]; rintro _ rfl <;> first | exact F185) Tryz.f40 ⟨rfl, by decide +kernel, by decide +kernel⟩ (by intro x K K2 hk h; (try dsimp only at h ⊢); intros; apply hk; first | exact h | (apply h <;> assumption)) ?_
  rintro ⟨p, l, n⟩ K hp h
  refine ⟨Nat.le_of_ble_eq_true rfl, ?_⟩
  dsimp only at h hp ⊢
  repeat' ((conv => whnf); first | refine vA ?_ | with_reducible first | refine v8 ?_ | refine Sp.mk ?_ ?_ | refine vS ?_ | refine vR ?_ | refine vB ?_ | refine br_nt ?_ | refine br_tt ?_ | refine br_ff ?_ | refine vP ?_ | refine vQ ?_ | refine vT ?_ | refine vF ?_ | refine br_and ?_ | refine br_or ?_ | refine br_d (fun _ => ?_) fun _ => ?_ | refine vM (fun _ => ?_) fun _ => ?_)
  refine ⟨_, _, [0], [], rfl, ?_, ?_, ⟨l, n⟩, rfl, rfl, ⟨hp⟩, ?_⟩
  · repeat' ((conv => whnf); first | with_reducible exact True.intro | exact vW | with_reducible refine And.intro ?_ ?_)
  · repeat' ((conv => whnf); first | with_reducible exact True.intro | exact vW | with_reducible refine And.intro ?_ ?_)
  dsimp only
  repeat' ((conv => whnf); first | refine vA ?_ | with_reducible first | refine v8 ?_ | refine Sp.mk ?_ ?_ | refine vS ?_ | refine vR ?_ | refine vB ?_ | refine br_nt ?_ | refine br_tt ?_ | refine br_ff ?_ | refine vP ?_ | refine vQ ?_ | refine vT ?_ | refine vF ?_ | refine br_and ?_ | refine br_or ?_ | refine br_d (fun _ => ?_) fun _ => ?_ | refine vM (fun _ => ?_) fun _ => ?_)
  refine ⟨_, _, [some 0], [], rfl, rfl, ?_, ?_, h⟩
  · repeat' ((conv => whnf); first | with_reducible exact True.intro | exact vW | with_reducible refine And.intro ?_ ?_)
  · repeat' ((conv => whnf); first | with_reducible exact True.intro | exact vW | with_reducible refine And.intro ?_ ?_)
structure Mp where
  x : Place
  n : Int
def plW (x : Place) : AV := .agg [.int .i64 x.p, .row 0 1 0 x.bs.length, .row 1 1 0 x.rules.length]
def plR (x : Place) : List Obj := [.row 1 x.bs.length fun i => encI (x.bs.getD i 0), .row 1 x.rules.length fun i => encS (x.rules.getD i ⟨#[]⟩)]
/-- A place all of whose memory is marked. -/
def mkPl (x : Place) (n : Int) : Place := ⟨x.p, mksI n x.bs.length, mksS (n + x.bs.length) x.rules.length⟩
def mkPre (x : Mp) : Prop := 0 ≤ x.n ∧ x.n ≤ 100000000000 ∧ x.x.bs.length ≤ 100000000000 ∧ x.x.rules.length ≤ 100000000000
def C148 : GC := conG (X := Mp) (fun x => [plW x.x, .int .i64 x.n]) (fun x => plR x.x) mkPre fun x K => K (.int .i64 (x.n + x.x.bs.length + x.x.rules.length)) (plR (mkPl x.x x.n))
theorem F148 : GG 20 C148 := by
  refine fitG [] (by simp) [(40, C168), (41, C169)] (by simp only [List.mem_cons, List.not_mem_nil, or_false]; rintro _ (rfl | rfl) <;> first | exact F168 | exact F169) Tryz.f20 ⟨rfl, by decide +kernel, by decide +kernel⟩ (by intro x K K2 hk h; (try dsimp only at h ⊢); intros; apply hk; first | exact h | (apply h <;> assumption)) ?_
  rintro ⟨⟨p, bs, rs⟩, n⟩ K ⟨h1, h2, h3, h4⟩ h
  refine ⟨Nat.le_of_ble_eq_true rfl, ?_⟩
  unfold plR mkPl at h
  dsimp only [plW, plR] at h h1 h2 h3 h4 ⊢
  rw [mksI_len, mksS_len] at h
  repeat' ((conv => whnf); first | refine vA ?_ | with_reducible first | refine v8 ?_ | refine Sp.mk ?_ ?_ | refine vS ?_ | refine vR ?_ | refine vB ?_ | refine br_nt ?_ | refine br_tt ?_ | refine br_ff ?_ | refine vP ?_ | refine vQ ?_ | refine vT ?_ | refine vF ?_ | refine br_and ?_ | refine br_or ?_ | refine br_d (fun _ => ?_) fun _ => ?_ | refine vM (fun _ => ?_) fun _ => ?_)
  refine ⟨_, _, [0], [], rfl, ?_, ?_, ⟨p, bs, n⟩, rfl, rfl, ⟨by dsimp only; omega, by dsimp only; omega, by dsimp only; omega⟩, ?_⟩
  · repeat' ((conv => whnf); first | with_reducible exact True.intro | exact vW | with_reducible refine And.intro ?_ ?_)
  · repeat' ((conv => whnf); first | with_reducible exact True.intro | exact vW | with_reducible refine And.intro ?_ ?_)
  dsimp only
  repeat' ((conv => whnf); first | refine vA ?_ | with_reducible first | refine v8 ?_ | refine Sp.mk ?_ ?_ | refine vS ?_ | refine vR ?_ | refine vB ?_ | refine br_nt ?_ | refine br_tt ?_ | refine br_ff ?_ | refine vP ?_ | refine vQ ?_ | refine vT ?_ | refine vF ?_ | refine br_and ?_ | refine br_or ?_ | refine br_d (fun _ => ?_) fun _ => ?_ | refine vM (fun _ => ?_) fun _ => ?_)
  refine ⟨_, _, [1], [], rfl, ?_, ?_, ⟨rs, n + bs.length⟩, rfl, rfl, ⟨by dsimp only; omega, by dsimp only; omega, by dsimp only; omega⟩, ?_⟩
  · repeat' ((conv => whnf); first | with_reducible exact True.intro | exact vW | with_reducible refine And.intro ?_ ?_)
  · repeat' ((conv => whnf); first | with_reducible exact True.intro | exact vW | with_reducible refine And.intro ?_ ?_)
  dsimp only
  repeat' ((conv => whnf); first | refine vA ?_ | with_reducible first | refine v8 ?_ | refine Sp.mk ?_ ?_ | refine vS ?_ | refine vR ?_ | refine vB ?_ | refine br_nt ?_ | refine br_tt ?_ | refine br_ff ?_ | refine vP ?_ | refine vQ ?_ | refine vT ?_ | refine vF ?_ | refine br_and ?_ | refine br_or ?_ | refine br_d (fun _ => ?_) fun _ => ?_ | refine vM (fun _ => ?_) fun _ => ?_)
  refine ⟨_, _, [some 0, some 1], [], rfl, rfl, ?_, ?_, h⟩
  · repeat' ((conv => whnf); first | with_reducible exact True.intro | exact vW | with_reducible refine And.intro ?_ ?_)
  · repeat' ((conv => whnf); first | with_reducible exact True.intro | exact vW | with_reducible refine And.intro ?_ ?_)
def C187 : List AV → (AV → Prop) → Prop := con (X := Int × Hd) (fun x => [.agg [.int .i64 x.1, slI (mksI x.2.n x.2.k)], .int .i64 x.2.n]) (fun x => 0 ≤ x.2.n ∧ x.2.n ≤ 1000000000000 ∧ x.2.k ≤ 1000000000000) fun x K => K (.int .i64 (x.2.n + x.2.k))
theorem F187 : FF 42 C187 := by
  refine fitE [(66, C189)] (by simp only [List.mem_cons, List.not_mem_nil, or_false]; rintro _ rfl <;> first | exact F189) Tryz.f42 ⟨rfl, by decide +kernel, by decide +kernel⟩ (fun _ _ _ hk h => hk _ h) ?_
  rintro ⟨p, ⟨k, n⟩⟩ K hp h
  refine ⟨Nat.le_of_ble_eq_true rfl, ?_⟩
  dsimp only at h hp ⊢
  repeat' ((conv => whnf); first | refine vA ?_ | with_reducible first | refine v8 ?_ | refine Sp.mk ?_ ?_ | refine vS ?_ | refine vR ?_ | refine vB ?_ | refine br_nt ?_ | refine br_tt ?_ | refine br_ff ?_ | refine vP ?_ | refine vQ ?_ | refine vT ?_ | refine vF ?_ | refine br_and ?_ | refine br_or ?_ | refine br_d (fun _ => ?_) fun _ => ?_ | refine vM (fun _ => ?_) fun _ => ?_)
  refine ⟨⟨k, n⟩, ?_, ⟨hp⟩, ?_⟩
  · repeat' ((conv => whnf); first | with_reducible exact True.intro | exact vW | with_reducible refine And.intro ?_ ?_)
  dsimp only
  repeat' ((conv => whnf); first | refine vA ?_ | with_reducible first | refine v8 ?_ | refine Sp.mk ?_ ?_ | refine vS ?_ | refine vR ?_ | refine vB ?_ | refine br_nt ?_ | refine br_tt ?_ | refine br_ff ?_ | refine vP ?_ | refine vQ ?_ | refine vT ?_ | refine vF ?_ | refine br_and ?_ | refine br_or ?_ | refine br_d (fun _ => ?_) fun _ => ?_ | refine vM (fun _ => ?_) fun _ => ?_)
  exact h
def C171 : List AV → (AV → Prop) → Prop := con (X := Mp) (fun x => [enPl (mkPl x.x x.n), .int .i64 x.n]) mkPre fun x K => K (.int .i64 (x.n + x.x.bs.length + x.x.rules.length))
theorem F171 : FF 21 C171 := by
  refine fitE [(42, C187), (43, C188)] (by simp only [List.mem_cons, List.not_mem_nil, or_false]; rintro _ (rfl | rfl) <;> first | exact F187 | exact F188) Tryz.f21 ⟨rfl, by decide +kernel, by decide +kernel⟩ (fun _ _ _ hk h => hk _ h) ?_
  rintro ⟨⟨p, bs, rs⟩, n⟩ K ⟨h1, h2, h3, h4⟩ h
  refine ⟨Nat.le_of_ble_eq_true rfl, ?_⟩
  dsimp only [enPl, plC, mkPl] at h h1 h2 h3 h4 ⊢
  repeat' ((conv => whnf); first | refine vA ?_ | with_reducible first | refine v8 ?_ | refine Sp.mk ?_ ?_ | refine vS ?_ | refine vR ?_ | refine vB ?_ | refine br_nt ?_ | refine br_tt ?_ | refine br_ff ?_ | refine vP ?_ | refine vQ ?_ | refine vT ?_ | refine vF ?_ | refine br_and ?_ | refine br_or ?_ | refine br_d (fun _ => ?_) fun _ => ?_ | refine vM (fun _ => ?_) fun _ => ?_)
  refine ⟨(p, ⟨bs.length, n⟩), ?_, ⟨by dsimp only; omega, by dsimp only; omega, by dsimp only; omega⟩, ?_⟩
  · repeat' ((conv => whnf); first | with_reducible exact True.intro | exact vW | with_reducible refine And.intro ?_ ?_)
  dsimp only
  repeat' ((conv => whnf); first | refine vA ?_ | with_reducible first | refine v8 ?_ | refine Sp.mk ?_ ?_ | refine vS ?_ | refine vR ?_ | refine vB ?_ | refine br_nt ?_ | refine br_tt ?_ | refine br_ff ?_ | refine vP ?_ | refine vQ ?_ | refine vT ?_ | refine vF ?_ | refine br_and ?_ | refine br_or ?_ | refine br_d (fun _ => ?_) fun _ => ?_ | refine vM (fun _ => ?_) fun _ => ?_)
  refine ⟨⟨rs.length, n + bs.length⟩, ?_, ⟨by dsimp only; omega, by dsimp only; omega, by dsimp only; omega⟩, ?_⟩
  · repeat' ((conv => whnf); first | with_reducible exact True.intro | exact vW | with_reducible refine And.intro ?_ ?_)
  dsimp only
  repeat' ((conv => whnf); first | refine vA ?_ | with_reducible first | refine v8 ?_ | refine Sp.mk ?_ ?_ | refine vS ?_ | refine vR ?_ | refine vB ?_ | refine br_nt ?_ | refine br_tt ?_ | refine br_ff ?_ | refine vP ?_ | refine vQ ?_ | refine vT ?_ | refine vF ?_ | refine br_and ?_ | refine br_or ?_ | refine br_d (fun _ => ?_) fun _ => ?_ | refine vM (fun _ => ?_) fun _ => ?_)
  exact h
end Go.Proofs.YtahfdkdneojkmaaGreatDoor.Vc
end
section
/- Part DB: the texts of deeds. -/
namespace Go.Proofs.YtahfdkdneojkmaaGreatDoor.Vc
open Go.Proofs
structure Dd where
  kind : Int
  a : Int
  b : Int
  words : ByteArray
  deriving Inhabited, DecidableEq
def encD (d : Dd) : List AV := [.int .i64 d.kind, .int .i64 d.a, .int .i64 d.b, .str d.words]
abbrev ded (d : Dd) : AV := .agg (encD d)
def tx (l : List UInt8) : ByteArray := ⟨l.toArray⟩
def plainW (s : ByteArray) : Bool := decide (¬ s = ⟨#[]⟩) && !spc s
/-- A deed's text. -/
def deedT (d : Dd) : ByteArray :=
  if d.a < 0 ∨ 99 < d.a ∨ d.b < 0 ∨ 99 < d.b then ⟨#[]⟩
  else if d.kind = 0 ∧ d.b = 0 ∧ d.words = ⟨#[]⟩ then ⟨#[98, 111, 100, 121, 32]⟩ ++ num d.a
  else if d.kind = 1 ∧ d.a = 0 ∧ d.b = 0 ∧ plainW d.words = true then ⟨#[114, 117, 108, 101, 32]⟩ ++ d.words
  else if d.kind = 2 ∧ plainW d.words = true then ⟨#[97, 109, 101, 110, 100, 32]⟩ ++ num d.a ++ ⟨#[32]⟩ ++ num d.b ++ ⟨#[32]⟩ ++ d.words
  else if d.kind = 3 ∧ d.words = ⟨#[]⟩ then ⟨#[100, 114, 111, 112, 32]⟩ ++ num d.a ++ ⟨#[32]⟩ ++ num d.b
  else if d.kind = 4 ∧ d.a = 0 ∧ d.b = 0 ∧ d.words = ⟨#[]⟩ then ⟨#[98, 97, 99, 107]⟩
  else ⟨#[]⟩
theorem sz1 : (⟨#[98, 111, 100, 121, 32]⟩ : ByteArray).size = 5 := rfl
theorem sz2 : (⟨#[114, 117, 108, 101, 32]⟩ : ByteArray).size = 5 := rfl
theorem sz3 : (⟨#[97, 109, 101, 110, 100, 32]⟩ : ByteArray).size = 6 := rfl
theorem sz4 : (⟨#[100, 114, 111, 112, 32]⟩ : ByteArray).size = 5 := rfl
theorem sz5 : (⟨#[32]⟩ : ByteArray).size = 1 := rfl
def C108 : List AV → (AV → Prop) → Prop := con (X := Dd) (fun d => [ded d]) (fun _ => True) fun d K => K (ded d)
def C107 : List AV → (AV → Prop) → Prop := con (X := Dd × Int) (fun x => [ded x.1, .int .i64 x.2]) (fun x => x.1.words.size < 9223372036854775808 ∧ 0 ≤ x.2 ∧ x.2 ≤ 9223372036854775807) fun x K => K (.int .i64 (if x.2 - x.1.words.size < 0 then -1 else x.2 - x.1.words.size))
def C103 : List AV → (AV → Prop) → Prop := con (X := Dd) (fun d => [ded d]) (fun d => d.words.size ≤ 1048576) fun d K => K (.str (deedT d))
end Go.Proofs.YtahfdkdneojkmaaGreatDoor.Vc
end
section
/- Part TM: what a deed makes of a place, by the reference. -/
namespace Go.Proofs.YtahfdkdneojkmaaGreatDoor.Vc
open Go.Proofs
set_option maxRecDepth 10000
set_option maxHeartbeats 4000000
structure Hc where
  h : House
  t : List Mark
  c : Int
def consB (x : Hc) : Bool := decide (termOk x.h x.t) && (decide (crowd x.h.p x.c) && says x.h.bs x.c x.t)
def C209 : List AV → (AV → Prop) → Prop := con (X := Hc) (fun x => [enH x.h, slM x.t, .int .i64 x.c]) (fun x => termI x.h x.t ∧ i64r x.c) fun x K => K (.bool (consB x))
theorem sayOk_of' {p : Int} {bs : List Int} {t : List Mark} (h : termOk ⟨p, bs⟩ t) {c : Int} (hc : crowd p c) : sayOk ⟨p, bs, t, c⟩ := by
  have pw2 := (pw_le hc.1).2
  have hl := h.2.1
  have hcl := hc.2
  exact ⟨by show t.length < 4611686018427387904; omega, h.2.2, fun b hb => by have g : crowd p b := (h.1.2.2 b hb).1; have := g.2; omega, hcl.1, by show c < 64; omega⟩
/-- Does a rule of a place consent? -/
def consR (x : Place) (r c : Int) : Bool := if 0 ≤ r ∧ r < x.rules.length then (match rdT 49 x.h (x.rules.getD r.toNat ⟨#[]⟩) with
  | some t => decide (crowd x.p c) && says x.bs c t
  | none => false) else false
structure Pc where
  x : Place
  r : Int
  c : Int
def C206 : List AV → (AV → Prop) → Prop := con (X := Pc) (fun x => [enPl x.x, .int .i64 x.r, .int .i64 x.c]) (fun x => placeI x.x ∧ i64r x.r ∧ i64r x.c) fun x K => K (.bool (consR x.x x.r x.c))
theorem rdT_termI {h : House} (hI : houI h) {s : ByteArray} {t : List Mark} (e : rdT 49 h s = some t) : termI h t ∧ termOk h t := by
  obtain ⟨g1, g2, g3⟩ := (rdT_iff (by decide)).1 e
  have hs := (read_tr (lo := 49) (bodies_of g2.1) (by decide) (Tr.of g2.2.2)).2 80 (by rw [g3]; exact g1) [] (by simp)
  rw [List.append_nil] at hs
  have hs' : eitherP (partF 49 80) (bys (textT t)) = some (t, []) := by rw [hs]; rfl
  have hm := eitherP_sane (by decide) 80 _ _ _ hs'
  have hl := g2.2.1
  exact ⟨⟨hI.1, hI.2, hm, by omega⟩, g2⟩
/-! ### Copies with memory of their own -/
def plG (x : Place) : AV := .agg [.int .i64 x.p, .row 0 1 0 x.bs.length, .row 1 1 0 x.rules.length]
def plO (x : Place) : List Obj := [.row 1 x.bs.length fun i => encI (x.bs.getD i 0), .row 1 x.rules.length fun i => encS (x.rules.getD i ⟨#[]⟩)]
def C158g : GC := conG (X := Place) (fun x => [enPl x]) (fun _ => []) (fun x => x.rules.length ≤ 100000000 ∧ x.bs.length ≤ 100000000) fun x K => K (plG x) (plO x)
def C157g := C158g
theorem F157g : GG 62 C157g := by
  refine fitG [] (by simp) [] (by simp) Tryz.f62 ⟨rfl, by decide +kernel, by decide +kernel⟩ (by intro x K K2 hk h; (try dsimp only at h ⊢); intros; apply hk; first | exact h | (apply h <;> assumption)) ?_
  rintro ⟨p, bs, rs⟩ K ⟨h1, h2⟩ h
  refine ⟨Nat.le_of_ble_eq_true rfl, ?_⟩
  unfold plG plO at h
  dsimp only [enPl, plC] at h h1 h2 ⊢
  repeat' ((conv => whnf); first | refine vA ?_ | with_reducible first | refine v8 ?_ | refine Sp.mk ?_ ?_ | refine vS ?_ | refine vR ?_ | refine vB ?_ | refine br_nt ?_ | refine br_tt ?_ | refine br_ff ?_ | refine vP ?_ | refine vQ ?_ | refine vT ?_ | refine vF ?_ | refine br_and ?_ | refine br_or ?_ | refine br_d (fun _ => ?_) fun _ => ?_ | refine vM (fun _ => ?_) fun _ => ?_)
  refine Dr.mk ⟨(.rd 0 (.rd 1 (.rd 2 (.rd 4 (.rd 5 (.rd 6 (.rd 10 (.rd 11 (.ef 3 (.ef 7 (.rd 8 (.ef 9 (.ef 12 (.rd 13 (.ef 14 .dn .no)) .no) .no)) (.ef 9 (.ef 7 (.rd 8 (.ef 12 (.rd 13 (.ef 14 .dn .no)) .no)) .no) .no)) (.ef 9 (.ef 3 (.ef 7 (.rd 8 (.ef 12 (.rd 13 (.ef 14 .dn .no)) .no)) .no) .no) .no)))))))))), by decide +kernel, ?_⟩
  repeat' ((conv => whnf); first | refine vA ?_ | with_reducible first | refine v8 ?_ | refine Sp.mk ?_ ?_ | refine vS ?_ | refine vR ?_ | refine vB ?_ | refine br_nt ?_ | refine br_tt ?_ | refine br_ff ?_ | refine vP ?_ | refine vQ ?_ | refine vT ?_ | refine vF ?_ | refine br_and ?_ | refine br_or ?_ | refine br_d (fun _ => ?_) fun _ => ?_ | refine vM (fun _ => ?_) fun _ => ?_)
  all_goals
    first
    | (refine ⟨_, _, [some 2, some 3], [], rfl, rfl, ?_, ?_, h⟩ <;> (repeat' ((conv => whnf); first | with_reducible exact True.intro | exact vW | with_reducible refine And.intro ?_ ?_)) <;> fail)
    | (refine ⟨_, _, [some 3, some 2], [], rfl, rfl, ?_, ?_, h⟩ <;> (repeat' ((conv => whnf); first | with_reducible exact True.intro | exact vW | with_reducible refine And.intro ?_ ?_)) <;> fail)
theorem ext_sym {α : Type} {enc : α → List AV} {d : α} {l : List α} {n : Nat} {g : Nat → List AV} (h : l.length = n ∧ ∀ j, j < l.length → enc (l.getD j d) = g j) : n = l.length ∧ ∀ j, j < n → g (0 + j) = enc (l.getD j d) := ⟨h.1.symm, fun j hj => by rw [Nat.zero_add]; exact (h.2 j (by rw [h.1]; exact hj)).symm⟩
theorem consR_in {x : Place} {r c : Int} (h : consR x r c = true) : (0 ≤ r ∧ r < x.rules.length) ∧ r.toNat < x.rules.length := by
  unfold consR at h
  split at h
  · rename_i g
    exact ⟨g, by omega⟩
  · cases h
theorem ext_set {l : List ByteArray} {x : ByteArray} {n : Nat} (h : n < l.length) : l.length = (l.set n x).length ∧ ∀ i, i < l.length → setF (fun j => encS (l.getD j ⟨#[]⟩)) (0 + n) (encS x) (0 + i) = encS ((l.set n x).getD i ⟨#[]⟩) := by
  refine ⟨by rw [List.length_set], fun i hi => ?_⟩
  rw [Nat.zero_add, Nat.zero_add, List.getD_eq_getElem?_getD, List.getElem?_set]
  unfold setF
  cases hb : Nat.beq i n with
  | true =>
    obtain rfl := Nat.eq_of_beq_eq_true hb
    rw [if_pos rfl, if_pos h]
    rfl
  | false =>
    have := Nat.ne_of_beq_eq_false hb
    rw [if_neg (fun e => this e.symm), ← List.getD_eq_getElem?_getD]
    rfl
theorem ext_cut {l : List ByteArray} {n : Nat} (h : n < l.length) : n + (l.length - (n + 1)) = (l.take n ++ l.drop (n + 1)).length ∧ ∀ i, i < n + (l.length - (n + 1)) → appF n (fun j => encS (l.getD j ⟨#[]⟩)) (fun j => encS (l.getD (n + 1 + j) ⟨#[]⟩)) (0 + i) = encS ((l.take n ++ l.drop (n + 1)).getD i ⟨#[]⟩) := by
  have := ext_app (enc := encS) (d := ⟨#[]⟩) (l := l) (m := l.drop (n + 1)) (n := n) (g := fun j => encS (l.getD (n + 1 + j) ⟨#[]⟩)) (by omega) fun j hj => by
    rw [List.getD_eq_getElem?_getD, List.getD_eq_getElem?_getD, List.getElem?_drop]
  rw [List.length_drop] at this
  exact ext_sym this
def madeP (x : Place) (a : Dd) : Place :=
  if a.kind = 0 ∧ a.b = 0 ∧ a.words = ⟨#[]⟩ then ⟨x.p, x.bs ++ [a.a], x.rules⟩
  else if a.kind = 1 ∧ a.a = 0 ∧ a.b = 0 then ⟨x.p, x.bs, x.rules ++ [a.words]⟩
  else if a.kind = 2 ∧ consR x a.a a.b = true then ⟨x.p, x.bs, x.rules.set a.a.toNat a.words⟩
  else if a.kind = 3 ∧ a.words = ⟨#[]⟩ ∧ consR x a.a a.b = true then ⟨x.p, x.bs, x.rules.take a.a.toNat ++ x.rules.drop (a.a.toNat + 1)⟩
  else default
section
variable {x : Place} {k a b : Int} {w : ByteArray}
theorem made_0n (h : k = 0) (hn : ¬ (b = 0 ∧ w = ⟨#[]⟩)) : madeP x ⟨k, a, b, w⟩ = default := by
  unfold madeP
  dsimp only
  rw [if_neg (fun q => hn q.2), if_neg (by omega), if_neg (by omega), if_neg (by omega)]
theorem made_1n (h : k = 1) (hn : ¬ (a = 0 ∧ b = 0)) : madeP x ⟨k, a, b, w⟩ = default := by
  unfold madeP
  dsimp only
  rw [if_neg (by omega), if_neg (fun q => hn q.2), if_neg (by omega), if_neg (by omega)]
theorem made_2n (h : k = 2) (hn : consR x a b = false) : madeP x ⟨k, a, b, w⟩ = default := by
  unfold madeP
  dsimp only
  rw [if_neg (by omega), if_neg (by omega), if_neg (fun q => by rw [hn] at q; cases q.2), if_neg (by omega)]
theorem made_3n (h : k = 3) (hn : ¬ (w = ⟨#[]⟩ ∧ consR x a b = true)) : madeP x ⟨k, a, b, w⟩ = default := by
  unfold madeP
  dsimp only
  rw [if_neg (by omega), if_neg (by omega), if_neg (by omega), if_neg (fun q => hn q.2)]
theorem made_n (h0 : ¬ k = 0) (h1 : ¬ k = 1) (h2 : ¬ k = 2) (h3 : ¬ k = 3) : madeP x ⟨k, a, b, w⟩ = default := by
  unfold madeP
  dsimp only
  rw [if_neg (by omega), if_neg (by omega), if_neg (by omega), if_neg (by omega)]
theorem made_0 (h : k = 0) (h1 : b = 0) (h2 : w = ⟨#[]⟩) : madeP x ⟨k, a, b, w⟩ = ⟨x.p, x.bs ++ [a], x.rules⟩ := if_pos ⟨h, h1, h2⟩
theorem made_1 (h : k = 1) (h1 : a = 0) (h2 : b = 0) : madeP x ⟨k, a, b, w⟩ = ⟨x.p, x.bs, x.rules ++ [w]⟩ := by
  unfold madeP
  dsimp only
  rw [if_neg (by omega), if_pos ⟨h, h1, h2⟩]
theorem made_2 (h : k = 2) (h1 : consR x a b = true) : madeP x ⟨k, a, b, w⟩ = ⟨x.p, x.bs, x.rules.set a.toNat w⟩ := by
  unfold madeP
  dsimp only
  rw [if_neg (by omega), if_neg (by omega), if_pos ⟨h, h1⟩]
theorem made_3 (h : k = 3) (h1 : w = ⟨#[]⟩) (h2 : consR x a b = true) : madeP x ⟨k, a, b, w⟩ = ⟨x.p, x.bs, x.rules.take a.toNat ++ x.rules.drop (a.toNat + 1)⟩ := by
  unfold madeP
  dsimp only
  rw [if_neg (by omega), if_neg (by omega), if_neg (by omega), if_pos ⟨h, h1, h2⟩]
end
structure Pd where
  x : Place
  a : Dd
def shortP (x : Place) : Prop := x.rules.length ≤ 100000000 ∧ x.bs.length ≤ 100000000
def dedI (a : Dd) : Prop := i64r a.kind ∧ i64r a.a ∧ i64r a.b ∧ a.words.size < 9223372036854775808
def C199 : List AV → (AV → Prop) → Prop := con (X := Pd) (fun x => [enPl x.x, ded x.a]) (fun x => placeI x.x ∧ shortP x.x ∧ dedI x.a) fun x K => K (enPl (madeP x.x x.a))
end Go.Proofs.YtahfdkdneojkmaaGreatDoor.Vc
end
