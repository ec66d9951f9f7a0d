/- Part UF: places that are read, by the implementation. -/
import Derived.Test.YtahfdkdneojkmaaGreatDoorVc5
section
namespace Go.Proofs.YtahfdkdneojkmaaGreatDoor.Vc
open Go.Proofs
set_option maxRecDepth 10000
set_option maxHeartbeats 4000000
def C214 : List AV → (AV → Prop) → Prop := con (X := ByteArray) (fun s => [.str s]) (fun s => s.size < 4294967281) rpPost
theorem placeOk_short' {x : Place} (h : placeOk x) : x.rules.length ≤ 100000000 ∧ x.bs.length ≤ 100000000 := ⟨Nat.le_trans h.2.1.2 (by omega), Nat.le_trans h.1.2.1 (by omega)⟩
theorem isPt_num {s : ByteArray} {x : Place} (h : isPt s x) : isNum ((cutB s 32).getD 0 ⟨#[]⟩) = true := by
  obtain ⟨n, n1, n2, _⟩ := isPt_p h
  rw [n2]
  exact isNum_num n1
theorem F214 : FF 33 C214 := by
  refine fitXE [(60, C211), (61, C213), (27, C152), (28, C166), (62, C157)] (by simp only [List.mem_cons, List.not_mem_nil, or_false]; rintro _ (rfl | rfl | rfl | rfl | rfl) <;> first | exact F211 | exact F213 | exact F152 | exact F166 | exact F157) [] (by simp) Tryz.f33 ⟨rfl, by decide +kernel, by decide +kernel⟩ (fun _ _ _ hk h => h.mono hk) ?_
  rintro s K hs ⟨h, hno⟩
  refine ⟨Nat.le_of_ble_eq_true rfl, ?_⟩
  repeat' ((conv => whnf); first | refine vA ?_ | with_reducible first | refine v8 ?_ | refine Sp.mk ?_ ?_ | refine vS ?_ | refine vR ?_ | refine vB ?_ | refine br_nt ?_ | refine br_tt ?_ | refine br_ff ?_ | refine vP ?_ | refine vQ ?_ | refine vT ?_ | refine vF ?_ | refine br_and ?_ | refine br_or ?_ | refine br_d (fun _ => ?_) fun _ => ?_ | refine vM (fun _ => ?_) fun _ => ?_)
  refine ⟨(s, 32), ?_, ⟨hs⟩, ?_⟩
  · repeat' ((conv => whnf); first | with_reducible exact True.intro | exact vW | with_reducible refine And.intro ?_ ?_)
  obtain ⟨L, hL⟩ : ∃ L, cutB s 32 = L := ⟨_, rfl⟩
  have hl2 := (cutB_len s 32).2
  have hlm : ∀ x ∈ L, x.size ≤ s.size := fun x hx => cutB_mem (c := 32) (hL ▸ hx)
  have hx3 : ∀ x, isPt s x → 3 ≤ L.length := fun x q => hL ▸ isPt_len q
  dsimp only
  rw [hL] at hl2 ⊢
  repeat' ((conv => whnf); first | refine vA ?_ | with_reducible first | refine v8 ?_ | refine Sp.mk ?_ ?_ | refine vS ?_ | refine vR ?_ | refine vB ?_ | refine br_nt ?_ | refine br_tt ?_ | refine br_ff ?_ | refine vP ?_ | refine vQ ?_ | refine vT ?_ | refine vF ?_ | refine br_and ?_ | refine br_or ?_ | refine br_d (fun _ => ?_) fun _ => ?_ | refine vM (fun _ => ?_) fun _ => ?_)
  · rename_i h3
    refine ⟨_, ?_, hno fun ⟨x, q⟩ => by have := hx3 x q; omega⟩
    repeat' ((conv => whnf); first | with_reducible exact True.intro | exact vW | with_reducible refine And.intro ?_ ?_)
  rename_i h3
  obtain ⟨Q, hQ⟩ : ∃ Q, L.drop 2 = Q := ⟨_, rfl⟩
  have hQl : Q.length = L.length - 2 := by rw [← hQ, List.length_drop]
  refine ⟨L.getD 0 ⟨#[]⟩, ?_, ⟨by have := hlm _ (getD_mem' (l := L) (i := 0) (d := ⟨#[]⟩) (by omega)); omega⟩, ?_⟩
  · repeat' ((conv => whnf); first | with_reducible exact True.intro | exact vW | with_reducible refine And.intro ?_ ?_)
  intro v hv hn
  have hp : ∀ x, isPt s x → v = x.p := fun x q => by
    obtain ⟨n, n1, n2, n3⟩ := isPt_p q
    rw [hL] at n2
    rw [hn n n1 n2, n3]
  have hpn : ∀ x, isPt s x → isNum (L.getD 0 ⟨#[]⟩) = true := fun x q => hL ▸ isPt_num q
  generalize isNum (L.getD 0 ⟨#[]⟩) = okp at hpn ⊢
  have hQe : Q.length = (L.length : Int).toNat - Int.toNat 2 ∧ ∀ i, i < Q.length → encS (Q.getD i ⟨#[]⟩) = encS (L.getD (Int.toNat 2 + i) ⟨#[]⟩) := ⟨hQl, fun i _ => by
    rw [← hQ, List.getD_eq_getElem?_getD, List.getElem?_drop, ← List.getD_eq_getElem?_getD]
    rfl⟩
  obtain ⟨M, hM⟩ : ∃ M, cutB (L.getD 1 ⟨#[]⟩) 44 = M := ⟨_, rfl⟩
  have h1s := hlm _ (getD_mem' (l := L) (i := 1) (d := ⟨#[]⟩) (by omega))
  have hMl := (cutB_len (L.getD 1 ⟨#[]⟩) 44).2
  have hMm : ∀ x ∈ M, x.size ≤ s.size := fun x hx => Nat.le_trans (cutB_mem (c := 44) (hM ▸ hx)) h1s
  have hMx : ∀ x, isPt s x → M = x.bs.map num := fun x q => by rw [← hM, ← hL]; exact isPt_bs q
  have hMb : ∀ x, isPt s x → ∀ i, i < x.bs.length → ∃ n : Nat, n < 1000000 ∧ M.getD i ⟨#[]⟩ = num n ∧ x.bs.getD i 0 = n := fun x q i hi => by rw [← hM, ← hL]; exact isPt_b q hi
  repeat' ((conv => whnf); first | refine vA ?_ | with_reducible first | refine v8 ?_ | refine Sp.mk ?_ ?_ | refine vS ?_ | refine vR ?_ | refine vB ?_ | refine br_nt ?_ | refine br_tt ?_ | refine br_ff ?_ | refine vP ?_ | refine vQ ?_ | refine vT ?_ | refine vF ?_ | refine br_and ?_ | refine br_or ?_ | refine br_d (fun _ => ?_) fun _ => ?_ | refine vM (fun _ => ?_) fun _ => ?_)
  refine ⟨(L.getD 1 ⟨#[]⟩, 44), ?_, ⟨by dsimp only; omega⟩, ?_⟩
  · repeat' ((conv => whnf); first | with_reducible exact True.intro | exact vW | with_reducible refine And.intro ?_ ?_)
  dsimp only
  rw [hM] at hMl ⊢
  repeat' ((conv => whnf); first | refine vA ?_ | with_reducible first | refine v8 ?_ | refine Sp.mk ?_ ?_ | refine vS ?_ | refine vR ?_ | refine vB ?_ | refine br_nt ?_ | refine br_tt ?_ | refine br_ff ?_ | refine vP ?_ | refine vQ ?_ | refine vT ?_ | refine vF ?_ | refine br_and ?_ | refine br_or ?_ | refine br_d (fun _ => ?_) fun _ => ?_ | refine vM (fun _ => ?_) fun _ => ?_)
  refine Lp.mk ⟨List Int, fun B => [(0, .str s), (2, .ptr 0 0), (6, .bool okp), (7, .ptr 1 0), (33, slS M), (34, .int .i64 M.length), (35, .int .i64 B.length)], fun B => [.box [.int .i64 0, .nils, .nils], .box [.int .i64 v, .row 2 1 0 B.length, slS Q], .row 1 B.length fun i => encI (B.getD i 0)],
    fun B => B.length ≤ M.length ∧ (∀ n ∈ B, i64r n) ∧ ∀ x, isPt s x → B = x.bs.take B.length, fun B => M.length - B.length, ⟨[], ⟨Nat.zero_le _, (fun _ q => by cases q), (fun _ _ => rfl)⟩, ⟨⟨[some 0, some 1, none], [], rfl, rfl, ?_, ?_⟩⟩⟩, ?_⟩
  · repeat' ((conv => whnf); first | with_reducible exact True.intro | exact vW | with_reducible refine And.intro ?_ ?_)
  · repeat' ((conv => whnf); first | with_reducible exact True.intro | exact vW | with_reducible refine And.intro ?_ ?_)
    all_goals exact Chk.mk hQe
  rintro B ⟨i1, i2, i3⟩
  dsimp only
  by_cases hk : B.length < M.length
  · repeat' ((conv => whnf); first | refine vA ?_ | with_reducible first | refine v8 ?_ | refine Sp.mk ?_ ?_ | refine vS ?_ | refine vR ?_ | refine vB ?_ | refine br_nt ?_ | refine br_tt ?_ | refine br_ff ?_ | refine vP ?_ | refine vQ ?_ | refine vT ?_ | refine vF ?_ | refine br_and ?_ | refine br_or ?_ | refine br_d (fun _ => ?_) fun _ => ?_ | refine vM (fun _ => ?_) fun _ => ?_)
    refine ⟨M.getD B.length ⟨#[]⟩, ?_, ⟨by have := hMm _ (getD_mem' (d := ⟨#[]⟩) hk); omega⟩, ?_⟩
    · repeat' ((conv => whnf); first | with_reducible exact True.intro | exact vW | with_reducible refine And.intro ?_ ?_)
    intro w hw hn
    have hnext : ∀ x, isPt s x → isNum (M.getD B.length ⟨#[]⟩) = true ∧ B ++ [w] = x.bs.take (B.length + 1) := fun x q => by
      have e2 := hMx x q
      have e3 : x.bs.length = M.length := by rw [e2, List.length_map]
      obtain ⟨n, n1, n2, n3⟩ := hMb x q B.length (by omega)
      refine ⟨by rw [n2]; exact isNum_num n1, ?_⟩
      rw [take_succ' 0 (by omega), ← i3 x q, hn n n1 n2, n3]
    have hi2 : ∀ n ∈ B ++ [w], i64r n := fun n hm => (List.mem_append.1 hm).elim (i2 n) fun hm => by rw [List.mem_singleton.1 hm]; exact hw
    have hBl : (B ++ [w]).length = B.length + 1 := by rw [List.length_append]; rfl
    generalize isNum (M.getD B.length ⟨#[]⟩) = okb at hnext ⊢
    cases okb
    · repeat' ((conv => whnf); first | refine vA ?_ | with_reducible first | refine v8 ?_ | refine Sp.mk ?_ ?_ | refine vS ?_ | refine vR ?_ | refine vB ?_ | refine br_nt ?_ | refine br_tt ?_ | refine br_ff ?_ | refine vP ?_ | refine vQ ?_ | refine vT ?_ | refine vF ?_ | refine br_and ?_ | refine br_or ?_ | refine br_d (fun _ => ?_) fun _ => ?_ | refine vM (fun _ => ?_) fun _ => ?_)
      refine ⟨_, ?_, hno fun ⟨x, q⟩ => by cases (hnext x q).1⟩
      repeat' ((conv => whnf); first | with_reducible exact True.intro | exact vW | with_reducible refine And.intro ?_ ?_)
    · repeat' ((conv => whnf); first | refine vA ?_ | with_reducible first | refine v8 ?_ | refine Sp.mk ?_ ?_ | refine vS ?_ | refine vR ?_ | refine vB ?_ | refine br_nt ?_ | refine br_tt ?_ | refine br_ff ?_ | refine vP ?_ | refine vQ ?_ | refine vT ?_ | refine vF ?_ | refine br_and ?_ | refine br_or ?_ | refine br_d (fun _ => ?_) fun _ => ?_ | refine vM (fun _ => ?_) fun _ => ?_)
      refine ⟨B ++ [w], ⟨by omega, hi2, fun x q => by rw [hBl]; exact (hnext x q).2⟩, by omega, ?_⟩
      first | (refine ⟨⟨[some 0, some 1, some 4], [], rfl, rfl, ?_, ?_⟩⟩ <;> (repeat' ((conv => whnf); first | with_reducible exact True.intro | exact vW | with_reducible refine And.intro ?_ ?_ | exact Chk.mk ⟨rfl, hBl⟩ | exact Chk.mk (ext_push rfl))) <;> fail) | (refine ⟨⟨[some 0, some 1, some 3], [], rfl, rfl, ?_, ?_⟩⟩ <;> (repeat' ((conv => whnf); first | with_reducible exact True.intro | exact vW | with_reducible refine And.intro ?_ ?_ | exact Chk.mk ⟨rfl, hBl⟩ | exact Chk.mk (ext_push rfl))) <;> fail)
  · have hBx : ∀ x, isPt s x → x = ⟨v, B, Q⟩ := fun x q => by
      have e1 := i3 x q
      have e2 := hMx x q
      have e3 : x.bs.length = M.length := by rw [e2, List.length_map]
      rw [List.take_of_length_le (by omega)] at e1
      have e4 := isPt_rs q
      rw [hL, hQ] at e4
      obtain ⟨xp, xb, xr⟩ := x
      have e5 := hp _ q
      dsimp only at e1 e4 e5
      rw [e1, e4, e5]
    have hyI : placeI ⟨v, B, Q⟩ := ⟨⟨⟨hv, i2⟩, by show B.length < _; omega⟩, by show Q.length < _; omega, fun r hr => by have := hlm r (by rw [← hQ] at hr; exact List.mem_of_mem_drop hr); omega⟩
    cases okp
    · repeat' ((conv => whnf); first | refine vA ?_ | with_reducible first | refine v8 ?_ | refine Sp.mk ?_ ?_ | refine vS ?_ | refine vR ?_ | refine vB ?_ | refine br_nt ?_ | refine br_tt ?_ | refine br_ff ?_ | refine vP ?_ | refine vQ ?_ | refine vT ?_ | refine vF ?_ | refine br_and ?_ | refine br_or ?_ | refine br_d (fun _ => ?_) fun _ => ?_ | refine vM (fun _ => ?_) fun _ => ?_)
      refine ⟨_, ?_, hno fun ⟨x, q⟩ => by cases hpn x q⟩
      repeat' ((conv => whnf); first | with_reducible exact True.intro | exact vW | with_reducible refine And.intro ?_ ?_)
    by_cases hO : placeOk ⟨v, B, Q⟩
    · repeat' ((conv => whnf); first | refine vA ?_ | with_reducible first | refine v8 ?_ | refine Sp.mk ?_ ?_ | refine vS ?_ | refine vR ?_ | refine vB ?_ | refine br_nt ?_ | refine br_tt ?_ | refine br_ff ?_ | refine vP ?_ | refine vQ ?_ | refine vT ?_ | refine vF ?_ | refine br_and ?_ | refine br_or ?_ | refine br_d (fun _ => ?_) fun _ => ?_ | refine vM (fun _ => ?_) fun _ => ?_)
      refine ⟨⟨v, B, Q⟩, ?_, ⟨hyI⟩, ?_⟩
      · repeat' ((conv => whnf); first | with_reducible exact True.intro | exact vW | with_reducible refine And.intro ?_ ?_)
        all_goals exact Chk.mk ⟨rfl, fun i _ => by dsimp only; rw [Nat.zero_add]⟩
      repeat' ((conv => whnf); first | refine vA ?_ | with_reducible first | refine v8 ?_ | refine Sp.mk ?_ ?_ | refine vS ?_ | refine vR ?_ | refine vB ?_ | refine br_nt ?_ | refine br_tt ?_ | refine br_ff ?_ | refine vP ?_ | refine vQ ?_ | refine vT ?_ | refine vF ?_ | refine br_and ?_ | refine br_or ?_ | refine br_d (fun _ => ?_) fun _ => ?_ | refine vM (fun _ => ?_) fun _ => ?_)
      refine ⟨⟨v, B, Q⟩, ?_, ⟨hO⟩, ?_⟩
      · repeat' ((conv => whnf); first | with_reducible exact True.intro | exact vW | with_reducible refine And.intro ?_ ?_)
        all_goals exact Chk.mk ⟨rfl, fun i _ => by dsimp only; rw [Nat.zero_add]⟩
      repeat' ((conv => whnf); first | with_reducible refine wk_at 16 ?_ | with_reducible refine wk_at1 16 ?_ | with_reducible refine wk_at2 16 ?_ | refine vA ?_ | with_reducible first | refine v8 ?_ | refine Sp.mk ?_ ?_ | refine vS ?_ | refine vR ?_ | refine vB ?_ | refine br_nt ?_ | refine br_tt ?_ | refine br_ff ?_ | refine vP ?_ | refine vQ ?_ | refine vT ?_ | refine vF ?_ | refine br_and ?_ | refine br_or ?_ | refine br_d (fun _ => ?_) fun _ => ?_ | refine vM (fun _ => ?_) fun _ => ?_)
      · rename_i he
        refine ⟨Wk.go [(2, .ptr 0 0), (7, .ptr 1 0)] [.box [.int .i64 0, .nils, .nils], .box [.int .i64 v, slI B, slS Q]] ⟨⟨[some 0, some 1], [2], rfl, rfl, ?_, ?_⟩⟩ ?_⟩
        · repeat' ((conv => whnf); first | with_reducible exact True.intro | exact vW | with_reducible refine And.intro ?_ ?_)
        · repeat' ((conv => whnf); first | with_reducible exact True.intro | exact vW | with_reducible refine And.intro ?_ ?_)
          all_goals exact Chk.mk ⟨rfl, by omega, fun i _ => by dsimp only; rw [Nat.zero_add]⟩
        repeat' ((conv => whnf); first | refine vA ?_ | with_reducible first | refine v8 ?_ | refine Sp.mk ?_ ?_ | refine vS ?_ | refine vR ?_ | refine vB ?_ | refine br_nt ?_ | refine br_tt ?_ | refine br_ff ?_ | refine vP ?_ | refine vQ ?_ | refine vT ?_ | refine vF ?_ | refine br_and ?_ | refine br_or ?_ | refine br_d (fun _ => ?_) fun _ => ?_ | refine vM (fun _ => ?_) fun _ => ?_)
        refine ⟨⟨v, B, Q⟩, ?_, ⟨placeOk_short' hO⟩, ?_⟩
        · repeat' ((conv => whnf); first | with_reducible exact True.intro | exact vW | with_reducible refine And.intro ?_ ?_)
        dsimp only [enPl, plC]
        repeat' ((conv => whnf); first | refine vA ?_ | with_reducible first | refine v8 ?_ | refine Sp.mk ?_ ?_ | refine vS ?_ | refine vR ?_ | refine vB ?_ | refine br_nt ?_ | refine br_tt ?_ | refine br_ff ?_ | refine vP ?_ | refine vQ ?_ | refine vT ?_ | refine vF ?_ | refine br_and ?_ | refine br_or ?_ | refine br_d (fun _ => ?_) fun _ => ?_ | refine vM (fun _ => ?_) fun _ => ?_)
        refine ⟨_, ?_, h ⟨v, B, Q⟩ ⟨hO, he⟩⟩
        repeat' ((conv => whnf); first | with_reducible exact True.intro | exact vW | with_reducible refine And.intro ?_ ?_)
      · rename_i he
        refine ⟨_, ?_, hno fun ⟨x, q⟩ => he (by rw [← hBx x q]; exact q.2)⟩
        repeat' ((conv => whnf); first | with_reducible exact True.intro | exact vW | with_reducible refine And.intro ?_ ?_)
    · repeat' ((conv => whnf); first | refine vA ?_ | with_reducible first | refine v8 ?_ | refine Sp.mk ?_ ?_ | refine vS ?_ | refine vR ?_ | refine vB ?_ | refine br_nt ?_ | refine br_tt ?_ | refine br_ff ?_ | refine vP ?_ | refine vQ ?_ | refine vT ?_ | refine vF ?_ | refine br_and ?_ | refine br_or ?_ | refine br_d (fun _ => ?_) fun _ => ?_ | refine vM (fun _ => ?_) fun _ => ?_)
      refine ⟨⟨v, B, Q⟩, ?_, ⟨hyI⟩, ?_⟩
      · repeat' ((conv => whnf); first | with_reducible exact True.intro | exact vW | with_reducible refine And.intro ?_ ?_)
        all_goals exact Chk.mk ⟨rfl, fun i _ => by dsimp only; rw [Nat.zero_add]⟩
      repeat' ((conv => whnf); first | refine vA ?_ | with_reducible first | refine v8 ?_ | refine Sp.mk ?_ ?_ | refine vS ?_ | refine vR ?_ | refine vB ?_ | refine br_nt ?_ | refine br_tt ?_ | refine br_ff ?_ | refine vP ?_ | refine vQ ?_ | refine vT ?_ | refine vF ?_ | refine br_and ?_ | refine br_or ?_ | refine br_d (fun _ => ?_) fun _ => ?_ | refine vM (fun _ => ?_) fun _ => ?_)
      refine ⟨_, ?_, hno fun ⟨x, q⟩ => hO (by rw [← hBx x q]; exact q.1)⟩
      repeat' ((conv => whnf); first | with_reducible exact True.intro | exact vW | with_reducible refine And.intro ?_ ?_)
end Go.Proofs.YtahfdkdneojkmaaGreatDoor.Vc
end
section
/- Part UI: stores: are they stores? -/
namespace Go.Proofs.YtahfdkdneojkmaaGreatDoor.Vc
open Go.Proofs
set_option maxRecDepth 10000
set_option maxHeartbeats 4000000
def storeI (s : Store) : Prop := s.saved.size < 9223372036854775808 ∧ s.log.size < 9223372036854775808 ∧ i64r s.sure
def C223 : List AV → (AV → Prop) → Prop := con (X := Store × Int) (fun x => [enSt x.1, .int .i64 x.2]) (fun x => storeI x.1 ∧ rng x.2) fun x K => szpost x.2 (x.1.saved.size ≤ x.2 ∧ x.1.log.size ≤ x.2) K
theorem F223 : FF 7 C223 := by
  refine fitX [] (by simp) [] (by simp) Tryz.f7 ⟨rfl, by decide +kernel, by decide +kernel⟩ (fun _ _ _ hk h v h1 h2 h3 => hk _ (h v h1 h2 h3)) ?_
  rintro ⟨⟨a, b, c⟩, n⟩ K ⟨⟨h1, h2, h5⟩, h3, h4⟩ h
  refine ⟨Nat.le_of_ble_eq_true rfl, ?_⟩
  dsimp only [enSt, stC] at h h1 h2 h3 h4 h5 ⊢
  repeat' ((conv => whnf); first | refine vA ?_ | with_reducible first | refine v8 ?_ | refine Sp.mk ?_ ?_ | refine vS ?_ | refine vR ?_ | refine vB ?_ | refine br_nt ?_ | refine br_tt ?_ | refine br_ff ?_ | refine vP ?_ | refine vQ ?_ | refine vT ?_ | refine vF ?_ | refine br_and ?_ | refine br_or ?_ | refine br_d (fun _ => ?_) fun _ => ?_ | refine vM (fun _ => ?_) fun _ => ?_)
  all_goals
    first
    | exact h _ (by omega) (by omega) fun q => ⟨by omega, by omega⟩
    | exact h _ (by omega) (by omega) fun q => absurd q (by decide)
def C224 : List AV → (AV → Prop) → Prop := con (X := Store) (fun x => [enSt x]) (fun _ => True) fun x K => K (enSt x)
theorem F224 : FF 9 C224 := by
  refine fitE [] (by simp) Tryz.f9 ⟨rfl, by decide +kernel, by decide +kernel⟩ (fun _ _ _ hk h => hk _ h) ?_
  rintro ⟨a, b, c⟩ K _ h
  refine ⟨Nat.le_of_ble_eq_true rfl, ?_⟩
  dsimp only [enSt, stC] at h ⊢
  repeat' ((conv => whnf); first | refine vA ?_ | with_reducible first | refine v8 ?_ | refine Sp.mk ?_ ?_ | refine vS ?_ | refine vR ?_ | refine vB ?_ | refine br_nt ?_ | refine br_tt ?_ | refine br_ff ?_ | refine vP ?_ | refine vQ ?_ | refine vT ?_ | refine vF ?_ | refine br_and ?_ | refine br_or ?_ | refine br_d (fun _ => ?_) fun _ => ?_ | refine vM (fun _ => ?_) fun _ => ?_)
  exact h
def isSt (s : Store) : Prop := (∃ x, isPt s.saved x) ∧ s.log.size ≤ 1000 ∧ 0 ≤ s.sure ∧ s.sure ≤ s.log.size
def stPost (s : Store) (K : AV → Prop) : Prop := ∀ b : Bool, (b = true ↔ isSt s) → K (.bool b)
def C220 : List AV → (AV → Prop) → Prop := con (X := Store) (fun x => [enSt x]) (fun s => storeI s ∧ s.saved.size < 4294967281) stPost
theorem F220 : FF 24 C220 := by
  refine fitX [(33, C214)] (by simp only [List.mem_cons, List.not_mem_nil, or_false]; rintro _ rfl <;> first | exact F214) [] (by simp) Tryz.f24 ⟨rfl, by decide +kernel, by decide +kernel⟩ (fun _ _ _ hk h b q => hk _ (h b q)) ?_
  rintro ⟨a, b, c⟩ K ⟨⟨h1, h2, h5⟩, h6⟩ h
  refine ⟨Nat.le_of_ble_eq_true rfl, ?_⟩
  dsimp only [enSt, stC] at h1 h2 h5 h6 ⊢
  repeat' ((conv => whnf); first | refine vA ?_ | with_reducible first | refine v8 ?_ | refine Sp.mk ?_ ?_ | refine vS ?_ | refine vR ?_ | refine vB ?_ | refine br_nt ?_ | refine br_tt ?_ | refine br_ff ?_ | refine vP ?_ | refine vQ ?_ | refine vT ?_ | refine vF ?_ | refine br_and ?_ | refine br_or ?_ | refine br_d (fun _ => ?_) fun _ => ?_ | refine vM (fun _ => ?_) fun _ => ?_)
  refine ⟨a, ?_, ⟨h6⟩, ?_⟩
  · repeat' ((conv => whnf); first | with_reducible exact True.intro | exact vW | with_reducible refine And.intro ?_ ?_)
  refine ⟨fun x q => ?_, fun q => ?_⟩
  · obtain ⟨p, bs, rs⟩ := x
    have hi : isSt ⟨a, b, c⟩ ↔ (b.size ≤ 1000 ∧ 0 ≤ c ∧ c ≤ b.size) := ⟨fun g => g.2, fun g => ⟨⟨_, q⟩, g⟩⟩
    dsimp only [enPl, plC]
    repeat' ((conv => whnf); first | refine vA ?_ | with_reducible first | refine v8 ?_ | refine Sp.mk ?_ ?_ | refine vS ?_ | refine vR ?_ | refine vB ?_ | refine br_nt ?_ | refine br_tt ?_ | refine br_ff ?_ | refine vP ?_ | refine vQ ?_ | refine vT ?_ | refine vF ?_ | refine br_and ?_ | refine br_or ?_ | refine br_d (fun _ => ?_) fun _ => ?_ | refine vM (fun _ => ?_) fun _ => ?_)
    · exact h _ ⟨fun g => hi.2 ⟨by omega, by omega, of_decide_eq_true g⟩, fun g => decide_eq_true (hi.1 g).2.2⟩
    all_goals exact h _ ⟨(fun g => by cases g), fun g => by have := hi.1 g; omega⟩
  · have hi : ¬ isSt ⟨a, b, c⟩ := fun g => q g.1
    dsimp only [enPl, plC]
    repeat' ((conv => whnf); first | refine vA ?_ | with_reducible first | refine v8 ?_ | refine Sp.mk ?_ ?_ | refine vS ?_ | refine vR ?_ | refine vB ?_ | refine br_nt ?_ | refine br_tt ?_ | refine br_ff ?_ | refine vP ?_ | refine vQ ?_ | refine vT ?_ | refine vF ?_ | refine br_and ?_ | refine br_or ?_ | refine br_d (fun _ => ?_) fun _ => ?_ | refine vM (fun _ => ?_) fun _ => ?_)
    exact h _ ⟨(fun g => by cases g), fun g => absurd g hi⟩
def C221 := C220
theorem F221 : FF 10 C221 := by
  refine fitX [(24, C220)] (by simp only [List.mem_cons, List.not_mem_nil, or_false]; rintro _ rfl <;> first | exact F220) [] (by simp) Tryz.f10 ⟨rfl, by decide +kernel, by decide +kernel⟩ (fun _ _ _ hk h b q => hk _ (h b q)) ?_
  rintro ⟨a, b, c⟩ K hI h
  refine ⟨Nat.le_of_ble_eq_true rfl, ?_⟩
  dsimp only [enSt, stC]
  repeat' ((conv => whnf); first | refine vA ?_ | with_reducible first | refine v8 ?_ | refine Sp.mk ?_ ?_ | refine vS ?_ | refine vR ?_ | refine vB ?_ | refine br_nt ?_ | refine br_tt ?_ | refine br_ff ?_ | refine vP ?_ | refine vQ ?_ | refine vT ?_ | refine vF ?_ | refine br_and ?_ | refine br_or ?_ | refine br_d (fun _ => ?_) fun _ => ?_ | refine vM (fun _ => ?_) fun _ => ?_)
  refine ⟨⟨a, b, c⟩, ?_, ⟨hI⟩, ?_⟩
  · repeat' ((conv => whnf); first | with_reducible exact True.intro | exact vW | with_reducible refine And.intro ?_ ?_)
  intro r hr
  repeat' ((conv => whnf); first | refine vA ?_ | with_reducible first | refine v8 ?_ | refine Sp.mk ?_ ?_ | refine vS ?_ | refine vR ?_ | refine vB ?_ | refine br_nt ?_ | refine br_tt ?_ | refine br_ff ?_ | refine vP ?_ | refine vQ ?_ | refine vT ?_ | refine vF ?_ | refine br_and ?_ | refine br_or ?_ | refine br_d (fun _ => ?_) fun _ => ?_ | refine vM (fun _ => ?_) fun _ => ?_)
  exact h r hr
def C222 := C220
theorem F222 : FF 8 C222 := by
  refine fitX [(18, C219), (23, C35)] (by simp only [List.mem_cons, List.not_mem_nil, or_false]; rintro _ (rfl | rfl) <;> first | exact F219 | exact F35) [] (by simp) Tryz.f8 ⟨rfl, by decide +kernel, by decide +kernel⟩ (fun _ _ _ hk h b q => hk _ (h b q)) ?_
  rintro ⟨a, b, c⟩ K ⟨⟨h1, h2, h5⟩, h6⟩ h
  refine ⟨Nat.le_of_ble_eq_true rfl, ?_⟩
  dsimp only [enSt, stC] at h1 h2 h5 h6 ⊢
  repeat' ((conv => whnf); first | refine vA ?_ | with_reducible first | refine v8 ?_ | refine Sp.mk ?_ ?_ | refine vS ?_ | refine vR ?_ | refine vB ?_ | refine br_nt ?_ | refine br_tt ?_ | refine br_ff ?_ | refine vP ?_ | refine vQ ?_ | refine vT ?_ | refine vF ?_ | refine br_and ?_ | refine br_or ?_ | refine br_d (fun _ => ?_) fun _ => ?_ | refine vM (fun _ => ?_) fun _ => ?_)
  refine ⟨a, ?_, ⟨h6⟩, ?_⟩
  · repeat' ((conv => whnf); first | with_reducible exact True.intro | exact vW | with_reducible refine And.intro ?_ ?_)
  refine ⟨fun x q => ?_, fun q => ?_⟩
  · obtain ⟨p, bs, rs⟩ := x
    have hi : isSt ⟨a, b, c⟩ ↔ (b.size ≤ 1000 ∧ 0 ≤ c ∧ c ≤ b.size) := ⟨fun g => g.2, fun g => ⟨⟨_, q⟩, g⟩⟩
    dsimp only [enPl, plC]
    repeat' ((conv => whnf); first | refine vA ?_ | with_reducible first | refine v8 ?_ | refine Sp.mk ?_ ?_ | refine vS ?_ | refine vR ?_ | refine vB ?_ | refine br_nt ?_ | refine br_tt ?_ | refine br_ff ?_ | refine vP ?_ | refine vQ ?_ | refine vT ?_ | refine vF ?_ | refine br_and ?_ | refine br_or ?_ | refine br_d (fun _ => ?_) fun _ => ?_ | refine vM (fun _ => ?_) fun _ => ?_)
    · refine ⟨(c, 0, (b.size : Int)), ?_, ⟨trivial⟩, ?_⟩
      · repeat' ((conv => whnf); first | with_reducible exact True.intro | exact vW | with_reducible refine And.intro ?_ ?_)
      dsimp only
      repeat' ((conv => whnf); first | refine vA ?_ | with_reducible first | refine v8 ?_ | refine Sp.mk ?_ ?_ | refine vS ?_ | refine vR ?_ | refine vB ?_ | refine br_nt ?_ | refine br_tt ?_ | refine br_ff ?_ | refine vP ?_ | refine vQ ?_ | refine vT ?_ | refine vF ?_ | refine br_and ?_ | refine br_or ?_ | refine br_d (fun _ => ?_) fun _ => ?_ | refine vM (fun _ => ?_) fun _ => ?_)
      exact h _ ⟨fun g => hi.2 ⟨by omega, of_decide_eq_true g⟩, fun g => decide_eq_true (hi.1 g).2⟩
    · exact h _ ⟨(fun g => by cases g), fun g => by have := hi.1 g; omega⟩
  · have hi : ¬ isSt ⟨a, b, c⟩ := fun g => q g.1
    dsimp only [enPl, plC]
    repeat' ((conv => whnf); first | refine vA ?_ | with_reducible first | refine v8 ?_ | refine Sp.mk ?_ ?_ | refine vS ?_ | refine vR ?_ | refine vB ?_ | refine br_nt ?_ | refine br_tt ?_ | refine br_ff ?_ | refine vP ?_ | refine vQ ?_ | refine vT ?_ | refine vF ?_ | refine br_and ?_ | refine br_or ?_ | refine br_d (fun _ => ?_) fun _ => ?_ | refine vM (fun _ => ?_) fun _ => ?_)
    exact h _ ⟨(fun g => by cases g), fun g => absurd g hi⟩
def C227 : List AV → (AV → Prop) → Prop := con (X := Store) (fun s => [enSt s]) storeI fun _ K => K (.bool true)
theorem F227 : FF 3 C227 := by
  refine fitE [(7, C223), (9, C224), (10, C221), (8, C222)] (by simp only [List.mem_cons, List.not_mem_nil, or_false]; rintro _ (rfl | rfl | rfl | rfl) <;> first | exact F223 | exact F224 | exact F221 | exact F222) Tryz.f3 ⟨rfl, by decide +kernel, by decide +kernel⟩ (fun _ _ _ hk h => hk _ h) ?_
  rintro ⟨a, b, c⟩ K hI h
  refine ⟨Nat.le_of_ble_eq_true rfl, ?_⟩
  dsimp only [enSt, stC]
  repeat' ((conv => whnf); first | refine vA ?_ | with_reducible first | refine v8 ?_ | refine Sp.mk ?_ ?_ | refine vS ?_ | refine vR ?_ | refine vB ?_ | refine br_nt ?_ | refine br_tt ?_ | refine br_ff ?_ | refine vP ?_ | refine vQ ?_ | refine vT ?_ | refine vF ?_ | refine br_and ?_ | refine br_or ?_ | refine br_d (fun _ => ?_) fun _ => ?_ | refine vM (fun _ => ?_) fun _ => ?_)
  refine ⟨(⟨a, b, c⟩, 1048576), ?_, ⟨hI, by dsimp only; omega, by dsimp only; omega⟩, ?_⟩
  · repeat' ((conv => whnf); first | with_reducible exact True.intro | exact vW | with_reducible refine And.intro ?_ ?_)
  intro v v1 v2 v3
  dsimp only at v2 v3
  repeat' ((conv => whnf); first | refine vA ?_ | with_reducible first | refine v8 ?_ | refine Sp.mk ?_ ?_ | refine vS ?_ | refine vR ?_ | refine vB ?_ | refine br_nt ?_ | refine br_tt ?_ | refine br_ff ?_ | refine vP ?_ | refine vQ ?_ | refine vT ?_ | refine vF ?_ | refine br_and ?_ | refine br_or ?_ | refine br_d (fun _ => ?_) fun _ => ?_ | refine vM (fun _ => ?_) fun _ => ?_)
  · exact h
  rename_i hv
  have hs := v3 (by omega)
  have hp : storeI ⟨a, b, c⟩ ∧ a.size < 4294967281 := ⟨hI, by omega⟩
  refine ⟨⟨a, b, c⟩, ?_, ⟨trivial⟩, ?_⟩
  · repeat' ((conv => whnf); first | with_reducible exact True.intro | exact vW | with_reducible refine And.intro ?_ ?_)
  dsimp only [enSt, stC]
  repeat' ((conv => whnf); first | refine vA ?_ | with_reducible first | refine v8 ?_ | refine Sp.mk ?_ ?_ | refine vS ?_ | refine vR ?_ | refine vB ?_ | refine br_nt ?_ | refine br_tt ?_ | refine br_ff ?_ | refine vP ?_ | refine vQ ?_ | refine vT ?_ | refine vF ?_ | refine br_and ?_ | refine br_or ?_ | refine br_d (fun _ => ?_) fun _ => ?_ | refine vM (fun _ => ?_) fun _ => ?_)
  refine ⟨⟨a, b, c⟩, ?_, ⟨hp⟩, ?_⟩
  · repeat' ((conv => whnf); first | with_reducible exact True.intro | exact vW | with_reducible refine And.intro ?_ ?_)
  intro r1 q1
  repeat' ((conv => whnf); first | refine vA ?_ | with_reducible first | refine v8 ?_ | refine Sp.mk ?_ ?_ | refine vS ?_ | refine vR ?_ | refine vB ?_ | refine br_nt ?_ | refine br_tt ?_ | refine br_ff ?_ | refine vP ?_ | refine vQ ?_ | refine vT ?_ | refine vF ?_ | refine br_and ?_ | refine br_or ?_ | refine br_d (fun _ => ?_) fun _ => ?_ | refine vM (fun _ => ?_) fun _ => ?_)
  refine ⟨⟨a, b, c⟩, ?_, ⟨trivial⟩, ?_⟩
  · repeat' ((conv => whnf); first | with_reducible exact True.intro | exact vW | with_reducible refine And.intro ?_ ?_)
  dsimp only [enSt, stC]
  repeat' ((conv => whnf); first | refine vA ?_ | with_reducible first | refine v8 ?_ | refine Sp.mk ?_ ?_ | refine vS ?_ | refine vR ?_ | refine vB ?_ | refine br_nt ?_ | refine br_tt ?_ | refine br_ff ?_ | refine vP ?_ | refine vQ ?_ | refine vT ?_ | refine vF ?_ | refine br_and ?_ | refine br_or ?_ | refine br_d (fun _ => ?_) fun _ => ?_ | refine vM (fun _ => ?_) fun _ => ?_)
  refine ⟨⟨a, b, c⟩, ?_, ⟨hp⟩, ?_⟩
  · repeat' ((conv => whnf); first | with_reducible exact True.intro | exact vW | with_reducible refine And.intro ?_ ?_)
  intro r2 q2
  obtain rfl : r1 = r2 := Bool.eq_iff_iff.2 (q1.trans q2.symm)
  have hbb : (r1 == r1) = true := beq_self_eq_true _
  repeat' ((conv => whnf); first | refine vA ?_ | with_reducible first | refine v8 ?_ | refine Sp.mk ?_ ?_ | refine vS ?_ | refine vR ?_ | refine vB ?_ | refine br_nt ?_ | refine br_tt ?_ | refine br_ff ?_ | refine vP ?_ | refine vQ ?_ | refine vT ?_ | refine vF ?_ | refine br_and ?_ | refine br_or ?_ | refine br_d (fun _ => ?_) fun _ => ?_ | refine vM (fun _ => ?_) fun _ => ?_)
  exact h
end Go.Proofs.YtahfdkdneojkmaaGreatDoor.Vc
end
section
/- The row of FnExactStoreOk: for every input it returns true. -/
namespace Go.Proofs.YtahfdkdneojkmaaGreatDoor.Vc
open Go.Proofs Go.ChangeShapes Go.WideShapes Go.ChangeAt Go.RowKit
open Go.Proofs.YtahfdkdneojkmaaGreatDoor
set_option maxRecDepth 100000
theorem metFnExactStoreOk (os : Os) (args : Array Value) : laidMet Tryz.prog Rows.fnExactStoreOkRow.laid ((World.laidAll Tryz.prog os Rows.fnExactStoreOkRow.laid).forCall (fun _ _ => 0) ⟨#[], args, []⟩).memory :=
  laidMet_laidAll args (by kernel_rfl) (by kernel_rfl)
theorem goodFnExactStoreOk {W : World} (h : laidMet Tryz.prog Rows.fnExactStoreOkRow.laid W) (hs : W.ShapedOpen Tryz.prog) : Good W :=
  ⟨Lib.tabIs_of_head (rest := []) rfl rfl rfl rfl (by kernel_rfl) (by kernel_rfl) (h.filter fun x => x.1 == "internal/strconv.uint64pow10"),
  hold_len (g := 0) (zero := #[.int .i64 0]) (t := 3) hs (by kernel_rfl) (of_decide_eq_true (by kernel_rfl)) (by kernel_rfl) rfl (by kernel_rfl) (by kernel_rfl) Tryz.underlying3,
  (hold_err (g := 2) (r := []) (ti := 95) (tp := 152) (te := 154) (ts := 9) (h.filter fun x => x.1 == "strconv.ErrSyntax") (by kernel_rfl) (by kernel_rfl) Tryz.underlying95 (by rw [star]; kernel_rfl) (by kernel_rfl) Tryz.underlying152 Tryz.underlying154 rfl rfl Tryz.underlying9 (by kernel_rfl) (by kernel_rfl)),
  (hold_err (g := 3) (r := []) (ti := 95) (tp := 152) (te := 154) (ts := 9) (h.filter fun x => x.1 == "strconv.ErrRange") (by kernel_rfl) (by kernel_rfl) Tryz.underlying95 (by rw [star]; kernel_rfl) (by kernel_rfl) Tryz.underlying152 Tryz.underlying154 rfl rfl Tryz.underlying9 (by kernel_rfl) (by kernel_rfl))⟩
theorem liftedFnExactStoreOk (os : Os) (started : os.Started) (H : Type) (enc : TypeId × Value → H) :
    ReturnsInHanded {} Tryz.checked os 3 .any (fun w args => (Rows.fnExactStoreOkSpec.pre enc Tryz.prog Tryz.f3 [] false w args ∧ laidMet Tryz.prog Rows.fnExactStoreOkRow.laid w) ∧ sizedMet enc Tryz.prog Tryz.f3 (OpenSpec.ofChange Rows.fnExactStoreOkSpec) false w args)
      (Rows.fnExactStoreOkSpec.post enc Tryz.prog Tryz.f3 false true false false) := by
  refine returns_and_shaped (C := Tryz.checked) (X := fun w _ => laidMet Tryz.prog Rows.fnExactStoreOkRow.laid w) (fun _ _ _ hh h => h.of_heap hh) own started (by kernel_rfl) Tryz.func3
    (ChangeSpec.witness_at (enc := enc) (C := Tryz.checked) (os := os) (X := fun w _ => laidMet Tryz.prog Rows.fnExactStoreOkRow.laid w) false (World.laidAll Tryz.prog os Rows.fnExactStoreOkRow.laid) #[.agg #[.string ⟨#[]⟩, .string ⟨#[]⟩, .int .i64 0]] 8 (World.laidAll_os _ _ _) (by kernel_rfl) (by kernel_rfl) (by kernel_rfl) (by kernel_rfl) (by kernel_rfl) (metFnExactStoreOk os _)) ?_
  intro W base args ds gs before hval0 hW hsh hL
  have hval : ∀ (j : Nat) t v, Tryz.f3.params[j]? = some t → args[j]? = some v → Value.okWide Tryz.prog W .any base t v := hval0
  have hW' := hW
  obtain ⟨p, q, hA0, hV, rfl, hfz, hnd⟩ := hW
  have hA : DataW.TrodAll enc Tryz.prog W 0 (fun _ => true) true Tryz.f3.params.toList args.toList ds p := hA0
  rw [Tryz.params3] at hA hval
  obtain ⟨v0, vs0, d0, ds0, p0, q0, hargs, rfl, rfl, h0, r0⟩ := trodAll_cons hA
  obtain ⟨rfl, rfl, rfl⟩ := trodAll_nil r0
  obtain rfl : args = #[v0] := by cases args; simp_all
  obtain ⟨rfl, rfl⟩ := trodVars_none hV
  have lt0 : ∀ x ∈ p0, x.block < W.heap.size := by obtain ⟨m, hm⟩ := h0; exact DataW.trod_lt m _ _ _ hm
  obtain ⟨x0, a0, b0⟩ := op_store (⟨by kernel_rfl, _, _, _, Tryz.underlying23, rfl, rfl, rfl, Tryz.underlying9, Tryz.underlying9, Tryz.underlying3, by kernel_rfl, by kernel_rfl, by kernel_rfl⟩) (hval 0 23 v0 rfl rfl) h0
  refine (FF.below F227 (us := [enSt x0]) (b := true) ⟨x0, ?_, ⟨b0⟩, rfl⟩ (goodFnExactStoreOk hL hsh) ⟨rfl, fun j hj => ?_⟩).mono fun e W' ⟨he, bel⟩ => ?_
  · repeat' ((conv => whnf); first | with_reducible exact True.intro | exact vW | with_reducible refine And.intro ?_ ?_)
  · match j, hj with
    | 0, _ => exact a0
  subst he
  exact ⟨_, rfl, _, _, _, [], _, [], hW', trodAll_mk1 (shut_bool Tryz.underlying4 _), (trodAll_cons_mk (Below.trod laidOut (by kernel_rfl) (of_decide_eq_true (by kernel_rfl)) h0 bel lt0) trodAll_mk0), rfl, bel.frame _, fun h => by cases h⟩
theorem FnExactStoreOk_holds : Rows.FnExactStoreOkSaid :=
  OpenClaim.holds_of_wide 3 Tryz.f3 rfl rfl rfl rfl rfl rfl rfl ⟨rfl, rfl, rfl, rfl, rfl⟩ rfl rfl rfl rfl rfl (by kernel_rfl) Tryz.func3 (by kernel_rfl)
    (of_decide_eq_true (by kernel_rfl)) (by unfold Func.isWrapper; first | (rw [if_pos (by decide +kernel)]; kernel_rfl) | (rw [if_neg (by decide +kernel)]; exact ⟨rfl, rfl⟩))
    (fun os started H enc _ => liftedFnExactStoreOk os started H enc)
end Go.Proofs.YtahfdkdneojkmaaGreatDoor.Vc
end
