/- Part UN: places that are read, in memory of their own; the law that marks them. -/
import Derived.Test.YtahfdkdneojkmaaGreatDoorVc6
section
namespace Go.Proofs.YtahfdkdneojkmaaGreatDoor.Vc
open Go.Proofs
set_option maxRecDepth 10000
set_option maxHeartbeats 4000000
def rpPostG (s : ByteArray) (K : AV → List Obj → Prop) : Prop := (∀ x, isPt s x → K (.tup [plG x, .bool true]) (plO x)) ∧ ((¬ ∃ x, isPt s x) → K (.tup [.agg [.int .i64 0, .nils, .nils], .bool false]) [])
def C214g : GC := conG (X := ByteArray) (fun s => [.str s]) (fun _ => []) (fun s => s.size < 4294967281) rpPostG
theorem F214g : GG 33 C214g := by
  refine fitG [(60, C211), (61, C213), (27, C152), (28, C166)] (by simp only [List.mem_cons, List.not_mem_nil, or_false]; rintro _ (rfl | rfl | rfl | rfl) <;> first | exact F211 | exact F213 | exact F152 | exact F166) [(62, C157g)] (by simp only [List.mem_cons, List.not_mem_nil, or_false]; rintro _ rfl <;> first | exact F157g) Tryz.f33 ⟨rfl, by decide +kernel, by decide +kernel⟩ (fun _ _ _ hk h => ⟨fun x q => hk _ _ (h.1 x q), fun q => hk _ _ (h.2 q)⟩) ?_
  rintro s K hs ⟨h, hno⟩
  refine ⟨Nat.le_of_ble_eq_true rfl, ?_⟩
  repeat' ((conv => whnf); first | refine vA ?_ | with_reducible first | refine v8 ?_ | refine Sp.mk ?_ ?_ | refine vS ?_ | refine vR ?_ | refine vB ?_ | refine br_nt ?_ | refine br_tt ?_ | refine br_ff ?_ | refine vP ?_ | refine vQ ?_ | refine vT ?_ | refine vF ?_ | refine br_and ?_ | refine br_or ?_ | refine br_d (fun _ => ?_) fun _ => ?_ | refine vM (fun _ => ?_) fun _ => ?_)
  refine ⟨(s, 32), ?_, ⟨hs⟩, ?_⟩
  · repeat' ((conv => whnf); first | with_reducible exact True.intro | exact vW | with_reducible refine And.intro ?_ ?_)
  obtain ⟨L, hL⟩ : ∃ L, cutB s 32 = L := ⟨_, rfl⟩
  have hl2 := (cutB_len s 32).2
  have hlm : ∀ x ∈ L, x.size ≤ s.size := fun x hx => cutB_mem (c := 32) (hL ▸ hx)
  have hx3 : ∀ x, isPt s x → 3 ≤ L.length := fun x q => hL ▸ isPt_len q
  dsimp only
  rw [hL] at hl2 ⊢
  repeat' ((conv => whnf); first | refine vA ?_ | with_reducible first | refine v8 ?_ | refine Sp.mk ?_ ?_ | refine vS ?_ | refine vR ?_ | refine vB ?_ | refine br_nt ?_ | refine br_tt ?_ | refine br_ff ?_ | refine vP ?_ | refine vQ ?_ | refine vT ?_ | refine vF ?_ | refine br_and ?_ | refine br_or ?_ | refine br_d (fun _ => ?_) fun _ => ?_ | refine vM (fun _ => ?_) fun _ => ?_)
  · rename_i h3
    refine ⟨_, _, [], [], rfl, rfl, ?_, ?_, (hno fun ⟨x, q⟩ => by have := hx3 x q; omega)⟩
    · repeat' ((conv => whnf); first | with_reducible exact True.intro | exact vW | with_reducible refine And.intro ?_ ?_)
    · repeat' ((conv => whnf); first | with_reducible exact True.intro | exact vW | with_reducible refine And.intro ?_ ?_)
  rename_i h3
  obtain ⟨Q, hQ⟩ : ∃ Q, L.drop 2 = Q := ⟨_, rfl⟩
  have hQl : Q.length = L.length - 2 := by rw [← hQ, List.length_drop]
  refine ⟨L.getD 0 ⟨#[]⟩, ?_, ⟨by have := hlm _ (getD_mem' (l := L) (i := 0) (d := ⟨#[]⟩) (by omega)); omega⟩, ?_⟩
  · repeat' ((conv => whnf); first | with_reducible exact True.intro | exact vW | with_reducible refine And.intro ?_ ?_)
  intro v hv hn
  have hp : ∀ x, isPt s x → v = x.p := fun x q => by
    obtain ⟨n, n1, n2, n3⟩ := isPt_p q
    rw [hL] at n2
    rw [hn n n1 n2, n3]
  have hpn : ∀ x, isPt s x → isNum (L.getD 0 ⟨#[]⟩) = true := fun x q => hL ▸ isPt_num q
  generalize isNum (L.getD 0 ⟨#[]⟩) = okp at hpn ⊢
  have hQe : Q.length = (L.length : Int).toNat - Int.toNat 2 ∧ ∀ i, i < Q.length → encS (Q.getD i ⟨#[]⟩) = encS (L.getD (Int.toNat 2 + i) ⟨#[]⟩) := ⟨hQl, fun i _ => by
    rw [← hQ, List.getD_eq_getElem?_getD, List.getElem?_drop, ← List.getD_eq_getElem?_getD]
    rfl⟩
  obtain ⟨M, hM⟩ : ∃ M, cutB (L.getD 1 ⟨#[]⟩) 44 = M := ⟨_, rfl⟩
  have h1s := hlm _ (getD_mem' (l := L) (i := 1) (d := ⟨#[]⟩) (by omega))
  have hMl := (cutB_len (L.getD 1 ⟨#[]⟩) 44).2
  have hMm : ∀ x ∈ M, x.size ≤ s.size := fun x hx => Nat.le_trans (cutB_mem (c := 44) (hM ▸ hx)) h1s
  have hMx : ∀ x, isPt s x → M = x.bs.map num := fun x q => by rw [← hM, ← hL]; exact isPt_bs q
  have hMb : ∀ x, isPt s x → ∀ i, i < x.bs.length → ∃ n : Nat, n < 1000000 ∧ M.getD i ⟨#[]⟩ = num n ∧ x.bs.getD i 0 = n := fun x q i hi => by rw [← hM, ← hL]; exact isPt_b q hi
  repeat' ((conv => whnf); first | refine vA ?_ | with_reducible first | refine v8 ?_ | refine Sp.mk ?_ ?_ | refine vS ?_ | refine vR ?_ | refine vB ?_ | refine br_nt ?_ | refine br_tt ?_ | refine br_ff ?_ | refine vP ?_ | refine vQ ?_ | refine vT ?_ | refine vF ?_ | refine br_and ?_ | refine br_or ?_ | refine br_d (fun _ => ?_) fun _ => ?_ | refine vM (fun _ => ?_) fun _ => ?_)
  refine ⟨(L.getD 1 ⟨#[]⟩, 44), ?_, ⟨by dsimp only; omega⟩, ?_⟩
  · repeat' ((conv => whnf); first | with_reducible exact True.intro | exact vW | with_reducible refine And.intro ?_ ?_)
  dsimp only
  rw [hM] at hMl ⊢
  repeat' ((conv => whnf); first | refine vA ?_ | with_reducible first | refine v8 ?_ | refine Sp.mk ?_ ?_ | refine vS ?_ | refine vR ?_ | refine vB ?_ | refine br_nt ?_ | refine br_tt ?_ | refine br_ff ?_ | refine vP ?_ | refine vQ ?_ | refine vT ?_ | refine vF ?_ | refine br_and ?_ | refine br_or ?_ | refine br_d (fun _ => ?_) fun _ => ?_ | refine vM (fun _ => ?_) fun _ => ?_)
  refine Lp.mk ⟨List Int, fun B => [(0, .str s), (2, .ptr 0 0), (6, .bool okp), (7, .ptr 1 0), (33, slS M), (34, .int .i64 M.length), (35, .int .i64 B.length)], fun B => [.box [.int .i64 0, .nils, .nils], .box [.int .i64 v, .row 2 1 0 B.length, slS Q], .row 1 B.length fun i => encI (B.getD i 0)],
    fun B => B.length ≤ M.length ∧ (∀ n ∈ B, i64r n) ∧ ∀ x, isPt s x → B = x.bs.take B.length, fun B => M.length - B.length, ⟨[], ⟨Nat.zero_le _, (fun _ q => by cases q), (fun _ _ => rfl)⟩, ⟨⟨[some 0, some 1, none], [], rfl, rfl, ?_, ?_⟩⟩⟩, ?_⟩
  · repeat' ((conv => whnf); first | with_reducible exact True.intro | exact vW | with_reducible refine And.intro ?_ ?_)
  · repeat' ((conv => whnf); first | with_reducible exact True.intro | exact vW | with_reducible refine And.intro ?_ ?_)
    all_goals exact Chk.mk hQe
  rintro B ⟨i1, i2, i3⟩
  dsimp only
  by_cases hk : B.length < M.length
  · repeat' ((conv => whnf); first | refine vA ?_ | with_reducible first | refine v8 ?_ | refine Sp.mk ?_ ?_ | refine vS ?_ | refine vR ?_ | refine vB ?_ | refine br_nt ?_ | refine br_tt ?_ | refine br_ff ?_ | refine vP ?_ | refine vQ ?_ | refine vT ?_ | refine vF ?_ | refine br_and ?_ | refine br_or ?_ | refine br_d (fun _ => ?_) fun _ => ?_ | refine vM (fun _ => ?_) fun _ => ?_)
    refine ⟨M.getD B.length ⟨#[]⟩, ?_, ⟨by have := hMm _ (getD_mem' (d := ⟨#[]⟩) hk); omega⟩, ?_⟩
    · repeat' ((conv => whnf); first | with_reducible exact True.intro | exact vW | with_reducible refine And.intro ?_ ?_)
    intro w hw hn
    have hnext : ∀ x, isPt s x → isNum (M.getD B.length ⟨#[]⟩) = true ∧ B ++ [w] = x.bs.take (B.length + 1) := fun x q => by
      have e2 := hMx x q
      have e3 : x.bs.length = M.length := by rw [e2, List.length_map]
      obtain ⟨n, n1, n2, n3⟩ := hMb x q B.length (by omega)
      refine ⟨by rw [n2]; exact isNum_num n1, ?_⟩
      rw [take_succ' 0 (by omega), ← i3 x q, hn n n1 n2, n3]
    have hi2 : ∀ n ∈ B ++ [w], i64r n := fun n hm => (List.mem_append.1 hm).elim (i2 n) fun hm => by rw [List.mem_singleton.1 hm]; exact hw
    have hBl : (B ++ [w]).length = B.length + 1 := by rw [List.length_append]; rfl
    generalize isNum (M.getD B.length ⟨#[]⟩) = okb at hnext ⊢
    cases okb
    · repeat' ((conv => whnf); first | refine vA ?_ | with_reducible first | refine v8 ?_ | refine Sp.mk ?_ ?_ | refine vS ?_ | refine vR ?_ | refine vB ?_ | refine br_nt ?_ | refine br_tt ?_ | refine br_ff ?_ | refine vP ?_ | refine vQ ?_ | refine vT ?_ | refine vF ?_ | refine br_and ?_ | refine br_or ?_ | refine br_d (fun _ => ?_) fun _ => ?_ | refine vM (fun _ => ?_) fun _ => ?_)
      refine ⟨_, _, [], [], rfl, rfl, ?_, ?_, (hno fun ⟨x, q⟩ => by cases (hnext x q).1)⟩
      · repeat' ((conv => whnf); first | with_reducible exact True.intro | exact vW | with_reducible refine And.intro ?_ ?_)
      · repeat' ((conv => whnf); first | with_reducible exact True.intro | exact vW | with_reducible refine And.intro ?_ ?_)
    · repeat' ((conv => whnf); first | refine vA ?_ | with_reducible first | refine v8 ?_ | refine Sp.mk ?_ ?_ | refine vS ?_ | refine vR ?_ | refine vB ?_ | refine br_nt ?_ | refine br_tt ?_ | refine br_ff ?_ | refine vP ?_ | refine vQ ?_ | refine vT ?_ | refine vF ?_ | refine br_and ?_ | refine br_or ?_ | refine br_d (fun _ => ?_) fun _ => ?_ | refine vM (fun _ => ?_) fun _ => ?_)
      refine ⟨B ++ [w], ⟨by omega, hi2, fun x q => by rw [hBl]; exact (hnext x q).2⟩, by omega, ?_⟩
      first | (refine ⟨⟨[some 0, some 1, some 4], [], rfl, rfl, ?_, ?_⟩⟩ <;> (repeat' ((conv => whnf); first | with_reducible exact True.intro | exact vW | with_reducible refine And.intro ?_ ?_ | exact Chk.mk ⟨rfl, hBl⟩ | exact Chk.mk (ext_push rfl))) <;> fail) | (refine ⟨⟨[some 0, some 1, some 3], [], rfl, rfl, ?_, ?_⟩⟩ <;> (repeat' ((conv => whnf); first | with_reducible exact True.intro | exact vW | with_reducible refine And.intro ?_ ?_ | exact Chk.mk ⟨rfl, hBl⟩ | exact Chk.mk (ext_push rfl))) <;> fail)
  · have hBx : ∀ x, isPt s x → x = ⟨v, B, Q⟩ := fun x q => by
      have e1 := i3 x q
      have e2 := hMx x q
      have e3 : x.bs.length = M.length := by rw [e2, List.length_map]
      rw [List.take_of_length_le (by omega)] at e1
      have e4 := isPt_rs q
      rw [hL, hQ] at e4
      obtain ⟨xp, xb, xr⟩ := x
      have e5 := hp _ q
      dsimp only at e1 e4 e5
      rw [e1, e4, e5]
    have hyI : placeI ⟨v, B, Q⟩ := ⟨⟨⟨hv, i2⟩, by show B.length < _; omega⟩, by show Q.length < _; omega, fun r hr => by have := hlm r (by rw [← hQ] at hr; exact List.mem_of_mem_drop hr); omega⟩
    cases okp
    · repeat' ((conv => whnf); first | refine vA ?_ | with_reducible first | refine v8 ?_ | refine Sp.mk ?_ ?_ | refine vS ?_ | refine vR ?_ | refine vB ?_ | refine br_nt ?_ | refine br_tt ?_ | refine br_ff ?_ | refine vP ?_ | refine vQ ?_ | refine vT ?_ | refine vF ?_ | refine br_and ?_ | refine br_or ?_ | refine br_d (fun _ => ?_) fun _ => ?_ | refine vM (fun _ => ?_) fun _ => ?_)
      refine ⟨_, _, [], [], rfl, rfl, ?_, ?_, (hno fun ⟨x, q⟩ => by cases hpn x q)⟩
      · repeat' ((conv => whnf); first | with_reducible exact True.intro | exact vW | with_reducible refine And.intro ?_ ?_)
      · repeat' ((conv => whnf); first | with_reducible exact True.intro | exact vW | with_reducible refine And.intro ?_ ?_)
    by_cases hO : placeOk ⟨v, B, Q⟩
    · repeat' ((conv => whnf); first | refine vA ?_ | with_reducible first | refine v8 ?_ | refine Sp.mk ?_ ?_ | refine vS ?_ | refine vR ?_ | refine vB ?_ | refine br_nt ?_ | refine br_tt ?_ | refine br_ff ?_ | refine vP ?_ | refine vQ ?_ | refine vT ?_ | refine vF ?_ | refine br_and ?_ | refine br_or ?_ | refine br_d (fun _ => ?_) fun _ => ?_ | refine vM (fun _ => ?_) fun _ => ?_)
      refine ⟨⟨v, B, Q⟩, ?_, ⟨hyI⟩, ?_⟩
      · repeat' ((conv => whnf); first | with_reducible exact True.intro | exact vW | with_reducible refine And.intro ?_ ?_)
        all_goals exact Chk.mk ⟨rfl, fun i _ => by dsimp only; rw [Nat.zero_add]⟩
      repeat' ((conv => whnf); first | refine vA ?_ | with_reducible first | refine v8 ?_ | refine Sp.mk ?_ ?_ | refine vS ?_ | refine vR ?_ | refine vB ?_ | refine br_nt ?_ | refine br_tt ?_ | refine br_ff ?_ | refine vP ?_ | refine vQ ?_ | refine vT ?_ | refine vF ?_ | refine br_and ?_ | refine br_or ?_ | refine br_d (fun _ => ?_) fun _ => ?_ | refine vM (fun _ => ?_) fun _ => ?_)
      refine ⟨⟨v, B, Q⟩, ?_, ⟨hO⟩, ?_⟩
      · repeat' ((conv => whnf); first | with_reducible exact True.intro | exact vW | with_reducible refine And.intro ?_ ?_)
        all_goals exact Chk.mk ⟨rfl, fun i _ => by dsimp only; rw [Nat.zero_add]⟩
      repeat' ((conv => whnf); first | with_reducible refine wk_at 16 ?_ | with_reducible refine wk_at1 16 ?_ | with_reducible refine wk_at2 16 ?_ | refine vA ?_ | with_reducible first | refine v8 ?_ | refine Sp.mk ?_ ?_ | refine vS ?_ | refine vR ?_ | refine vB ?_ | refine br_nt ?_ | refine br_tt ?_ | refine br_ff ?_ | refine vP ?_ | refine vQ ?_ | refine vT ?_ | refine vF ?_ | refine br_and ?_ | refine br_or ?_ | refine br_d (fun _ => ?_) fun _ => ?_ | refine vM (fun _ => ?_) fun _ => ?_)
      · rename_i he
        refine ⟨Wk.go [(2, .ptr 0 0), (7, .ptr 1 0)] [.box [.int .i64 0, .nils, .nils], .box [.int .i64 v, slI B, slS Q]] ⟨⟨[some 0, some 1], [2], rfl, rfl, ?_, ?_⟩⟩ ?_⟩
        · repeat' ((conv => whnf); first | with_reducible exact True.intro | exact vW | with_reducible refine And.intro ?_ ?_)
        · repeat' ((conv => whnf); first | with_reducible exact True.intro | exact vW | with_reducible refine And.intro ?_ ?_)
          all_goals exact Chk.mk ⟨rfl, by omega, fun i _ => by dsimp only; rw [Nat.zero_add]⟩
        repeat' ((conv => whnf); first | refine vA ?_ | with_reducible first | refine v8 ?_ | refine Sp.mk ?_ ?_ | refine vS ?_ | refine vR ?_ | refine vB ?_ | refine br_nt ?_ | refine br_tt ?_ | refine br_ff ?_ | refine vP ?_ | refine vQ ?_ | refine vT ?_ | refine vF ?_ | refine br_and ?_ | refine br_or ?_ | refine br_d (fun _ => ?_) fun _ => ?_ | refine vM (fun _ => ?_) fun _ => ?_)
        refine ⟨_, _, [], [], rfl, ?_, ?_, ⟨v, B, Q⟩, rfl, rfl, ⟨placeOk_short' hO⟩, ?_⟩
        · repeat' ((conv => whnf); first | with_reducible exact True.intro | exact vW | with_reducible refine And.intro ?_ ?_)
        · repeat' ((conv => whnf); first | with_reducible exact True.intro | exact vW | with_reducible refine And.intro ?_ ?_)
        have hk := h ⟨v, B, Q⟩ ⟨hO, he⟩
        unfold plG plO at hk
        dsimp only [plG, plO] at hk ⊢
        repeat' ((conv => whnf); first | refine vA ?_ | with_reducible first | refine v8 ?_ | refine Sp.mk ?_ ?_ | refine vS ?_ | refine vR ?_ | refine vB ?_ | refine br_nt ?_ | refine br_tt ?_ | refine br_ff ?_ | refine vP ?_ | refine vQ ?_ | refine vT ?_ | refine vF ?_ | refine br_and ?_ | refine br_or ?_ | refine br_d (fun _ => ?_) fun _ => ?_ | refine vM (fun _ => ?_) fun _ => ?_)
        refine ⟨_, _, [some 2, some 3], [], rfl, rfl, ?_, ?_, hk⟩
        · repeat' ((conv => whnf); first | with_reducible exact True.intro | exact vW | with_reducible refine And.intro ?_ ?_)
        · repeat' ((conv => whnf); first | with_reducible exact True.intro | exact vW | with_reducible refine And.intro ?_ ?_)
      · rename_i he
        refine ⟨_, _, [], [], rfl, rfl, ?_, ?_, (hno fun ⟨x, q⟩ => he (by rw [← hBx x q]; exact q.2))⟩
        · repeat' ((conv => whnf); first | with_reducible exact True.intro | exact vW | with_reducible refine And.intro ?_ ?_)
        · repeat' ((conv => whnf); first | with_reducible exact True.intro | exact vW | with_reducible refine And.intro ?_ ?_)
    · repeat' ((conv => whnf); first | refine vA ?_ | with_reducible first | refine v8 ?_ | refine Sp.mk ?_ ?_ | refine vS ?_ | refine vR ?_ | refine vB ?_ | refine br_nt ?_ | refine br_tt ?_ | refine br_ff ?_ | refine vP ?_ | refine vQ ?_ | refine vT ?_ | refine vF ?_ | refine br_and ?_ | refine br_or ?_ | refine br_d (fun _ => ?_) fun _ => ?_ | refine vM (fun _ => ?_) fun _ => ?_)
      refine ⟨⟨v, B, Q⟩, ?_, ⟨hyI⟩, ?_⟩
      · repeat' ((conv => whnf); first | with_reducible exact True.intro | exact vW | with_reducible refine And.intro ?_ ?_)
        all_goals exact Chk.mk ⟨rfl, fun i _ => by dsimp only; rw [Nat.zero_add]⟩
      repeat' ((conv => whnf); first | refine vA ?_ | with_reducible first | refine v8 ?_ | refine Sp.mk ?_ ?_ | refine vS ?_ | refine vR ?_ | refine vB ?_ | refine br_nt ?_ | refine br_tt ?_ | refine br_ff ?_ | refine vP ?_ | refine vQ ?_ | refine vT ?_ | refine vF ?_ | refine br_and ?_ | refine br_or ?_ | refine br_d (fun _ => ?_) fun _ => ?_ | refine vM (fun _ => ?_) fun _ => ?_)
      refine ⟨_, _, [], [], rfl, rfl, ?_, ?_, (hno fun ⟨x, q⟩ => hO (by rw [← hBx x q]; exact q.1))⟩
      · repeat' ((conv => whnf); first | with_reducible exact True.intro | exact vW | with_reducible refine And.intro ?_ ?_)
      · repeat' ((conv => whnf); first | with_reducible exact True.intro | exact vW | with_reducible refine And.intro ?_ ?_)
def C218g := C214g
theorem F218g : GG 16 C218g := by
  refine fitG [] (by simp) [(33, C214g)] (by simp only [List.mem_cons, List.not_mem_nil, or_false]; rintro _ rfl <;> first | exact F214g) Tryz.f16 ⟨rfl, by decide +kernel, by decide +kernel⟩ (fun _ _ _ hk h => ⟨fun x q => hk _ _ (h.1 x q), fun q => hk _ _ (h.2 q)⟩) ?_
  rintro s K hs ⟨h, hno⟩
  refine ⟨Nat.le_of_ble_eq_true rfl, ?_⟩
  repeat' ((conv => whnf); first | refine vA ?_ | with_reducible first | refine v8 ?_ | refine Sp.mk ?_ ?_ | refine vS ?_ | refine vR ?_ | refine vB ?_ | refine br_nt ?_ | refine br_tt ?_ | refine br_ff ?_ | refine vP ?_ | refine vQ ?_ | refine vT ?_ | refine vF ?_ | refine br_and ?_ | refine br_or ?_ | refine br_d (fun _ => ?_) fun _ => ?_ | refine vM (fun _ => ?_) fun _ => ?_)
  refine ⟨_, _, [], [], rfl, ?_, ?_, s, rfl, rfl, ⟨hs⟩, ?_⟩
  · repeat' ((conv => whnf); first | with_reducible exact True.intro | exact vW | with_reducible refine And.intro ?_ ?_)
  · repeat' ((conv => whnf); first | with_reducible exact True.intro | exact vW | with_reducible refine And.intro ?_ ?_)
  refine ⟨fun x q => ?_, fun q => ?_⟩
  · have hk := h x q
    obtain ⟨p, bs, rs⟩ := x
    unfold plG plO at hk
    dsimp only [plG, plO] at hk ⊢
    repeat' ((conv => whnf); first | refine vA ?_ | with_reducible first | refine v8 ?_ | refine Sp.mk ?_ ?_ | refine vS ?_ | refine vR ?_ | refine vB ?_ | refine br_nt ?_ | refine br_tt ?_ | refine br_ff ?_ | refine vP ?_ | refine vQ ?_ | refine vT ?_ | refine vF ?_ | refine br_and ?_ | refine br_or ?_ | refine br_d (fun _ => ?_) fun _ => ?_ | refine vM (fun _ => ?_) fun _ => ?_)
    refine ⟨_, _, [some 1, some 2], [], rfl, rfl, ?_, ?_, hk⟩
    · repeat' ((conv => whnf); first | with_reducible exact True.intro | exact vW | with_reducible refine And.intro ?_ ?_)
    · repeat' ((conv => whnf); first | with_reducible exact True.intro | exact vW | with_reducible refine And.intro ?_ ?_)
  · have hk := hno q
    repeat' ((conv => whnf); first | refine vA ?_ | with_reducible first | refine v8 ?_ | refine Sp.mk ?_ ?_ | refine vS ?_ | refine vR ?_ | refine vB ?_ | refine br_nt ?_ | refine br_tt ?_ | refine br_ff ?_ | refine vP ?_ | refine vQ ?_ | refine vT ?_ | refine vF ?_ | refine br_and ?_ | refine br_or ?_ | refine br_d (fun _ => ?_) fun _ => ?_ | refine vM (fun _ => ?_) fun _ => ?_)
    refine ⟨_, _, [], [], rfl, rfl, ?_, ?_, hk⟩
    · repeat' ((conv => whnf); first | with_reducible exact True.intro | exact vW | with_reducible refine And.intro ?_ ?_)
    · repeat' ((conv => whnf); first | with_reducible exact True.intro | exact vW | with_reducible refine And.intro ?_ ?_)
def C229 : List AV → (AV → Prop) → Prop := con (X := ByteArray) (fun s => [.str s]) (fun s => s.size < 9223372036854775808) fun _ K => K (.bool true)
theorem F229 : FF 5 C229 := by
  refine fitX [(18, C219), (19, C130), (21, C171)] (by simp only [List.mem_cons, List.not_mem_nil, or_false]; rintro _ (rfl | rfl | rfl) <;> first | exact F219 | exact F130 | exact F171) [(16, C218g), (20, C148)] (by simp only [List.mem_cons, List.not_mem_nil, or_false]; rintro _ (rfl | rfl) <;> first | exact F218g | exact F148) Tryz.f5 ⟨rfl, by decide +kernel, by decide +kernel⟩ (fun _ _ _ hk h => hk _ h) ?_
  rintro s K hs h
  refine ⟨Nat.le_of_ble_eq_true rfl, ?_⟩
  repeat' ((conv => whnf); first | refine vA ?_ | with_reducible first | refine v8 ?_ | refine Sp.mk ?_ ?_ | refine vS ?_ | refine vR ?_ | refine vB ?_ | refine br_nt ?_ | refine br_tt ?_ | refine br_ff ?_ | refine vP ?_ | refine vQ ?_ | refine vT ?_ | refine vF ?_ | refine br_and ?_ | refine br_or ?_ | refine br_d (fun _ => ?_) fun _ => ?_ | refine vM (fun _ => ?_) fun _ => ?_)
  · exact h
  rename_i hsz
  refine ⟨s, ?_, ⟨by omega⟩, ?_⟩
  · repeat' ((conv => whnf); first | with_reducible exact True.intro | exact vW | with_reducible refine And.intro ?_ ?_)
  apply later
  · intro key
    refine ⟨fun x q => ?_, fun q => ?_⟩
    · obtain ⟨p, bs, rs⟩ := x
      dsimp only [enPl, plC]
      repeat' ((conv => whnf); first | refine vA ?_ | with_reducible first | refine v8 ?_ | refine Sp.mk ?_ ?_ | refine vS ?_ | refine vR ?_ | refine vB ?_ | refine br_nt ?_ | refine br_tt ?_ | refine br_ff ?_ | refine vP ?_ | refine vQ ?_ | refine vT ?_ | refine vF ?_ | refine br_and ?_ | refine br_or ?_ | refine br_d (fun _ => ?_) fun _ => ?_ | refine vM (fun _ => ?_) fun _ => ?_)
      refine ⟨_, _, [], [], rfl, ?_, ?_, s, rfl, rfl, ⟨by omega⟩, ?_⟩
      · repeat' ((conv => whnf); first | with_reducible exact True.intro | exact vW | with_reducible refine And.intro ?_ ?_)
      · repeat' ((conv => whnf); first | with_reducible exact True.intro | exact vW | with_reducible refine And.intro ?_ ?_)
      refine ⟨fun y q2 => ?_, fun q2 => (q2 ⟨_, q⟩).elim⟩
      obtain rfl := isPt_one q2 q
      dsimp only [plG, plO]
      repeat' ((conv => whnf); first | with_reducible refine wk_at 5 ?_ | with_reducible refine wk_at1 5 ?_ | with_reducible refine wk_at2 5 ?_ | refine vA ?_ | with_reducible first | refine v8 ?_ | refine Sp.mk ?_ ?_ | refine vS ?_ | refine vR ?_ | refine vB ?_ | refine br_nt ?_ | refine br_tt ?_ | refine br_ff ?_ | refine vP ?_ | refine vQ ?_ | refine vT ?_ | refine vF ?_ | refine br_and ?_ | refine br_or ?_ | refine br_d (fun _ => ?_) fun _ => ?_ | refine vM (fun _ => ?_) fun _ => ?_)
      obtain ⟨y, hy⟩ : ∃ y : Place, (⟨p,bs,rs⟩:Place) = y := ⟨_, rfl⟩
      obtain ⟨o, ho⟩ : ∃ o : Bool, true = o := ⟨_, rfl⟩
      have hyp : (isPt s y ∧ o = true) ∨ ((¬ ∃ x, isPt s x) ∧ y = default ∧ o = false) := (.inl ⟨hy ▸ q, ho.symm⟩)
      refine ⟨Wk.go [(0, .str s), (3, .ptr 0 0), (4, .bool o), (5, .ptr 1 0), (6, .bool o)] [.box (plC y), .box [.int .i64 y.p, .row 2 1 0 y.bs.length, .row 3 1 0 y.rules.length], .row 1 y.bs.length fun i => encI (y.bs.getD i 0), .row 1 y.rules.length fun i => encS (y.rules.getD i ⟨#[]⟩)] ⟨⟨[some 0,some 3,some 1,some 2], [], rfl, rfl, ?_, ?_⟩⟩ ?_⟩
      · subst hy
        subst ho
        repeat' ((conv => whnf); first | with_reducible exact True.intro | exact vW | with_reducible refine And.intro ?_ ?_)
      · subst hy
        repeat' ((conv => whnf); first | with_reducible exact True.intro | exact vW | with_reducible refine And.intro ?_ ?_)
      clear hy ho
      revert y o
      exact key.t
    · dsimp only [enPl, plC]
      repeat' ((conv => whnf); first | refine vA ?_ | with_reducible first | refine v8 ?_ | refine Sp.mk ?_ ?_ | refine vS ?_ | refine vR ?_ | refine vB ?_ | refine br_nt ?_ | refine br_tt ?_ | refine br_ff ?_ | refine vP ?_ | refine vQ ?_ | refine vT ?_ | refine vF ?_ | refine br_and ?_ | refine br_or ?_ | refine br_d (fun _ => ?_) fun _ => ?_ | refine vM (fun _ => ?_) fun _ => ?_)
      refine ⟨_, _, [], [], rfl, ?_, ?_, s, rfl, rfl, ⟨by omega⟩, ?_⟩
      · repeat' ((conv => whnf); first | with_reducible exact True.intro | exact vW | with_reducible refine And.intro ?_ ?_)
      · repeat' ((conv => whnf); first | with_reducible exact True.intro | exact vW | with_reducible refine And.intro ?_ ?_)
      refine ⟨fun y q2 => (q ⟨_, q2⟩).elim, fun _ => ?_⟩
      repeat' ((conv => whnf); first | with_reducible refine wk_at 5 ?_ | with_reducible refine wk_at1 5 ?_ | with_reducible refine wk_at2 5 ?_ | refine vA ?_ | with_reducible first | refine v8 ?_ | refine Sp.mk ?_ ?_ | refine vS ?_ | refine vR ?_ | refine vB ?_ | refine br_nt ?_ | refine br_tt ?_ | refine br_ff ?_ | refine vP ?_ | refine vQ ?_ | refine vT ?_ | refine vF ?_ | refine br_and ?_ | refine br_or ?_ | refine br_d (fun _ => ?_) fun _ => ?_ | refine vM (fun _ => ?_) fun _ => ?_)
      obtain ⟨y, hy⟩ : ∃ y : Place, (default:Place) = y := ⟨_, rfl⟩
      obtain ⟨o, ho⟩ : ∃ o : Bool, false = o := ⟨_, rfl⟩
      have hyp : (isPt s y ∧ o = true) ∨ ((¬ ∃ x, isPt s x) ∧ y = default ∧ o = false) := (.inr ⟨q, hy.symm, ho.symm⟩)
      refine ⟨Wk.go [(0, .str s), (3, .ptr 0 0), (4, .bool o), (5, .ptr 1 0), (6, .bool o)] [.box (plC y), .box [.int .i64 y.p, .row 2 1 0 y.bs.length, .row 3 1 0 y.rules.length], .row 1 y.bs.length fun i => encI (y.bs.getD i 0), .row 1 y.rules.length fun i => encS (y.rules.getD i ⟨#[]⟩)] ⟨⟨[some 0,some 1,none,none], [], rfl, rfl, ?_, ?_⟩⟩ ?_⟩
      · subst hy
        subst ho
        repeat' ((conv => whnf); first | with_reducible exact True.intro | exact vW | with_reducible refine And.intro ?_ ?_)
      · subst hy
        repeat' ((conv => whnf); first | with_reducible exact True.intro | exact vW | with_reducible refine And.intro ?_ ?_)
      clear hy ho
      revert y o
      exact key.t
  rintro ⟨p, bs, rs⟩ o hyp
  have hle : bs.length ≤ 4 ∧ rs.length ≤ 4 := by
    rcases hyp with ⟨q, _⟩ | ⟨_, e, _⟩
    · exact ⟨q.1.1.2.1, q.1.2.1.2⟩
    · cases e
      exact ⟨by decide, by decide⟩
  have hlen : lenI ⟨p, bs, rs⟩ := ⟨by dsimp only; omega, by dsimp only; omega⟩
  have hbb : (o == o) = true := beq_self_eq_true _
  dsimp only [plC]
  repeat' ((conv => whnf); first | refine vA ?_ | with_reducible first | refine v8 ?_ | refine Sp.mk ?_ ?_ | refine vS ?_ | refine vR ?_ | refine vB ?_ | refine br_nt ?_ | refine br_tt ?_ | refine br_ff ?_ | refine vP ?_ | refine vQ ?_ | refine vT ?_ | refine vF ?_ | refine br_and ?_ | refine br_or ?_ | refine br_d (fun _ => ?_) fun _ => ?_ | refine vM (fun _ => ?_) fun _ => ?_)
  refine ⟨⟨p, bs, rs⟩, ?_, ⟨hlen⟩, ?_⟩
  · repeat' ((conv => whnf); first | with_reducible exact True.intro | exact vW | with_reducible refine And.intro ?_ ?_)
    all_goals exact Chk.mk ⟨rfl, fun i _ => by dsimp only; rw [Nat.zero_add]⟩
  repeat' ((conv => whnf); first | refine vA ?_ | with_reducible first | refine v8 ?_ | refine Sp.mk ?_ ?_ | refine vS ?_ | refine vR ?_ | refine vB ?_ | refine br_nt ?_ | refine br_tt ?_ | refine br_ff ?_ | refine vP ?_ | refine vQ ?_ | refine vT ?_ | refine vF ?_ | refine br_and ?_ | refine br_or ?_ | refine br_d (fun _ => ?_) fun _ => ?_ | refine vM (fun _ => ?_) fun _ => ?_)
  refine ⟨_, _, [2, 3], [], rfl, ?_, ?_, ⟨⟨p, bs, rs⟩, 1⟩, rfl, rfl, ⟨by dsimp only; omega, by dsimp only; omega, by dsimp only; omega, by dsimp only; omega⟩, ?_⟩
  · repeat' ((conv => whnf); first | with_reducible exact True.intro | exact vW | with_reducible refine And.intro ?_ ?_)
  · repeat' ((conv => whnf); first | with_reducible exact True.intro | exact vW | with_reducible refine And.intro ?_ ?_)
  dsimp only [plR, mkPl]
  rw [mksI_len, mksS_len]
  repeat' ((conv => whnf); first | refine vA ?_ | with_reducible first | refine v8 ?_ | refine Sp.mk ?_ ?_ | refine vS ?_ | refine vR ?_ | refine vB ?_ | refine br_nt ?_ | refine br_tt ?_ | refine br_ff ?_ | refine vP ?_ | refine vQ ?_ | refine vT ?_ | refine vF ?_ | refine br_and ?_ | refine br_or ?_ | refine br_d (fun _ => ?_) fun _ => ?_ | refine vM (fun _ => ?_) fun _ => ?_)
  have hm1 : bs.length = (mksI 1 bs.length).length ∧ ∀ i, i < bs.length → encI ((mksI 1 bs.length).getD (0 + i) 0) = encI ((mksI 1 bs.length).getD i 0) := ⟨(mksI_len _ _).symm, fun i _ => by rw [Nat.zero_add]⟩
  have hm2 : rs.length = (mksS (1 + (bs.length : Int)) rs.length).length ∧ ∀ i, i < rs.length → encS ((mksS (1 + (bs.length : Int)) rs.length).getD (0 + i) ⟨#[]⟩) = encS ((mksS (1 + (bs.length : Int)) rs.length).getD i ⟨#[]⟩) := ⟨(mksS_len _ _).symm, fun i _ => by rw [Nat.zero_add]⟩
  have hpre : mkPre ⟨⟨p, bs, rs⟩, 1⟩ := ⟨by dsimp only; omega, by dsimp only; omega, by dsimp only; omega, by dsimp only; omega⟩
  refine ⟨⟨⟨p, bs, rs⟩, 1⟩, ?_, ⟨hpre⟩, ?_⟩
  · repeat' ((conv => whnf); first | with_reducible exact True.intro | exact vW | with_reducible refine And.intro ?_ ?_)
    all_goals first | exact Chk.mk hm1 | exact Chk.mk hm2
  dsimp only
  repeat' ((conv => whnf); first | refine vA ?_ | with_reducible first | refine v8 ?_ | refine Sp.mk ?_ ?_ | refine vS ?_ | refine vR ?_ | refine vB ?_ | refine br_nt ?_ | refine br_tt ?_ | refine br_ff ?_ | refine vP ?_ | refine vQ ?_ | refine vT ?_ | refine vF ?_ | refine br_and ?_ | refine br_or ?_ | refine br_d (fun _ => ?_) fun _ => ?_ | refine vM (fun _ => ?_) fun _ => ?_)
  refine ⟨_, _, [], [], rfl, ?_, ?_, s, rfl, rfl, ⟨by omega⟩, ?_⟩
  · repeat' ((conv => whnf); first | with_reducible exact True.intro | exact vW | with_reducible refine And.intro ?_ ?_)
  · repeat' ((conv => whnf); first | with_reducible exact True.intro | exact vW | with_reducible refine And.intro ?_ ?_)
  rcases hyp with ⟨q, rfl⟩ | ⟨q, e, rfl⟩
  · refine ⟨fun y q2 => ?_, fun q2 => (q2 ⟨_, q⟩).elim⟩
    obtain rfl := isPt_one q2 q
    dsimp only [plG, plO]
    repeat' ((conv => whnf); first | refine vA ?_ | with_reducible first | refine v8 ?_ | refine Sp.mk ?_ ?_ | refine vS ?_ | refine vR ?_ | refine vB ?_ | refine br_nt ?_ | refine br_tt ?_ | refine br_ff ?_ | refine vP ?_ | refine vQ ?_ | refine vT ?_ | refine vF ?_ | refine br_and ?_ | refine br_or ?_ | refine br_d (fun _ => ?_) fun _ => ?_ | refine vM (fun _ => ?_) fun _ => ?_)
    refine ⟨⟨p, bs, rs⟩, ?_, ⟨hlen⟩, ?_⟩
    · repeat' ((conv => whnf); first | with_reducible exact True.intro | exact vW | with_reducible refine And.intro ?_ ?_)
      all_goals exact Chk.mk ⟨rfl, fun i _ => by dsimp only; rw [Nat.zero_add]⟩
    repeat' ((conv => whnf); first | refine vA ?_ | with_reducible first | refine v8 ?_ | refine Sp.mk ?_ ?_ | refine vS ?_ | refine vR ?_ | refine vB ?_ | refine br_nt ?_ | refine br_tt ?_ | refine br_ff ?_ | refine vP ?_ | refine vQ ?_ | refine vT ?_ | refine vF ?_ | refine br_and ?_ | refine br_or ?_ | refine br_d (fun _ => ?_) fun _ => ?_ | refine vM (fun _ => ?_) fun _ => ?_)
    refine ⟨⟨⟨p, bs, rs⟩, 1⟩, ?_, ⟨hpre⟩, ?_⟩
    · repeat' ((conv => whnf); first | with_reducible exact True.intro | exact vW | with_reducible refine And.intro ?_ ?_)
      all_goals first | exact Chk.mk hm1 | exact Chk.mk hm2
    dsimp only
    repeat' ((conv => whnf); first | refine vA ?_ | with_reducible first | refine v8 ?_ | refine Sp.mk ?_ ?_ | refine vS ?_ | refine vR ?_ | refine vB ?_ | refine br_nt ?_ | refine br_tt ?_ | refine br_ff ?_ | refine vP ?_ | refine vQ ?_ | refine vT ?_ | refine vF ?_ | refine br_and ?_ | refine br_or ?_ | refine br_d (fun _ => ?_) fun _ => ?_ | refine vM (fun _ => ?_) fun _ => ?_)
    exact h
  · refine ⟨fun y q2 => (q ⟨_, q2⟩).elim, fun _ => ?_⟩
    cases e
    repeat' ((conv => whnf); first | refine vA ?_ | with_reducible first | refine v8 ?_ | refine Sp.mk ?_ ?_ | refine vS ?_ | refine vR ?_ | refine vB ?_ | refine br_nt ?_ | refine br_tt ?_ | refine br_ff ?_ | refine vP ?_ | refine vQ ?_ | refine vT ?_ | refine vF ?_ | refine br_and ?_ | refine br_or ?_ | refine br_d (fun _ => ?_) fun _ => ?_ | refine vM (fun _ => ?_) fun _ => ?_)
    refine ⟨⟨default, default, default⟩, ?_, ⟨hlen⟩, ?_⟩
    · repeat' ((conv => whnf); first | with_reducible exact True.intro | exact vW | with_reducible refine And.intro ?_ ?_)
    repeat' ((conv => whnf); first | refine vA ?_ | with_reducible first | refine v8 ?_ | refine Sp.mk ?_ ?_ | refine vS ?_ | refine vR ?_ | refine vB ?_ | refine br_nt ?_ | refine br_tt ?_ | refine br_ff ?_ | refine vP ?_ | refine vQ ?_ | refine vT ?_ | refine vF ?_ | refine br_and ?_ | refine br_or ?_ | refine br_d (fun _ => ?_) fun _ => ?_ | refine vM (fun _ => ?_) fun _ => ?_)
    refine ⟨⟨⟨default, default, default⟩, 1⟩, ?_, ⟨hpre⟩, ?_⟩
    · repeat' ((conv => whnf); first | with_reducible exact True.intro | exact vW | with_reducible refine And.intro ?_ ?_)
      all_goals first | exact Chk.mk hm1 | exact Chk.mk hm2
    dsimp only
    repeat' ((conv => whnf); first | refine vA ?_ | with_reducible first | refine v8 ?_ | refine Sp.mk ?_ ?_ | refine vS ?_ | refine vR ?_ | refine vB ?_ | refine br_nt ?_ | refine br_tt ?_ | refine br_ff ?_ | refine vP ?_ | refine vQ ?_ | refine vT ?_ | refine vF ?_ | refine br_and ?_ | refine br_or ?_ | refine br_d (fun _ => ?_) fun _ => ?_ | refine vM (fun _ => ?_) fun _ => ?_)
    exact h
end Go.Proofs.YtahfdkdneojkmaaGreatDoor.Vc
end
section
/- The row of FnExactReadPlace: for every input it returns true. -/
namespace Go.Proofs.YtahfdkdneojkmaaGreatDoor.Vc
open Go.Proofs Go.ChangeShapes Go.WideShapes Go.ChangeAt Go.RowKit
open Go.Proofs.YtahfdkdneojkmaaGreatDoor
set_option maxRecDepth 100000
theorem metFnExactReadPlace (os : Os) (args : Array Value) : laidMet Tryz.prog Rows.fnExactReadPlaceRow.laid ((World.laidAll Tryz.prog os Rows.fnExactReadPlaceRow.laid).forCall (fun _ _ => 0) ⟨#[], args, []⟩).memory :=
  laidMet_laidAll args (by kernel_rfl) (by kernel_rfl)
theorem goodFnExactReadPlace {W : World} (h : laidMet Tryz.prog Rows.fnExactReadPlaceRow.laid W) (hs : W.ShapedOpen Tryz.prog) : Good W :=
  ⟨Lib.tabIs_of_head (rest := []) rfl rfl rfl rfl (by kernel_rfl) (by kernel_rfl) (h.filter fun x => x.1 == "internal/strconv.uint64pow10"),
  hold_len (g := 0) (zero := #[.int .i64 0]) (t := 3) hs (by kernel_rfl) (of_decide_eq_true (by kernel_rfl)) (by kernel_rfl) rfl (by kernel_rfl) (by kernel_rfl) Tryz.underlying3,
  (hold_err (g := 2) (r := []) (ti := 95) (tp := 152) (te := 154) (ts := 9) (h.filter fun x => x.1 == "strconv.ErrSyntax") (by kernel_rfl) (by kernel_rfl) Tryz.underlying95 (by rw [star]; kernel_rfl) (by kernel_rfl) Tryz.underlying152 Tryz.underlying154 rfl rfl Tryz.underlying9 (by kernel_rfl) (by kernel_rfl)),
  (hold_err (g := 3) (r := []) (ti := 95) (tp := 152) (te := 154) (ts := 9) (h.filter fun x => x.1 == "strconv.ErrRange") (by kernel_rfl) (by kernel_rfl) Tryz.underlying95 (by rw [star]; kernel_rfl) (by kernel_rfl) Tryz.underlying152 Tryz.underlying154 rfl rfl Tryz.underlying9 (by kernel_rfl) (by kernel_rfl))⟩
theorem liftedFnExactReadPlace (os : Os) (started : os.Started) (H : Type) (enc : TypeId × Value → H) :
    ReturnsInHanded {} Tryz.checked os 5 .any (fun w args => (Rows.fnExactReadPlaceSpec.pre enc Tryz.prog Tryz.f5 [] false w args ∧ laidMet Tryz.prog Rows.fnExactReadPlaceRow.laid w) ∧ sizedMet enc Tryz.prog Tryz.f5 (OpenSpec.ofChange Rows.fnExactReadPlaceSpec) false w args)
      (Rows.fnExactReadPlaceSpec.post enc Tryz.prog Tryz.f5 false true false false) := by
  refine returns_and_shaped (C := Tryz.checked) (X := fun w _ => laidMet Tryz.prog Rows.fnExactReadPlaceRow.laid w) (fun _ _ _ hh h => h.of_heap hh) own started (by kernel_rfl) Tryz.func5
    (ChangeSpec.witness_at (enc := enc) (C := Tryz.checked) (os := os) (X := fun w _ => laidMet Tryz.prog Rows.fnExactReadPlaceRow.laid w) false (World.laidAll Tryz.prog os Rows.fnExactReadPlaceRow.laid) #[.string ⟨#[]⟩] 8 (World.laidAll_os _ _ _) (by kernel_rfl) (by kernel_rfl) (by kernel_rfl) (by kernel_rfl) (by kernel_rfl) (metFnExactReadPlace os _)) ?_
  intro W base args ds gs before hval0 hW hsh hL
  have hval : ∀ (j : Nat) t v, Tryz.f5.params[j]? = some t → args[j]? = some v → Value.okWide Tryz.prog W .any base t v := hval0
  have hW' := hW
  obtain ⟨p, q, hA0, hV, rfl, hfz, hnd⟩ := hW
  have hA : DataW.TrodAll enc Tryz.prog W 0 (fun _ => true) true Tryz.f5.params.toList args.toList ds p := hA0
  rw [Tryz.params5] at hA hval
  obtain ⟨v0, vs0, d0, ds0, p0, q0, hargs, rfl, rfl, h0, r0⟩ := trodAll_cons hA
  obtain ⟨rfl, rfl, rfl⟩ := trodAll_nil r0
  obtain rfl : args = #[v0] := by cases args; simp_all
  obtain ⟨rfl, rfl⟩ := trodVars_none hV
  have lt0 : ∀ x ∈ p0, x.block < W.heap.size := by obtain ⟨m, hm⟩ := h0; exact DataW.trod_lt m _ _ _ hm
  obtain ⟨x0, rfl, b0⟩ := op_str Tryz.underlying9 (hval 0 9 v0 rfl rfl) h0
  refine (FF.below F229 (us := [.str x0]) (b := true) ⟨x0, ?_, ⟨b0⟩, rfl⟩ (goodFnExactReadPlace hL hsh) ⟨rfl, fun j hj => ?_⟩).mono fun e W' ⟨he, bel⟩ => ?_
  · repeat' ((conv => whnf); first | with_reducible exact True.intro | exact vW | with_reducible refine And.intro ?_ ?_)
  · match j, hj with
    | 0, _ => exact .data (.str _)
  subst he
  exact ⟨_, rfl, _, _, _, [], _, [], hW', trodAll_mk1 (shut_bool Tryz.underlying4 _), (trodAll_cons_mk (Below.trod laidOut (by kernel_rfl) (of_decide_eq_true (by kernel_rfl)) h0 bel lt0) trodAll_mk0), rfl, bel.frame _, fun h => by cases h⟩
theorem FnExactReadPlace_holds : Rows.FnExactReadPlaceSaid :=
  OpenClaim.holds_of_wide 5 Tryz.f5 rfl rfl rfl rfl rfl rfl rfl ⟨rfl, rfl, rfl, rfl, rfl⟩ rfl rfl rfl rfl rfl (by kernel_rfl) Tryz.func5 (by kernel_rfl)
    (of_decide_eq_true (by kernel_rfl)) (by unfold Func.isWrapper; first | (rw [if_pos (by decide +kernel)]; kernel_rfl) | (rw [if_neg (by decide +kernel)]; exact ⟨rfl, rfl⟩))
    (fun os started H enc _ => liftedFnExactReadPlace os started H enc)
end Go.Proofs.YtahfdkdneojkmaaGreatDoor.Vc
end
