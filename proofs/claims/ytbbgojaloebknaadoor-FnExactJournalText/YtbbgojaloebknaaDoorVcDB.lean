/- Part DB: the texts of deeds. -/
import Derived.Test.YtbbgojaloebknaaDoorVcDA
namespace Go.Proofs.YtbbgojaloebknaaDoor.Vc
open Go.Proofs
structure Dd where
  kind : Int
  a : Int
  b : Int
  words : ByteArray
  deriving Inhabited, DecidableEq
def encD (d : Dd) : List AV := [.int .i64 d.kind, .int .i64 d.a, .int .i64 d.b, .str d.words]
abbrev ded (d : Dd) : AV := .agg (encD d)
def tx (l : List UInt8) : ByteArray := ⟨l.toArray⟩
def plainW (s : ByteArray) : Bool := decide (¬ s = ⟨#[]⟩) && !spc s
/-- A deed's text. -/
def deedT (d : Dd) : ByteArray :=
  if d.a < 0 ∨ 99 < d.a ∨ d.b < 0 ∨ 99 < d.b then ⟨#[]⟩
  else if d.kind = 0 ∧ d.b = 0 ∧ d.words = ⟨#[]⟩ then ⟨#[98, 111, 100, 121, 32]⟩ ++ num d.a
  else if d.kind = 1 ∧ d.a = 0 ∧ d.b = 0 ∧ plainW d.words = true then ⟨#[114, 117, 108, 101, 32]⟩ ++ d.words
  else if d.kind = 2 ∧ plainW d.words = true then ⟨#[97, 109, 101, 110, 100, 32]⟩ ++ num d.a ++ ⟨#[32]⟩ ++ num d.b ++ ⟨#[32]⟩ ++ d.words
  else if d.kind = 3 ∧ d.words = ⟨#[]⟩ then ⟨#[100, 114, 111, 112, 32]⟩ ++ num d.a ++ ⟨#[32]⟩ ++ num d.b
  else if d.kind = 4 ∧ d.a = 0 ∧ d.b = 0 ∧ d.words = ⟨#[]⟩ then ⟨#[98, 97, 99, 107]⟩
  else ⟨#[]⟩
theorem sz1 : (⟨#[98, 111, 100, 121, 32]⟩ : ByteArray).size = 5 := rfl
theorem sz2 : (⟨#[114, 117, 108, 101, 32]⟩ : ByteArray).size = 5 := rfl
theorem sz3 : (⟨#[97, 109, 101, 110, 100, 32]⟩ : ByteArray).size = 6 := rfl
theorem sz4 : (⟨#[100, 114, 111, 112, 32]⟩ : ByteArray).size = 5 := rfl
theorem sz5 : (⟨#[32]⟩ : ByteArray).size = 1 := rfl
def C108 : List AV → (AV → Prop) → Prop := con (X := Dd) (fun d => [ded d]) (fun _ => True) fun d K => K (ded d)
theorem F108 : FF 7 C108 := by
  refine fitE [] (by simp) Tryd.f7 ⟨rfl, by decide +kernel, by decide +kernel⟩ (fun _ _ _ hk h => hk _ h) ?_
  rintro ⟨k, a, b, w⟩ K _ h
  refine ⟨Nat.le_of_ble_eq_true rfl, ?_⟩
  dsimp only [ded, encD] at h ⊢
  repeat' ((conv => whnf); first | refine vA ?_ | with_reducible first | refine v8 ?_ | refine Sp.mk ?_ ?_ | refine vS ?_ | refine vR ?_ | refine vB ?_ | refine br_nt ?_ | refine br_tt ?_ | refine br_ff ?_ | refine vP ?_ | refine vQ ?_ | refine vT ?_ | refine vF ?_ | refine br_and ?_ | refine br_or ?_ | refine br_d (fun _ => ?_) fun _ => ?_ | refine vM (fun _ => ?_) fun _ => ?_)
  exact h
def C107 : List AV → (AV → Prop) → Prop := con (X := Dd × Int) (fun x => [ded x.1, .int .i64 x.2]) (fun x => x.1.words.size < 9223372036854775808 ∧ 0 ≤ x.2 ∧ x.2 ≤ 9223372036854775807) fun x K => K (.int .i64 (if x.2 - x.1.words.size < 0 then -1 else x.2 - x.1.words.size))
theorem F107 : FF 5 C107 := by
  refine fitE [] (by simp) Tryd.f5 ⟨rfl, by decide +kernel, by decide +kernel⟩ (fun _ _ _ hk h => hk _ h) ?_
  rintro ⟨⟨k, a, b, w⟩, n⟩ K ⟨h1, h2, h3⟩ h
  refine ⟨Nat.le_of_ble_eq_true rfl, ?_⟩
  dsimp only [ded, encD] at h1 h2 h3 h ⊢
  repeat' ((conv => whnf); first | refine vA ?_ | with_reducible first | refine v8 ?_ | refine Sp.mk ?_ ?_ | refine vS ?_ | refine vR ?_ | refine vB ?_ | refine br_nt ?_ | refine br_tt ?_ | refine br_ff ?_ | refine vP ?_ | refine vQ ?_ | refine vT ?_ | refine vF ?_ | refine br_and ?_ | refine br_or ?_ | refine br_d (fun _ => ?_) fun _ => ?_ | refine vM (fun _ => ?_) fun _ => ?_)
  · rw [if_pos (by omega)] at h
    exact h
  · rw [if_neg (by omega)] at h
    exact h
def C103 : List AV → (AV → Prop) → Prop := con (X := Dd) (fun d => [ded d]) (fun d => d.words.size ≤ 1048576) fun d K => K (.str (deedT d))
set_option maxHeartbeats 4000000 in
theorem F103 : FF 16 C103 := by
  refine fitE [(19, C101), (18, C102)] (by simp only [List.mem_cons, List.not_mem_nil, or_false]; rintro _ (rfl | rfl) <;> first | exact F101 | exact F102) Tryd.f16 ⟨rfl, by decide +kernel, by decide +kernel⟩ (fun _ _ _ hk h => hk _ h) ?_
  rintro ⟨k, a, b, w⟩ K h1 h
  refine ⟨Nat.le_of_ble_eq_true rfl, ?_⟩
  dsimp only [ded, encD] at h1 h ⊢
  repeat' ((conv => whnf); first | refine vA ?_ | with_reducible first | refine v8 ?_ | refine Sp.mk ?_ ?_ | refine vS ?_ | refine vR ?_ | refine vB ?_ | refine br_nt ?_ | refine br_tt ?_ | refine br_ff ?_ | refine vP ?_ | refine vQ ?_ | refine vT ?_ | refine vF ?_ | refine br_and ?_ | refine br_or ?_ | refine br_d (fun _ => ?_) fun _ => ?_ | refine vM (fun _ => ?_) fun _ => ?_)
  all_goals try ((unfold deedT plainW at h; repeat' (split at h)) <;> first | exact h | (exfalso; simp_all; done) | (exfalso; simp_all; omega))
  · have na' := num_size (n := a) (by omega) (by omega)
    refine ⟨a, ?_, ⟨by omega, by omega⟩, ?_⟩
    · repeat' ((conv => whnf); first | with_reducible exact True.intro | exact vW | with_reducible refine And.intro ?_ ?_)
    repeat' ((conv => whnf); first | refine ⟨Chk.mk (by have z1 := sz1; have z2 := sz2; have z3 := sz3; have z4 := sz4; have z5 := sz5; (repeat rw [ByteArray.size_append]); omega), ?_⟩ | refine vA ?_ | with_reducible first | refine v8 ?_ | refine Sp.mk ?_ ?_ | refine vS ?_ | refine vR ?_ | refine vB ?_ | refine br_nt ?_ | refine br_tt ?_ | refine br_ff ?_ | refine vP ?_ | refine vQ ?_ | refine vT ?_ | refine vF ?_ | refine br_and ?_ | refine br_or ?_ | refine br_d (fun _ => ?_) fun _ => ?_ | refine vM (fun _ => ?_) fun _ => ?_)
    ((unfold deedT plainW at h; repeat' (split at h)) <;> first | exact h | (exfalso; simp_all; done) | (exfalso; simp_all; omega))
  · have na' := num_size (n := a) (by omega) (by omega)
    have nb' := num_size (n := b) (by omega) (by omega)
    refine Dr.mk ⟨(.rd 0 (.rd 1 (.rd 5 (.rd 6 (.ef 2 (.rd 3 (.rd 4 (.ef 7 (.rd 8 (.rd 9 .dn)) .no))) .no))))), by decide +kernel, ?_⟩
    repeat' ((conv => whnf); first | refine ⟨Chk.mk (by have z1 := sz1; have z2 := sz2; have z3 := sz3; have z4 := sz4; have z5 := sz5; (repeat rw [ByteArray.size_append]); omega), ?_⟩ | refine vA ?_ | with_reducible first | refine v8 ?_ | refine Sp.mk ?_ ?_ | refine vS ?_ | refine vR ?_ | refine vB ?_ | refine br_nt ?_ | refine br_tt ?_ | refine br_ff ?_ | refine vP ?_ | refine vQ ?_ | refine vT ?_ | refine vF ?_ | refine br_and ?_ | refine br_or ?_ | refine br_d (fun _ => ?_) fun _ => ?_ | refine vM (fun _ => ?_) fun _ => ?_)
    refine ⟨a, ?_, ⟨by omega, by omega⟩, ?_⟩
    · repeat' ((conv => whnf); first | with_reducible exact True.intro | exact vW | with_reducible refine And.intro ?_ ?_)
    repeat' ((conv => whnf); first | refine ⟨Chk.mk (by have z1 := sz1; have z2 := sz2; have z3 := sz3; have z4 := sz4; have z5 := sz5; (repeat rw [ByteArray.size_append]); omega), ?_⟩ | refine vA ?_ | with_reducible first | refine v8 ?_ | refine Sp.mk ?_ ?_ | refine vS ?_ | refine vR ?_ | refine vB ?_ | refine br_nt ?_ | refine br_tt ?_ | refine br_ff ?_ | refine vP ?_ | refine vQ ?_ | refine vT ?_ | refine vF ?_ | refine br_and ?_ | refine br_or ?_ | refine br_d (fun _ => ?_) fun _ => ?_ | refine vM (fun _ => ?_) fun _ => ?_)
    refine ⟨b, ?_, ⟨by omega, by omega⟩, ?_⟩
    · repeat' ((conv => whnf); first | with_reducible exact True.intro | exact vW | with_reducible refine And.intro ?_ ?_)
    repeat' ((conv => whnf); first | refine ⟨Chk.mk (by have z1 := sz1; have z2 := sz2; have z3 := sz3; have z4 := sz4; have z5 := sz5; (repeat rw [ByteArray.size_append]); omega), ?_⟩ | refine vA ?_ | with_reducible first | refine v8 ?_ | refine Sp.mk ?_ ?_ | refine vS ?_ | refine vR ?_ | refine vB ?_ | refine br_nt ?_ | refine br_tt ?_ | refine br_ff ?_ | refine vP ?_ | refine vQ ?_ | refine vT ?_ | refine vF ?_ | refine br_and ?_ | refine br_or ?_ | refine br_d (fun _ => ?_) fun _ => ?_ | refine vM (fun _ => ?_) fun _ => ?_)
    ((unfold deedT plainW at h; repeat' (split at h)) <;> first | exact h | (exfalso; simp_all; done) | (exfalso; simp_all; omega))
  · refine ⟨w, ?_, ⟨by omega⟩, ?_⟩
    · repeat' ((conv => whnf); first | with_reducible exact True.intro | exact vW | with_reducible refine And.intro ?_ ?_)
    cases hs : spc w
    · repeat' ((conv => whnf); first | refine vA ?_ | with_reducible first | refine v8 ?_ | refine Sp.mk ?_ ?_ | refine vS ?_ | refine vR ?_ | refine vB ?_ | refine br_nt ?_ | refine br_tt ?_ | refine br_ff ?_ | refine vP ?_ | refine vQ ?_ | refine vT ?_ | refine vF ?_ | refine br_and ?_ | refine br_or ?_ | refine br_d (fun _ => ?_) fun _ => ?_ | refine vM (fun _ => ?_) fun _ => ?_)
      all_goals try ((unfold deedT plainW at h; repeat' (split at h)) <;> first | exact h | (exfalso; simp_all; done) | (exfalso; simp_all; omega))
      · repeat' ((conv => whnf); first | refine ⟨Chk.mk (by have z1 := sz1; have z2 := sz2; have z3 := sz3; have z4 := sz4; have z5 := sz5; (repeat rw [ByteArray.size_append]); omega), ?_⟩ | refine vA ?_ | with_reducible first | refine v8 ?_ | refine Sp.mk ?_ ?_ | refine vS ?_ | refine vR ?_ | refine vB ?_ | refine br_nt ?_ | refine br_tt ?_ | refine br_ff ?_ | refine vP ?_ | refine vQ ?_ | refine vT ?_ | refine vF ?_ | refine br_and ?_ | refine br_or ?_ | refine br_d (fun _ => ?_) fun _ => ?_ | refine vM (fun _ => ?_) fun _ => ?_)
        ((unfold deedT plainW at h; repeat' (split at h)) <;> first | exact h | (exfalso; simp_all; done) | (exfalso; simp_all; omega))
      · have na' := num_size (n := a) (by omega) (by omega)
        have nb' := num_size (n := b) (by omega) (by omega)
        refine Dr.mk ⟨(.rd 0 (.rd 1 (.rd 5 (.rd 6 (.rd 10 (.rd 11 (.ef 2 (.rd 3 (.rd 4 (.ef 7 (.rd 8 (.rd 9 (.rd 12 (.rd 13 .dn)))) .no))) .no))))))), by decide +kernel, ?_⟩
        repeat' ((conv => whnf); first | refine ⟨Chk.mk (by have z1 := sz1; have z2 := sz2; have z3 := sz3; have z4 := sz4; have z5 := sz5; (repeat rw [ByteArray.size_append]); omega), ?_⟩ | refine vA ?_ | with_reducible first | refine v8 ?_ | refine Sp.mk ?_ ?_ | refine vS ?_ | refine vR ?_ | refine vB ?_ | refine br_nt ?_ | refine br_tt ?_ | refine br_ff ?_ | refine vP ?_ | refine vQ ?_ | refine vT ?_ | refine vF ?_ | refine br_and ?_ | refine br_or ?_ | refine br_d (fun _ => ?_) fun _ => ?_ | refine vM (fun _ => ?_) fun _ => ?_)
        refine ⟨a, ?_, ⟨by omega, by omega⟩, ?_⟩
        · repeat' ((conv => whnf); first | with_reducible exact True.intro | exact vW | with_reducible refine And.intro ?_ ?_)
        repeat' ((conv => whnf); first | refine ⟨Chk.mk (by have z1 := sz1; have z2 := sz2; have z3 := sz3; have z4 := sz4; have z5 := sz5; (repeat rw [ByteArray.size_append]); omega), ?_⟩ | refine vA ?_ | with_reducible first | refine v8 ?_ | refine Sp.mk ?_ ?_ | refine vS ?_ | refine vR ?_ | refine vB ?_ | refine br_nt ?_ | refine br_tt ?_ | refine br_ff ?_ | refine vP ?_ | refine vQ ?_ | refine vT ?_ | refine vF ?_ | refine br_and ?_ | refine br_or ?_ | refine br_d (fun _ => ?_) fun _ => ?_ | refine vM (fun _ => ?_) fun _ => ?_)
        refine ⟨b, ?_, ⟨by omega, by omega⟩, ?_⟩
        · repeat' ((conv => whnf); first | with_reducible exact True.intro | exact vW | with_reducible refine And.intro ?_ ?_)
        repeat' ((conv => whnf); first | refine ⟨Chk.mk (by have z1 := sz1; have z2 := sz2; have z3 := sz3; have z4 := sz4; have z5 := sz5; (repeat rw [ByteArray.size_append]); omega), ?_⟩ | refine vA ?_ | with_reducible first | refine v8 ?_ | refine Sp.mk ?_ ?_ | refine vS ?_ | refine vR ?_ | refine vB ?_ | refine br_nt ?_ | refine br_tt ?_ | refine br_ff ?_ | refine vP ?_ | refine vQ ?_ | refine vT ?_ | refine vF ?_ | refine br_and ?_ | refine br_or ?_ | refine br_d (fun _ => ?_) fun _ => ?_ | refine vM (fun _ => ?_) fun _ => ?_)
        ((unfold deedT plainW at h; repeat' (split at h)) <;> first | exact h | (exfalso; simp_all; done) | (exfalso; simp_all; omega))
    · repeat' ((conv => whnf); first | refine vA ?_ | with_reducible first | refine v8 ?_ | refine Sp.mk ?_ ?_ | refine vS ?_ | refine vR ?_ | refine vB ?_ | refine br_nt ?_ | refine br_tt ?_ | refine br_ff ?_ | refine vP ?_ | refine vQ ?_ | refine vT ?_ | refine vF ?_ | refine br_and ?_ | refine br_or ?_ | refine br_d (fun _ => ?_) fun _ => ?_ | refine vM (fun _ => ?_) fun _ => ?_)
      all_goals ((unfold deedT plainW at h; repeat' (split at h)) <;> first | exact h | (exfalso; simp_all; done) | (exfalso; simp_all; omega))
end Go.Proofs.YtbbgojaloebknaaDoor.Vc
