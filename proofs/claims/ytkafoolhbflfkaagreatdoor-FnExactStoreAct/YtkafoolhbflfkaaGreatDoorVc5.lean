/- Part TI: the laws' sizes, copies and comparisons of places and desks. -/
import Derived.Lib.SmallJoins
import Derived.Lib.SplitLaws
import Derived.Lib.AtoiAll
import Derived.Test.YtkafoolhbflfkaaGreatDoorVc4
section
namespace Go.Proofs.YtkafoolhbflfkaaGreatDoor.Vc
open Go.Proofs
set_option maxRecDepth 10000
set_option maxHeartbeats 4000000
/-! ### Sizes -/
def szpost (n : Int) (B : Prop) (K : AV → Prop) : Prop := ∀ v : Int, -1 ≤ v → v ≤ n → (0 ≤ v → B) → K (.int .i64 v)
def rng (n : Int) : Prop := 0 ≤ n ∧ n ≤ 9223372036854775807
/-! ### Copies -/
section
variable {α : Type} {enc : α → List AV} {d : α} {z : List AV} {l : List α}
end
/-! ### Comparisons: what is the same is found to be the same -/
def C156 : List AV → (AV → Prop) → Prop := con (X := List ByteArray) (fun l => [slS l, slS l]) (fun l => l.length < 9223372036854775808) fun _ K => K (.bool true)
def C161 := C156
theorem F161 : FF 79 C161 := by
 refine fitE [] (by simp) Tryz.f79 ⟨rfl, by decide +kernel, by decide +kernel⟩ (fun _ _ _ hk h => hk _ h) ?_
 rintro l K h1 h
 refine ⟨Nat.le_of_ble_eq_true rfl, ?_⟩
 repeat' ((conv=>whnf);first|refine vA ?_|with_reducible first|refine v8 ?_|refine Sp.mk ?_ ?_|refine vS ?_|refine vR ?_|refine vB ?_|refine br_nt ?_|refine br_tt ?_|refine br_ff ?_|refine vP ?_|refine vQ ?_|refine vT ?_|refine vF ?_|refine br_and ?_|refine br_or ?_|refine br_d (fun _=>?_) fun _=>?_|refine vM (fun _=>?_) fun _=>?_)
 refine Lp.mk ⟨Nat, fun i => [(0, slS l), (1, slS l), (5, .int .i64 i)], fun i => [], fun i => i ≤ l.length, fun i => l.length - i, ⟨0, Nat.zero_le _, ⟨⟨[], [], rfl, rfl, ?_, ?_⟩⟩⟩, ?_⟩
 ·repeat' ((conv=>whnf);first|with_reducible exact True.intro|exact vW|with_reducible refine And.intro ?_ ?_)
 ·repeat' ((conv=>whnf);first|with_reducible exact True.intro|exact vW|with_reducible refine And.intro ?_ ?_)
 intro i i1
 dsimp only
 repeat' ((conv=>whnf);first|refine vA ?_|with_reducible first|refine v8 ?_|refine Sp.mk ?_ ?_|refine vS ?_|refine vR ?_|refine vB ?_|refine br_nt ?_|refine br_tt ?_|refine br_ff ?_|refine vP ?_|refine vQ ?_|refine vT ?_|refine vF ?_|refine br_and ?_|refine br_or ?_|refine br_d (fun _=>?_) fun _=>?_|refine vM (fun _=>?_) fun _=>?_)
 ·refine Dr.mk ⟨(.rd 0 (.rd 1 (.rd 2 (.rd 3 (.rd 4 (.rd 5 (.rd 6 (.rd 7 (.rd 8 .dn))))))))), by decide +kernel, ?_⟩
  repeat' ((conv=>whnf);first|refine vA ?_|with_reducible first|refine v8 ?_|refine Sp.mk ?_ ?_|refine vS ?_|refine vR ?_|refine vB ?_|refine br_nt ?_|refine br_tt ?_|refine br_ff ?_|refine vP ?_|refine vQ ?_|refine vT ?_|refine vF ?_|refine br_and ?_|refine br_or ?_|refine br_d (fun _=>?_) fun _=>?_|refine vM (fun _=>?_) fun _=>?_)
  ·refine ⟨i + 1, by omega, by omega, ⟨⟨[], [], rfl, rfl, ?_, ?_⟩⟩⟩
   ·repeat' ((conv=>whnf);first|with_reducible exact True.intro|exact vW|with_reducible refine And.intro ?_ ?_)
   ·repeat' ((conv=>whnf);first|with_reducible exact True.intro|exact vW|with_reducible refine And.intro ?_ ?_)
  ·rename_i hne
   exact absurd rfl hne
 ·exact h
def C160 : List AV → (AV → Prop) → Prop := con (X := List Int) (fun l => [slI l, slI l]) (fun l => l.length < 9223372036854775808) fun _ K => K (.bool true)
theorem F160 : FF 78 C160 := by
 refine fitE [] (by simp) Tryz.f78 ⟨rfl, by decide +kernel, by decide +kernel⟩ (fun _ _ _ hk h => hk _ h) ?_
 rintro l K h1 h
 refine ⟨Nat.le_of_ble_eq_true rfl, ?_⟩
 repeat' ((conv=>whnf);first|refine vA ?_|with_reducible first|refine v8 ?_|refine Sp.mk ?_ ?_|refine vS ?_|refine vR ?_|refine vB ?_|refine br_nt ?_|refine br_tt ?_|refine br_ff ?_|refine vP ?_|refine vQ ?_|refine vT ?_|refine vF ?_|refine br_and ?_|refine br_or ?_|refine br_d (fun _=>?_) fun _=>?_|refine vM (fun _=>?_) fun _=>?_)
 refine Lp.mk ⟨Nat, fun i => [(0, slI l), (1, slI l), (5, .int .i64 i)], fun i => [], fun i => i ≤ l.length, fun i => l.length - i, ⟨0, Nat.zero_le _, ⟨⟨[], [], rfl, rfl, ?_, ?_⟩⟩⟩, ?_⟩
 ·repeat' ((conv=>whnf);first|with_reducible exact True.intro|exact vW|with_reducible refine And.intro ?_ ?_)
 ·repeat' ((conv=>whnf);first|with_reducible exact True.intro|exact vW|with_reducible refine And.intro ?_ ?_)
 intro i i1
 dsimp only
 repeat' ((conv=>whnf);first|refine vA ?_|with_reducible first|refine v8 ?_|refine Sp.mk ?_ ?_|refine vS ?_|refine vR ?_|refine vB ?_|refine br_nt ?_|refine br_tt ?_|refine br_ff ?_|refine vP ?_|refine vQ ?_|refine vT ?_|refine vF ?_|refine br_and ?_|refine br_or ?_|refine br_d (fun _=>?_) fun _=>?_|refine vM (fun _=>?_) fun _=>?_)
 ·refine Dr.mk ⟨(.rd 0 (.rd 1 (.rd 2 (.rd 3 (.rd 4 (.rd 5 (.rd 6 (.rd 7 (.rd 8 .dn))))))))), by decide +kernel, ?_⟩
  repeat' ((conv=>whnf);first|refine vA ?_|with_reducible first|refine v8 ?_|refine Sp.mk ?_ ?_|refine vS ?_|refine vR ?_|refine vB ?_|refine br_nt ?_|refine br_tt ?_|refine br_ff ?_|refine vP ?_|refine vQ ?_|refine vT ?_|refine vF ?_|refine br_and ?_|refine br_or ?_|refine br_d (fun _=>?_) fun _=>?_|refine vM (fun _=>?_) fun _=>?_)
  ·refine ⟨i + 1, by omega, by omega, ⟨⟨[], [], rfl, rfl, ?_, ?_⟩⟩⟩
   ·repeat' ((conv=>whnf);first|with_reducible exact True.intro|exact vW|with_reducible refine And.intro ?_ ?_)
   ·repeat' ((conv=>whnf);first|with_reducible exact True.intro|exact vW|with_reducible refine And.intro ?_ ?_)
 ·exact h
def lenI (x : Place) : Prop := x.bs.length ≤ 1048576 ∧ x.rules.length < 9223372036854775808
def C130 : List AV → (AV → Prop) → Prop := con (X := Place) (fun x => [enPl x, enPl x]) lenI fun _ K => K (.bool true)
def C137 := C130
theorem F137 : FF 41 C137 := by
 refine fitE [(78, C160), (79, C161)] (by simp only [List.mem_cons, List.not_mem_nil, or_false]; rintro _ (rfl | rfl) <;> first | exact F160 | exact F161) Tryz.f41 ⟨rfl, by decide +kernel, by decide +kernel⟩ (fun _ _ _ hk h => hk _ h) ?_
 rintro ⟨p, bs, rs⟩ K ⟨h1, h2⟩ h
 refine ⟨Nat.le_of_ble_eq_true rfl, ?_⟩
 dsimp only [enPl, plC] at h1 h2 h ⊢
 repeat' ((conv=>whnf);first|refine vA ?_|with_reducible first|refine v8 ?_|refine Sp.mk ?_ ?_|refine vS ?_|refine vR ?_|refine vB ?_|refine br_nt ?_|refine br_tt ?_|refine br_ff ?_|refine vP ?_|refine vQ ?_|refine vT ?_|refine vF ?_|refine br_and ?_|refine br_or ?_|refine br_d (fun _=>?_) fun _=>?_|refine vM (fun _=>?_) fun _=>?_)
 refine ⟨bs, ?_, ⟨by omega⟩, ?_⟩
 ·repeat' ((conv=>whnf);first|with_reducible exact True.intro|exact vW|with_reducible refine And.intro ?_ ?_)
 repeat' ((conv=>whnf);first|refine vA ?_|with_reducible first|refine v8 ?_|refine Sp.mk ?_ ?_|refine vS ?_|refine vR ?_|refine vB ?_|refine br_nt ?_|refine br_tt ?_|refine br_ff ?_|refine vP ?_|refine vQ ?_|refine vT ?_|refine vF ?_|refine br_and ?_|refine br_or ?_|refine br_d (fun _=>?_) fun _=>?_|refine vM (fun _=>?_) fun _=>?_)
 refine ⟨rs, ?_, ⟨h2⟩, ?_⟩
 ·repeat' ((conv=>whnf);first|with_reducible exact True.intro|exact vW|with_reducible refine And.intro ?_ ?_)
 repeat' ((conv=>whnf);first|refine vA ?_|with_reducible first|refine v8 ?_|refine Sp.mk ?_ ?_|refine vS ?_|refine vR ?_|refine vB ?_|refine br_nt ?_|refine br_tt ?_|refine br_ff ?_|refine vP ?_|refine vQ ?_|refine vT ?_|refine vF ?_|refine br_and ?_|refine br_or ?_|refine br_d (fun _=>?_) fun _=>?_|refine vM (fun _=>?_) fun _=>?_)
 exact h
def lensI (l : List Place) : Prop := l.length < 9223372036854775808 ∧ ∀ x ∈ l, lenI x
def lenD (d : Desk) : Prop := lenI d.now ∧ lensI d.past
def C141 : List AV → (AV → Prop) → Prop := con (X := Desk) (fun d => [enDe d, enDe d]) lenD fun _ K => K (.bool true)
def C134 := C141
theorem F134 : FF 30 C134 := by
 refine fitE [(41, C137)] (by simp only [List.mem_cons, List.not_mem_nil, or_false]; rintro _ rfl <;> first | exact F137) Tryz.f30 ⟨rfl, by decide +kernel, by decide +kernel⟩ (fun _ _ _ hk h => hk _ h) ?_
 rintro ⟨⟨p, bs, rs⟩, l⟩ K ⟨h1, h2⟩ h
 refine ⟨Nat.le_of_ble_eq_true rfl, ?_⟩
 have h3 := h2.1
 have h4 := h2.2
 dsimp only [enDe, deC] at h1 h3 h4 h ⊢
 repeat' ((conv=>whnf);first|refine vA ?_|with_reducible first|refine v8 ?_|refine Sp.mk ?_ ?_|refine vS ?_|refine vR ?_|refine vB ?_|refine br_nt ?_|refine br_tt ?_|refine br_ff ?_|refine vP ?_|refine vQ ?_|refine vT ?_|refine vF ?_|refine br_and ?_|refine br_or ?_|refine br_d (fun _=>?_) fun _=>?_|refine vM (fun _=>?_) fun _=>?_)
 refine ⟨⟨p, bs, rs⟩, ?_, ⟨h1⟩, ?_⟩
 ·repeat' ((conv=>whnf);first|with_reducible exact True.intro|exact vW|with_reducible refine And.intro ?_ ?_)
 repeat' ((conv=>whnf);first|refine vA ?_|with_reducible first|refine v8 ?_|refine Sp.mk ?_ ?_|refine vS ?_|refine vR ?_|refine vB ?_|refine br_nt ?_|refine br_tt ?_|refine br_ff ?_|refine vP ?_|refine vQ ?_|refine vT ?_|refine vF ?_|refine br_and ?_|refine br_or ?_|refine br_d (fun _=>?_) fun _=>?_|refine vM (fun _=>?_) fun _=>?_)
 refine Lp.mk ⟨Nat, fun i => [(2, .ptr 0 0), (3, .ptr 1 0), (5, .int .i64 i)], fun _ => [.box (deC ⟨⟨p, bs, rs⟩, l⟩), .box (deC ⟨⟨p, bs, rs⟩, l⟩)], fun i => i ≤ l.length, fun i => l.length - i, ⟨0, Nat.zero_le _, ⟨⟨[some 0, some 1], [], rfl, rfl, ?_, ?_⟩⟩⟩, ?_⟩
 ·repeat' ((conv=>whnf);first|with_reducible exact True.intro|exact vW|with_reducible refine And.intro ?_ ?_)
 ·repeat' ((conv=>whnf);first|with_reducible exact True.intro|exact vW|with_reducible refine And.intro ?_ ?_)
 intro i i1
 dsimp only [deC]
 repeat' ((conv=>whnf);first|refine vA ?_|with_reducible first|refine v8 ?_|refine Sp.mk ?_ ?_|refine vS ?_|refine vR ?_|refine vB ?_|refine br_nt ?_|refine br_tt ?_|refine br_ff ?_|refine vP ?_|refine vQ ?_|refine vT ?_|refine vF ?_|refine br_and ?_|refine br_or ?_|refine br_d (fun _=>?_) fun _=>?_|refine vM (fun _=>?_) fun _=>?_)
 ·rename_i hi
  have hi : i < l.length := by omega
  refine Dr.mk ⟨(.rd 0 (.rd 1 (.rd 2 (.rd 3 (.rd 4 (.rd 5 (.rd 6 (.rd 7 (.rd 8 (.rd 9 (.ef 10 (.rd 11 .dn) .no))))))))))), by decide +kernel, ?_⟩
  repeat' ((conv=>whnf);first|refine vA ?_|with_reducible first|refine v8 ?_|refine Sp.mk ?_ ?_|refine vS ?_|refine vR ?_|refine vB ?_|refine br_nt ?_|refine br_tt ?_|refine br_ff ?_|refine vP ?_|refine vQ ?_|refine vT ?_|refine vF ?_|refine br_and ?_|refine br_or ?_|refine br_d (fun _=>?_) fun _=>?_|refine vM (fun _=>?_) fun _=>?_)
  refine ⟨l.getD i default, ?_, ⟨h4 _ (getD_mem' hi)⟩, ?_⟩
  ·repeat' ((conv=>whnf);first|with_reducible exact True.intro|exact vW|with_reducible refine And.intro ?_ ?_)
  repeat' ((conv=>whnf);first|refine vA ?_|with_reducible first|refine v8 ?_|refine Sp.mk ?_ ?_|refine vS ?_|refine vR ?_|refine vB ?_|refine br_nt ?_|refine br_tt ?_|refine br_ff ?_|refine vP ?_|refine vQ ?_|refine vT ?_|refine vF ?_|refine br_and ?_|refine br_or ?_|refine br_d (fun _=>?_) fun _=>?_|refine vM (fun _=>?_) fun _=>?_)
  refine ⟨i + 1, by omega, by omega, ⟨⟨[some 0, some 1], [], rfl, rfl, ?_, ?_⟩⟩⟩
  ·repeat' ((conv=>whnf);first|with_reducible exact True.intro|exact vW|with_reducible refine And.intro ?_ ?_)
  ·repeat' ((conv=>whnf);first|with_reducible exact True.intro|exact vW|with_reducible refine And.intro ?_ ?_)
 ·exact h
def C135 : List AV → (AV → Prop) → Prop := con (X := Unit) (fun _ => [enDe default]) (fun _ => True) fun _ K => K (.bool true)
theorem F135 : FF 44 C135 := by
 refine fitE [(30, C134)] (by simp only [List.mem_cons, List.not_mem_nil, or_false]; rintro _ rfl <;> first | exact F134) Tryz.f44 ⟨rfl, by decide +kernel, by decide +kernel⟩ (fun _ _ _ hk h => hk _ h) ?_
 rintro - K - h
 refine ⟨Nat.le_of_ble_eq_true rfl, ?_⟩
 dsimp only [enDe, deC]
 repeat' ((conv=>whnf);first|refine vA ?_|with_reducible first|refine v8 ?_|refine Sp.mk ?_ ?_|refine vS ?_|refine vR ?_|refine vB ?_|refine br_nt ?_|refine br_tt ?_|refine br_ff ?_|refine vP ?_|refine vQ ?_|refine vT ?_|refine vF ?_|refine br_and ?_|refine br_or ?_|refine br_d (fun _=>?_) fun _=>?_|refine vM (fun _=>?_) fun _=>?_)
 refine ⟨default, ?_, ⟨⟨Nat.zero_le _, by decide⟩, by decide, fun x hx => by cases hx⟩, ?_⟩
 ·repeat' ((conv=>whnf);first|with_reducible exact True.intro|exact vW|with_reducible refine And.intro ?_ ?_)
 repeat' ((conv=>whnf);first|refine vA ?_|with_reducible first|refine v8 ?_|refine Sp.mk ?_ ?_|refine vS ?_|refine vR ?_|refine vB ?_|refine br_nt ?_|refine br_tt ?_|refine br_ff ?_|refine vP ?_|refine vQ ?_|refine vT ?_|refine vF ?_|refine br_and ?_|refine br_or ?_|refine br_d (fun _=>?_) fun _=>?_|refine vM (fun _=>?_) fun _=>?_)
 exact h
end Go.Proofs.YtkafoolhbflfkaaGreatDoor.Vc
end
section
/- Part TJ: laws on places, desks and new stores. -/
namespace Go.Proofs.YtkafoolhbflfkaaGreatDoor.Vc
open Go.Proofs
set_option maxRecDepth 10000
set_option maxHeartbeats 4000000
/-! ### Stores -/
structure Store where
 saved : ByteArray
 log : ByteArray
 sure : Int
 deriving Inhabited, DecidableEq
def stC (s : Store) : List AV := [.str s.saved, .str s.log, .int .i64 s.sure]
def enSt (s : Store) : AV := .agg (stC s)
def newSt (x : Place) : Store := ⟨ptext x, ⟨#[]⟩, 0⟩
def C145 : List AV → (AV → Prop) → Prop := con (X := Place) (fun x => [enPl x]) placeI fun x K => K (.tup [enSt (newSt x), .bool (decide (placeOk x))])
theorem F145 : FF 26 C145 := by
 refine fitE [(66, C152), (67, C166)] (by simp only [List.mem_cons, List.not_mem_nil, or_false]; rintro _ (rfl | rfl) <;> first | exact F152 | exact F166) Tryz.f26 ⟨rfl, by decide +kernel, by decide +kernel⟩ (fun _ _ _ hk h => hk _ h) ?_
 rintro ⟨p, bs, rs⟩ K hI h
 refine ⟨Nat.le_of_ble_eq_true rfl, ?_⟩
 unfold newSt ptext at h
 dsimp only [enPl, plC, enSt, stC] at h ⊢
 repeat' ((conv=>whnf);first|refine vA ?_|with_reducible first|refine v8 ?_|refine Sp.mk ?_ ?_|refine vS ?_|refine vR ?_|refine vB ?_|refine br_nt ?_|refine br_tt ?_|refine br_ff ?_|refine vP ?_|refine vQ ?_|refine vT ?_|refine vF ?_|refine br_and ?_|refine br_or ?_|refine br_d (fun _=>?_) fun _=>?_|refine vM (fun _=>?_) fun _=>?_)
 refine ⟨⟨p, bs, rs⟩, ?_, ⟨hI⟩, ?_⟩
 ·repeat' ((conv=>whnf);first|with_reducible exact True.intro|exact vW|with_reducible refine And.intro ?_ ?_)
 repeat' ((conv=>whnf);first|refine vA ?_|with_reducible first|refine v8 ?_|refine Sp.mk ?_ ?_|refine vS ?_|refine vR ?_|refine vB ?_|refine br_nt ?_|refine br_tt ?_|refine br_ff ?_|refine vP ?_|refine vQ ?_|refine vT ?_|refine vF ?_|refine br_and ?_|refine br_or ?_|refine br_d (fun _=>?_) fun _=>?_|refine vM (fun _=>?_) fun _=>?_)
 ·rename_i hO
  replace hO : placeOk ⟨p, bs, rs⟩ := hO
  rw [if_pos hO, decide_eq_true hO] at h
  refine ⟨⟨p, bs, rs⟩, ?_, ⟨hO⟩, ?_⟩
  ·repeat' ((conv=>whnf);first|with_reducible exact True.intro|exact vW|with_reducible refine And.intro ?_ ?_)
  repeat' ((conv=>whnf);first|refine vA ?_|with_reducible first|refine v8 ?_|refine Sp.mk ?_ ?_|refine vS ?_|refine vR ?_|refine vB ?_|refine br_nt ?_|refine br_tt ?_|refine br_ff ?_|refine vP ?_|refine vQ ?_|refine vT ?_|refine vF ?_|refine br_and ?_|refine br_or ?_|refine br_d (fun _=>?_) fun _=>?_|refine vM (fun _=>?_) fun _=>?_)
  exact h
 ·rename_i hO
  replace hO : ¬ placeOk ⟨p, bs, rs⟩ := hO
  rw [if_neg hO, decide_eq_false hO] at h
  exact h
def C144 := C145
theorem F144 : FF 27 C144 := by
 refine fitE [(68, C127), (69, C142)] (by simp only [List.mem_cons, List.not_mem_nil, or_false]; rintro _ (rfl | rfl) <;> first | exact F127 | exact F142) Tryz.f27 ⟨rfl, by decide +kernel, by decide +kernel⟩ (fun _ _ _ hk h => hk _ h) ?_
 rintro ⟨p, bs, rs⟩ K hI h
 refine ⟨Nat.le_of_ble_eq_true rfl, ?_⟩
 unfold newSt at h
 dsimp only [enPl, plC, enSt, stC] at h ⊢
 repeat' ((conv=>whnf);first|refine vA ?_|with_reducible first|refine v8 ?_|refine Sp.mk ?_ ?_|refine vS ?_|refine vR ?_|refine vB ?_|refine br_nt ?_|refine br_tt ?_|refine br_ff ?_|refine vP ?_|refine vQ ?_|refine vT ?_|refine vF ?_|refine br_and ?_|refine br_or ?_|refine br_d (fun _=>?_) fun _=>?_|refine vM (fun _=>?_) fun _=>?_)
 refine ⟨⟨p, bs, rs⟩, ?_, ⟨hI⟩, ?_⟩
 ·repeat' ((conv=>whnf);first|with_reducible exact True.intro|exact vW|with_reducible refine And.intro ?_ ?_)
 repeat' ((conv=>whnf);first|refine vA ?_|with_reducible first|refine v8 ?_|refine Sp.mk ?_ ?_|refine vS ?_|refine vR ?_|refine vB ?_|refine br_nt ?_|refine br_tt ?_|refine br_ff ?_|refine vP ?_|refine vQ ?_|refine vT ?_|refine vF ?_|refine br_and ?_|refine br_or ?_|refine br_d (fun _=>?_) fun _=>?_|refine vM (fun _=>?_) fun _=>?_)
 ·rename_i hO
  replace hO : placeOk ⟨p, bs, rs⟩ := hO
  rw [decide_eq_true hO] at h
  refine ⟨⟨p, bs, rs⟩, ?_, ⟨hI⟩, ?_⟩
  ·repeat' ((conv=>whnf);first|with_reducible exact True.intro|exact vW|with_reducible refine And.intro ?_ ?_)
  repeat' ((conv=>whnf);first|refine vA ?_|with_reducible first|refine v8 ?_|refine Sp.mk ?_ ?_|refine vS ?_|refine vR ?_|refine vB ?_|refine br_nt ?_|refine br_tt ?_|refine br_ff ?_|refine vP ?_|refine vQ ?_|refine vT ?_|refine vF ?_|refine br_and ?_|refine br_or ?_|refine br_d (fun _=>?_) fun _=>?_|refine vM (fun _=>?_) fun _=>?_)
  exact h
 ·rename_i hO
  replace hO : ¬ placeOk ⟨p, bs, rs⟩ := hO
  unfold ptext at h
  rw [if_neg hO, decide_eq_false hO] at h
  exact h
def C146 : List AV → (AV → Prop) → Prop := con (X := Store) (fun s => [enSt s, enSt s]) (fun _ => True) fun _ K => K (.bool true)
theorem F146 : FF 35 C146 := by
 refine fitE [] (by simp) Tryz.f35 ⟨rfl, by decide +kernel, by decide +kernel⟩ (fun _ _ _ hk h => hk _ h) ?_
 rintro ⟨a, b, c⟩ K _ h
 refine ⟨Nat.le_of_ble_eq_true rfl, ?_⟩
 dsimp only [enSt, stC]
 have ha : a = a := rfl
 have hb : b = b := rfl
 repeat' ((conv=>whnf);first|refine vA ?_|with_reducible first|refine v8 ?_|refine Sp.mk ?_ ?_|refine vS ?_|refine vR ?_|refine vB ?_|refine br_nt ?_|refine br_tt ?_|refine br_ff ?_|refine vP ?_|refine vQ ?_|refine vT ?_|refine vF ?_|refine br_and ?_|refine br_or ?_|refine br_d (fun _=>?_) fun _=>?_|refine vM (fun _=>?_) fun _=>?_)
 all_goals first | exact h | (rename_i hne; exact absurd rfl hne)
end Go.Proofs.YtkafoolhbflfkaaGreatDoor.Vc
end
section
/- Part OQ: stores, deeds and texts that come in, opened. -/
namespace Go.Proofs.YtkafoolhbflfkaaGreatDoor.Vc
open Go.Proofs Go.ChangeShapes Go.WideShapes Go.ChangeAt Go.RowKit
section
variable (P : Program)
def IsStore (t : TypeId) : Prop := P.cellsOf t = 3 ∧ ∃ f0 f1 f2, P.underlying t = some (.struct #[f0, f1, f2]) ∧ f0.offset = 0 ∧ f1.offset = 1 ∧ f2.offset = 2 ∧ P.underlying f0.type = some .string ∧ P.underlying f1.type = some .string ∧ P.underlying f2.type = some (.int .i64) ∧ P.cellsOf f0.type = 1 ∧ P.cellsOf f1.type = 1 ∧ P.cellsOf f2.type = 1
end
section
variable {H : Type} {enc : TypeId × Value → H} {P : Program} {w : World} {spare : Nat → Bool} {held : Bool}
theorem op_store {t : TypeId} {v : Value} {d : DataW H} {ps : List MemPlace} {r : Reach} {b0 : Nat} (hT : IsStore P t) (hv : Value.okWide P w r b0 t v) (h : DataW.Trod enc P w 0 spare held t v d ps) :
  ∃ x : Store, PV (Rw0 w) w (enSt x) v ∧ (x.saved.size < 9223372036854775808 ∧ x.log.size < 9223372036854775808 ∧ i64r x.sure) := by
 obtain ⟨ce, f0, f1, f2, ht, o0, o1, o2, k0, k1, k2, c0, c1, c2⟩ := hT
 obtain ⟨cs, rfl, hcs⟩ := okWide_struct ht hv
 obtain ⟨fuel, hf⟩ := h
 obtain ⟨y0, y1, y2, n, _, hl, g0, g1, g2⟩ := Go.Deep.trod_struct3 ht hf
 have e0 : (Value.agg cs).cells.toList = cs.toList := rfl
 rw [e0] at g0 g1 g2 hl
 rw [ce] at hl
 obtain ⟨cs⟩ := cs
 match cs, hl with
 |[v0, v1, v2], _ =>
  simp [o0, o1, o2, c0, c1, c2] at g0 g1 g2
  obtain ⟨s, e4, _, w3⟩ := DataW.trod_string k0 g0
  obtain ⟨l, e5, _, w4⟩ := DataW.trod_string k1 g1
  obtain ⟨k, e1, _, w0⟩ := DataW.trod_int k2 g2
  simp only [List.cons.injEq, and_true] at e1 e4 e5
  subst e1; subst e4; subst e5
  have : maxLen = 9223372036854775807 := rfl
  refine ⟨⟨s, l, k⟩, .agg _ _ rfl fun j hj => ?_, by show s.size < _; omega, by show l.size < _; omega, i64_wf w0⟩
  match j, hj with
  |0, _ => exact .data (.str _)
  |1, _ => exact .data (.str _)
  |2, _ => exact .data (.int _ _)
end
end Go.Proofs.YtkafoolhbflfkaaGreatDoor.Vc
end
section
/- Part RP: what the rows of this seat ask of the program as a whole. -/
namespace Go.Proofs.YtkafoolhbflfkaaGreatDoor.Vc
open Go.Proofs Go.ChangeShapes Go.WideShapes Go.ChangeAt Go.RowKit
open Go.Proofs.YtkafoolhbflfkaaGreatDoor
set_option maxRecDepth 100000
theorem andT {a b : Bool} (ha : a = true) (hb : b = true) : (a && b) = true := by rw [ha, hb]; rfl
theorem pw2 : laidOutB Tryz.checked.prog = true := by kernel_rfl
theorem pw3 : mapsRowed Tryz.checked.prog = true := by kernel_rfl
theorem pw7 : (Tryz.checked.prog.stops == []) = true := by kernel_rfl
theorem pw9 : (Tryz.checked.prog.stopKnobs == []) = true := by kernel_rfl
theorem pw23 : (Rows.fnStoreOkRow.plainKeys == Tryz.checked.prog.plainKeys) = true := by kernel_rfl
theorem pw25 : Tryz.checked.prog.stopsHeard = true := by kernel_rfl
theorem pw26 : Tryz.checked.prog.mayEnter = true := by kernel_rfl
theorem pw27 : (Rows.fnStoreOkRow.lifted == Tryz.checked.prog.liftsFinal) = true := by kernel_rfl
theorem pw28 : (Tryz.checked.prog.make == some Rows.fnStoreOkRow.make) = true := by kernel_rfl
theorem pwL : Rows.fnStoreOkCard.stood.looks = Tryz.checked.prog.looks [] := by kernel_rfl
end Go.Proofs.YtkafoolhbflfkaaGreatDoor.Vc
end
section
/- Part UA: texts that are cut, and numbers that are read. -/
namespace Go.Proofs.YtkafoolhbflfkaaGreatDoor.Vc
open Go.Proofs
set_option maxRecDepth 10000
/-! ### Numbers -/
def digB (b : UInt8) : Prop := 48 ≤ b.toNat ∧ b.toNat ≤ 57
def valL (a : Nat) : List UInt8 → Nat
 |[] => a
 |b :: l => valL (a * 10 + (b.toNat - 48)) l
theorem valL_app : ∀ (l m : List UInt8) (a : Nat), valL a (l ++ m) = valL (valL a l) m
 |[], _, _ => rfl
 |_ :: l, m, _ => valL_app l m _
theorem valL_ge : ∀ (l : List UInt8) (a : Nat), a ≤ valL a l
 |[], _ => Nat.le_refl _
 |_ :: l, a => Nat.le_trans (by omega) (valL_ge l _)
theorem dig_toNat {k : Nat} (h : k < 10) : (UInt8.ofNat (48 + k)).toNat = 48 + k := by
 rw [UInt8.toNat_ofNat']
 exact Nat.mod_eq_of_lt (by omega)
theorem dec_val (n : Nat) : valL 0 (Lib.decDigits n) = n := by
 induction n using Nat.strongRecOn with
 |_ n ih =>
  rw [Lib.decDigits]
  split
  ·rename_i h
   show 0 * 10 + ((UInt8.ofNat (48 + n)).toNat - 48) = n
   rw [dig_toNat h]
   omega
  ·rename_i h
   rw [valL_app, ih (n / 10) (by omega)]
   show n / 10 * 10 + ((UInt8.ofNat (48 + n % 10)).toNat - 48) = n
   rw [dig_toNat (by omega)]
   omega
theorem dec_dig (n : Nat) : ∀ b ∈ Lib.decDigits n, digB b := by
 induction n using Nat.strongRecOn with
 |_ n ih =>
  rw [Lib.decDigits]
  split
  ·rename_i h
   intro b hb
   rw [List.mem_singleton.1 hb]
   unfold digB
   rw [dig_toNat h]
   omega
  ·rename_i h
   intro b hb
   rcases List.mem_append.1 hb with hb | hb
   ·exact ih _ (by omega) b hb
   ·rw [List.mem_singleton.1 hb]
    unfold digB
    rw [dig_toNat (by omega)]
    omega
theorem dec_pos (n : Nat) : 1 ≤ (Lib.decDigits n).length := by
 rw [Lib.decDigits]
 split
 ·exact Nat.le_refl _
 ·rw [List.length_append]; exact Nat.le_add_left _ _
theorem dec_len6 {n : Nat} (h : n < 1000000) : (Lib.decDigits n).length ≤ 6 := by
 have key : ∀ k n, n < 10 ^ (k + 1) → (Lib.decDigits n).length ≤ k + 1 := by
  intro k
  induction k with
  |zero => intro n h; rw [Lib.decDigits, dif_pos (by simpa using h)]; exact Nat.le_refl _
  |succ k ih =>
   intro n h
   rw [Lib.decDigits]
   split
   ·show 1 ≤ _; omega
   ·rw [List.length_append]
    have := ih (n / 10) (by rw [Nat.pow_succ] at h; omega)
    show _ + 1 ≤ _
    omega
 exact key 5 n (by simpa using h)
theorem dec_head (n : Nat) : 1 ≤ n → (Lib.decDigits n).head? ≠ some 48 := by
 induction n using Nat.strongRecOn with
 |_ n ih =>
  intro h1
  rw [Lib.decDigits]
  split
  ·rename_i h
   intro e
   have e2 : UInt8.ofNat (48 + n) = 48 := by simpa using e
   have := congrArg UInt8.toNat e2
   rw [dig_toNat h] at this
   have h48 : (48 : UInt8).toNat = 48 := rfl
   omega
  ·rename_i h
   have ih2 := ih (n / 10) (by omega) (by omega)
   have hp := dec_pos (n / 10)
   intro e
   cases hl : Lib.decDigits (n / 10) with
   |nil => rw [hl] at hp; simp at hp
   |cons c r => rw [hl] at e ih2; exact ih2 (by simpa using e)
theorem num_list (n : Nat) : (num (n : Int)).data.toList = Lib.decDigits n := by
 show (Lib.decDigits (n : Int).toNat).toArray.toList = _
 rw [Int.toNat_natCast]
theorem num_val (n : Nat) : valL 0 (num (n : Int)).data.toList = n := by rw [num_list, dec_val]
theorem parse_dig : ∀ (l : List UInt8) (a : Nat), (∀ b ∈ l, digB b) → valL a l < 1844674407370955162 → Lib.parseUint10 a l = .ok (valL a l)
 |[], _, _, _ => rfl
 |b :: l, a, hd, hv => by
  have h1 := hd b List.mem_cons_self
  have h2 := valL_ge l (a * 10 + (b.toNat - 48))
  have h3 : valL a (b :: l) = valL (a * 10 + (b.toNat - 48)) l := rfl
  rw [h3] at hv
  rw [Lib.parseUint10, if_pos (show 48 ≤ b.toNat ∧ b.toNat ≤ 57 from h1), if_neg (by omega), if_neg (by omega), parse_dig l _ (fun c hc => hd c (List.mem_cons_of_mem _ hc)) hv]
  rfl
theorem atoi_num {n : Nat} (h : n < 1000000) : Lib.atoiAll (num (n : Int)).data.toList = .ok (n : Int) := by
 rw [num_list]
 have hd := dec_dig n
 have hv := dec_val n
 have hp := dec_pos n
 cases hl : Lib.decDigits n with
 |nil => rw [hl] at hp; simp at hp
 |cons c r =>
  rw [hl] at hd hv
  have hc := hd c List.mem_cons_self
  unfold digB at hc
  unfold Lib.atoiAll
  have e : Lib.parseMag (c :: r) = .ok n := by
   unfold Lib.parseMag
   rw [if_neg (by simp), parse_dig _ _ hd (by rw [hv]; omega), hv]
  simp only
  rw [if_neg (by omega), e]
  simp only
  rw [if_neg (by omega), if_neg (by omega), if_neg (by omega)]
/-! ### Cutting -/
def headApp (x : List UInt8) : List (List UInt8) → List (List UInt8)
 |y :: r => (x ++ y) :: r
 |[] => [x]
def cutL (c : UInt8) : List UInt8 → List (List UInt8)
 |[] => [[]]
 |b :: l => if b = c then [] :: cutL c l else headApp [b] (cutL c l)
theorem headApp_app (x y : List UInt8) : ∀ L, headApp x (headApp y L) = headApp (x ++ y) L
 |[] => rfl
 |z :: r => by show (x ++ (y ++ z)) :: r = _; rw [← List.append_assoc]; rfl
theorem headApp_nil {L : List (List UInt8)} (h : L ≠ []) : headApp [] L = L := by cases L with | nil => exact absurd rfl h | cons => rfl
theorem cutL_ne (c : UInt8) (l : List UInt8) : cutL c l ≠ [] := by
 cases l with
 |nil => exact List.cons_ne_nil _ _
 |cons b l =>
  unfold cutL
  split
  ·exact List.cons_ne_nil _ _
  ·cases cutL c l <;> exact List.cons_ne_nil _ _
theorem cutL_none {c : UInt8} : ∀ {x : List UInt8}, c ∉ x → cutL c x = [x]
 |[], _ => rfl
 |b :: x, h => by
  unfold cutL
  rw [if_neg (fun e : b = c => h (e ▸ List.mem_cons_self)), cutL_none fun q => h (List.mem_cons_of_mem _ q)]
  rfl
theorem cutL_hit {c : UInt8} {r : List UInt8} : ∀ {x : List UInt8}, c ∉ x → cutL c (x ++ c :: r) = x :: cutL c r
 |[], _ => by show (if c = c then _ else _) = _; rw [if_pos rfl]
 |b :: x, h => by
  show (if b = c then _ else headApp [b] (cutL c (x ++ c :: r))) = _
  rw [if_neg (fun e : b = c => h (e ▸ List.mem_cons_self)), cutL_hit fun q => h (List.mem_cons_of_mem _ q)]
  rfl
theorem index_none {c : UInt8} : ∀ {x : List UInt8}, c ∉ x → Lib.index x [c] = -1
 |[], _ => rfl
 |b :: x, h => by
  have e1 : c ≠ b := fun e => h (e ▸ List.mem_cons_self)
  have hp : ([c] : List UInt8).isPrefixOf (b :: x) = false := by simp [List.isPrefixOf, e1]
  rw [Lib.index, hp, index_none fun q => h (List.mem_cons_of_mem _ q)]
  rfl
theorem index_hit {c : UInt8} {r : List UInt8} : ∀ {x : List UInt8}, c ∉ x → Lib.index (x ++ c :: r) [c] = (x.length : Int)
 |[], _ => by
  show Lib.index (c :: r) [c] = 0
  rw [Lib.index]
  simp [List.isPrefixOf]
 |b :: x, h => by
  have e1 : c ≠ b := fun e => h (e ▸ List.mem_cons_self)
  have hp : ([c] : List UInt8).isPrefixOf (b :: (x ++ c :: r)) = false := by simp [List.isPrefixOf, e1]
  rw [List.cons_append, Lib.index, hp, index_hit fun q => h (List.mem_cons_of_mem _ q)]
  have : ¬ (((x.length : Int) == -1) = true) := fun e => by have := beq_iff_eq.1 e; omega
  simp only [Bool.false_eq_true, if_false]
  rw [if_neg this, List.length_cons]
  omega
theorem first_occ {c : UInt8} : ∀ {l : List UInt8}, c ∈ l → ∃ x r, l = x ++ c :: r ∧ c ∉ x
 |b :: l, h => by
  by_cases e : c = b
  ·exact ⟨[], l, by rw [e]; rfl, fun q => by cases q⟩
  ·obtain ⟨x, r, e1, e2⟩ := first_occ ((List.mem_cons.1 h).resolve_left e)
   exact ⟨b :: x, r, by rw [e1]; rfl, fun q => (List.mem_cons.1 q).elim e e2⟩
theorem split_cut (c : UInt8) : ∀ (n : Nat) (l : List UInt8), l.length ≤ n → Lib.splitK [c] 0 (Lib.count l [c]) l = cutL c l
 |n, l, hn => by
  by_cases h : c ∈ l
  ·obtain ⟨x, r, rfl, hx⟩ := first_occ h
   have hi := index_hit (r := r) hx
   have e1 : (x ++ c :: r).drop (x.length + 1) = r := by
    rw [List.drop_append, List.drop_of_length_le (by omega), show x.length + 1 - x.length = 1 by omega]
    rfl
   have hc : Lib.count (x ++ c :: r) [c] = Lib.count r [c] + 1 := by
    rw [Lib.count_hit (by simp) hi, show ([c] : List UInt8).length = 1 from rfl, e1, Nat.add_comm]
   have hm : ¬ (Lib.index (x ++ c :: r) [c] == -1) = true := fun e => by have := beq_iff_eq.1 e; omega
   rw [hc, Lib.splitK, if_neg hm, hi, Int.toNat_natCast, Nat.add_zero, List.take_left, show ([c] : List UInt8).length = 1 from rfl, e1, cutL_hit hx]
   cases n with
   |zero => simp at hn
   |succ n => rw [split_cut c n r (by simp at hn; omega)]
  ·rw [Lib.count_miss (index_none h), cutL_none h]
   rfl
def cutB (s : ByteArray) (c : UInt8) : List ByteArray := (cutL c s.data.toList).map fun l => ⟨l.toArray⟩
theorem splitB_cut (s : ByteArray) (c : UInt8) : Lib.splitB ⟨#[c]⟩ 0 (Lib.countB s ⟨#[c]⟩) s = cutB s c := by
 have h := Lib.splitB_data ⟨#[c]⟩ 0 (Lib.countB s ⟨#[c]⟩) s
 have h2 : Lib.splitK [c] 0 (Lib.countB s ⟨#[c]⟩) s.data.toList = cutL c s.data.toList := split_cut c _ _ (Nat.le_refl _)
 have h3 : (Lib.splitB ⟨#[c]⟩ 0 (Lib.countB s ⟨#[c]⟩) s).map (·.data.toList) = cutL c s.data.toList := h.trans h2
 unfold cutB
 rw [← h3, List.map_map]
 exact (List.map_id _).symm
theorem headApp_len (x : List UInt8) {L : List (List UInt8)} (h : L ≠ []) : (headApp x L).length = L.length := by cases L with | nil => exact absurd rfl h | cons => rfl
theorem cutL_len (c : UInt8) : ∀ l : List UInt8, 1 ≤ (cutL c l).length ∧ (cutL c l).length ≤ l.length + 1
 |[] => ⟨Nat.le_refl _, Nat.le_refl _⟩
 |b :: l => by
  have ih := cutL_len c l
  unfold cutL
  split
  ·simp only [List.length_cons]; omega
  ·rw [headApp_len _ (cutL_ne c l)]; simp only [List.length_cons]; omega
theorem cutL_mem (c : UInt8) : ∀ (l : List UInt8), ∀ x ∈ cutL c l, x.length ≤ l.length
 |[], x, h => by rw [List.mem_singleton.1 h]; exact Nat.le_refl _
 |b :: l, x, h => by
  have ih := cutL_mem c l
  unfold cutL at h
  split at h
  ·rcases List.mem_cons.1 h with rfl | h
   ·exact Nat.zero_le _
   ·exact Nat.le_trans (ih x h) (Nat.le_succ _)
  ·cases e : cutL c l with
   |nil => exact absurd e (cutL_ne c l)
   |cons y r =>
    rw [e] at h ih
    rcases List.mem_cons.1 h with rfl | h
    ·have := ih y List.mem_cons_self
     simp only [List.length_append, List.length_cons, List.length_nil]; omega
    ·exact Nat.le_trans (ih x (List.mem_cons_of_mem _ h)) (Nat.le_succ _)
theorem cutB_len (s : ByteArray) (c : UInt8) : 1 ≤ (cutB s c).length ∧ (cutB s c).length ≤ s.size + 1 := by
 unfold cutB
 rw [List.length_map]
 exact cutL_len c _
theorem cutB_mem {s : ByteArray} {c : UInt8} {x : ByteArray} (h : x ∈ cutB s c) : x.size ≤ s.size := by
 obtain ⟨l, hl, rfl⟩ := List.mem_map.1 h
 exact cutL_mem c _ l hl
theorem join_cut (c : UInt8) : ∀ {xs : List (List UInt8)}, xs ≠ [] → (∀ x ∈ xs, c ∉ x) → cutL c (Lib.join xs [c]) = xs
 |[], h, _ => absurd rfl h
 |[x], _, h => by rw [Lib.join_one, cutL_none (h x List.mem_cons_self)]
 |x :: y :: r, _, h => by
  have e : Lib.join (x :: y :: r) [c] = x ++ c :: Lib.join (y :: r) [c] := by
   unfold Lib.join List.intercalate
   rw [List.intersperse_cons_cons, List.flatten_cons, List.flatten_cons]
   rfl
  rw [e, cutL_hit (h x List.mem_cons_self), join_cut c (List.cons_ne_nil _ _) fun z hz => h z (List.mem_cons_of_mem _ hz)]
theorem joinB_cut {c : UInt8} {xs : List ByteArray} (h : xs ≠ []) (hc : ∀ x ∈ xs, c ∉ x.data.toList) : cutB (joinB xs ⟨#[c]⟩) c = xs := by
 have e : cutL c (Lib.join (xs.map (·.data.toList)) [c]) = xs.map (·.data.toList) := join_cut c (fun e => h (List.map_eq_nil_iff.1 e)) fun x hx => by
  obtain ⟨y, hy, rfl⟩ := List.mem_map.1 hx
  exact hc y hy
 show (cutL c (Lib.join (xs.map (·.data.toList)) [c])).map _ = _
 rw [e, List.map_map]
 exact List.map_id _
end Go.Proofs.YtkafoolhbflfkaaGreatDoor.Vc
end
section
/- Part UB: strings.Split, strconv.Atoi, and what reads by them. -/
namespace Go.Proofs.YtkafoolhbflfkaaGreatDoor.Vc
open Go.Proofs Go.RowKit Go.Sort
set_option maxRecDepth 10000
set_option maxHeartbeats 4000000
def C211 : List AV → (AV → Prop) → Prop := con (X := ByteArray × UInt8) (fun x => [.str x.1, .str ⟨#[x.2]⟩]) (fun x => x.1.size < 4294967281) fun x K => K (slS (cutB x.1 x.2))
theorem F211 : FF 122 C211 := fun Gl hG => by
 refine ⟨FnOk.has ⟨rfl, by decide +kernel, by decide +kernel⟩ (fn := Tryz.f122), fun us K K' hk ⟨x, h1, h2, h3⟩ => ⟨x, h1, h2, hk _ h3⟩, ?_⟩
 rintro us K ⟨⟨s, c⟩, h1, ⟨h2⟩, h3⟩ R w xs hL hA
 obtain ⟨g1, g2⟩ := exL_PV (R := R) (w := w) us _ h1
 have hA' : ArgsV R w [.str s, .str ⟨#[c]⟩] xs := ⟨hA.1.trans g1, fun j hj => g2 j (g1 ▸ hj) _ (hA.2 j (g1 ▸ hj))⟩
 obtain rfl := args_pl rfl hA'
 have hw := (hG w fun p hp => (hL.gl p hp).2).len
 obtain ⟨cs, hv, m, rfl⟩ := hw.resolve_left (by intro e; have : Tryz.prog.globalNamed "internal/bytealg.MaxLen" = none := e; revert this; decide +kernel)
 refine (Tryz.strings_Split s ⟨#[c]⟩ m w h2 ((World.var?_cell (P := Tryz.prog) (by kernel_rfl) hv 0).trans rfl) (Nat.le_refl _)).mono fun e w' he => ?_
 obtain ⟨rfl, rfl⟩ := he
 have hlen : Lib.countB s ⟨#[c]⟩ + 1 = (cutB s c).length := by rw [← splitB_cut, Lib.splitB_all _ (Nat.le_refl _) 0 _ s rfl]
 rw [splitB_cut, hlen]
 refine ⟨_, _, fun b => R b ∨ b = w.heap.size, rfl, h3, .data (.sl 1 _ _ _ _ (fun i _ => .string ((cutB s c).getD i ⟨#[]⟩)) (Nat.le_refl _) (.inr rfl) (fun i _ => rfl) (fun i hi j hj => ?_) fun i _ j hj => ?_), ⟨?_, fun b h => .inl h, fun b h => h.imp id fun e => by omega, ?_, fun b hb => ?_, rfl, rfl, rfl⟩⟩
 ·obtain rfl : j = 0 := by omega
  rw [Nat.mul_one, Nat.add_zero, addr_add, Nat.zero_add, World.cell?_alloc_new]
  rw [List.getElem?_toArray, List.getElem?_map, List.getElem?_eq_getElem hi, List.getD_eq_getElem?_getD, List.getElem?_eq_getElem hi]
  rfl
 ·obtain rfl : j = 0 := by omega
  exact .str _
 ·rintro b (h | rfl)
  ·have := hL.lt b h
   show b < (w.heap.push _).size
   rw [Array.size_push]
   omega
  ·show w.heap.size < (w.heap.push _).size
   rw [Array.size_push]
   exact Nat.lt_succ_self _
 ·show w.heap.size ≤ (w.heap.push _).size
  rw [Array.size_push]
  exact Nat.le_succ _
 ·show (w.heap.push _)[b]? = _
  rw [Array.getElem?_push, if_neg (by omega)]
def C212 : List AV → (AV → Prop) → Prop := con (X := ByteArray) (fun s => [.str s]) (fun s => s.size ≤ 281474976710656) fun s K => ∀ (v : Int) (e : AV), i64r v → e = .nili ∨ e = .ifc → (∀ n : Nat, n < 1000000 → s = num n → v = n ∧ e = .nili) → K (.tup [.int .i64 v, e])
theorem pair_pv {R : Nat → Prop} {w : World} {v : Int} {e : AV} {x : Value} (h : DR R w e x) : PV R w (.tup [.int .i64 v, e]) (.tuple #[.int .i64 v, x]) := by
 refine .tup _ _ rfl fun j hj => ?_
 replace hj : j < 2 := hj
 rcases (show j = 0 ∨ j = 1 by omega) with rfl | rfl
 ·exact .data (.int _ _)
 ·exact .data h
theorem F212 : FF 149 C212 := fun Gl hG => by
 refine ⟨FnOk.has ⟨rfl, by decide +kernel, by decide +kernel⟩ (fn := Tryz.f149), fun us K K' hk ⟨x, h1, h2, h3⟩ => ⟨x, h1, h2, fun v e q1 q2 q3 => hk _ (h3 v e q1 q2 q3)⟩, ?_⟩
 rintro us K ⟨s, h1, ⟨h2⟩, h3⟩ R w xs hL hA
 obtain ⟨g1, g2⟩ := exL_PV (R := R) (w := w) us _ h1
 have hA' : ArgsV R w [.str s] xs := ⟨hA.1.trans g1, fun j hj => g2 j (g1 ▸ hj) _ (hA.2 j (g1 ▸ hj))⟩
 obtain rfl := args_pl rfl hA'
 have hw := hG w fun p hp => (hL.gl p hp).2
 have hsyn : ∃ tp p, w.var? Tryz.prog "strconv.ErrSyntax" = some #[.iface tp p] := by
  obtain ⟨cs, hv, tp, p, rfl⟩ := hw.syn.resolve_left (by intro e; have : Tryz.prog.globalNamed "strconv.ErrSyntax" = none := e; revert this; decide +kernel)
  exact ⟨tp, p, hv⟩
 have hrng : ∃ tp p, w.var? Tryz.prog "strconv.ErrRange" = some #[.iface tp p] := by
  obtain ⟨cs, hv, tp, p, rfl⟩ := hw.rng.resolve_left (by intro e; have : Tryz.prog.globalNamed "strconv.ErrRange" = none := e; revert this; decide +kernel)
  exact ⟨tp, p, hv⟩
 have hnum : ∀ n : Nat, n < 1000000 → s = num n → Lib.atoiAll s.data.toList = .ok (n : Int) := fun n hn e => by rw [e]; exact atoi_num hn
 cases hr : Lib.atoiAll s.data.toList
 ·rename_i v
  obtain ⟨b1, b2⟩ := Lib.atoiAll_bounds hr
  refine (Tryz.strconv_Atoi_ok s (by omega) v hr w).mono fun e w' he => ?_
  obtain ⟨rfl, he⟩ := he
  have hbl : Below w.heap.size w w' := by
   rcases he with rfl | ⟨t, rfl⟩
   ·exact ⟨rfl, rfl, rfl, Nat.le_refl _, fun _ _ => rfl⟩
   ·exact Go.Joins.below_bytesWorld _ _ _ _ (Nat.le_refl _)
  refine ⟨_, _, R, rfl, h3 v .nili ⟨by omega, by omega⟩ (.inl rfl) fun n hn e => ⟨?_, rfl⟩, pair_pv .nili, ⟨fun b' hb' => Nat.lt_of_lt_of_le (hL.lt b' hb') hbl.size, fun _ h => h, fun _ h => .inl h, hbl.size, fun b' hlt => hbl.block b' hlt, hbl.os, hbl.tape, hbl.output⟩⟩
  have := (hnum n hn e).symm.trans hr
  injection this with this
  exact this.symm
 ·obtain ⟨tp, p, hv⟩ := hsyn
  refine (Tryz.strconv_Atoi_syntax_var s h2 hr tp p w hv).mono fun e w' he => ?_
  obtain ⟨N, rfl, _, _, hbl⟩ := he
  exact ⟨_, _, R, rfl, h3 0 .ifc ⟨by decide, by decide⟩ (.inr rfl) (fun n hn e => by have := (hnum n hn e).symm.trans hr; cases this), pair_pv (.ifc _ _), ⟨fun b' hb' => Nat.lt_of_lt_of_le (hL.lt b' hb') hbl.size, fun _ h => h, fun _ h => .inl h, hbl.size, fun b' hlt => hbl.block b' hlt, hbl.os, hbl.tape, hbl.output⟩⟩
 ·obtain ⟨tp, p, hv⟩ := hrng
  refine (Tryz.strconv_Atoi_range_var s h2 hr tp p w hv).mono fun e w' he => ?_
  obtain ⟨N, rfl, _, _, hbl⟩ := he
  exact ⟨_, _, R, rfl, h3 _ .ifc (by unfold Lib.atoiSat; split <;> exact ⟨by decide, by decide⟩) (.inr rfl) (fun n hn e => by have := (hnum n hn e).symm.trans hr; cases this), pair_pv (.ifc _ _), ⟨fun b' hb' => Nat.lt_of_lt_of_le (hL.lt b' hb') hbl.size, fun _ h => h, fun _ h => .inl h, hbl.size, fun b' hlt => hbl.block b' hlt, hbl.os, hbl.tape, hbl.output⟩⟩
end Go.Proofs.YtkafoolhbflfkaaGreatDoor.Vc
end
section
/- Part UC: numbers and cuts, by both sides. -/
namespace Go.Proofs.YtkafoolhbflfkaaGreatDoor.Vc
open Go.Proofs
set_option maxRecDepth 10000
set_option maxHeartbeats 4000000
def isNum (s : ByteArray) : Bool := decide (valL 0 s.data.toList < 1000000 ∧ s = num (valL 0 s.data.toList : Nat))
theorem isNum_num {n : Nat} (h : n < 1000000) : isNum (num (n : Int)) = true := by
 unfold isNum
 rw [num_val]
 exact decide_eq_true ⟨h, rfl⟩
theorem isNum_of {s : ByteArray} (h : isNum s = true) : ∃ n : Nat, n < 1000000 ∧ s = num (n : Int) := ⟨_, (of_decide_eq_true h).1, (of_decide_eq_true h).2⟩
theorem isNum_no {s : ByteArray} (h : ¬ ∃ n : Nat, n < 1000000 ∧ s = num (n : Int)) : isNum s = false := by
 cases e : isNum s with
 |false => rfl
 |true => exact absurd (isNum_of e) h
def C213 : List AV → (AV → Prop) → Prop := con (X := ByteArray) (fun s => [.str s]) (fun s => s.size ≤ 281474976710656) fun s K => ∀ v : Int, i64r v → (∀ n : Nat, n < 1000000 → s = num n → v = n) → K (.tup [.int .i64 v, .bool (isNum s)])
theorem F213 : FF 123 C213 := by
 refine fitX [(101, C101), (149, C212)] (by simp only [List.mem_cons, List.not_mem_nil, or_false]; rintro _ (rfl | rfl) <;> first | exact F101 | exact F212) [] (by simp) Tryz.f123 ⟨rfl, by decide +kernel, by decide +kernel⟩ (fun _ _ _ hk h v q1 q2 => hk _ (h v q1 q2)) ?_
 rintro s K hs h
 refine ⟨Nat.le_of_ble_eq_true rfl, ?_⟩
 repeat' ((conv=>whnf);first|refine vA ?_|with_reducible first|refine v8 ?_|refine Sp.mk ?_ ?_|refine vS ?_|refine vR ?_|refine vB ?_|refine br_nt ?_|refine br_tt ?_|refine br_ff ?_|refine vP ?_|refine vQ ?_|refine vT ?_|refine vF ?_|refine br_and ?_|refine br_or ?_|refine br_d (fun _=>?_) fun _=>?_|refine vM (fun _=>?_) fun _=>?_)
 refine ⟨s, ?_, ⟨hs⟩, ?_⟩
 ·repeat' ((conv=>whnf);first|with_reducible exact True.intro|exact vW|with_reducible refine And.intro ?_ ?_)
 intro v e ⟨v1, v2⟩ he hn
 have hK := h v ⟨v1, v2⟩ fun n q1 q2 => (hn n q1 q2).1
 rcases he with rfl | rfl
 ·repeat' ((conv=>whnf);first|refine vA ?_|with_reducible first|refine v8 ?_|refine Sp.mk ?_ ?_|refine vS ?_|refine vR ?_|refine vB ?_|refine br_nt ?_|refine br_tt ?_|refine br_ff ?_|refine vP ?_|refine vQ ?_|refine vT ?_|refine vF ?_|refine br_and ?_|refine br_or ?_|refine br_d (fun _=>?_) fun _=>?_|refine vM (fun _=>?_) fun _=>?_)
  ·rename_i g1 g2
   refine ⟨v, ?_, ⟨g1, by omega⟩, ?_⟩
   ·repeat' ((conv=>whnf);first|with_reducible exact True.intro|exact vW|with_reducible refine And.intro ?_ ?_)
   have e0 : isNum s = decide (num v = s) := by
    by_cases e : num v = s
    ·rw [decide_eq_true e, ← e]
     obtain ⟨n, rfl⟩ : ∃ n : Nat, v = n := ⟨v.toNat, by omega⟩
     exact isNum_num (by omega)
    ·rw [decide_eq_false e]
     exact isNum_no fun ⟨n, q1, q2⟩ => e (by rw [(hn n q1 q2).1, q2])
   rw [e0] at hK
   repeat' ((conv=>whnf);first|refine vA ?_|with_reducible first|refine v8 ?_|refine Sp.mk ?_ ?_|refine vS ?_|refine vR ?_|refine vB ?_|refine br_nt ?_|refine br_tt ?_|refine br_ff ?_|refine vP ?_|refine vQ ?_|refine vT ?_|refine vF ?_|refine br_and ?_|refine br_or ?_|refine br_d (fun _=>?_) fun _=>?_|refine vM (fun _=>?_) fun _=>?_)
   exact hK
  all_goals
   have e0 : isNum s = false := isNum_no fun ⟨n, q1, q2⟩ => by have := (hn n q1 q2).1; omega
   rw [e0] at hK
   exact hK
 ·have e0 : isNum s = false := isNum_no fun ⟨n, q1, q2⟩ => by cases (hn n q1 q2).2
  rw [e0] at hK
  repeat' ((conv=>whnf);first|refine vA ?_|with_reducible first|refine v8 ?_|refine Sp.mk ?_ ?_|refine vS ?_|refine vR ?_|refine vB ?_|refine br_nt ?_|refine br_tt ?_|refine br_ff ?_|refine vP ?_|refine vQ ?_|refine vT ?_|refine vF ?_|refine br_and ?_|refine br_or ?_|refine br_d (fun _=>?_) fun _=>?_|refine vM (fun _=>?_) fun _=>?_)
  exact hK
/-! ### The reference's cut -/
theorem ext_list {s : ByteArray} {j i : Nat} : (s.extract j i).data.toList = (s.data.toList.drop j).take (i - j) := by
 rw [ByteArray.data_extract, Array.toList_extract]
theorem drop_bt {s : ByteArray} {i : Nat} (h : i < s.size) : ∃ b : UInt8, bt s i = (b.toNat : Int) ∧ s.data.toList.drop i = b :: s.data.toList.drop (i + 1) := by
 have h' : i < s.data.toList.length := by rw [Array.length_toList]; exact h
 refine ⟨s.data.toList[i], ?_, List.drop_eq_getElem_cons h'⟩
 unfold bt
 rw [Array.getD_eq_getD_getElem?, Array.getElem?_eq_getElem (by exact h)]
 rfl
structure cutI (s : ByteArray) (c : UInt8) (P : List ByteArray) (i j : Nat) : Prop where
 ji : j ≤ i
 le : i ≤ s.size
 len : P.length ≤ j
 cut : cutL c s.data.toList = P.map (·.data.toList) ++ headApp (s.extract j i).data.toList (cutL c (s.data.toList.drop i))
theorem cutI_0 (s : ByteArray) (c : UInt8) : cutI s c [] 0 0 := ⟨Nat.le_refl _, Nat.zero_le _, Nat.le_refl _, by
 rw [ext_list]
 exact (headApp_nil (cutL_ne c _)).symm⟩
theorem ext_snocL {s : ByteArray} {j i : Nat} {b : UInt8} (hji : j ≤ i) (h : s.data.toList.drop i = b :: s.data.toList.drop (i + 1)) : (s.extract j (i + 1)).data.toList = (s.extract j i).data.toList ++ [b] := by
 have e : (s.data.toList.drop j).drop (i - j) = b :: s.data.toList.drop (i + 1) := by rw [List.drop_drop, show j + (i - j) = i by omega, h]
 rw [ext_list, ext_list, show i + 1 - j = (i - j) + 1 by omega, List.take_add, e]
 rfl
theorem cutI_hit {s : ByteArray} {c : UInt8} {P : List ByteArray} {i j : Nat} (h : cutI s c P i j) (hi : i < s.size) (hb : bt s i = (c.toNat : Int)) : cutI s c (P ++ [s.extract j i]) (i + 1) (i + 1) := by
 obtain ⟨b, e1, e2⟩ := drop_bt hi
 obtain rfl : b = c := UInt8.toNat_inj.1 (by omega)
 refine ⟨Nat.le_refl _, hi, by rw [List.length_append]; have := h.len; have := h.ji; show _ + 1 ≤ _; omega, ?_⟩
 have e3 : (s.extract (i + 1) (i + 1)).data.toList = [] := by rw [ext_list, Nat.sub_self]; rfl
 rw [h.cut, e2, e3, headApp_nil (cutL_ne _ _), List.map_append, List.append_assoc]
 show _ ++ headApp _ (if b = b then _ else _) = _
 rw [if_pos rfl]
 show _ ++ ((_ ++ []) :: _) = _
 rw [List.append_nil]
 rfl
theorem cutI_miss {s : ByteArray} {c : UInt8} {P : List ByteArray} {i j : Nat} (h : cutI s c P i j) (hi : i < s.size) (hb : ¬ bt s i = (c.toNat : Int)) : cutI s c P (i + 1) j := by
 obtain ⟨b, e1, e2⟩ := drop_bt hi
 refine ⟨Nat.le_succ_of_le h.ji, hi, h.len, ?_⟩
 rw [h.cut, e2, ext_snocL h.ji e2, ← headApp_app]
 show _ ++ headApp _ (if b = c then _ else _) = _
 rw [if_neg fun e => hb (by rw [e1, e])]
theorem cutI_end {s : ByteArray} {c : UInt8} {P : List ByteArray} {j : Nat} (h : cutI s c P s.size j) : cutB s c = P ++ [s.extract j s.size] := by
 unfold cutB
 rw [h.cut, show s.data.toList.drop s.size = [] from List.drop_of_length_le (by rw [Array.length_toList]; exact Nat.le_refl _)]
 show (_ ++ [_ ++ []]).map _ = _
 rw [List.append_nil, List.map_append, List.map_map]
 exact congrArg (· ++ _) (List.map_id _)
theorem ext_pushW {α : Type} {enc : α → List AV} {d : α} {l : List α} {x : α} {g : Nat → List AV} (hg : g 0 = enc x) : l.length + 1 = (l ++ [x]).length ∧ ∀ i, i < l.length + 1 → appF l.length (fun i => enc (l.getD i d)) g (0 + i) = enc ((l ++ [x]).getD i d) := by
 have h := ext_push (enc := enc) (d := d) (l := l) (x := x) (g := g) hg
 refine ⟨h.1.symm, fun i hi => ?_⟩
 rw [Nat.zero_add]
 exact (h.2 i (by rw [h.1]; exact hi)).symm
def C215 : List AV → (AV → Prop) → Prop := con (X := ByteArray × UInt8) (fun x => [.str x.1, .int .u8 (x.2.toNat : Int)]) (fun x => x.1.size < 4294967281) fun x K => K (slS (cutB x.1 x.2))
theorem F215 : FF 91 C215 := by
 refine fitXE [] (by simp) [] (by simp) Tryz.f91 ⟨rfl, by decide +kernel, by decide +kernel⟩ (by intro x K K2 hk h; (try dsimp only at h ⊢); intros; apply hk; first | exact h | (apply h <;> assumption)) ?_
 rintro ⟨s, c⟩ K hs h
 refine ⟨Nat.le_of_ble_eq_true rfl, ?_⟩
 dsimp only at h hs ⊢
 have hc := c.toNat_lt
 repeat' ((conv=>whnf);first|refine vA ?_|with_reducible first|refine v8 ?_|refine Sp.mk ?_ ?_|refine vS ?_|refine vR ?_|refine vB ?_|refine br_nt ?_|refine br_tt ?_|refine br_ff ?_|refine vP ?_|refine vQ ?_|refine vT ?_|refine vF ?_|refine br_and ?_|refine br_or ?_|refine br_d (fun _=>?_) fun _=>?_|refine vM (fun _=>?_) fun _=>?_)
 refine Lp.mk ⟨List ByteArray × Nat × Nat, fun x => [(0, .str s), (1, .int .u8 (c.toNat : Int)), (5, .row 0 1 0 x.1.length), (6, .int .i64 x.2.2), (7, .int .i64 x.2.1)], fun x => [.row 1 x.1.length fun k => encS (x.1.getD k ⟨#[]⟩)], fun x => cutI s c x.1 x.2.1 x.2.2, fun x => s.size - x.2.1, ⟨([], 0, 0), cutI_0 s c, ⟨⟨[none], [], rfl, rfl, ?_, ?_⟩⟩⟩, ?_⟩
 ·repeat' ((conv=>whnf);first|with_reducible exact True.intro|exact vW|with_reducible refine And.intro ?_ ?_)
 ·repeat' ((conv=>whnf);first|with_reducible exact True.intro|exact vW|with_reducible refine And.intro ?_ ?_)
 rintro ⟨P, i, j⟩ hI
 have i1 := hI.ji
 have i2 := hI.le
 have i3 := hI.len
 dsimp only at i1 i2 i3 hI ⊢
 repeat' ((conv=>whnf);first|refine vA ?_|with_reducible first|refine v8 ?_|refine Sp.mk ?_ ?_|refine vS ?_|refine vR ?_|refine vB ?_|refine br_nt ?_|refine br_tt ?_|refine br_ff ?_|refine vP ?_|refine vQ ?_|refine vT ?_|refine vF ?_|refine br_and ?_|refine br_or ?_|refine br_d (fun _=>?_) fun _=>?_|refine vM (fun _=>?_) fun _=>?_)
 ·rename_i q1 q2
  refine ⟨(P ++ [s.extract j i], i + 1, i + 1), cutI_hit hI (by omega) q2, by dsimp only; omega, ⟨⟨[some 2], [], rfl, rfl, ?_, ?_⟩⟩⟩
  ·repeat' ((conv=>whnf);first|with_reducible exact True.intro|exact vW|with_reducible refine And.intro ?_ ?_)
   all_goals exact Chk.mk ⟨rfl, by rw [List.length_append]; rfl⟩
  ·repeat' ((conv=>whnf);first|with_reducible exact True.intro|exact vW|with_reducible refine And.intro ?_ ?_)
   all_goals exact Chk.mk (ext_push rfl)
 ·rename_i q1 q2
  refine ⟨(P, i + 1, j), cutI_miss hI (by omega) q2, by dsimp only; omega, ⟨⟨[some 0], [], rfl, rfl, ?_, ?_⟩⟩⟩
  ·repeat' ((conv=>whnf);first|with_reducible exact True.intro|exact vW|with_reducible refine And.intro ?_ ?_)
  ·repeat' ((conv=>whnf);first|with_reducible exact True.intro|exact vW|with_reducible refine And.intro ?_ ?_)
 ·rename_i q1
  obtain rfl : i = s.size := by omega
  rw [cutI_end hI] at h
  refine ⟨_, ?_, h⟩
  repeat' ((conv=>whnf);first|with_reducible exact True.intro|exact vW|with_reducible refine And.intro ?_ ?_)
  all_goals exact Chk.mk (ext_pushW rfl)
/-! ### The reference's digits -/
theorem take_bt {s : ByteArray} {i : Nat} (h : i < s.size) : ∃ b : UInt8, bt s i = (b.toNat : Int) ∧ b ∈ s.data.toList ∧ s.data.toList.take (i + 1) = s.data.toList.take i ++ [b] := by
 obtain ⟨b, e1, e2⟩ := drop_bt h
 have h' : i < s.data.toList.length := by rw [Array.length_toList]; exact h
 refine ⟨b, e1, ?_, ?_⟩
 ·have : b ∈ s.data.toList.drop i := by rw [e2]; exact List.mem_cons_self
  exact List.mem_of_mem_drop this
 ·rw [List.take_add, e2]; rfl
theorem num_len {n : Nat} (h : n < 1000000) : 1 ≤ (num (n : Int)).size ∧ (num (n : Int)).size ≤ 6 := by
 have e : (num (n : Int)).size = (Lib.decDigits n).length := by rw [← num_list]; exact (Array.length_toList).symm
 rw [e]
 exact ⟨dec_pos n, dec_len6 h⟩
theorem num_0 {n : Nat} (h : 1 < (num (n : Int)).size) : ¬ bt (num (n : Int)) 0 = 48 := by
 obtain ⟨b, e1, e2⟩ := drop_bt (s := num (n : Int)) (i := 0) (by omega)
 rw [List.drop_zero, num_list] at e2
 intro e
 have hb : b = 48 := UInt8.toNat_inj.1 (by have : (48 : UInt8).toNat = 48 := rfl; omega)
 have h1 : 1 ≤ n := by
  rcases Nat.eq_zero_or_pos n with rfl | h1
  ·have : (num ((0 : Nat) : Int)).size = 1 := by
    rw [show (num ((0 : Nat) : Int)).size = (Lib.decDigits 0).length by rw [← num_list]; exact (Array.length_toList).symm, Lib.decDigits]
    rfl
   omega
  ·exact h1
 exact dec_head n h1 (by rw [e2, hb]; rfl)
theorem val_step {s : ByteArray} {i : Nat} {b : UInt8} (h : s.data.toList.take (i + 1) = s.data.toList.take i ++ [b]) : valL 0 (s.data.toList.take (i + 1)) = valL 0 (s.data.toList.take i) * 10 + (b.toNat - 48) := by rw [h, valL_app]; rfl
def C216 : List AV → (AV → Prop) → Prop := con (X := ByteArray) (fun s => [.str s]) (fun s => s.size < 9223372036854775808) fun s K => ∀ v : Int, i64r v → (∀ n : Nat, n < 1000000 → s = num n → v = n) → K (.int .i64 v)
theorem F216 : FF 92 C216 := by
 refine fitX [(62, C35)] (by simp only [List.mem_cons, List.not_mem_nil, or_false]; rintro _ rfl <;> first | exact F35) [] (by simp) Tryz.f92 ⟨rfl, by decide +kernel, by decide +kernel⟩ (fun _ _ _ hk h v q1 q2 => hk _ (h v q1 q2)) ?_
 rintro s K hs h
 refine ⟨Nat.le_of_ble_eq_true rfl, ?_⟩
 repeat' ((conv=>whnf);first|refine vA ?_|with_reducible first|refine v8 ?_|refine Sp.mk ?_ ?_|refine vS ?_|refine vR ?_|refine vB ?_|refine br_nt ?_|refine br_tt ?_|refine br_ff ?_|refine vP ?_|refine vQ ?_|refine vT ?_|refine vF ?_|refine br_and ?_|refine br_or ?_|refine br_d (fun _=>?_) fun _=>?_|refine vM (fun _=>?_) fun _=>?_)
 refine ⟨((s.size : Int), 1, 6), ?_, ⟨trivial⟩, ?_⟩
 ·repeat' ((conv=>whnf);first|with_reducible exact True.intro|exact vW|with_reducible refine And.intro ?_ ?_)
 dsimp only
 have hno : (∀ n : Nat, n < 1000000 → s = num n → False) → K (.int .i64 (-1)) := fun hn => h (-1) ⟨by decide, by decide⟩ fun n q1 q2 => (hn n q1 q2).elim
 apply later
 ·intro key
  repeat' ((conv=>whnf);first|refine vA ?_|with_reducible first|refine v8 ?_|refine Sp.mk ?_ ?_|refine vS ?_|refine vR ?_|refine vB ?_|refine br_nt ?_|refine br_tt ?_|refine br_ff ?_|refine vP ?_|refine vQ ?_|refine vT ?_|refine vF ?_|refine br_and ?_|refine br_or ?_|refine br_d (fun _=>?_) fun _=>?_|refine vM (fun _=>?_) fun _=>?_)
  ·rename_i q1 q2 q3
   refine hno fun n hn e => ?_
   subst e
   exact num_0 (by omega) q3
  ·rename_i q1 q2 q3
   replace q1 : 1 ≤ s.size ∧ s.size ≤ 6 := by omega
   clear q2 q3
   refine Lp.mk ⟨Nat, fun i => [(0, .str s), (3, .int .i64 (valL 0 (s.data.toList.take i) : Nat)), (4, .int .i64 i)], fun _ => [], fun i => i ≤ s.size ∧ valL 0 (s.data.toList.take i) + 1 ≤ 10 ^ i, fun i => s.size - i, ⟨0, ⟨Nat.zero_le _, Nat.le_refl _⟩, ⟨⟨[], [], rfl, rfl, ?_, ?_⟩⟩⟩, ?_⟩
   ·repeat' ((conv=>whnf);first|with_reducible exact True.intro|exact vW|with_reducible refine And.intro ?_ ?_)
   ·repeat' ((conv=>whnf);first|with_reducible exact True.intro|exact vW|with_reducible refine And.intro ?_ ?_)
   revert q1
   exact key.t
  ·rename_i q1 q2
   replace q1 : 1 ≤ s.size ∧ s.size ≤ 6 := by omega
   clear q2
   refine Lp.mk ⟨Nat, fun i => [(0, .str s), (3, .int .i64 (valL 0 (s.data.toList.take i) : Nat)), (4, .int .i64 i)], fun _ => [], fun i => i ≤ s.size ∧ valL 0 (s.data.toList.take i) + 1 ≤ 10 ^ i, fun i => s.size - i, ⟨0, ⟨Nat.zero_le _, Nat.le_refl _⟩, ⟨⟨[], [], rfl, rfl, ?_, ?_⟩⟩⟩, ?_⟩
   ·repeat' ((conv=>whnf);first|with_reducible exact True.intro|exact vW|with_reducible refine And.intro ?_ ?_)
   ·repeat' ((conv=>whnf);first|with_reducible exact True.intro|exact vW|with_reducible refine And.intro ?_ ?_)
   revert q1
   exact key.t
  ·rename_i q1
   refine hno fun n hn e => q1 ?_
   subst e
   have := num_len hn
   omega
 rintro ⟨h1, h6⟩ i ⟨i1, i2⟩
 have ip : 10 ^ i ≤ 10 ^ 6 := Nat.pow_le_pow_right (by decide) (by omega)
 have ip' : (10 : Nat) ^ 6 = 1000000 := by decide
 dsimp only
 by_cases hi : i < s.size
 ·obtain ⟨b, e1, e2, e3⟩ := take_bt hi
  have hv := val_step e3
  have hb := b.toNat_lt
  have e1' : bt s (i : Int).toNat = (b.toNat : Int) := e1
  have hbad : ¬ digB b → K (.int .i64 (-1)) := fun hd => hno fun n hn e => hd (by subst e; rw [num_list] at e2; exact dec_dig n b e2)
  repeat' ((conv=>whnf);first|refine vA ?_|with_reducible first|refine v8 ?_|refine Sp.mk ?_ ?_|refine vS ?_|refine vR ?_|refine vB ?_|refine br_nt ?_|refine br_tt ?_|refine br_ff ?_|refine vP ?_|refine vQ ?_|refine vT ?_|refine vF ?_|refine br_and ?_|refine br_or ?_|refine br_d (fun _=>?_) fun _=>?_|refine vM (fun _=>?_) fun _=>?_)
  ·exact hbad fun q => by unfold digB at q; omega
  ·exact hbad fun q => by unfold digB at q; omega
  ·refine ⟨i + 1, ⟨by omega, by rw [hv, Nat.pow_succ]; omega⟩, by omega, ⟨⟨[], [], rfl, rfl, ?_, ?_⟩⟩⟩
   ·repeat' ((conv=>whnf);first|with_reducible exact True.intro|exact vW|with_reducible refine And.intro ?_ ?_)
   ·repeat' ((conv=>whnf);first|with_reducible exact True.intro|exact vW|with_reducible refine And.intro ?_ ?_)
 ·obtain rfl : i = s.size := by omega
  have ht : s.data.toList.take s.size = s.data.toList := List.take_of_length_le (by rw [Array.length_toList]; exact Nat.le_refl _)
  rw [ht] at i2 ⊢
  repeat' ((conv=>whnf);first|refine vA ?_|with_reducible first|refine v8 ?_|refine Sp.mk ?_ ?_|refine vS ?_|refine vR ?_|refine vB ?_|refine br_nt ?_|refine br_tt ?_|refine br_ff ?_|refine vP ?_|refine vQ ?_|refine vT ?_|refine vF ?_|refine br_and ?_|refine br_or ?_|refine br_d (fun _=>?_) fun _=>?_|refine vM (fun _=>?_) fun _=>?_)
  exact h _ ⟨by omega, by omega⟩ fun n hn e => by rw [e, num_val]
end Go.Proofs.YtkafoolhbflfkaaGreatDoor.Vc
end
section
/- Part UD: what a place's text is cut into. -/
namespace Go.Proofs.YtkafoolhbflfkaaGreatDoor.Vc
open Go.Proofs
set_option maxRecDepth 10000
set_option maxHeartbeats 4000000
def visB (s : ByteArray) : Prop := ∀ b ∈ s.data.toList, 33 ≤ b.toNat
theorem vis_app {a b : ByteArray} (ha : visB a) (hb : visB b) : visB (a ++ b) := fun x hx => by
 rw [ByteArray.data_append, Array.toList_append] at hx
 exact (List.mem_append.1 hx).elim (ha x) (hb x)
theorem vis_num {n : Int} (h : 0 ≤ n) : visB (num n) := fun b hb => by
 obtain ⟨k, rfl⟩ : ∃ k : Nat, n = k := ⟨n.toNat, by omega⟩
 rw [num_list] at hb
 have := dec_dig k b hb
 unfold digB at this
 omega
theorem vis_one {k : UInt8} (h : 33 ≤ k.toNat) : visB ⟨#[k]⟩ := fun b hb => by
 rw [List.mem_singleton.1 hb]; exact h
theorem vis_wrap {s : ByteArray} {b : Bool} (h : visB s) : visB (wrapT s b) := by
 unfold wrapT
 split
 ·exact vis_app (vis_app (vis_one (by decide)) h) (vis_one (by decide))
 ·exact h
theorem vis_letter {a : Int} (h0 : 0 ≤ a) (h : a < 8) : visB (letter a) := vis_one (by
 rw [UInt8.toNat_ofNat', Nat.mod_eq_of_lt (by omega)]
 omega)
theorem vis_join {k : Int} {a b : Pt} (ha : visB a.s) (hb : visB b.s) : visB (join2 k a b).s := by
 unfold join2
 split
 ·exact vis_app (vis_app ha (vis_one (by decide))) (vis_wrap hb)
 ·exact vis_app (vis_app (vis_wrap ha) (vis_one (by decide))) (vis_wrap hb)
def okM (m : Mark) : Prop := m.kind = 0 → (0 ≤ m.at_ ∧ m.at_ < 8) ∧ 0 ≤ m.need
theorem vis_step {m : Mark} {st : List Pt} (hm : okM m) (h : ∀ p ∈ st, visB p.s) : ∀ p ∈ stepT m st, visB p.s := by
 unfold stepT
 split
 ·rename_i e
  have := hm e
  intro p hp
  rcases List.mem_cons.1 hp with rfl | hp
  ·exact vis_app (vis_letter this.1.1 this.1.2) (vis_num this.2)
  ·exact h p hp
 ·match st, h with
  |[], h => exact h
  |[a], h => exact h
  |b :: a :: r, h =>
   intro p hp
   rcases List.mem_cons.1 hp with rfl | hp
   ·exact vis_join (h a (List.mem_cons_of_mem _ List.mem_cons_self)) (h b List.mem_cons_self)
   ·exact h p (List.mem_cons_of_mem _ (List.mem_cons_of_mem _ hp))
theorem vis_run : ∀ {t : List Mark} {st : List Pt}, (∀ m ∈ t, okM m) → (∀ p ∈ st, visB p.s) → ∀ p ∈ runT t st, visB p.s
 |[], _, _, h => h
 |m :: t, _, hm, h => vis_run (t := t) (fun x hx => hm x (List.mem_cons_of_mem _ hx)) (vis_step (hm m List.mem_cons_self) h)
theorem walk_marks {bs : List Int} (hl : bs.length ≤ 8) : ∀ {t : List Mark} {k j : Nat}, walkP bs t k = some j → ∀ m ∈ t, okM m
 |[], _, _, _, m, hm => by cases hm
 |x :: t, k, j, h, m, hm => by
  simp only [walkP] at h
  cases e : stepP bs x k with
  |none => rw [e] at h; cases h
  |some i =>
   rw [e] at h
   rcases List.mem_cons.1 hm with rfl | hm
   ·intro hk
    unfold stepP at e
    split at e
    ·rename_i g
     exact ⟨⟨g.2.1, by omega⟩, by omega⟩
    ·rename_i g
     split at e
     ·rename_i g2
      omega
     ·cases e
   ·exact walk_marks hl (t := t) (k := i) (j := j) h m hm
theorem vis_term {h : House} {t : List Mark} (ht : termOk h t) : visB (textT t) := by
 have h1 := vis_run (t := t) (st := []) (walk_marks (Nat.le_trans ht.1.2.1 (by decide)) ht.2.2) (fun _ q => by cases q)
 unfold textT partT
 cases e : runT t [] with
 |nil => intro b hb; cases hb
 |cons p r => rw [e] at h1; exact h1 p List.mem_cons_self
theorem vis_rule {h : House} {r : ByteArray} (e : bad h r = false) : visB r := by
 obtain ⟨t, ht⟩ := bad_term e
 obtain ⟨_, g2, g3⟩ := (rdT_iff (by decide)).1 ht
 rw [← g3]
 exact vis_term g2
theorem vis_joinB {s : ByteArray} (hs : visB s) : ∀ {l : List ByteArray}, (∀ x ∈ l, visB x) → visB (joinB l s) := by
 intro l h b hb
 have hb' : b ∈ Lib.join (l.map (·.data.toList)) s.data.toList := hb
 have key : ∀ (l : List (List UInt8)), b ∈ Lib.join l s.data.toList → b ∈ s.data.toList ∨ ∃ x ∈ l, b ∈ x := by
  intro l
  induction l with
  |nil => intro q; cases q
  |cons x l ih =>
   cases l with
   |nil => rw [Lib.join_one]; exact fun q => .inr ⟨x, List.mem_cons_self, q⟩
   |cons y r =>
    have e : Lib.join (x :: y :: r) s.data.toList = x ++ (s.data.toList ++ Lib.join (y :: r) s.data.toList) := by
     unfold Lib.join List.intercalate
     rw [List.intersperse_cons_cons, List.flatten_cons, List.flatten_cons]
    rw [e]
    intro q
    rcases List.mem_append.1 q with q | q
    ·exact .inr ⟨x, List.mem_cons_self, q⟩
    ·rcases List.mem_append.1 q with q | q
     ·exact .inl q
     ·exact (ih q).imp id fun ⟨z, hz, hq⟩ => ⟨z, List.mem_cons_of_mem _ hz, hq⟩
 rcases key _ hb' with q | ⟨x, hx, q⟩
 ·exact hs b q
 ·obtain ⟨y, hy, rfl⟩ := List.mem_map.1 hx
  exact h y hy b q
theorem vis_no {s : ByteArray} (h : visB s) {c : UInt8} (hc : c.toNat < 33) : c ∉ s.data.toList := fun q => by have := h c q; omega
theorem num_nocomma {n : Int} (h : 0 ≤ n) : (44 : UInt8) ∉ (num n).data.toList := fun q => by
 obtain ⟨k, rfl⟩ : ∃ k : Nat, n = k := ⟨n.toNat, by omega⟩
 rw [num_list] at q
 have := dec_dig k _ q
 unfold digB at this
 have h44 : (44 : UInt8).toNat = 44 := rfl
 omega
theorem cut_listT {l : List Int} (h : smallL l) (hne : l ≠ []) : cutB (listT l) 44 = l.map num := joinB_cut (c := 44) (fun e => hne (List.map_eq_nil_iff.1 e)) fun x hx => by
 obtain ⟨n, hn, rfl⟩ := List.mem_map.1 hx
 exact num_nocomma (h.2 n hn).1
theorem cut_plT {x : Place} (h : placeOk x) : cutB (plT x) 32 = num x.p :: listT x.bs :: x.rules := joinB_cut (c := 32) (List.cons_ne_nil _ _) fun y hy => by
 obtain ⟨g1, g2, g3, g4⟩ := placeOk_small h
 refine vis_no ?_ (by decide)
 rcases List.mem_cons.1 hy with rfl | hy
 ·exact vis_num g2
 ·rcases List.mem_cons.1 hy with rfl | hy
  ·exact vis_joinB (vis_one (by decide)) fun z hz => by
    obtain ⟨n, hn, rfl⟩ := List.mem_map.1 hz
    exact vis_num (g1.2 n hn).1
  ·exact vis_rule (h.2.2 y hy)
theorem num_inj {m : Nat} {n : Int} (h0 : 0 ≤ n) (h : num (m : Int) = num n) : (m : Int) = n := by
 obtain ⟨k, rfl⟩ : ∃ k : Nat, n = k := ⟨n.toNat, by omega⟩
 have := num_val m
 rw [h, num_val] at this
 rw [this]
theorem plT_inj {x y : Place} (hx : placeOk x) (hy : placeOk y) (h : plT x = plT y) : x = y := by
 have e := cut_plT hx
 rw [h, cut_plT hy] at e
 obtain ⟨x1, x2, x3⟩ := x
 obtain ⟨y1, y2, y3⟩ := y
 have sx := placeOk_small hx
 have sy := placeOk_small hy
 injection e with e1 e2
 injection e2 with e2 e3
 have nx := placeOk_bs hx
 have ny := placeOk_bs hy
 dsimp only at e1 e2 e3 sx sy nx ny
 have h1 : x1 = y1 := by
  obtain ⟨k, rfl⟩ : ∃ k : Nat, y1 = k := ⟨y1.toNat, by omega⟩
  exact (num_inj sx.2.1 e1).symm
 have e4 := cut_listT sx.1 nx
 rw [← e2, cut_listT sy.1 ny] at e4
 have h2 : x2 = y2 := by
  have key : ∀ (a b : List Int), (∀ n ∈ a, 0 ≤ n) → (∀ n ∈ b, 0 ≤ n) → a.map num = b.map num → a = b := by
   intro a
   induction a with
   |nil => intro b _ _ e; cases b with | nil => rfl | cons => cases e
   |cons n a ih =>
    intro b ha hb e
    cases b with
    |nil => cases e
    |cons m b =>
     rw [List.map_cons, List.map_cons] at e
     injection e with e1 e2
     obtain ⟨k, rfl⟩ : ∃ k : Nat, n = k := ⟨n.toNat, by have := ha n List.mem_cons_self; omega⟩
     rw [num_inj (hb m List.mem_cons_self) e1, ih b (fun z hz => ha z (List.mem_cons_of_mem _ hz)) (fun z hz => hb z (List.mem_cons_of_mem _ hz)) e2]
  exact (key _ _ (fun n hn => (sy.1.2 n hn).1) (fun n hn => (sx.1.2 n hn).1) e4).symm
 rw [h1, h2, e3]
end Go.Proofs.YtkafoolhbflfkaaGreatDoor.Vc
end
section
/- Part UE: places that are read, by the reference. -/
namespace Go.Proofs.YtkafoolhbflfkaaGreatDoor.Vc
open Go.Proofs
set_option maxRecDepth 10000
set_option maxHeartbeats 4000000
def isPt (s : ByteArray) (x : Place) : Prop := placeOk x ∧ plT x = s
def rpPost (s : ByteArray) (K : AV → Prop) : Prop := (∀ x, isPt s x → K (.tup [enPl x, .bool true])) ∧ ((¬ ∃ x, isPt s x) → K (.tup [enPl default, .bool false]))
theorem rpPost.mono {s : ByteArray} {K K2 : AV → Prop} (hk : ∀ r, K r → K2 r) (h : rpPost s K) : rpPost s K2 := ⟨fun x q => hk _ (h.1 x q), fun q => hk _ (h.2 q)⟩
theorem isPt_cut {s : ByteArray} {x : Place} (h : isPt s x) : cutB s 32 = num x.p :: listT x.bs :: x.rules := by rw [← h.2]; exact cut_plT h.1
theorem isPt_len {s : ByteArray} {x : Place} (h : isPt s x) : 3 ≤ (cutB s 32).length := by
 rw [isPt_cut h]
 have := h.1.2.1.1
 simp only [List.length_cons]
 omega
theorem isPt_p {s : ByteArray} {x : Place} (h : isPt s x) : ∃ n : Nat, n < 1000000 ∧ (cutB s 32).getD 0 ⟨#[]⟩ = num n ∧ x.p = n := by
 have := placeOk_small h.1
 rw [isPt_cut h]
 exact ⟨x.p.toNat, by omega, by show num x.p = _; congr 1; omega, by omega⟩
theorem isPt_bs {s : ByteArray} {x : Place} (h : isPt s x) : cutB ((cutB s 32).getD 1 ⟨#[]⟩) 44 = x.bs.map num := by
 rw [isPt_cut h]
 exact cut_listT (placeOk_small h.1).1 (placeOk_bs h.1)
theorem isPt_b {s : ByteArray} {x : Place} (h : isPt s x) {i : Nat} (hi : i < x.bs.length) : ∃ n : Nat, n < 1000000 ∧ (cutB ((cutB s 32).getD 1 ⟨#[]⟩) 44).getD i ⟨#[]⟩ = num n ∧ x.bs.getD i 0 = n := by
 have hs := (placeOk_small h.1).1.2 _ (getD_mem' (d := 0) hi)
 rw [isPt_bs h]
 refine ⟨(x.bs.getD i 0).toNat, by omega, ?_, by omega⟩
 rw [List.getD_eq_getElem?_getD, List.getElem?_map, List.getElem?_eq_getElem hi, List.getD_eq_getElem?_getD, List.getElem?_eq_getElem hi] at *
 show num _ = num _
 congr 1
 have : (x.bs[i]?.getD 0 : Int) = x.bs[i] := by rw [List.getElem?_eq_getElem hi]; rfl
 simp only [Option.getD_some] at hs ⊢
 omega
theorem isPt_rs {s : ByteArray} {x : Place} (h : isPt s x) : (cutB s 32).drop 2 = x.rules := by rw [isPt_cut h]; rfl
theorem isPt_one {s : ByteArray} {x y : Place} (h : isPt s x) (g : isPt s y) : x = y := plT_inj h.1 g.1 (h.2.trans g.2.symm)
theorem isPt_ne {s : ByteArray} {x : Place} (h : isPt s x) : s ≠ ⟨#[]⟩ := fun e => by
 have := isPt_len h
 rw [e] at this
 exact absurd this (by decide)
def C219 : List AV → (AV → Prop) → Prop := con (X := ByteArray) (fun s => [.str s]) (fun s => s.size < 4294967281) rpPost
theorem F219 : FF 61 C219 := by
 refine fitXE [(91, C215), (92, C216), (69, C142)] (by simp only [List.mem_cons, List.not_mem_nil, or_false]; rintro _ (rfl | rfl | rfl) <;> first | exact F215 | exact F216 | exact F142) [] (by simp) Tryz.f61 ⟨rfl, by decide +kernel, by decide +kernel⟩ (fun _ _ _ hk h => h.mono hk) ?_
 rintro s K hs ⟨h, hno⟩
 refine ⟨Nat.le_of_ble_eq_true rfl, ?_⟩
 repeat' ((conv=>whnf);first|refine vA ?_|with_reducible first|refine v8 ?_|refine Sp.mk ?_ ?_|refine vS ?_|refine vR ?_|refine vB ?_|refine br_nt ?_|refine br_tt ?_|refine br_ff ?_|refine vP ?_|refine vQ ?_|refine vT ?_|refine vF ?_|refine br_and ?_|refine br_or ?_|refine br_d (fun _=>?_) fun _=>?_|refine vM (fun _=>?_) fun _=>?_)
 refine ⟨(s, 32), ?_, ⟨hs⟩, ?_⟩
 ·repeat' ((conv=>whnf);first|with_reducible exact True.intro|exact vW|with_reducible refine And.intro ?_ ?_)
 obtain ⟨L, hL⟩ : ∃ L, cutB s 32 = L := ⟨_, rfl⟩
 have hl2 := (cutB_len s 32).2
 have hlm : ∀ x ∈ L, x.size ≤ s.size := fun x hx => cutB_mem (c := 32) (hL ▸ hx)
 have hx3 : ∀ x, isPt s x → 3 ≤ L.length := fun x q => hL ▸ isPt_len q
 dsimp only
 rw [hL] at hl2 ⊢
 repeat' ((conv=>whnf);first|refine vA ?_|with_reducible first|refine v8 ?_|refine Sp.mk ?_ ?_|refine vS ?_|refine vR ?_|refine vB ?_|refine br_nt ?_|refine br_tt ?_|refine br_ff ?_|refine vP ?_|refine vQ ?_|refine vT ?_|refine vF ?_|refine br_and ?_|refine br_or ?_|refine br_d (fun _=>?_) fun _=>?_|refine vM (fun _=>?_) fun _=>?_)
 ·rename_i h3
  refine ⟨_, ?_, hno fun ⟨x, q⟩ => by have := hx3 x q; omega⟩
  repeat' ((conv=>whnf);first|with_reducible exact True.intro|exact vW|with_reducible refine And.intro ?_ ?_)
 rename_i h3
 obtain ⟨Q, hQ⟩ : ∃ Q, L.drop 2 = Q := ⟨_, rfl⟩
 have hQl : Q.length = L.length - 2 := by rw [← hQ, List.length_drop]
 have hQe : Q.length = (L.length : Int).toNat - Int.toNat 2 ∧ ∀ i, i < Q.length → encS (Q.getD i ⟨#[]⟩) = encS (L.getD (Int.toNat 2 + i) ⟨#[]⟩) := ⟨hQl, fun i _ => by
  rw [← hQ, List.getD_eq_getElem?_getD, List.getElem?_drop, ← List.getD_eq_getElem?_getD]
  rfl⟩
 apply later
 ·intro key
  refine Dr.mk ⟨(.rd 0 (.rd 1 (.rd 2 (.rd 6 (.rd 7 (.ef 3 (.rd 4 (.ef 5 (.ef 8 (.rd 9 (.ef 10 (.ef 11 .dn .no) .no)) (.ef 10 (.ef 8 (.rd 9 (.ef 11 .dn .no)) .no) .no)) (.ef 10 (.ef 5 (.ef 8 (.rd 9 (.ef 11 .dn .no)) .no) .no) .no))) (.ef 5 (.ef 3 (.rd 4 (.ef 8 (.rd 9 (.ef 10 (.ef 11 .dn .no) .no)) (.ef 10 (.ef 8 (.rd 9 (.ef 11 .dn .no)) .no) .no))) (.ef 10 (.ef 3 (.rd 4 (.ef 8 (.rd 9 (.ef 11 .dn .no)) .no)) .no) .no)) (.ef 10 (.ef 3 (.rd 4 (.ef 5 (.ef 8 (.rd 9 (.ef 11 .dn .no)) .no) .no)) (.ef 5 (.ef 3 (.rd 4 (.ef 8 (.rd 9 (.ef 11 .dn .no)) .no)) .no) .no)) .no)))))))), by decide +kernel, ?_⟩
  repeat' ((conv=>whnf);first|refine vA ?_|with_reducible first|refine v8 ?_|refine Sp.mk ?_ ?_|refine vS ?_|refine vR ?_|refine vB ?_|refine br_nt ?_|refine br_tt ?_|refine br_ff ?_|refine vP ?_|refine vQ ?_|refine vT ?_|refine vF ?_|refine br_and ?_|refine br_or ?_|refine br_d (fun _=>?_) fun _=>?_|refine vM (fun _=>?_) fun _=>?_)
  all_goals
   refine ⟨L.getD 0 ⟨#[]⟩, ?_, ⟨by have := hlm _ (getD_mem' (l := L) (i := 0) (d := ⟨#[]⟩) (by omega)); omega⟩, ?_⟩
   ·repeat' ((conv=>whnf);first|with_reducible exact True.intro|exact vW|with_reducible refine And.intro ?_ ?_)
   intro v hv hn
   have hp : ∀ x, isPt s x → v = x.p := fun x q => by
    obtain ⟨n, n1, n2, n3⟩ := isPt_p q
    rw [hL] at n2
    rw [hn n n1 n2, n3]
   repeat' ((conv=>whnf);first|with_reducible refine wk_at 5 ?_|with_reducible refine wk_at1 5 ?_|with_reducible refine wk_at2 5 ?_|refine vA ?_|with_reducible first|refine v8 ?_|refine Sp.mk ?_ ?_|refine vS ?_|refine vR ?_|refine vB ?_|refine br_nt ?_|refine br_tt ?_|refine br_ff ?_|refine vP ?_|refine vQ ?_|refine vT ?_|refine vF ?_|refine br_and ?_|refine br_or ?_|refine br_d (fun _=>?_) fun _=>?_|refine vM (fun _=>?_) fun _=>?_)
  all_goals
   refine ⟨Wk.go [(0, .str s), (2, .ptr 0 0), (4, slS L), (5, .ptr 1 0)] [.box [.int .i64 0, .nils, .nils], .box [.int .i64 v, .nils, .row 2 1 0 Q.length], .row 1 Q.length fun i => encS (Q.getD i ⟨#[]⟩)] ?_ ?_⟩
   ·first | (refine ⟨⟨[some 0, some 1, some 2], [], rfl, rfl, ?_, ?_⟩⟩ <;> (repeat' ((conv=>whnf);first|with_reducible exact True.intro|exact vW|with_reducible refine And.intro ?_ ?_ | exact Chk.mk hQe)) <;> fail) | (refine ⟨⟨[some 0, some 2, some 1], [], rfl, rfl, ?_, ?_⟩⟩ <;> (repeat' ((conv=>whnf);first|with_reducible exact True.intro|exact vW|with_reducible refine And.intro ?_ ?_ | exact Chk.mk hQe)) <;> fail)
   clear hn
   revert v
   exact key.t
 intro v hv hp
 obtain ⟨M, hM⟩ : ∃ M, cutB (L.getD 1 ⟨#[]⟩) 44 = M := ⟨_, rfl⟩
 have h1s := hlm _ (getD_mem' (l := L) (i := 1) (d := ⟨#[]⟩) (by omega))
 have hMl := (cutB_len (L.getD 1 ⟨#[]⟩) 44).2
 have hMm : ∀ x ∈ M, x.size ≤ s.size := fun x hx => Nat.le_trans (cutB_mem (c := 44) (hM ▸ hx)) h1s
 have hMx : ∀ x, isPt s x → M = x.bs.map num := fun x q => by rw [← hM, ← hL]; exact isPt_bs q
 have hMb : ∀ x, isPt s x → ∀ i, i < x.bs.length → ∃ n : Nat, n < 1000000 ∧ M.getD i ⟨#[]⟩ = num n ∧ x.bs.getD i 0 = n := fun x q i hi => by rw [← hM, ← hL]; exact isPt_b q hi
 repeat' ((conv=>whnf);first|refine vA ?_|with_reducible first|refine v8 ?_|refine Sp.mk ?_ ?_|refine vS ?_|refine vR ?_|refine vB ?_|refine br_nt ?_|refine br_tt ?_|refine br_ff ?_|refine vP ?_|refine vQ ?_|refine vT ?_|refine vF ?_|refine br_and ?_|refine br_or ?_|refine br_d (fun _=>?_) fun _=>?_|refine vM (fun _=>?_) fun _=>?_)
 refine ⟨(L.getD 1 ⟨#[]⟩, 44), ?_, ⟨by dsimp only; omega⟩, ?_⟩
 ·repeat' ((conv=>whnf);first|with_reducible exact True.intro|exact vW|with_reducible refine And.intro ?_ ?_)
 dsimp only
 rw [hM] at hMl ⊢
 repeat' ((conv=>whnf);first|refine vA ?_|with_reducible first|refine v8 ?_|refine Sp.mk ?_ ?_|refine vS ?_|refine vR ?_|refine vB ?_|refine br_nt ?_|refine br_tt ?_|refine br_ff ?_|refine vP ?_|refine vQ ?_|refine vT ?_|refine vF ?_|refine br_and ?_|refine br_or ?_|refine br_d (fun _=>?_) fun _=>?_|refine vM (fun _=>?_) fun _=>?_)
 refine Lp.mk ⟨List Int, fun B => [(0, .str s), (2, .ptr 0 0), (5, .ptr 1 0), (6, slS M), (7, .int .i64 B.length)], fun B => [.box [.int .i64 0, .nils, .nils], .box [.int .i64 v, .row 3 1 0 B.length, .row 2 1 0 Q.length], .row 1 Q.length fun i => encS (Q.getD i ⟨#[]⟩), .row 1 B.length fun i => encI (B.getD i 0)],
  fun B => B.length ≤ M.length ∧ (∀ n ∈ B, i64r n) ∧ ∀ x, isPt s x → B = x.bs.take B.length, fun B => M.length - B.length, ⟨[], ⟨Nat.zero_le _, (fun _ q => by cases q), (fun _ _ => rfl)⟩, ⟨⟨[some 0, some 1, some 2, none], [], rfl, rfl, ?_, ?_⟩⟩⟩, ?_⟩
 ·repeat' ((conv=>whnf);first|with_reducible exact True.intro|exact vW|with_reducible refine And.intro ?_ ?_)
 ·repeat' ((conv=>whnf);first|with_reducible exact True.intro|exact vW|with_reducible refine And.intro ?_ ?_)
 rintro B ⟨i1, i2, i3⟩
 dsimp only
 by_cases hk : B.length < M.length
 ·repeat' ((conv=>whnf);first|refine vA ?_|with_reducible first|refine v8 ?_|refine Sp.mk ?_ ?_|refine vS ?_|refine vR ?_|refine vB ?_|refine br_nt ?_|refine br_tt ?_|refine br_ff ?_|refine vP ?_|refine vQ ?_|refine vT ?_|refine vF ?_|refine br_and ?_|refine br_or ?_|refine br_d (fun _=>?_) fun _=>?_|refine vM (fun _=>?_) fun _=>?_)
  refine Dr.mk ⟨(.rd 0 (.rd 1 (.rd 2 (.rd 3 (.rd 4 (.rd 5 (.rd 6 (.ef 7 (.ef 8 (.ef 9 (.rd 10 (.rd 11 (.ef 12 .dn .no))) .no) .no) .no)))))))), by decide +kernel, ?_⟩
  repeat' ((conv=>whnf);first|refine vA ?_|with_reducible first|refine v8 ?_|refine Sp.mk ?_ ?_|refine vS ?_|refine vR ?_|refine vB ?_|refine br_nt ?_|refine br_tt ?_|refine br_ff ?_|refine vP ?_|refine vQ ?_|refine vT ?_|refine vF ?_|refine br_and ?_|refine br_or ?_|refine br_d (fun _=>?_) fun _=>?_|refine vM (fun _=>?_) fun _=>?_)
  refine ⟨M.getD B.length ⟨#[]⟩, ?_, ⟨by have := hMm _ (getD_mem' (d := ⟨#[]⟩) hk); omega⟩, ?_⟩
  ·repeat' ((conv=>whnf);first|with_reducible exact True.intro|exact vW|with_reducible refine And.intro ?_ ?_)
  intro w hw hn
  have hnext : ∀ x, isPt s x → B ++ [w] = x.bs.take (B.length + 1) := fun x q => by
   have e2 := hMx x q
   have e3 : x.bs.length = M.length := by rw [e2, List.length_map]
   obtain ⟨n, n1, n2, n3⟩ := hMb x q B.length (by omega)
   rw [take_succ' 0 (by omega), ← i3 x q, hn n n1 n2, n3]
  have hi2 : ∀ n ∈ B ++ [w], i64r n := fun n hm => (List.mem_append.1 hm).elim (i2 n) fun hm => by rw [List.mem_singleton.1 hm]; exact hw
  have hBl : (B ++ [w]).length = B.length + 1 := by rw [List.length_append]; rfl
  repeat' ((conv=>whnf);first|refine vA ?_|with_reducible first|refine v8 ?_|refine Sp.mk ?_ ?_|refine vS ?_|refine vR ?_|refine vB ?_|refine br_nt ?_|refine br_tt ?_|refine br_ff ?_|refine vP ?_|refine vQ ?_|refine vT ?_|refine vF ?_|refine br_and ?_|refine br_or ?_|refine br_d (fun _=>?_) fun _=>?_|refine vM (fun _=>?_) fun _=>?_)
  refine ⟨B ++ [w], ⟨by omega, hi2, fun x q => by rw [hBl]; exact hnext x q⟩, by omega, ?_⟩
  first | (refine ⟨⟨[some 0, some 1, some 2, some 5], [], rfl, rfl, ?_, ?_⟩⟩ <;> (repeat' ((conv=>whnf);first|with_reducible exact True.intro|exact vW|with_reducible refine And.intro ?_ ?_ | exact Chk.mk ⟨rfl, hBl⟩ | exact Chk.mk (ext_push rfl))) <;> fail) | (refine ⟨⟨[some 0, some 1, some 2, some 4], [], rfl, rfl, ?_, ?_⟩⟩ <;> (repeat' ((conv=>whnf);first|with_reducible exact True.intro|exact vW|with_reducible refine And.intro ?_ ?_ | exact Chk.mk ⟨rfl, hBl⟩ | exact Chk.mk (ext_push rfl))) <;> fail)
 ·have hBx : ∀ x, isPt s x → x = ⟨v, B, Q⟩ := fun x q => by
   have e1 := i3 x q
   have e2 := hMx x q
   have e3 : x.bs.length = M.length := by rw [e2, List.length_map]
   rw [List.take_of_length_le (by omega)] at e1
   have e4 := isPt_rs q
   rw [hL, hQ] at e4
   obtain ⟨xp, xb, xr⟩ := x
   have e5 := hp _ q
   dsimp only at e1 e4 e5
   rw [e1, e4, e5]
  have hyI : placeI ⟨v, B, Q⟩ := ⟨⟨⟨hv, i2⟩, by show B.length < _; omega⟩, by show Q.length < _; omega, fun r hr => by have := hlm r (by rw [← hQ] at hr; exact List.mem_of_mem_drop hr); omega⟩
  have hno' : (¬ ptext ⟨v, B, Q⟩ = s ∨ s = ⟨#[]⟩) → K (.tup [enPl default, .bool false]) := fun q => hno fun ⟨x, g⟩ => by
   rcases q with q | q
   ·rw [← hBx x g] at q
    exact q ((if_pos g.1).trans g.2)
   ·exact isPt_ne g q
  have hyes : ptext ⟨v, B, Q⟩ = s → s ≠ ⟨#[]⟩ → K (.tup [enPl ⟨v, B, Q⟩, .bool true]) := fun e ne => h _ (by
   by_cases hO : placeOk ⟨v, B, Q⟩
   ·exact ⟨hO, (if_pos hO).symm.trans e⟩
   ·exact absurd ((if_neg hO).symm.trans e).symm ne)
  repeat' ((conv=>whnf);first|refine vA ?_|with_reducible first|refine v8 ?_|refine Sp.mk ?_ ?_|refine vS ?_|refine vR ?_|refine vB ?_|refine br_nt ?_|refine br_tt ?_|refine br_ff ?_|refine vP ?_|refine vQ ?_|refine vT ?_|refine vF ?_|refine br_and ?_|refine br_or ?_|refine br_d (fun _=>?_) fun _=>?_|refine vM (fun _=>?_) fun _=>?_)
  ·rename_i hs0
   refine ⟨_, ?_, hno' (.inr hs0)⟩
   repeat' ((conv=>whnf);first|with_reducible exact True.intro|exact vW|with_reducible refine And.intro ?_ ?_)
  ·rename_i hs0
   refine ⟨⟨v, B, Q⟩, ?_, ⟨hyI⟩, ?_⟩
   ·repeat' ((conv=>whnf);first|with_reducible exact True.intro|exact vW|with_reducible refine And.intro ?_ ?_)
    all_goals exact Chk.mk ⟨rfl, fun i _ => by dsimp only; rw [Nat.zero_add]⟩
   repeat' ((conv=>whnf);first|refine vA ?_|with_reducible first|refine v8 ?_|refine Sp.mk ?_ ?_|refine vS ?_|refine vR ?_|refine vB ?_|refine br_nt ?_|refine br_tt ?_|refine br_ff ?_|refine vP ?_|refine vQ ?_|refine vT ?_|refine vF ?_|refine br_and ?_|refine br_or ?_|refine br_d (fun _=>?_) fun _=>?_|refine vM (fun _=>?_) fun _=>?_)
   ·rename_i he
    refine ⟨_, ?_, hyes he hs0⟩
    repeat' ((conv=>whnf);first|with_reducible exact True.intro|exact vW|with_reducible refine And.intro ?_ ?_)
    all_goals exact Chk.mk ⟨rfl, fun i _ => by dsimp only; rw [Nat.zero_add]⟩
   ·rename_i he
    refine ⟨_, ?_, hno' (.inl he)⟩
    repeat' ((conv=>whnf);first|with_reducible exact True.intro|exact vW|with_reducible refine And.intro ?_ ?_)
end Go.Proofs.YtkafoolhbflfkaaGreatDoor.Vc
end
section
/- Part UF: places that are read, by the implementation. -/
namespace Go.Proofs.YtkafoolhbflfkaaGreatDoor.Vc
open Go.Proofs
set_option maxRecDepth 10000
set_option maxHeartbeats 4000000
def C214 : List AV → (AV → Prop) → Prop := con (X := ByteArray) (fun s => [.str s]) (fun s => s.size < 4294967281) rpPost
theorem placeOk_short' {x : Place} (h : placeOk x) : x.rules.length ≤ 100000000 ∧ x.bs.length ≤ 100000000 := ⟨Nat.le_trans h.2.1.2 (by omega), Nat.le_trans h.1.2.1 (by omega)⟩
theorem isPt_num {s : ByteArray} {x : Place} (h : isPt s x) : isNum ((cutB s 32).getD 0 ⟨#[]⟩) = true := by
 obtain ⟨n, n1, n2, _⟩ := isPt_p h
 rw [n2]
 exact isNum_num n1
theorem F214 : FF 87 C214 := by
 refine fitXE [(122, C211), (123, C213), (66, C152), (67, C166), (71, C157)] (by simp only [List.mem_cons, List.not_mem_nil, or_false]; rintro _ (rfl | rfl | rfl | rfl | rfl) <;> first | exact F211 | exact F213 | exact F152 | exact F166 | exact F157) [] (by simp) Tryz.f87 ⟨rfl, by decide +kernel, by decide +kernel⟩ (fun _ _ _ hk h => h.mono hk) ?_
 rintro s K hs ⟨h, hno⟩
 refine ⟨Nat.le_of_ble_eq_true rfl, ?_⟩
 repeat' ((conv=>whnf);first|refine vA ?_|with_reducible first|refine v8 ?_|refine Sp.mk ?_ ?_|refine vS ?_|refine vR ?_|refine vB ?_|refine br_nt ?_|refine br_tt ?_|refine br_ff ?_|refine vP ?_|refine vQ ?_|refine vT ?_|refine vF ?_|refine br_and ?_|refine br_or ?_|refine br_d (fun _=>?_) fun _=>?_|refine vM (fun _=>?_) fun _=>?_)
 refine ⟨(s, 32), ?_, ⟨hs⟩, ?_⟩
 ·repeat' ((conv=>whnf);first|with_reducible exact True.intro|exact vW|with_reducible refine And.intro ?_ ?_)
 obtain ⟨L, hL⟩ : ∃ L, cutB s 32 = L := ⟨_, rfl⟩
 have hl2 := (cutB_len s 32).2
 have hlm : ∀ x ∈ L, x.size ≤ s.size := fun x hx => cutB_mem (c := 32) (hL ▸ hx)
 have hx3 : ∀ x, isPt s x → 3 ≤ L.length := fun x q => hL ▸ isPt_len q
 dsimp only
 rw [hL] at hl2 ⊢
 repeat' ((conv=>whnf);first|refine vA ?_|with_reducible first|refine v8 ?_|refine Sp.mk ?_ ?_|refine vS ?_|refine vR ?_|refine vB ?_|refine br_nt ?_|refine br_tt ?_|refine br_ff ?_|refine vP ?_|refine vQ ?_|refine vT ?_|refine vF ?_|refine br_and ?_|refine br_or ?_|refine br_d (fun _=>?_) fun _=>?_|refine vM (fun _=>?_) fun _=>?_)
 ·rename_i h3
  refine ⟨_, ?_, hno fun ⟨x, q⟩ => by have := hx3 x q; omega⟩
  repeat' ((conv=>whnf);first|with_reducible exact True.intro|exact vW|with_reducible refine And.intro ?_ ?_)
 rename_i h3
 obtain ⟨Q, hQ⟩ : ∃ Q, L.drop 2 = Q := ⟨_, rfl⟩
 have hQl : Q.length = L.length - 2 := by rw [← hQ, List.length_drop]
 refine ⟨L.getD 0 ⟨#[]⟩, ?_, ⟨by have := hlm _ (getD_mem' (l := L) (i := 0) (d := ⟨#[]⟩) (by omega)); omega⟩, ?_⟩
 ·repeat' ((conv=>whnf);first|with_reducible exact True.intro|exact vW|with_reducible refine And.intro ?_ ?_)
 intro v hv hn
 have hp : ∀ x, isPt s x → v = x.p := fun x q => by
  obtain ⟨n, n1, n2, n3⟩ := isPt_p q
  rw [hL] at n2
  rw [hn n n1 n2, n3]
 have hpn : ∀ x, isPt s x → isNum (L.getD 0 ⟨#[]⟩) = true := fun x q => hL ▸ isPt_num q
 generalize isNum (L.getD 0 ⟨#[]⟩) = okp at hpn ⊢
 have hQe : Q.length = (L.length : Int).toNat - Int.toNat 2 ∧ ∀ i, i < Q.length → encS (Q.getD i ⟨#[]⟩) = encS (L.getD (Int.toNat 2 + i) ⟨#[]⟩) := ⟨hQl, fun i _ => by
  rw [← hQ, List.getD_eq_getElem?_getD, List.getElem?_drop, ← List.getD_eq_getElem?_getD]
  rfl⟩
 obtain ⟨M, hM⟩ : ∃ M, cutB (L.getD 1 ⟨#[]⟩) 44 = M := ⟨_, rfl⟩
 have h1s := hlm _ (getD_mem' (l := L) (i := 1) (d := ⟨#[]⟩) (by omega))
 have hMl := (cutB_len (L.getD 1 ⟨#[]⟩) 44).2
 have hMm : ∀ x ∈ M, x.size ≤ s.size := fun x hx => Nat.le_trans (cutB_mem (c := 44) (hM ▸ hx)) h1s
 have hMx : ∀ x, isPt s x → M = x.bs.map num := fun x q => by rw [← hM, ← hL]; exact isPt_bs q
 have hMb : ∀ x, isPt s x → ∀ i, i < x.bs.length → ∃ n : Nat, n < 1000000 ∧ M.getD i ⟨#[]⟩ = num n ∧ x.bs.getD i 0 = n := fun x q i hi => by rw [← hM, ← hL]; exact isPt_b q hi
 repeat' ((conv=>whnf);first|refine vA ?_|with_reducible first|refine v8 ?_|refine Sp.mk ?_ ?_|refine vS ?_|refine vR ?_|refine vB ?_|refine br_nt ?_|refine br_tt ?_|refine br_ff ?_|refine vP ?_|refine vQ ?_|refine vT ?_|refine vF ?_|refine br_and ?_|refine br_or ?_|refine br_d (fun _=>?_) fun _=>?_|refine vM (fun _=>?_) fun _=>?_)
 refine ⟨(L.getD 1 ⟨#[]⟩, 44), ?_, ⟨by dsimp only; omega⟩, ?_⟩
 ·repeat' ((conv=>whnf);first|with_reducible exact True.intro|exact vW|with_reducible refine And.intro ?_ ?_)
 dsimp only
 rw [hM] at hMl ⊢
 repeat' ((conv=>whnf);first|refine vA ?_|with_reducible first|refine v8 ?_|refine Sp.mk ?_ ?_|refine vS ?_|refine vR ?_|refine vB ?_|refine br_nt ?_|refine br_tt ?_|refine br_ff ?_|refine vP ?_|refine vQ ?_|refine vT ?_|refine vF ?_|refine br_and ?_|refine br_or ?_|refine br_d (fun _=>?_) fun _=>?_|refine vM (fun _=>?_) fun _=>?_)
 refine Lp.mk ⟨List Int, fun B => [(0, .str s), (2, .ptr 0 0), (6, .bool okp), (7, .ptr 1 0), (33, slS M), (34, .int .i64 M.length), (35, .int .i64 B.length)], fun B => [.box [.int .i64 0, .nils, .nils], .box [.int .i64 v, .row 2 1 0 B.length, slS Q], .row 1 B.length fun i => encI (B.getD i 0)],
  fun B => B.length ≤ M.length ∧ (∀ n ∈ B, i64r n) ∧ ∀ x, isPt s x → B = x.bs.take B.length, fun B => M.length - B.length, ⟨[], ⟨Nat.zero_le _, (fun _ q => by cases q), (fun _ _ => rfl)⟩, ⟨⟨[some 0, some 1, none], [], rfl, rfl, ?_, ?_⟩⟩⟩, ?_⟩
 ·repeat' ((conv=>whnf);first|with_reducible exact True.intro|exact vW|with_reducible refine And.intro ?_ ?_)
 ·repeat' ((conv=>whnf);first|with_reducible exact True.intro|exact vW|with_reducible refine And.intro ?_ ?_)
  all_goals exact Chk.mk hQe
 rintro B ⟨i1, i2, i3⟩
 dsimp only
 by_cases hk : B.length < M.length
 ·repeat' ((conv=>whnf);first|refine vA ?_|with_reducible first|refine v8 ?_|refine Sp.mk ?_ ?_|refine vS ?_|refine vR ?_|refine vB ?_|refine br_nt ?_|refine br_tt ?_|refine br_ff ?_|refine vP ?_|refine vQ ?_|refine vT ?_|refine vF ?_|refine br_and ?_|refine br_or ?_|refine br_d (fun _=>?_) fun _=>?_|refine vM (fun _=>?_) fun _=>?_)
  refine ⟨M.getD B.length ⟨#[]⟩, ?_, ⟨by have := hMm _ (getD_mem' (d := ⟨#[]⟩) hk); omega⟩, ?_⟩
  ·repeat' ((conv=>whnf);first|with_reducible exact True.intro|exact vW|with_reducible refine And.intro ?_ ?_)
  intro w hw hn
  have hnext : ∀ x, isPt s x → isNum (M.getD B.length ⟨#[]⟩) = true ∧ B ++ [w] = x.bs.take (B.length + 1) := fun x q => by
   have e2 := hMx x q
   have e3 : x.bs.length = M.length := by rw [e2, List.length_map]
   obtain ⟨n, n1, n2, n3⟩ := hMb x q B.length (by omega)
   refine ⟨by rw [n2]; exact isNum_num n1, ?_⟩
   rw [take_succ' 0 (by omega), ← i3 x q, hn n n1 n2, n3]
  have hi2 : ∀ n ∈ B ++ [w], i64r n := fun n hm => (List.mem_append.1 hm).elim (i2 n) fun hm => by rw [List.mem_singleton.1 hm]; exact hw
  have hBl : (B ++ [w]).length = B.length + 1 := by rw [List.length_append]; rfl
  generalize isNum (M.getD B.length ⟨#[]⟩) = okb at hnext ⊢
  cases okb
  ·repeat' ((conv=>whnf);first|refine vA ?_|with_reducible first|refine v8 ?_|refine Sp.mk ?_ ?_|refine vS ?_|refine vR ?_|refine vB ?_|refine br_nt ?_|refine br_tt ?_|refine br_ff ?_|refine vP ?_|refine vQ ?_|refine vT ?_|refine vF ?_|refine br_and ?_|refine br_or ?_|refine br_d (fun _=>?_) fun _=>?_|refine vM (fun _=>?_) fun _=>?_)
   refine ⟨_, ?_, hno fun ⟨x, q⟩ => by cases (hnext x q).1⟩
   repeat' ((conv=>whnf);first|with_reducible exact True.intro|exact vW|with_reducible refine And.intro ?_ ?_)
  ·repeat' ((conv=>whnf);first|refine vA ?_|with_reducible first|refine v8 ?_|refine Sp.mk ?_ ?_|refine vS ?_|refine vR ?_|refine vB ?_|refine br_nt ?_|refine br_tt ?_|refine br_ff ?_|refine vP ?_|refine vQ ?_|refine vT ?_|refine vF ?_|refine br_and ?_|refine br_or ?_|refine br_d (fun _=>?_) fun _=>?_|refine vM (fun _=>?_) fun _=>?_)
   refine ⟨B ++ [w], ⟨by omega, hi2, fun x q => by rw [hBl]; exact (hnext x q).2⟩, by omega, ?_⟩
   first | (refine ⟨⟨[some 0, some 1, some 4], [], rfl, rfl, ?_, ?_⟩⟩ <;> (repeat' ((conv=>whnf);first|with_reducible exact True.intro|exact vW|with_reducible refine And.intro ?_ ?_ | exact Chk.mk ⟨rfl, hBl⟩ | exact Chk.mk (ext_push rfl))) <;> fail) | (refine ⟨⟨[some 0, some 1, some 3], [], rfl, rfl, ?_, ?_⟩⟩ <;> (repeat' ((conv=>whnf);first|with_reducible exact True.intro|exact vW|with_reducible refine And.intro ?_ ?_ | exact Chk.mk ⟨rfl, hBl⟩ | exact Chk.mk (ext_push rfl))) <;> fail)
 ·have hBx : ∀ x, isPt s x → x = ⟨v, B, Q⟩ := fun x q => by
   have e1 := i3 x q
   have e2 := hMx x q
   have e3 : x.bs.length = M.length := by rw [e2, List.length_map]
   rw [List.take_of_length_le (by omega)] at e1
   have e4 := isPt_rs q
   rw [hL, hQ] at e4
   obtain ⟨xp, xb, xr⟩ := x
   have e5 := hp _ q
   dsimp only at e1 e4 e5
   rw [e1, e4, e5]
  have hyI : placeI ⟨v, B, Q⟩ := ⟨⟨⟨hv, i2⟩, by show B.length < _; omega⟩, by show Q.length < _; omega, fun r hr => by have := hlm r (by rw [← hQ] at hr; exact List.mem_of_mem_drop hr); omega⟩
  cases okp
  ·repeat' ((conv=>whnf);first|refine vA ?_|with_reducible first|refine v8 ?_|refine Sp.mk ?_ ?_|refine vS ?_|refine vR ?_|refine vB ?_|refine br_nt ?_|refine br_tt ?_|refine br_ff ?_|refine vP ?_|refine vQ ?_|refine vT ?_|refine vF ?_|refine br_and ?_|refine br_or ?_|refine br_d (fun _=>?_) fun _=>?_|refine vM (fun _=>?_) fun _=>?_)
   refine ⟨_, ?_, hno fun ⟨x, q⟩ => by cases hpn x q⟩
   repeat' ((conv=>whnf);first|with_reducible exact True.intro|exact vW|with_reducible refine And.intro ?_ ?_)
  by_cases hO : placeOk ⟨v, B, Q⟩
  ·repeat' ((conv=>whnf);first|refine vA ?_|with_reducible first|refine v8 ?_|refine Sp.mk ?_ ?_|refine vS ?_|refine vR ?_|refine vB ?_|refine br_nt ?_|refine br_tt ?_|refine br_ff ?_|refine vP ?_|refine vQ ?_|refine vT ?_|refine vF ?_|refine br_and ?_|refine br_or ?_|refine br_d (fun _=>?_) fun _=>?_|refine vM (fun _=>?_) fun _=>?_)
   refine ⟨⟨v, B, Q⟩, ?_, ⟨hyI⟩, ?_⟩
   ·repeat' ((conv=>whnf);first|with_reducible exact True.intro|exact vW|with_reducible refine And.intro ?_ ?_)
    all_goals exact Chk.mk ⟨rfl, fun i _ => by dsimp only; rw [Nat.zero_add]⟩
   repeat' ((conv=>whnf);first|refine vA ?_|with_reducible first|refine v8 ?_|refine Sp.mk ?_ ?_|refine vS ?_|refine vR ?_|refine vB ?_|refine br_nt ?_|refine br_tt ?_|refine br_ff ?_|refine vP ?_|refine vQ ?_|refine vT ?_|refine vF ?_|refine br_and ?_|refine br_or ?_|refine br_d (fun _=>?_) fun _=>?_|refine vM (fun _=>?_) fun _=>?_)
   refine ⟨⟨v, B, Q⟩, ?_, ⟨hO⟩, ?_⟩
   ·repeat' ((conv=>whnf);first|with_reducible exact True.intro|exact vW|with_reducible refine And.intro ?_ ?_)
    all_goals exact Chk.mk ⟨rfl, fun i _ => by dsimp only; rw [Nat.zero_add]⟩
   repeat' ((conv=>whnf);first|with_reducible refine wk_at 16 ?_|with_reducible refine wk_at1 16 ?_|with_reducible refine wk_at2 16 ?_|refine vA ?_|with_reducible first|refine v8 ?_|refine Sp.mk ?_ ?_|refine vS ?_|refine vR ?_|refine vB ?_|refine br_nt ?_|refine br_tt ?_|refine br_ff ?_|refine vP ?_|refine vQ ?_|refine vT ?_|refine vF ?_|refine br_and ?_|refine br_or ?_|refine br_d (fun _=>?_) fun _=>?_|refine vM (fun _=>?_) fun _=>?_)
   ·rename_i he
    refine ⟨Wk.go [(2, .ptr 0 0), (7, .ptr 1 0)] [.box [.int .i64 0, .nils, .nils], .box [.int .i64 v, slI B, slS Q]] ⟨⟨[some 0, some 1], [2], rfl, rfl, ?_, ?_⟩⟩ ?_⟩
    ·repeat' ((conv=>whnf);first|with_reducible exact True.intro|exact vW|with_reducible refine And.intro ?_ ?_)
    ·repeat' ((conv=>whnf);first|with_reducible exact True.intro|exact vW|with_reducible refine And.intro ?_ ?_)
     all_goals exact Chk.mk ⟨rfl, by omega, fun i _ => by dsimp only; rw [Nat.zero_add]⟩
    repeat' ((conv=>whnf);first|refine vA ?_|with_reducible first|refine v8 ?_|refine Sp.mk ?_ ?_|refine vS ?_|refine vR ?_|refine vB ?_|refine br_nt ?_|refine br_tt ?_|refine br_ff ?_|refine vP ?_|refine vQ ?_|refine vT ?_|refine vF ?_|refine br_and ?_|refine br_or ?_|refine br_d (fun _=>?_) fun _=>?_|refine vM (fun _=>?_) fun _=>?_)
    refine ⟨⟨v, B, Q⟩, ?_, ⟨placeOk_short' hO⟩, ?_⟩
    ·repeat' ((conv=>whnf);first|with_reducible exact True.intro|exact vW|with_reducible refine And.intro ?_ ?_)
    dsimp only [enPl, plC]
    repeat' ((conv=>whnf);first|refine vA ?_|with_reducible first|refine v8 ?_|refine Sp.mk ?_ ?_|refine vS ?_|refine vR ?_|refine vB ?_|refine br_nt ?_|refine br_tt ?_|refine br_ff ?_|refine vP ?_|refine vQ ?_|refine vT ?_|refine vF ?_|refine br_and ?_|refine br_or ?_|refine br_d (fun _=>?_) fun _=>?_|refine vM (fun _=>?_) fun _=>?_)
    refine ⟨_, ?_, h ⟨v, B, Q⟩ ⟨hO, he⟩⟩
    repeat' ((conv=>whnf);first|with_reducible exact True.intro|exact vW|with_reducible refine And.intro ?_ ?_)
   ·rename_i he
    refine ⟨_, ?_, hno fun ⟨x, q⟩ => he (by rw [← hBx x q]; exact q.2)⟩
    repeat' ((conv=>whnf);first|with_reducible exact True.intro|exact vW|with_reducible refine And.intro ?_ ?_)
  ·repeat' ((conv=>whnf);first|refine vA ?_|with_reducible first|refine v8 ?_|refine Sp.mk ?_ ?_|refine vS ?_|refine vR ?_|refine vB ?_|refine br_nt ?_|refine br_tt ?_|refine br_ff ?_|refine vP ?_|refine vQ ?_|refine vT ?_|refine vF ?_|refine br_and ?_|refine br_or ?_|refine br_d (fun _=>?_) fun _=>?_|refine vM (fun _=>?_) fun _=>?_)
   refine ⟨⟨v, B, Q⟩, ?_, ⟨hyI⟩, ?_⟩
   ·repeat' ((conv=>whnf);first|with_reducible exact True.intro|exact vW|with_reducible refine And.intro ?_ ?_)
    all_goals exact Chk.mk ⟨rfl, fun i _ => by dsimp only; rw [Nat.zero_add]⟩
   repeat' ((conv=>whnf);first|refine vA ?_|with_reducible first|refine v8 ?_|refine Sp.mk ?_ ?_|refine vS ?_|refine vR ?_|refine vB ?_|refine br_nt ?_|refine br_tt ?_|refine br_ff ?_|refine vP ?_|refine vQ ?_|refine vT ?_|refine vF ?_|refine br_and ?_|refine br_or ?_|refine br_d (fun _=>?_) fun _=>?_|refine vM (fun _=>?_) fun _=>?_)
   refine ⟨_, ?_, hno fun ⟨x, q⟩ => hO (by rw [← hBx x q]; exact q.1)⟩
   repeat' ((conv=>whnf);first|with_reducible exact True.intro|exact vW|with_reducible refine And.intro ?_ ?_)
end Go.Proofs.YtkafoolhbflfkaaGreatDoor.Vc
end
section
/- Part UI: stores: are they stores? -/
namespace Go.Proofs.YtkafoolhbflfkaaGreatDoor.Vc
open Go.Proofs
set_option maxRecDepth 10000
set_option maxHeartbeats 4000000
def storeI (s : Store) : Prop := s.saved.size < 9223372036854775808 ∧ s.log.size < 9223372036854775808 ∧ i64r s.sure
def C223 : List AV → (AV → Prop) → Prop := con (X := Store × Int) (fun x => [enSt x.1, .int .i64 x.2]) (fun x => storeI x.1 ∧ rng x.2) fun x K => szpost x.2 (x.1.saved.size ≤ x.2 ∧ x.1.log.size ≤ x.2) K
theorem F223 : FF 31 C223 := by
 refine fitX [] (by simp) [] (by simp) Tryz.f31 ⟨rfl, by decide +kernel, by decide +kernel⟩ (fun _ _ _ hk h v h1 h2 h3 => hk _ (h v h1 h2 h3)) ?_
 rintro ⟨⟨a, b, c⟩, n⟩ K ⟨⟨h1, h2, h5⟩, h3, h4⟩ h
 refine ⟨Nat.le_of_ble_eq_true rfl, ?_⟩
 dsimp only [enSt, stC] at h h1 h2 h3 h4 h5 ⊢
 repeat' ((conv=>whnf);first|refine vA ?_|with_reducible first|refine v8 ?_|refine Sp.mk ?_ ?_|refine vS ?_|refine vR ?_|refine vB ?_|refine br_nt ?_|refine br_tt ?_|refine br_ff ?_|refine vP ?_|refine vQ ?_|refine vT ?_|refine vF ?_|refine br_and ?_|refine br_or ?_|refine br_d (fun _=>?_) fun _=>?_|refine vM (fun _=>?_) fun _=>?_)
 all_goals
  first
  |exact h _ (by omega) (by omega) fun q => ⟨by omega, by omega⟩
  |exact h _ (by omega) (by omega) fun q => absurd q (by decide)
def C224 : List AV → (AV → Prop) → Prop := con (X := Store) (fun x => [enSt x]) (fun _ => True) fun x K => K (enSt x)
theorem F224 : FF 33 C224 := by
 refine fitE [] (by simp) Tryz.f33 ⟨rfl, by decide +kernel, by decide +kernel⟩ (fun _ _ _ hk h => hk _ h) ?_
 rintro ⟨a, b, c⟩ K _ h
 refine ⟨Nat.le_of_ble_eq_true rfl, ?_⟩
 dsimp only [enSt, stC] at h ⊢
 repeat' ((conv=>whnf);first|refine vA ?_|with_reducible first|refine v8 ?_|refine Sp.mk ?_ ?_|refine vS ?_|refine vR ?_|refine vB ?_|refine br_nt ?_|refine br_tt ?_|refine br_ff ?_|refine vP ?_|refine vQ ?_|refine vT ?_|refine vF ?_|refine br_and ?_|refine br_or ?_|refine br_d (fun _=>?_) fun _=>?_|refine vM (fun _=>?_) fun _=>?_)
 exact h
def isSt (s : Store) : Prop := (∃ x, isPt s.saved x) ∧ s.log.size ≤ 1000 ∧ 0 ≤ s.sure ∧ s.sure ≤ s.log.size
def stPost (s : Store) (K : AV → Prop) : Prop := ∀ b : Bool, (b = true ↔ isSt s) → K (.bool b)
def C220 : List AV → (AV → Prop) → Prop := con (X := Store) (fun x => [enSt x]) (fun s => storeI s ∧ s.saved.size < 4294967281) stPost
theorem F220 : FF 60 C220 := by
 refine fitX [(87, C214)] (by simp only [List.mem_cons, List.not_mem_nil, or_false]; rintro _ rfl <;> first | exact F214) [] (by simp) Tryz.f60 ⟨rfl, by decide +kernel, by decide +kernel⟩ (fun _ _ _ hk h b q => hk _ (h b q)) ?_
 rintro ⟨a, b, c⟩ K ⟨⟨h1, h2, h5⟩, h6⟩ h
 refine ⟨Nat.le_of_ble_eq_true rfl, ?_⟩
 dsimp only [enSt, stC] at h1 h2 h5 h6 ⊢
 repeat' ((conv=>whnf);first|refine vA ?_|with_reducible first|refine v8 ?_|refine Sp.mk ?_ ?_|refine vS ?_|refine vR ?_|refine vB ?_|refine br_nt ?_|refine br_tt ?_|refine br_ff ?_|refine vP ?_|refine vQ ?_|refine vT ?_|refine vF ?_|refine br_and ?_|refine br_or ?_|refine br_d (fun _=>?_) fun _=>?_|refine vM (fun _=>?_) fun _=>?_)
 refine ⟨a, ?_, ⟨h6⟩, ?_⟩
 ·repeat' ((conv=>whnf);first|with_reducible exact True.intro|exact vW|with_reducible refine And.intro ?_ ?_)
 refine ⟨fun x q => ?_, fun q => ?_⟩
 ·obtain ⟨p, bs, rs⟩ := x
  have hi : isSt ⟨a, b, c⟩ ↔ (b.size ≤ 1000 ∧ 0 ≤ c ∧ c ≤ b.size) := ⟨fun g => g.2, fun g => ⟨⟨_, q⟩, g⟩⟩
  dsimp only [enPl, plC]
  repeat' ((conv=>whnf);first|refine vA ?_|with_reducible first|refine v8 ?_|refine Sp.mk ?_ ?_|refine vS ?_|refine vR ?_|refine vB ?_|refine br_nt ?_|refine br_tt ?_|refine br_ff ?_|refine vP ?_|refine vQ ?_|refine vT ?_|refine vF ?_|refine br_and ?_|refine br_or ?_|refine br_d (fun _=>?_) fun _=>?_|refine vM (fun _=>?_) fun _=>?_)
  ·exact h _ ⟨fun g => hi.2 ⟨by omega, by omega, of_decide_eq_true g⟩, fun g => decide_eq_true (hi.1 g).2.2⟩
  all_goals exact h _ ⟨(fun g => by cases g), fun g => by have := hi.1 g; omega⟩
 ·have hi : ¬ isSt ⟨a, b, c⟩ := fun g => q g.1
  dsimp only [enPl, plC]
  repeat' ((conv=>whnf);first|refine vA ?_|with_reducible first|refine v8 ?_|refine Sp.mk ?_ ?_|refine vS ?_|refine vR ?_|refine vB ?_|refine br_nt ?_|refine br_tt ?_|refine br_ff ?_|refine vP ?_|refine vQ ?_|refine vT ?_|refine vF ?_|refine br_and ?_|refine br_or ?_|refine br_d (fun _=>?_) fun _=>?_|refine vM (fun _=>?_) fun _=>?_)
  exact h _ ⟨(fun g => by cases g), fun g => absurd g hi⟩
def C221 := C220
theorem F221 : FF 16 C221 := by
 refine fitX [(60, C220)] (by simp only [List.mem_cons, List.not_mem_nil, or_false]; rintro _ rfl <;> first | exact F220) [] (by simp) Tryz.f16 ⟨rfl, by decide +kernel, by decide +kernel⟩ (fun _ _ _ hk h b q => hk _ (h b q)) ?_
 rintro ⟨a, b, c⟩ K hI h
 refine ⟨Nat.le_of_ble_eq_true rfl, ?_⟩
 dsimp only [enSt, stC]
 repeat' ((conv=>whnf);first|refine vA ?_|with_reducible first|refine v8 ?_|refine Sp.mk ?_ ?_|refine vS ?_|refine vR ?_|refine vB ?_|refine br_nt ?_|refine br_tt ?_|refine br_ff ?_|refine vP ?_|refine vQ ?_|refine vT ?_|refine vF ?_|refine br_and ?_|refine br_or ?_|refine br_d (fun _=>?_) fun _=>?_|refine vM (fun _=>?_) fun _=>?_)
 refine ⟨⟨a, b, c⟩, ?_, ⟨hI⟩, ?_⟩
 ·repeat' ((conv=>whnf);first|with_reducible exact True.intro|exact vW|with_reducible refine And.intro ?_ ?_)
 intro r hr
 repeat' ((conv=>whnf);first|refine vA ?_|with_reducible first|refine v8 ?_|refine Sp.mk ?_ ?_|refine vS ?_|refine vR ?_|refine vB ?_|refine br_nt ?_|refine br_tt ?_|refine br_ff ?_|refine vP ?_|refine vQ ?_|refine vT ?_|refine vF ?_|refine br_and ?_|refine br_or ?_|refine br_d (fun _=>?_) fun _=>?_|refine vM (fun _=>?_) fun _=>?_)
 exact h r hr
def C222 := C220
theorem F222 : FF 17 C222 := by
 refine fitX [(61, C219), (62, C35)] (by simp only [List.mem_cons, List.not_mem_nil, or_false]; rintro _ (rfl | rfl) <;> first | exact F219 | exact F35) [] (by simp) Tryz.f17 ⟨rfl, by decide +kernel, by decide +kernel⟩ (fun _ _ _ hk h b q => hk _ (h b q)) ?_
 rintro ⟨a, b, c⟩ K ⟨⟨h1, h2, h5⟩, h6⟩ h
 refine ⟨Nat.le_of_ble_eq_true rfl, ?_⟩
 dsimp only [enSt, stC] at h1 h2 h5 h6 ⊢
 repeat' ((conv=>whnf);first|refine vA ?_|with_reducible first|refine v8 ?_|refine Sp.mk ?_ ?_|refine vS ?_|refine vR ?_|refine vB ?_|refine br_nt ?_|refine br_tt ?_|refine br_ff ?_|refine vP ?_|refine vQ ?_|refine vT ?_|refine vF ?_|refine br_and ?_|refine br_or ?_|refine br_d (fun _=>?_) fun _=>?_|refine vM (fun _=>?_) fun _=>?_)
 refine ⟨a, ?_, ⟨h6⟩, ?_⟩
 ·repeat' ((conv=>whnf);first|with_reducible exact True.intro|exact vW|with_reducible refine And.intro ?_ ?_)
 refine ⟨fun x q => ?_, fun q => ?_⟩
 ·obtain ⟨p, bs, rs⟩ := x
  have hi : isSt ⟨a, b, c⟩ ↔ (b.size ≤ 1000 ∧ 0 ≤ c ∧ c ≤ b.size) := ⟨fun g => g.2, fun g => ⟨⟨_, q⟩, g⟩⟩
  dsimp only [enPl, plC]
  repeat' ((conv=>whnf);first|refine vA ?_|with_reducible first|refine v8 ?_|refine Sp.mk ?_ ?_|refine vS ?_|refine vR ?_|refine vB ?_|refine br_nt ?_|refine br_tt ?_|refine br_ff ?_|refine vP ?_|refine vQ ?_|refine vT ?_|refine vF ?_|refine br_and ?_|refine br_or ?_|refine br_d (fun _=>?_) fun _=>?_|refine vM (fun _=>?_) fun _=>?_)
  ·refine ⟨(c, 0, (b.size : Int)), ?_, ⟨trivial⟩, ?_⟩
   ·repeat' ((conv=>whnf);first|with_reducible exact True.intro|exact vW|with_reducible refine And.intro ?_ ?_)
   dsimp only
   repeat' ((conv=>whnf);first|refine vA ?_|with_reducible first|refine v8 ?_|refine Sp.mk ?_ ?_|refine vS ?_|refine vR ?_|refine vB ?_|refine br_nt ?_|refine br_tt ?_|refine br_ff ?_|refine vP ?_|refine vQ ?_|refine vT ?_|refine vF ?_|refine br_and ?_|refine br_or ?_|refine br_d (fun _=>?_) fun _=>?_|refine vM (fun _=>?_) fun _=>?_)
   exact h _ ⟨fun g => hi.2 ⟨by omega, of_decide_eq_true g⟩, fun g => decide_eq_true (hi.1 g).2⟩
  ·exact h _ ⟨(fun g => by cases g), fun g => by have := hi.1 g; omega⟩
 ·have hi : ¬ isSt ⟨a, b, c⟩ := fun g => q g.1
  dsimp only [enPl, plC]
  repeat' ((conv=>whnf);first|refine vA ?_|with_reducible first|refine v8 ?_|refine Sp.mk ?_ ?_|refine vS ?_|refine vR ?_|refine vB ?_|refine br_nt ?_|refine br_tt ?_|refine br_ff ?_|refine vP ?_|refine vQ ?_|refine vT ?_|refine vF ?_|refine br_and ?_|refine br_or ?_|refine br_d (fun _=>?_) fun _=>?_|refine vM (fun _=>?_) fun _=>?_)
  exact h _ ⟨(fun g => by cases g), fun g => absurd g hi⟩
end Go.Proofs.YtkafoolhbflfkaaGreatDoor.Vc
end
section
/- Part DB: the texts of deeds. -/
namespace Go.Proofs.YtkafoolhbflfkaaGreatDoor.Vc
open Go.Proofs
set_option maxRecDepth 20000
structure Dd where
 kind : Int
 a : Int
 b : Int
 words : ByteArray
 deriving Inhabited, DecidableEq
def encD (d : Dd) : List AV := [.int .i64 d.kind, .int .i64 d.a, .int .i64 d.b, .str d.words]
abbrev ded (d : Dd) : AV := .agg (encD d)
def tx (l : List UInt8) : ByteArray := ⟨l.toArray⟩
def plainW (s : ByteArray) : Bool := decide (¬ s = ⟨#[]⟩) && !spc s
def deedT (d : Dd) : ByteArray :=
 if d.a < 0 ∨ 99 < d.a ∨ d.b < 0 ∨ 99 < d.b then ⟨#[]⟩
 else if d.kind = 0 ∧ d.b = 0 ∧ d.words = ⟨#[]⟩ then ⟨#[98, 111, 100, 121, 32]⟩ ++ num d.a
 else if d.kind = 1 ∧ d.a = 0 ∧ d.b = 0 ∧ plainW d.words = true then ⟨#[114, 117, 108, 101, 32]⟩ ++ d.words
 else if d.kind = 2 ∧ plainW d.words = true then ⟨#[97, 109, 101, 110, 100, 32]⟩ ++ num d.a ++ ⟨#[32]⟩ ++ num d.b ++ ⟨#[32]⟩ ++ d.words
 else if d.kind = 3 ∧ d.words = ⟨#[]⟩ then ⟨#[100, 114, 111, 112, 32]⟩ ++ num d.a ++ ⟨#[32]⟩ ++ num d.b
 else if d.kind = 4 ∧ d.a = 0 ∧ d.b = 0 ∧ d.words = ⟨#[]⟩ then ⟨#[98, 97, 99, 107]⟩
 else ⟨#[]⟩
theorem sz1 : (⟨#[98, 111, 100, 121, 32]⟩ : ByteArray).size = 5 := rfl
theorem sz2 : (⟨#[114, 117, 108, 101, 32]⟩ : ByteArray).size = 5 := rfl
theorem sz3 : (⟨#[97, 109, 101, 110, 100, 32]⟩ : ByteArray).size = 6 := rfl
theorem sz4 : (⟨#[100, 114, 111, 112, 32]⟩ : ByteArray).size = 5 := rfl
theorem sz5 : (⟨#[32]⟩ : ByteArray).size = 1 := rfl
def C108 : List AV → (AV → Prop) → Prop := con (X := Dd) (fun d => [ded d]) (fun _ => True) fun d K => K (ded d)
theorem F108 : FF 38 C108 := by
 refine fitE [] (by simp) Tryz.f38 ⟨rfl, by decide +kernel, by decide +kernel⟩ (fun _ _ _ hk h => hk _ h) ?_
 rintro ⟨k, a, b, w⟩ K _ h
 refine ⟨Nat.le_of_ble_eq_true rfl, ?_⟩
 dsimp only [ded, encD] at h ⊢
 repeat' ((conv=>whnf);first|refine vA ?_|with_reducible first|refine v8 ?_|refine Sp.mk ?_ ?_|refine vS ?_|refine vR ?_|refine vB ?_|refine br_nt ?_|refine br_tt ?_|refine br_ff ?_|refine vP ?_|refine vQ ?_|refine vT ?_|refine vF ?_|refine br_and ?_|refine br_or ?_|refine br_d (fun _=>?_) fun _=>?_|refine vM (fun _=>?_) fun _=>?_)
 exact h
def C107 : List AV → (AV → Prop) → Prop := con (X := Dd × Int) (fun x => [ded x.1, .int .i64 x.2]) (fun x => x.1.words.size < 9223372036854775808 ∧ 0 ≤ x.2 ∧ x.2 ≤ 9223372036854775807) fun x K => K (.int .i64 (if x.2 - x.1.words.size < 0 then -1 else x.2 - x.1.words.size))
theorem F107 : FF 36 C107 := by
 refine fitE [] (by simp) Tryz.f36 ⟨rfl, by decide +kernel, by decide +kernel⟩ (fun _ _ _ hk h => hk _ h) ?_
 rintro ⟨⟨k, a, b, w⟩, n⟩ K ⟨h1, h2, h3⟩ h
 refine ⟨Nat.le_of_ble_eq_true rfl, ?_⟩
 dsimp only [ded, encD] at h1 h2 h3 h ⊢
 repeat' ((conv=>whnf);first|refine vA ?_|with_reducible first|refine v8 ?_|refine Sp.mk ?_ ?_|refine vS ?_|refine vR ?_|refine vB ?_|refine br_nt ?_|refine br_tt ?_|refine br_ff ?_|refine vP ?_|refine vQ ?_|refine vT ?_|refine vF ?_|refine br_and ?_|refine br_or ?_|refine br_d (fun _=>?_) fun _=>?_|refine vM (fun _=>?_) fun _=>?_)
 ·rw [if_pos (by omega)] at h
  exact h
 ·rw [if_neg (by omega)] at h
  exact h
def C103 : List AV → (AV → Prop) → Prop := con (X := Dd) (fun d => [ded d]) (fun d => d.words.size ≤ 1048576) fun d K => K (.str (deedT d))
set_option maxHeartbeats 4000000 in
theorem F103 : FF 75 C103 := by
 refine fitE [(101, C101), (111, C102)] (by simp only [List.mem_cons, List.not_mem_nil, or_false]; rintro _ (rfl | rfl) <;> first | exact F101 | exact F102) Tryz.f75 ⟨rfl, by decide +kernel, by decide +kernel⟩ (fun _ _ _ hk h => hk _ h) ?_
 rintro ⟨k, a, b, w⟩ K h1 h
 refine ⟨Nat.le_of_ble_eq_true rfl, ?_⟩
 dsimp only [ded, encD] at h1 h ⊢
 repeat' ((conv=>whnf);first|refine vA ?_|with_reducible first|refine v8 ?_|refine Sp.mk ?_ ?_|refine vS ?_|refine vR ?_|refine vB ?_|refine br_nt ?_|refine br_tt ?_|refine br_ff ?_|refine vP ?_|refine vQ ?_|refine vT ?_|refine vF ?_|refine br_and ?_|refine br_or ?_|refine br_d (fun _=>?_) fun _=>?_|refine vM (fun _=>?_) fun _=>?_)
 all_goals try ((unfold deedT plainW at h; repeat' (split at h)) <;> first | exact h | (exfalso; simp_all; done) | (exfalso; simp_all; omega))
 ·have na' := num_size (n := a) (by omega) (by omega)
  refine ⟨a, ?_, ⟨by omega, by omega⟩, ?_⟩
  ·repeat' ((conv=>whnf);first|with_reducible exact True.intro|exact vW|with_reducible refine And.intro ?_ ?_)
  repeat' ((conv=>whnf);first|refine ⟨Chk.mk (by have z1 := sz1; have z2 := sz2; have z3 := sz3; have z4 := sz4; have z5 := sz5; (repeat rw [ByteArray.size_append]); omega), ?_⟩|refine vA ?_|with_reducible first|refine v8 ?_|refine Sp.mk ?_ ?_|refine vS ?_|refine vR ?_|refine vB ?_|refine br_nt ?_|refine br_tt ?_|refine br_ff ?_|refine vP ?_|refine vQ ?_|refine vT ?_|refine vF ?_|refine br_and ?_|refine br_or ?_|refine br_d (fun _=>?_) fun _=>?_|refine vM (fun _=>?_) fun _=>?_)
  ((unfold deedT plainW at h; repeat' (split at h)) <;> first | exact h | (exfalso; simp_all; done) | (exfalso; simp_all; omega))
 ·have na' := num_size (n := a) (by omega) (by omega)
  have nb' := num_size (n := b) (by omega) (by omega)
  refine Dr.mk ⟨(.rd 0 (.rd 1 (.rd 5 (.rd 6 (.ef 2 (.rd 3 (.rd 4 (.ef 7 (.rd 8 (.rd 9 .dn)) .no))) .no))))), by decide +kernel, ?_⟩
  repeat' ((conv=>whnf);first|refine ⟨Chk.mk (by have z1 := sz1; have z2 := sz2; have z3 := sz3; have z4 := sz4; have z5 := sz5; (repeat rw [ByteArray.size_append]); omega), ?_⟩|refine vA ?_|with_reducible first|refine v8 ?_|refine Sp.mk ?_ ?_|refine vS ?_|refine vR ?_|refine vB ?_|refine br_nt ?_|refine br_tt ?_|refine br_ff ?_|refine vP ?_|refine vQ ?_|refine vT ?_|refine vF ?_|refine br_and ?_|refine br_or ?_|refine br_d (fun _=>?_) fun _=>?_|refine vM (fun _=>?_) fun _=>?_)
  refine ⟨a, ?_, ⟨by omega, by omega⟩, ?_⟩
  ·repeat' ((conv=>whnf);first|with_reducible exact True.intro|exact vW|with_reducible refine And.intro ?_ ?_)
  repeat' ((conv=>whnf);first|refine ⟨Chk.mk (by have z1 := sz1; have z2 := sz2; have z3 := sz3; have z4 := sz4; have z5 := sz5; (repeat rw [ByteArray.size_append]); omega), ?_⟩|refine vA ?_|with_reducible first|refine v8 ?_|refine Sp.mk ?_ ?_|refine vS ?_|refine vR ?_|refine vB ?_|refine br_nt ?_|refine br_tt ?_|refine br_ff ?_|refine vP ?_|refine vQ ?_|refine vT ?_|refine vF ?_|refine br_and ?_|refine br_or ?_|refine br_d (fun _=>?_) fun _=>?_|refine vM (fun _=>?_) fun _=>?_)
  refine ⟨b, ?_, ⟨by omega, by omega⟩, ?_⟩
  ·repeat' ((conv=>whnf);first|with_reducible exact True.intro|exact vW|with_reducible refine And.intro ?_ ?_)
  repeat' ((conv=>whnf);first|refine ⟨Chk.mk (by have z1 := sz1; have z2 := sz2; have z3 := sz3; have z4 := sz4; have z5 := sz5; (repeat rw [ByteArray.size_append]); omega), ?_⟩|refine vA ?_|with_reducible first|refine v8 ?_|refine Sp.mk ?_ ?_|refine vS ?_|refine vR ?_|refine vB ?_|refine br_nt ?_|refine br_tt ?_|refine br_ff ?_|refine vP ?_|refine vQ ?_|refine vT ?_|refine vF ?_|refine br_and ?_|refine br_or ?_|refine br_d (fun _=>?_) fun _=>?_|refine vM (fun _=>?_) fun _=>?_)
  ((unfold deedT plainW at h; repeat' (split at h)) <;> first | exact h | (exfalso; simp_all; done) | (exfalso; simp_all; omega))
 ·refine ⟨w, ?_, ⟨by omega⟩, ?_⟩
  ·repeat' ((conv=>whnf);first|with_reducible exact True.intro|exact vW|with_reducible refine And.intro ?_ ?_)
  cases hs : spc w
  ·repeat' ((conv=>whnf);first|refine vA ?_|with_reducible first|refine v8 ?_|refine Sp.mk ?_ ?_|refine vS ?_|refine vR ?_|refine vB ?_|refine br_nt ?_|refine br_tt ?_|refine br_ff ?_|refine vP ?_|refine vQ ?_|refine vT ?_|refine vF ?_|refine br_and ?_|refine br_or ?_|refine br_d (fun _=>?_) fun _=>?_|refine vM (fun _=>?_) fun _=>?_)
   all_goals try ((unfold deedT plainW at h; repeat' (split at h)) <;> first | exact h | (exfalso; simp_all; done) | (exfalso; simp_all; omega))
   ·repeat' ((conv=>whnf);first|refine ⟨Chk.mk (by have z1 := sz1; have z2 := sz2; have z3 := sz3; have z4 := sz4; have z5 := sz5; (repeat rw [ByteArray.size_append]); omega), ?_⟩|refine vA ?_|with_reducible first|refine v8 ?_|refine Sp.mk ?_ ?_|refine vS ?_|refine vR ?_|refine vB ?_|refine br_nt ?_|refine br_tt ?_|refine br_ff ?_|refine vP ?_|refine vQ ?_|refine vT ?_|refine vF ?_|refine br_and ?_|refine br_or ?_|refine br_d (fun _=>?_) fun _=>?_|refine vM (fun _=>?_) fun _=>?_)
    ((unfold deedT plainW at h; repeat' (split at h)) <;> first | exact h | (exfalso; simp_all; done) | (exfalso; simp_all; omega))
   ·have na' := num_size (n := a) (by omega) (by omega)
    have nb' := num_size (n := b) (by omega) (by omega)
    refine Dr.mk ⟨(.rd 0 (.rd 1 (.rd 5 (.rd 6 (.rd 10 (.rd 11 (.ef 2 (.rd 3 (.rd 4 (.ef 7 (.rd 8 (.rd 9 (.rd 12 (.rd 13 .dn)))) .no))) .no))))))), by decide +kernel, ?_⟩
    repeat' ((conv=>whnf);first|refine ⟨Chk.mk (by have z1 := sz1; have z2 := sz2; have z3 := sz3; have z4 := sz4; have z5 := sz5; (repeat rw [ByteArray.size_append]); omega), ?_⟩|refine vA ?_|with_reducible first|refine v8 ?_|refine Sp.mk ?_ ?_|refine vS ?_|refine vR ?_|refine vB ?_|refine br_nt ?_|refine br_tt ?_|refine br_ff ?_|refine vP ?_|refine vQ ?_|refine vT ?_|refine vF ?_|refine br_and ?_|refine br_or ?_|refine br_d (fun _=>?_) fun _=>?_|refine vM (fun _=>?_) fun _=>?_)
    refine ⟨a, ?_, ⟨by omega, by omega⟩, ?_⟩
    ·repeat' ((conv=>whnf);first|with_reducible exact True.intro|exact vW|with_reducible refine And.intro ?_ ?_)
    repeat' ((conv=>whnf);first|refine ⟨Chk.mk (by have z1 := sz1; have z2 := sz2; have z3 := sz3; have z4 := sz4; have z5 := sz5; (repeat rw [ByteArray.size_append]); omega), ?_⟩|refine vA ?_|with_reducible first|refine v8 ?_|refine Sp.mk ?_ ?_|refine vS ?_|refine vR ?_|refine vB ?_|refine br_nt ?_|refine br_tt ?_|refine br_ff ?_|refine vP ?_|refine vQ ?_|refine vT ?_|refine vF ?_|refine br_and ?_|refine br_or ?_|refine br_d (fun _=>?_) fun _=>?_|refine vM (fun _=>?_) fun _=>?_)
    refine ⟨b, ?_, ⟨by omega, by omega⟩, ?_⟩
    ·repeat' ((conv=>whnf);first|with_reducible exact True.intro|exact vW|with_reducible refine And.intro ?_ ?_)
    repeat' ((conv=>whnf);first|refine ⟨Chk.mk (by have z1 := sz1; have z2 := sz2; have z3 := sz3; have z4 := sz4; have z5 := sz5; (repeat rw [ByteArray.size_append]); omega), ?_⟩|refine vA ?_|with_reducible first|refine v8 ?_|refine Sp.mk ?_ ?_|refine vS ?_|refine vR ?_|refine vB ?_|refine br_nt ?_|refine br_tt ?_|refine br_ff ?_|refine vP ?_|refine vQ ?_|refine vT ?_|refine vF ?_|refine br_and ?_|refine br_or ?_|refine br_d (fun _=>?_) fun _=>?_|refine vM (fun _=>?_) fun _=>?_)
    ((unfold deedT plainW at h; repeat' (split at h)) <;> first | exact h | (exfalso; simp_all; done) | (exfalso; simp_all; omega))
  ·repeat' ((conv=>whnf);first|refine vA ?_|with_reducible first|refine v8 ?_|refine Sp.mk ?_ ?_|refine vS ?_|refine vR ?_|refine vB ?_|refine br_nt ?_|refine br_tt ?_|refine br_ff ?_|refine vP ?_|refine vQ ?_|refine vT ?_|refine vF ?_|refine br_and ?_|refine br_or ?_|refine br_d (fun _=>?_) fun _=>?_|refine vM (fun _=>?_) fun _=>?_)
   all_goals ((unfold deedT plainW at h; repeat' (split at h)) <;> first | exact h | (exfalso; simp_all; done) | (exfalso; simp_all; omega))
end Go.Proofs.YtkafoolhbflfkaaGreatDoor.Vc
end
section
/- Part DC: the reference text of a deed. -/
namespace Go.Proofs.YtkafoolhbflfkaaGreatDoor.Vc
open Go.Proofs
theorem containsAny_eq (chars : List UInt8) : ∀ l : List UInt8, Lib.containsAny l chars = l.any chars.contains
 |[] => rfl
 |b :: l => by
  have ih' : 0 ≤ Lib.indexAny l chars ↔ l.any chars.contains = true := by rw [← containsAny_eq chars l]; simp [Lib.containsAny]
  have hg := Lib.indexAny_ge chars l
  rw [Bool.eq_iff_iff, List.any_cons, Bool.or_eq_true, ← ih']
  show decide (0 ≤ Lib.indexAny (b :: l) chars) = true ↔ _
  rw [decide_eq_true_eq, Lib.indexAny]
  split
  ·rename_i e; exact ⟨fun _ => Or.inl e, fun _ => Int.le_refl 0⟩
  ·rename_i e
   simp only [beq_iff_eq]
   have e' : ¬ chars.contains b = true := e
   split
   ·rename_i e1; rw [e1]; exact ⟨fun h => absurd h (by decide), fun h => h.elim (fun h => absurd h e') id⟩
   ·constructor
    ·intro _; right; omega
    ·rintro (h | h)
     ·exact absurd h e'
     ·omega
theorem bt_at (w : ByteArray) (i : Nat) (h : i < w.size) : ∃ b : UInt8, w.data.toList[i]? = some b ∧ bt w i = b.toNat := by
 have h' : i < w.data.size := h
 refine ⟨w.data[i], by simp, ?_⟩
 simp [bt, Array.getElem?_eq_getElem h']
def okTo (w : ByteArray) : Nat → Bool
 |0 => decide ((w.size : Int) > 0)
 |i + 1 => okTo w i && (decide (¬ bt w i = 32) && decide (¬ bt w i = 10))
theorem okTo_iff (w : ByteArray) : ∀ i, okTo w i = true ↔ 0 < w.size ∧ ∀ j, j < i → bt w j ≠ 32 ∧ bt w j ≠ 10
 |0 => by simp [okTo]
 |i + 1 => by
  simp only [okTo, Bool.and_eq_true, decide_eq_true_eq, okTo_iff w i]
  constructor
  ·rintro ⟨⟨h1, h2⟩, h3, h4⟩
   refine ⟨h1, fun j hj => ?_⟩
   by_cases e : j = i
   ·subst e; exact ⟨h3, h4⟩
   ·exact h2 j (by omega)
  ·rintro ⟨h1, h2⟩
   exact ⟨⟨h1, fun j hj => h2 j (by omega)⟩, h2 i (by omega)⟩
theorem size_zero {w : ByteArray} : w = ⟨#[]⟩ ↔ ¬ 0 < w.size := by
 constructor
 ·rintro rfl; decide
 ·intro h
  have h1 : w.data.size = 0 := by have : ¬ 0 < w.data.size := h; omega
  have : w.data = #[] := Array.eq_empty_of_size_eq_zero h1
  cases w
  simp_all
theorem okTo_plain (w : ByteArray) : okTo w w.size = plainW w := by
 rw [Bool.eq_iff_iff, okTo_iff]
 unfold plainW spc
 rw [containsAny_eq]
 simp only [Bool.and_eq_true, decide_eq_true_eq, Bool.not_eq_true', List.any_eq_false, size_zero, Classical.not_not]
 refine and_congr_right fun h0 => ⟨fun h b hb => ?_, fun h j hj => ?_⟩
 ·obtain ⟨i, hi, rfl⟩ := List.getElem_of_mem hb
  have hi' : i < w.size := by simpa using hi
  obtain ⟨c, h1, h2⟩ := bt_at w i hi'
  rw [List.getElem?_eq_getElem hi] at h1
  have hc := Option.some.inj h1
  have := h i hi'
  rw [h2, ← hc] at this
  intro hs
  have : w.data.toList[i] = 32 ∨ w.data.toList[i] = 10 := by simpa [sn] using hs
  rcases this with e | e <;> simp [e] at this
  all_goals simp_all
 ·obtain ⟨c, h1, h2⟩ := bt_at w j hj
  have := h c (List.mem_of_getElem? h1)
  rw [h2]
  constructor
  ·intro e
   have : c = 32 := by apply UInt8.toNat_inj.1; show c.toNat = 32; omega
   subst this
   exact absurd rfl this
  ·intro e
   have : c = 10 := by apply UInt8.toNat_inj.1; show c.toNat = 10; omega
   subst this
   exact absurd rfl this
def C105 : List AV → (AV → Prop) → Prop := con (X := Dd) (fun d => [ded d]) (fun d => d.words.size ≤ 1048576) fun d K => K (.str (deedT d))
set_option maxRecDepth 10000 in
set_option maxHeartbeats 4000000 in
theorem F105 : FF 74 C105 := by
 refine fitE [(62, C35), (105, C106)] (by simp only [List.mem_cons, List.not_mem_nil, or_false]; rintro _ (rfl | rfl) <;> first | exact F35 | exact F106) Tryz.f74 ⟨rfl, by decide +kernel, by decide +kernel⟩ (fun _ _ _ hk h => hk _ h) ?_
 rintro ⟨k, a, b, w⟩ K h1 h
 refine ⟨Nat.le_of_ble_eq_true rfl, ?_⟩
 dsimp only [ded, encD] at h1 h ⊢
 repeat' ((conv=>whnf);first|refine vA ?_|with_reducible first|refine v8 ?_|refine Sp.mk ?_ ?_|refine vS ?_|refine vR ?_|refine vB ?_|refine br_nt ?_|refine br_tt ?_|refine br_ff ?_|refine vP ?_|refine vQ ?_|refine vT ?_|refine vF ?_|refine br_and ?_|refine br_or ?_|refine br_d (fun _=>?_) fun _=>?_|refine vM (fun _=>?_) fun _=>?_)
 refine Lp.mk ⟨Nat, fun i => [(1, .ptr 0 0), (3, .bool (okTo w i)), (4, .int .i64 i)], fun _ => [.box (encD ⟨k, a, b, w⟩)], fun i => i ≤ w.size, fun i => w.size - i, ⟨0, Nat.zero_le _, ⟨⟨[some 0], [], rfl, rfl, ?_, ?_⟩⟩⟩, ?_⟩
 ·repeat' ((conv=>whnf);first|with_reducible exact True.intro|exact vW|with_reducible refine And.intro ?_ ?_)
 ·repeat' ((conv=>whnf);first|with_reducible exact True.intro|exact vW|with_reducible refine And.intro ?_ ?_)
 intro i i1
 dsimp only [encD]
 cases hp : okTo w i
 ·have hq : okTo w (i + 1) = false := by simp only [okTo, hp, Bool.false_and]
  repeat' ((conv=>whnf);first|refine vA ?_|with_reducible first|refine v8 ?_|refine Sp.mk ?_ ?_|refine vS ?_|refine vR ?_|refine vB ?_|refine br_nt ?_|refine br_tt ?_|refine br_ff ?_|refine vP ?_|refine vQ ?_|refine vT ?_|refine vF ?_|refine br_and ?_|refine br_or ?_|refine br_d (fun _=>?_) fun _=>?_|refine vM (fun _=>?_) fun _=>?_)
  ·refine ⟨i + 1, by omega, by omega, ⟨⟨[some 0], [], rfl, rfl, ?_, ?_⟩⟩⟩
   ·repeat' ((conv=>whnf);first|with_reducible exact True.intro|exact vW|with_reducible refine And.intro ?_ ?_)
    all_goals first | exact Chk.mk hq | exact Chk.mk hq.symm | exact Chk.mk (by omega)
   ·repeat' ((conv=>whnf);first|with_reducible exact True.intro|exact vW|with_reducible refine And.intro ?_ ?_)
  ·obtain rfl : i = w.size := by omega
   rw [okTo_plain] at hp
   refine ⟨(a, 0, 99), ?_, ⟨trivial⟩, ?_⟩
   ·repeat' ((conv=>whnf);first|with_reducible exact True.intro|exact vW|with_reducible refine And.intro ?_ ?_)
   dsimp only
   repeat' ((conv=>whnf);first|refine vA ?_|with_reducible first|refine v8 ?_|refine Sp.mk ?_ ?_|refine vS ?_|refine vR ?_|refine vB ?_|refine br_nt ?_|refine br_tt ?_|refine br_ff ?_|refine vP ?_|refine vQ ?_|refine vT ?_|refine vF ?_|refine br_and ?_|refine br_or ?_|refine br_d (fun _=>?_) fun _=>?_|refine vM (fun _=>?_) fun _=>?_)
   ·rename_i r1
    refine ⟨(b, 0, 99), ?_, ⟨trivial⟩, ?_⟩
    ·repeat' ((conv=>whnf);first|with_reducible exact True.intro|exact vW|with_reducible refine And.intro ?_ ?_)
    dsimp only
    repeat' ((conv=>whnf);first|refine vA ?_|with_reducible first|refine v8 ?_|refine Sp.mk ?_ ?_|refine vS ?_|refine vR ?_|refine vB ?_|refine br_nt ?_|refine br_tt ?_|refine br_ff ?_|refine vP ?_|refine vQ ?_|refine vT ?_|refine vF ?_|refine br_and ?_|refine br_or ?_|refine br_d (fun _=>?_) fun _=>?_|refine vM (fun _=>?_) fun _=>?_)
    ·have na' := num_size (n := a) (by omega) (by omega)
     refine ⟨a, ?_, ⟨by omega, by omega⟩, ?_⟩
     ·repeat' ((conv=>whnf);first|with_reducible exact True.intro|exact vW|with_reducible refine And.intro ?_ ?_)
     repeat' ((conv=>whnf);first|refine ⟨Chk.mk (by have z1 := sz1; have z2 := sz2; have z3 := sz3; have z4 := sz4; have z5 := sz5; (repeat rw [ByteArray.size_append]); omega), ?_⟩|refine vA ?_|with_reducible first|refine v8 ?_|refine Sp.mk ?_ ?_|refine vS ?_|refine vR ?_|refine vB ?_|refine br_nt ?_|refine br_tt ?_|refine br_ff ?_|refine vP ?_|refine vQ ?_|refine vT ?_|refine vF ?_|refine br_and ?_|refine br_or ?_|refine br_d (fun _=>?_) fun _=>?_|refine vM (fun _=>?_) fun _=>?_)
     ((unfold deedT at h; repeat' (split at h)) <;> first | exact h | (exfalso; simp_all; done) | (exfalso; simp_all; omega))
    all_goals try ((unfold deedT at h; repeat' (split at h)) <;> first | exact h | (exfalso; simp_all; done) | (exfalso; simp_all; omega))
    ·have na' := num_size (n := a) (by omega) (by omega)
     have nb' := num_size (n := b) (by omega) (by omega)
     refine Dr.mk ⟨(.rd 0 (.rd 1 (.rd 5 (.rd 6 (.ef 2 (.rd 3 (.rd 4 (.ef 7 (.rd 8 (.rd 9 .dn)) .no))) .no))))), by decide +kernel, ?_⟩
     repeat' ((conv=>whnf);first|refine ⟨Chk.mk (by have z1 := sz1; have z2 := sz2; have z3 := sz3; have z4 := sz4; have z5 := sz5; (repeat rw [ByteArray.size_append]); omega), ?_⟩|refine vA ?_|with_reducible first|refine v8 ?_|refine Sp.mk ?_ ?_|refine vS ?_|refine vR ?_|refine vB ?_|refine br_nt ?_|refine br_tt ?_|refine br_ff ?_|refine vP ?_|refine vQ ?_|refine vT ?_|refine vF ?_|refine br_and ?_|refine br_or ?_|refine br_d (fun _=>?_) fun _=>?_|refine vM (fun _=>?_) fun _=>?_)
     refine ⟨a, ?_, ⟨by omega, by omega⟩, ?_⟩
     ·repeat' ((conv=>whnf);first|with_reducible exact True.intro|exact vW|with_reducible refine And.intro ?_ ?_)
     repeat' ((conv=>whnf);first|refine ⟨Chk.mk (by have z1 := sz1; have z2 := sz2; have z3 := sz3; have z4 := sz4; have z5 := sz5; (repeat rw [ByteArray.size_append]); omega), ?_⟩|refine vA ?_|with_reducible first|refine v8 ?_|refine Sp.mk ?_ ?_|refine vS ?_|refine vR ?_|refine vB ?_|refine br_nt ?_|refine br_tt ?_|refine br_ff ?_|refine vP ?_|refine vQ ?_|refine vT ?_|refine vF ?_|refine br_and ?_|refine br_or ?_|refine br_d (fun _=>?_) fun _=>?_|refine vM (fun _=>?_) fun _=>?_)
     refine ⟨b, ?_, ⟨by omega, by omega⟩, ?_⟩
     ·repeat' ((conv=>whnf);first|with_reducible exact True.intro|exact vW|with_reducible refine And.intro ?_ ?_)
     repeat' ((conv=>whnf);first|refine ⟨Chk.mk (by have z1 := sz1; have z2 := sz2; have z3 := sz3; have z4 := sz4; have z5 := sz5; (repeat rw [ByteArray.size_append]); omega), ?_⟩|refine vA ?_|with_reducible first|refine v8 ?_|refine Sp.mk ?_ ?_|refine vS ?_|refine vR ?_|refine vB ?_|refine br_nt ?_|refine br_tt ?_|refine br_ff ?_|refine vP ?_|refine vQ ?_|refine vT ?_|refine vF ?_|refine br_and ?_|refine br_or ?_|refine br_d (fun _=>?_) fun _=>?_|refine vM (fun _=>?_) fun _=>?_)
     ((unfold deedT at h; repeat' (split at h)) <;> first | exact h | (exfalso; simp_all; done) | (exfalso; simp_all; omega))
    ·rename_i r2
     replace r2 : b < 0 ∨ 99 < b := by omega
     unfold deedT at h; dsimp only at h; rw [if_pos (by omega)] at h; exact h
   ·rename_i r1
    replace r1 : a < 0 ∨ 99 < a := by omega
    unfold deedT at h; dsimp only at h; rw [if_pos (by omega)] at h; exact h
 ·repeat' ((conv=>whnf);first|refine vA ?_|with_reducible first|refine v8 ?_|refine Sp.mk ?_ ?_|refine vS ?_|refine vR ?_|refine vB ?_|refine br_nt ?_|refine br_tt ?_|refine br_ff ?_|refine vP ?_|refine vQ ?_|refine vT ?_|refine vF ?_|refine br_and ?_|refine br_or ?_|refine br_d (fun _=>?_) fun _=>?_|refine vM (fun _=>?_) fun _=>?_)
  ·refine ⟨i + 1, by omega, by omega, ⟨⟨[some 0], [], rfl, rfl, ?_, ?_⟩⟩⟩
   ·repeat' ((conv=>whnf);first|with_reducible exact True.intro|exact vW|with_reducible refine And.intro ?_ ?_)
    all_goals first | exact Chk.mk (by omega) | exact Chk.mk (by simp_all [okTo])
   ·repeat' ((conv=>whnf);first|with_reducible exact True.intro|exact vW|with_reducible refine And.intro ?_ ?_)
  ·refine ⟨i + 1, by omega, by omega, ⟨⟨[some 0], [], rfl, rfl, ?_, ?_⟩⟩⟩
   ·repeat' ((conv=>whnf);first|with_reducible exact True.intro|exact vW|with_reducible refine And.intro ?_ ?_)
    all_goals first | exact Chk.mk (by omega) | exact Chk.mk (by simp_all [okTo])
   ·repeat' ((conv=>whnf);first|with_reducible exact True.intro|exact vW|with_reducible refine And.intro ?_ ?_)
  ·obtain rfl : i = w.size := by omega
   rw [okTo_plain] at hp
   refine ⟨(a, 0, 99), ?_, ⟨trivial⟩, ?_⟩
   ·repeat' ((conv=>whnf);first|with_reducible exact True.intro|exact vW|with_reducible refine And.intro ?_ ?_)
   dsimp only
   repeat' ((conv=>whnf);first|refine vA ?_|with_reducible first|refine v8 ?_|refine Sp.mk ?_ ?_|refine vS ?_|refine vR ?_|refine vB ?_|refine br_nt ?_|refine br_tt ?_|refine br_ff ?_|refine vP ?_|refine vQ ?_|refine vT ?_|refine vF ?_|refine br_and ?_|refine br_or ?_|refine br_d (fun _=>?_) fun _=>?_|refine vM (fun _=>?_) fun _=>?_)
   ·rename_i r1
    refine ⟨(b, 0, 99), ?_, ⟨trivial⟩, ?_⟩
    ·repeat' ((conv=>whnf);first|with_reducible exact True.intro|exact vW|with_reducible refine And.intro ?_ ?_)
    dsimp only
    repeat' ((conv=>whnf);first|refine vA ?_|with_reducible first|refine v8 ?_|refine Sp.mk ?_ ?_|refine vS ?_|refine vR ?_|refine vB ?_|refine br_nt ?_|refine br_tt ?_|refine br_ff ?_|refine vP ?_|refine vQ ?_|refine vT ?_|refine vF ?_|refine br_and ?_|refine br_or ?_|refine br_d (fun _=>?_) fun _=>?_|refine vM (fun _=>?_) fun _=>?_)
    ·have na' := num_size (n := a) (by omega) (by omega)
     refine ⟨a, ?_, ⟨by omega, by omega⟩, ?_⟩
     ·repeat' ((conv=>whnf);first|with_reducible exact True.intro|exact vW|with_reducible refine And.intro ?_ ?_)
     repeat' ((conv=>whnf);first|refine ⟨Chk.mk (by have z1 := sz1; have z2 := sz2; have z3 := sz3; have z4 := sz4; have z5 := sz5; (repeat rw [ByteArray.size_append]); omega), ?_⟩|refine vA ?_|with_reducible first|refine v8 ?_|refine Sp.mk ?_ ?_|refine vS ?_|refine vR ?_|refine vB ?_|refine br_nt ?_|refine br_tt ?_|refine br_ff ?_|refine vP ?_|refine vQ ?_|refine vT ?_|refine vF ?_|refine br_and ?_|refine br_or ?_|refine br_d (fun _=>?_) fun _=>?_|refine vM (fun _=>?_) fun _=>?_)
     ((unfold deedT at h; repeat' (split at h)) <;> first | exact h | (exfalso; simp_all; done) | (exfalso; simp_all; omega))
    all_goals try ((unfold deedT at h; repeat' (split at h)) <;> first | exact h | (exfalso; simp_all; done) | (exfalso; simp_all; omega))
    ·repeat' ((conv=>whnf);first|refine ⟨Chk.mk (by have z1 := sz1; have z2 := sz2; have z3 := sz3; have z4 := sz4; have z5 := sz5; (repeat rw [ByteArray.size_append]); omega), ?_⟩|refine vA ?_|with_reducible first|refine v8 ?_|refine Sp.mk ?_ ?_|refine vS ?_|refine vR ?_|refine vB ?_|refine br_nt ?_|refine br_tt ?_|refine br_ff ?_|refine vP ?_|refine vQ ?_|refine vT ?_|refine vF ?_|refine br_and ?_|refine br_or ?_|refine br_d (fun _=>?_) fun _=>?_|refine vM (fun _=>?_) fun _=>?_)
     ((unfold deedT at h; repeat' (split at h)) <;> first | exact h | (exfalso; simp_all; done) | (exfalso; simp_all; omega))
    ·have na' := num_size (n := a) (by omega) (by omega)
     have nb' := num_size (n := b) (by omega) (by omega)
     refine Dr.mk ⟨(.rd 0 (.rd 1 (.rd 5 (.rd 6 (.rd 10 (.rd 11 (.ef 2 (.rd 3 (.rd 4 (.ef 7 (.rd 8 (.rd 9 (.rd 12 (.rd 13 .dn)))) .no))) .no))))))), by decide +kernel, ?_⟩
     repeat' ((conv=>whnf);first|refine ⟨Chk.mk (by have z1 := sz1; have z2 := sz2; have z3 := sz3; have z4 := sz4; have z5 := sz5; (repeat rw [ByteArray.size_append]); omega), ?_⟩|refine vA ?_|with_reducible first|refine v8 ?_|refine Sp.mk ?_ ?_|refine vS ?_|refine vR ?_|refine vB ?_|refine br_nt ?_|refine br_tt ?_|refine br_ff ?_|refine vP ?_|refine vQ ?_|refine vT ?_|refine vF ?_|refine br_and ?_|refine br_or ?_|refine br_d (fun _=>?_) fun _=>?_|refine vM (fun _=>?_) fun _=>?_)
     refine ⟨a, ?_, ⟨by omega, by omega⟩, ?_⟩
     ·repeat' ((conv=>whnf);first|with_reducible exact True.intro|exact vW|with_reducible refine And.intro ?_ ?_)
     repeat' ((conv=>whnf);first|refine ⟨Chk.mk (by have z1 := sz1; have z2 := sz2; have z3 := sz3; have z4 := sz4; have z5 := sz5; (repeat rw [ByteArray.size_append]); omega), ?_⟩|refine vA ?_|with_reducible first|refine v8 ?_|refine Sp.mk ?_ ?_|refine vS ?_|refine vR ?_|refine vB ?_|refine br_nt ?_|refine br_tt ?_|refine br_ff ?_|refine vP ?_|refine vQ ?_|refine vT ?_|refine vF ?_|refine br_and ?_|refine br_or ?_|refine br_d (fun _=>?_) fun _=>?_|refine vM (fun _=>?_) fun _=>?_)
     refine ⟨b, ?_, ⟨by omega, by omega⟩, ?_⟩
     ·repeat' ((conv=>whnf);first|with_reducible exact True.intro|exact vW|with_reducible refine And.intro ?_ ?_)
     repeat' ((conv=>whnf);first|refine ⟨Chk.mk (by have z1 := sz1; have z2 := sz2; have z3 := sz3; have z4 := sz4; have z5 := sz5; (repeat rw [ByteArray.size_append]); omega), ?_⟩|refine vA ?_|with_reducible first|refine v8 ?_|refine Sp.mk ?_ ?_|refine vS ?_|refine vR ?_|refine vB ?_|refine br_nt ?_|refine br_tt ?_|refine br_ff ?_|refine vP ?_|refine vQ ?_|refine vT ?_|refine vF ?_|refine br_and ?_|refine br_or ?_|refine br_d (fun _=>?_) fun _=>?_|refine vM (fun _=>?_) fun _=>?_)
     ((unfold deedT at h; repeat' (split at h)) <;> first | exact h | (exfalso; simp_all; done) | (exfalso; simp_all; omega))
    ·have na' := num_size (n := a) (by omega) (by omega)
     have nb' := num_size (n := b) (by omega) (by omega)
     refine Dr.mk ⟨(.rd 0 (.rd 1 (.rd 5 (.rd 6 (.ef 2 (.rd 3 (.rd 4 (.ef 7 (.rd 8 (.rd 9 .dn)) .no))) .no))))), by decide +kernel, ?_⟩
     repeat' ((conv=>whnf);first|refine ⟨Chk.mk (by have z1 := sz1; have z2 := sz2; have z3 := sz3; have z4 := sz4; have z5 := sz5; (repeat rw [ByteArray.size_append]); omega), ?_⟩|refine vA ?_|with_reducible first|refine v8 ?_|refine Sp.mk ?_ ?_|refine vS ?_|refine vR ?_|refine vB ?_|refine br_nt ?_|refine br_tt ?_|refine br_ff ?_|refine vP ?_|refine vQ ?_|refine vT ?_|refine vF ?_|refine br_and ?_|refine br_or ?_|refine br_d (fun _=>?_) fun _=>?_|refine vM (fun _=>?_) fun _=>?_)
     refine ⟨a, ?_, ⟨by omega, by omega⟩, ?_⟩
     ·repeat' ((conv=>whnf);first|with_reducible exact True.intro|exact vW|with_reducible refine And.intro ?_ ?_)
     repeat' ((conv=>whnf);first|refine ⟨Chk.mk (by have z1 := sz1; have z2 := sz2; have z3 := sz3; have z4 := sz4; have z5 := sz5; (repeat rw [ByteArray.size_append]); omega), ?_⟩|refine vA ?_|with_reducible first|refine v8 ?_|refine Sp.mk ?_ ?_|refine vS ?_|refine vR ?_|refine vB ?_|refine br_nt ?_|refine br_tt ?_|refine br_ff ?_|refine vP ?_|refine vQ ?_|refine vT ?_|refine vF ?_|refine br_and ?_|refine br_or ?_|refine br_d (fun _=>?_) fun _=>?_|refine vM (fun _=>?_) fun _=>?_)
     refine ⟨b, ?_, ⟨by omega, by omega⟩, ?_⟩
     ·repeat' ((conv=>whnf);first|with_reducible exact True.intro|exact vW|with_reducible refine And.intro ?_ ?_)
     repeat' ((conv=>whnf);first|refine ⟨Chk.mk (by have z1 := sz1; have z2 := sz2; have z3 := sz3; have z4 := sz4; have z5 := sz5; (repeat rw [ByteArray.size_append]); omega), ?_⟩|refine vA ?_|with_reducible first|refine v8 ?_|refine Sp.mk ?_ ?_|refine vS ?_|refine vR ?_|refine vB ?_|refine br_nt ?_|refine br_tt ?_|refine br_ff ?_|refine vP ?_|refine vQ ?_|refine vT ?_|refine vF ?_|refine br_and ?_|refine br_or ?_|refine br_d (fun _=>?_) fun _=>?_|refine vM (fun _=>?_) fun _=>?_)
     ((unfold deedT at h; repeat' (split at h)) <;> first | exact h | (exfalso; simp_all; done) | (exfalso; simp_all; omega))
    ·rename_i r2
     replace r2 : b < 0 ∨ 99 < b := by omega
     unfold deedT at h; dsimp only at h; rw [if_pos (by omega)] at h; exact h
   ·rename_i r1
    replace r1 : a < 0 ∨ 99 < a := by omega
    unfold deedT at h; dsimp only at h; rw [if_pos (by omega)] at h; exact h
end Go.Proofs.YtkafoolhbflfkaaGreatDoor.Vc
end
section
/- Part DD: the laws on the texts of deeds and journals. -/
namespace Go.Proofs.YtkafoolhbflfkaaGreatDoor.Vc
open Go.Proofs
set_option maxRecDepth 10000
set_option maxHeartbeats 4000000
end Go.Proofs.YtkafoolhbflfkaaGreatDoor.Vc
end
section
/- Part DE: the law on the texts of journals. -/
namespace Go.Proofs.YtkafoolhbflfkaaGreatDoor.Vc
open Go.Proofs
set_option maxRecDepth 10000
set_option maxHeartbeats 4000000
abbrev slD (l : List Dd) : AV := .sl 4 l.length fun i => encD (l.getD i default)
def wsum (l : List Dd) : Nat → Nat
 |0 => 0
 |i + 1 => wsum l i + (l.getD i default).words.size
end Go.Proofs.YtkafoolhbflfkaaGreatDoor.Vc
end
section
/- Part DF: the texts of journals. -/
namespace Go.Proofs.YtkafoolhbflfkaaGreatDoor.Vc
open Go.Proofs
set_option maxRecDepth 10000
set_option maxHeartbeats 4000000
theorem deedT_size (d : Dd) : (deedT d).size ≤ d.words.size + 12 := by
 unfold deedT
 split
 ·exact Nat.zero_le _
 ·rename_i hr
  have ha := num_size (n := d.a) (by omega) (by omega)
  have hb := num_size (n := d.b) (by omega) (by omega)
  have z1 := sz1; have z2 := sz2; have z3 := sz3; have z4 := sz4; have z5 := sz5
  have z6 : (⟨#[98, 97, 99, 107]⟩ : ByteArray).size = 4 := rfl
  have z7 : (⟨#[]⟩ : ByteArray).size = 0 := rfl
  repeat' split
  all_goals (repeat rw [ByteArray.size_append]); omega
def jOk (l : List Dd) : Prop := l.length + wsum l l.length ≤ 1048576
end Go.Proofs.YtkafoolhbflfkaaGreatDoor.Vc
end
