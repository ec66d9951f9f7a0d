/- Part W0: what is known of the program. -/
import Derived.Test.YtbbgojaloebknaaDoorVcVA
import Derived.Test.YtbbgojaloebknaaDoorVcLB
import Derived.Test.YtbbgojaloebknaaDoorVcLA3
import Derived.Test.YtbbgojaloebknaaDoorProg
import Derived.Test.YtbbgojaloebknaaDoorShelf
namespace Go.Proofs.YtbbgojaloebknaaDoor.Vc
open Go.Proofs
def TT : List (TypeId × TI) :=
[(3, ⟨1, .int .i64, [.int .i64 0], 8, false⟩),
   (26, ⟨4, .struct [(0, 3), (1, 3), (2, 3), (3, 9)], [.int .i64 0, .int .i64 0, .int .i64 0, .str ⟨#[]⟩], 40, true⟩),
   (9, ⟨1, .str, [.str ⟨#[]⟩], 16, false⟩),
   (23, ⟨4, .struct [(0, 3), (1, 3), (2, 3), (3, 9)], [.int .i64 0, .int .i64 0, .int .i64 0, .str ⟨#[]⟩], 40, true⟩),
   (32, ⟨1, .slice 26, [.nils], 24, false⟩),
   (29, ⟨1, .slice 23, [.nils], 24, false⟩),
   (4, ⟨1, .bool, [.bool false], 1, false⟩),
   (5, ⟨1, .int .u8, [.int .u8 0], 1, false⟩),
   (39, ⟨1, .slice 5, [.nils], 24, false⟩)]
theorem tOk : TOk Tryd.prog (lookT TT) := TOk.of (by decide +kernel)
theorem mixed : Tryd.prog.follows .mixedOrders = true := by decide +kernel
structure Mark where
  kind : Int
  at_ : Int
  need : Int
  deriving Inhabited, DecidableEq
def encI (n : Int) : List AV := [.int .i64 n]
def encM (m : Mark) : List AV := [.int .i64 m.kind, .int .i64 m.at_, .int .i64 m.need]
abbrev slI (l : List Int) : AV := .sl 1 l.length fun i => encI (l.getD i 0)
abbrev slM (t : List Mark) : AV := .sl 3 t.length fun i => encM (t.getD i default)
abbrev house (p : Int) (bs : List Int) : AV := .agg [.int .i64 p, slI bs]
set_option maxRecDepth 10000
/-- What of the package-level variables holds for good. -/
def Good (w : World) : Prop := Lib.TabIs Tryd.prog w "internal/strconv.uint64pow10" .u64 Lib.pow10Tab
def GOk (Gl : List (Nat × Go.Obj)) : Prop := ∀ w : World, (∀ p, p ∈ Gl → w.heap[p.1]? = some p.2) → Good w
abbrev FF (f : FuncId) (C : List AV → (AV → Prop) → Prop) : Prop := ∀ Gl, GOk Gl → Fits Tryd.prog Gl f C
theorem fitE (E : Env) {X : Type} {args : X → List AV} {pre : X → Prop} {post : X → (AV → Prop) → Prop} (hE : ∀ p, p ∈ E → FF p.1 p.2) {f : FuncId} (fn : Func) (hf : FnOk Tryd.prog f fn) (hM : ∀ x (K K' : AV → Prop), (∀ r, K r → K' r) → post x K → post x K')
    (hb : ∀ x (K : AV → Prop), pre x → post x K → (args x).length ≤ fn.ntmps ∧ bodyP (lookT TT) (callE E) (Dr (lookT TT) (callE E)) 0 fn (args x) [] (out K)) : FF f (con args pre post) := fun Gl hG => fits tOk (callE_ok fun p hp => hE p hp Gl hG) mixed hf hM hb
theorem fits_rec {P : Program} {Gl : List (Nat × Go.Obj)} {X : Type} {args : X → List AV} {pre : X → Prop} {post : X → (AV → Prop) → Prop} {f : FuncId} (μ : X → Nat) (h : ∀ k, Fits P Gl f (con args (fun x => μ x < k ∧ pre x) post)) : Fits P Gl f (con args pre post) :=
  ⟨(h 0).has, fun us K K' hk ⟨x, h1, h2, h3⟩ => by
    obtain ⟨y, g1, g2, g3⟩ := (h (μ x + 1)).mono us K K' hk ⟨x, h1, ⟨Nat.lt_succ_self _, h2.h⟩, h3⟩
    exact ⟨y, g1, ⟨g2.h.2⟩, g3⟩, fun us K ⟨x, h1, h2, h3⟩ => (h (μ x + 1)).ok us K ⟨x, h1, ⟨Nat.lt_succ_self _, h2.h⟩, h3⟩⟩
section
variable {P Q : Prop} [Decidable P] [Decidable Q] {K : AV → Prop}
theorem yes {b : Bool} (h : K (.bool (decide P))) (e : P ↔ b = true) : K (.bool b) := by
  have : decide P = b := by cases b <;> simp_all
  rw [← this]; exact h
theorem yesD (h : K (.bool (decide P))) (e : P ↔ Q) : K (.bool (decide Q)) := yes h (e.trans decide_eq_true_iff.symm)
theorem yesT (h : K (.bool (decide P))) (e : P) : K (.bool true) := yes h ⟨fun _ => rfl, fun _ => e⟩
theorem yesF (h : K (.bool (decide P))) (e : ¬ P) : K (.bool false) := yes h ⟨fun q => absurd q e, fun q => by cases q⟩
theorem yesN (h : K (.bool (decide P))) (e : P ↔ ¬ Q) : K (.bool (!decide Q)) := yes h (e.trans (by simp))
end
def i64r (x : Int) : Prop := -9223372036854775808 ≤ x ∧ x ≤ 9223372036854775807
/-! ### The library -/
/-- A number's text. -/
def num (n : Int) : ByteArray := ⟨(Lib.decDigits n.toNat).toArray⟩
def C101 : List AV → (AV → Prop) → Prop := con (X := Int) (fun n => [.int .i64 n]) (fun n => 0 ≤ n ∧ n ≤ 9223372036854775807) fun n K => K (.str (num n))
theorem F101 : FF 19 C101 := fun Gl hG => fits_pl (fun n => .str (num n)) (FnOk.has ⟨rfl, by decide +kernel, by decide +kernel⟩ (fn := Tryd.f19)) (fun _ => rfl) (fun _ => rfl) fun n hn w hw => by
  refine (Tryd.strconv_Itoa n (by omega) (by omega) w (hG w hw)).mono fun e w' he => ?_
  obtain ⟨rfl, k, os, rfl⟩ := he
  refine ⟨?_, w.heap.size, Nat.le_refl _, Lib.below_grow _ _ (Nat.le_refl _) _ _⟩
  show Ending.returned (Value.string ⟨(Lib.itoa n).toArray⟩) = .returned (.string (num n))
  rw [show Lib.itoa n = Lib.decDigits n.toNat from if_neg (by omega)]
  rfl
/-- Has a text a space or a newline? -/
def spc (s : ByteArray) : Bool := Lib.containsAny s.data.toList sn.data.toList
def C102 : List AV → (AV → Prop) → Prop := con (X := ByteArray) (fun s => [.str s, .str sn]) (fun s => s.size < 4294967281) fun s K => K (.bool (spc s))
theorem F102 : FF 18 C102 := fun Gl hG => fits_pl (fun s => .bool (spc s)) (FnOk.has ⟨rfl, by decide +kernel, by decide +kernel⟩ (fn := Tryd.f18)) (fun _ => rfl) (fun _ => rfl) fun s hs w hw =>
  (ContainsAny_sn Tryd.lays150 (by kernel_rfl) s w hs).mono fun e w' he => ⟨he.1, w.heap.size, Nat.le_refl _, he.2⟩
end Go.Proofs.YtbbgojaloebknaaDoor.Vc
