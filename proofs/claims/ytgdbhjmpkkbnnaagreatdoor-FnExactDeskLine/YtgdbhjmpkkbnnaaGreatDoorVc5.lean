/- Part TI: the laws' sizes, copies and comparisons of places and desks. -/
import Derived.Lib.SmallJoins
import Derived.Lib.SplitLaws
import Derived.Lib.AtoiAll
import Derived.Test.YtgdbhjmpkkbnnaaGreatDoorVc4
section
namespace Go.Proofs.YtgdbhjmpkkbnnaaGreatDoor.Vc
open Go.Proofs
set_option maxRecDepth 10000
set_option maxHeartbeats 4000000
/-! ### Sizes -/
def szpost (n:Int) (B:Prop) (K:AV→Prop):Prop:=∀ v:Int,-1≤v→v≤n→(0≤v→B)→K (.int .i64 v)
def rng (n:Int):Prop:=0≤n∧n≤9223372036854775807
def fitS (n:Int) (l:List ByteArray):Prop:=l.length≤n∧∀ r∈l,r.size≤n
def C154:List AV→(AV→Prop)→Prop:=con (X:=List ByteArray × Int) (fun x=>[slS x.1,.int .i64 x.2]) (fun x=>(x.1.length<9223372036854775808∧∀ r∈x.1,r.size<9223372036854775808)∧rng x.2) fun x K=>szpost x.2 (fitS x.2 x.1) K
theorem F154:FF 15 C154:=by
 refine fitXE [] (by simp) [] (by simp) Tryz.f15 ⟨rfl,by decide +kernel,by decide +kernel⟩ (fun _ _ _ hk h v h1 h2 h3=>hk _ (h v h1 h2 h3)) ?_
 rintro ⟨l,n⟩ K ⟨⟨h1,h2⟩,h3,h4⟩ h
 refine ⟨Nat.le_of_ble_eq_true rfl,?_⟩
 dsimp only at h1 h2 h3 h4 h ⊢
 repeat' (first|refine vz ?_|(conv=>whnf); first|with_reducible first|refine Sp.mk ?_ ?_|refine br_d (fun _=>?_) fun _=>?_|refine vM (fun _=>?_) fun _=>?_)
 ·refine ⟨_,?_,h (-1) (by omega) (by omega) (fun e=>absurd e (by decide))⟩
  repeat' ((conv=>whnf); first|with_reducible exact True.intro|exact vW|with_reducible refine And.intro ?_ ?_)
 ·rename_i hn
  refine Lp.mk ⟨Nat × Int,fun x=>[(0,slS l),(1,.int .i64 x.2),(5,.int .i64 x.1)],fun _=>[],fun x=>x.1≤l.length∧0≤x.2∧x.2≤n-l.length∧∀ j,j<x.1→((l.getD j ⟨#[]⟩).size:Int)≤n,fun x=>l.length-x.1,⟨(0,n-l.length),⟨Nat.zero_le _,by dsimp only; omega,by dsimp only; omega,fun j hj=>absurd hj (Nat.not_lt_zero _)⟩,⟨⟨[],[],rfl,rfl,?_,?_⟩⟩⟩,?_⟩
  ·exact wq
  ·exact wq
  rintro ⟨i,m⟩ ⟨i1,i2,i3,i4⟩
  dsimp only at i1 i2 i3 i4 ⊢
  have hsz:i<l.length→(l.getD (i:Int).toNat ⟨#[]⟩).size<9223372036854775808:=fun hi=>h2 _ (getD_mem' hi)
  by_cases hi:i<l.length
  ·have hsz:=hsz hi
   repeat' (first|refine vz ?_|(conv=>whnf); first|with_reducible first|refine Sp.mk ?_ ?_|refine br_d (fun _=>?_) fun _=>?_|refine vM (fun _=>?_) fun _=>?_)
   ·refine ⟨_,?_,h (-1) (by omega) (by omega) (fun e=>absurd e (by decide))⟩
    repeat' ((conv=>whnf); first|with_reducible exact True.intro|exact vW|with_reducible refine And.intro ?_ ?_)
   ·rename_i hm
    refine ⟨(i+1,m-(l.getD (i:Int).toNat ⟨#[]⟩).size),⟨by dsimp only; omega,by dsimp only; omega,by dsimp only; omega,fun j hj=>?_⟩,by dsimp only; omega,⟨⟨[],[],rfl,rfl,?_,?_⟩⟩⟩
    ·by_cases e:j=i
     ·subst e
      replace hm:¬ m-((l.getD j ⟨#[]⟩).size:Int)<0:=hm
      omega
     ·exact i4 j (by dsimp only at hj; omega)
    ·exact wq
    ·exact wq
  ·repeat' (first|refine vz ?_|(conv=>whnf); first|with_reducible first|refine Sp.mk ?_ ?_|refine br_d (fun _=>?_) fun _=>?_|refine vM (fun _=>?_) fun _=>?_)
   refine ⟨_,?_,h m (by omega) (by omega) (fun _=>⟨by omega,all_of_getD (d:=⟨#[]⟩) fun j hj=>i4 j (by omega)⟩)⟩
   repeat' ((conv=>whnf); first|with_reducible exact True.intro|exact vW|with_reducible refine And.intro ?_ ?_)
def fitPl (n:Int) (x:Place):Prop:=x.bs.length≤n∧fitS n x.rules
def C128:List AV→(AV→Prop)→Prop:=con (X:=Place × Int) (fun x=>[enPl x.1,.int .i64 x.2]) (fun x=>placeI x.1∧rng x.2) fun x K=>szpost x.2 (fitPl x.2 x.1) K
theorem fitS_mono {n m:Int} (h:n≤m) {l:List ByteArray} (hl:fitS n l):fitS m l:=⟨Int.le_trans hl.1 h,fun r hr=>Int.le_trans (hl.2 r hr) h⟩
theorem fitPl_mono {n m:Int} (h:n≤m) {x:Place} (hl:fitPl n x):fitPl m x:=⟨Int.le_trans hl.1 h,fitS_mono h hl.2⟩
theorem F128:FF 36 C128:=by
 refine fitXE [(69,C9),(15,C154)] (by simp only [List.mem_cons,List.not_mem_nil,or_false]; rintro _ (rfl|rfl) <;> first|exact F9|exact F154) [] (by simp) Tryz.f36 ⟨rfl,by decide +kernel,by decide +kernel⟩ (fun _ _ _ hk h v h1 h2 h3=>hk _ (h v h1 h2 h3)) ?_
 rintro ⟨⟨p,bs,rs⟩,n⟩ K ⟨hI,h3,h4⟩ h
 refine ⟨Nat.le_of_ble_eq_true rfl,?_⟩
 have hI1:=hI.1.2
 have hI2:=hI.2
 dsimp only [enPl,plC] at h3 h4 h hI1 hI2 ⊢
 repeat' (first|refine vz ?_|(conv=>whnf); first|with_reducible first|refine Sp.mk ?_ ?_|refine br_d (fun _=>?_) fun _=>?_|refine vM (fun _=>?_) fun _=>?_)
 refine ⟨(⟨p,bs⟩,n),?_,⟨hI1,h3,h4⟩,?_⟩
 ·exact wq
 dsimp only
 have hl:(bs.length:Int)<9223372036854775808:=by have:bs.length<9223372036854775808:=hI1; omega
 by_cases hn:n-bs.length<0
 ·rw [if_pos hn]
  repeat' (first|refine vz ?_|(conv=>whnf); first|with_reducible first|refine Sp.mk ?_ ?_|refine br_d (fun _=>?_) fun _=>?_|refine vM (fun _=>?_) fun _=>?_)
  refine ⟨_,?_,h (-1) (by omega) (by omega) (fun e=>absurd e (by decide))⟩
  repeat' ((conv=>whnf); first|with_reducible exact True.intro|exact vW|with_reducible refine And.intro ?_ ?_)
 ·rw [if_neg hn]
  repeat' (first|refine vz ?_|(conv=>whnf); first|with_reducible first|refine Sp.mk ?_ ?_|refine br_d (fun _=>?_) fun _=>?_|refine vM (fun _=>?_) fun _=>?_)
  refine ⟨(rs,n-bs.length),?_,⟨hI2,by dsimp only; omega,by dsimp only; omega⟩,?_⟩
  ·exact wq
  intro v v1 v2 v3
  dsimp only at v2 v3
  by_cases hv:v<0
  ·repeat' (first|refine vz ?_|(conv=>whnf); first|with_reducible first|refine Sp.mk ?_ ?_|refine br_d (fun _=>?_) fun _=>?_|refine vM (fun _=>?_) fun _=>?_)
   refine ⟨_,?_,h (-1) (by omega) (by omega) (fun e=>absurd e (by decide))⟩
   repeat' ((conv=>whnf); first|with_reducible exact True.intro|exact vW|with_reducible refine And.intro ?_ ?_)
  ·repeat' (first|refine vz ?_|(conv=>whnf); first|with_reducible first|refine Sp.mk ?_ ?_|refine br_d (fun _=>?_) fun _=>?_|refine vM (fun _=>?_) fun _=>?_)
   refine ⟨_,?_,h v (by omega) (by omega) (fun e=>⟨by dsimp only; omega,fitS_mono (by omega) (v3 e)⟩)⟩
   repeat' ((conv=>whnf); first|with_reducible exact True.intro|exact vW|with_reducible refine And.intro ?_ ?_)
def fitPs (n:Int) (l:List Place):Prop:=l.length≤n∧∀ x∈l,fitPl n x
def C162:List AV→(AV→Prop)→Prop:=con (X:=List Place × Int) (fun x=>[slP x.1,.int .i64 x.2]) (fun x=>placesI x.1∧rng x.2) fun x K=>szpost x.2 (fitPs x.2 x.1) K
theorem F162:FF 37 C162:=by
 refine fitXE [(36,C128)] (by simp only [List.mem_cons,List.not_mem_nil,or_false]; rintro _ rfl <;> first|exact F128) [] (by simp) Tryz.f37 ⟨rfl,by decide +kernel,by decide +kernel⟩ (fun _ _ _ hk h v h1 h2 h3=>hk _ (h v h1 h2 h3)) ?_
 rintro ⟨l,n⟩ K ⟨⟨h1,h2⟩,h3,h4⟩ h
 refine ⟨Nat.le_of_ble_eq_true rfl,?_⟩
 dsimp only at h1 h2 h3 h4 h ⊢
 repeat' (first|refine vz ?_|(conv=>whnf); first|with_reducible first|refine Sp.mk ?_ ?_|refine br_d (fun _=>?_) fun _=>?_|refine vM (fun _=>?_) fun _=>?_)
 ·refine ⟨_,?_,h (-1) (by omega) (by omega) (fun e=>absurd e (by decide))⟩
  repeat' ((conv=>whnf); first|with_reducible exact True.intro|exact vW|with_reducible refine And.intro ?_ ?_)
 ·rename_i hn
  refine Lp.mk ⟨Nat × Int,fun x=>[(0,slP l),(1,.int .i64 x.2),(5,.int .i64 x.1)],fun _=>[],fun x=>x.1≤l.length∧0≤x.2∧x.2≤n-l.length∧∀ j,j<x.1→fitPl n (l.getD j default),fun x=>l.length-x.1,⟨(0,n-l.length),⟨Nat.zero_le _,by dsimp only; omega,by dsimp only; omega,fun j hj=>absurd hj (Nat.not_lt_zero _)⟩,⟨⟨[],[],rfl,rfl,?_,?_⟩⟩⟩,?_⟩
  ·exact wq
  ·exact wq
  rintro ⟨i,m⟩ ⟨i1,i2,i3,i4⟩
  dsimp only at i1 i2 i3 i4 ⊢
  repeat' (first|refine vz ?_|(conv=>whnf); first|with_reducible first|refine Sp.mk ?_ ?_|refine br_d (fun _=>?_) fun _=>?_|refine vM (fun _=>?_) fun _=>?_)
  ·rename_i hi
   have hi:i<l.length:=by omega
   refine ⟨(l.getD i default,m),?_,⟨h2 _ (getD_mem' hi),by dsimp only; omega,by dsimp only; omega⟩,?_⟩
   ·exact wq
   intro v v1 v2 v3
   dsimp only at v2 v3
   by_cases hv:v<0
   ·repeat' (first|refine vz ?_|(conv=>whnf); first|with_reducible first|refine Sp.mk ?_ ?_|refine br_d (fun _=>?_) fun _=>?_|refine vM (fun _=>?_) fun _=>?_)
    refine ⟨_,?_,h (-1) (by omega) (by omega) (fun e=>absurd e (by decide))⟩
    repeat' ((conv=>whnf); first|with_reducible exact True.intro|exact vW|with_reducible refine And.intro ?_ ?_)
   ·repeat' (first|refine vz ?_|(conv=>whnf); first|with_reducible first|refine Sp.mk ?_ ?_|refine br_d (fun _=>?_) fun _=>?_|refine vM (fun _=>?_) fun _=>?_)
    refine ⟨(i+1,v),⟨by dsimp only; omega,by dsimp only; omega,by dsimp only; omega,fun j hj=>?_⟩,by dsimp only; omega,⟨⟨[],[],rfl,rfl,?_,?_⟩⟩⟩
    ·by_cases e:j=i
     ·subst e
      exact fitPl_mono (by omega) (v3 (by omega))
     ·exact i4 j (by dsimp only at hj; omega)
    ·exact wq
    ·exact wq
  ·rename_i hi
   refine ⟨_,?_,h m (by omega) (by omega) (fun _=>⟨by omega,all_of_getD (d:=default) fun j hj=>i4 j (by omega)⟩)⟩
   repeat' ((conv=>whnf); first|with_reducible exact True.intro|exact vW|with_reducible refine And.intro ?_ ?_)
def fitDe (n:Int) (d:Desk):Prop:=fitPl n d.now∧fitPs n d.past
def C138:List AV→(AV→Prop)→Prop:=con (X:=Desk × Int) (fun x=>[enDe x.1,.int .i64 x.2]) (fun x=>deskI x.1∧rng x.2) fun x K=>szpost x.2 (fitDe x.2 x.1) K
theorem F138:FF 8 C138:=by
 refine fitXE [(36,C128),(37,C162)] (by simp only [List.mem_cons,List.not_mem_nil,or_false]; rintro _ (rfl|rfl) <;> first|exact F128|exact F162) [] (by simp) Tryz.f8 ⟨rfl,by decide +kernel,by decide +kernel⟩ (fun _ _ _ hk h v h1 h2 h3=>hk _ (h v h1 h2 h3)) ?_
 rintro ⟨⟨⟨p,bs,rs⟩,l⟩,n⟩ K ⟨hI,h3,h4⟩ h
 refine ⟨Nat.le_of_ble_eq_true rfl,?_⟩
 have hI1:=hI.1
 have hI2:=hI.2
 dsimp only [enDe,deC] at h3 h4 h hI1 hI2 ⊢
 repeat' (first|refine vz ?_|(conv=>whnf); first|with_reducible first|refine Sp.mk ?_ ?_|refine br_d (fun _=>?_) fun _=>?_|refine vM (fun _=>?_) fun _=>?_)
 refine ⟨(⟨p,bs,rs⟩,n),?_,⟨hI1,h3,h4⟩,?_⟩
 ·exact wq
 intro v v1 v2 v3
 dsimp only at v2 v3
 by_cases hv:v<0
 ·repeat' (first|refine vz ?_|(conv=>whnf); first|with_reducible first|refine Sp.mk ?_ ?_|refine br_d (fun _=>?_) fun _=>?_|refine vM (fun _=>?_) fun _=>?_)
  refine ⟨_,?_,h (-1) (by omega) (by omega) (fun e=>absurd e (by decide))⟩
  repeat' ((conv=>whnf); first|with_reducible exact True.intro|exact vW|with_reducible refine And.intro ?_ ?_)
 ·repeat' (first|refine vz ?_|(conv=>whnf); first|with_reducible first|refine Sp.mk ?_ ?_|refine br_d (fun _=>?_) fun _=>?_|refine vM (fun _=>?_) fun _=>?_)
  refine ⟨(l,v),?_,⟨hI2,by dsimp only; omega,by dsimp only; omega⟩,?_⟩
  ·exact wq
  intro v' w1 w2 w3
  dsimp only at w2 w3
  have mono:fitPs v l→fitPs n l:=fun q=>⟨Int.le_trans q.1 v2,fun x hx=>fitPl_mono v2 (q.2 x hx)⟩
  by_cases hv':v'<0
  ·repeat' (first|refine vz ?_|(conv=>whnf); first|with_reducible first|refine Sp.mk ?_ ?_|refine br_d (fun _=>?_) fun _=>?_|refine vM (fun _=>?_) fun _=>?_)
   refine ⟨_,?_,h (-1) (by omega) (by omega) (fun e=>absurd e (by decide))⟩
   repeat' ((conv=>whnf); first|with_reducible exact True.intro|exact vW|with_reducible refine And.intro ?_ ?_)
  ·repeat' (first|refine vz ?_|(conv=>whnf); first|with_reducible first|refine Sp.mk ?_ ?_|refine br_d (fun _=>?_) fun _=>?_|refine vM (fun _=>?_) fun _=>?_)
   refine ⟨_,?_,h v' (by omega) (by omega) (fun e=>⟨v3 (by omega),mono (w3 e)⟩)⟩
   repeat' ((conv=>whnf); first|with_reducible exact True.intro|exact vW|with_reducible refine And.intro ?_ ?_)
/-! ### Copies -/
def cpG {α:Type} (enc:α→List AV) (d:α) (z:List AV) (l:List α) (i:Nat):Nat→List AV:=fun j=>if j<i then enc (l.getD j d) else z
section
variable {α:Type} {enc:α→List AV} {d:α} {z:List AV} {l:List α}
theorem cpG_step {i j:Nat}:cpG enc d z l (i+1) j=setF (cpG enc d z l i) i (enc (l.getD i d)) j:=by
 unfold cpG setF
 cases h:Nat.beq j i with
 |true =>
  obtain rfl:=Nat.eq_of_beq_eq_true h
  rw [if_pos (by omega)]; rfl
 |false =>
  have:=Nat.ne_of_beq_eq_false h
  simp only [cond_false]
  by_cases hj:j<i
  ·rw [if_pos hj,if_pos (by omega)]
  ·rw [if_neg hj,if_neg (by omega)]
theorem cpG_at {i:Nat}:cpG enc d z l i i=z:=if_neg (Nat.lt_irrefl _)
theorem cpG_end {i:Nat} (h:l.length≤i):∀ j,j<l.length→cpG enc d z l i (0+j)=enc (l.getD j d):=fun j hj=>by
 rw [Nat.zero_add]
 exact if_pos (by omega)
end
def C155:List AV→(AV→Prop)→Prop:=con (X:=List ByteArray) (fun l=>[slS l]) (fun l=>l.length≤1048576) fun l K=>K (slS l)
theorem F155:FF 17 C155:=by
 refine fitXE [] (by simp) [] (by simp) Tryz.f17 ⟨rfl,by decide +kernel,by decide +kernel⟩ (by intro x K K2 hk h; (try dsimp only at h ⊢); intros; apply hk; first|exact h|(apply h <;> assumption)) ?_
 rintro l K h1 h
 refine ⟨Nat.le_of_ble_eq_true rfl,?_⟩
 repeat' ((conv=>whnf); first|((with_reducible refine And.intro (Chk.mk ?_) ?_); (focus (refine ⟨rfl,?_,?_,?_⟩; (focus omega); (focus omega); (focus (show (16:Int)*_≤_; omega)))))|refine vA ?_|with_reducible first|refine v8 ?_|refine Ch.l ?_|refine Sp.mk ?_ ?_|refine vS ?_|refine vR ?_|refine vB ?_|refine br_nt ?_|refine br_tt ?_|refine br_ff ?_|refine vP ?_|refine vQ ?_|refine vT ?_|refine vF ?_|refine br_and ?_|refine br_or ?_|refine br_d (fun _=>?_) fun _=>?_|refine vM (fun _=>?_) fun _=>?_)
 refine Lp.mk ⟨Nat,fun i=>[(0,slS l),(3,.row 0 1 0 l.length),(4,.int .i64 i)],fun i=>[.row 1 l.length (cpG encS ⟨#[]⟩ [.str ⟨#[]⟩] l i)],fun i=>i≤l.length,fun i=>l.length-i,⟨0,Nat.zero_le _,⟨⟨[some 0],[],rfl,rfl,?_,?_⟩⟩⟩,?_⟩
 ·exact wq
 ·exact wq
 intro i i1
 dsimp only
 repeat' (first|refine vz ?_|(conv=>whnf); first|with_reducible first|refine Sp.mk ?_ ?_|refine br_d (fun _=>?_) fun _=>?_|refine vM (fun _=>?_) fun _=>?_)
 ·refine ⟨i+1,by omega,by omega,⟨⟨[some 0],[],rfl,rfl,?_,?_⟩⟩⟩
  ·exact wq
  ·repeat' ((conv=>whnf); first|with_reducible exact True.intro|exact vW|with_reducible refine And.intro ?_ ?_)
   exact Chk.mk ⟨rfl,fun j _=>by rw [cpG_step,Nat.zero_add,Int.toNat_natCast,cpG_at]; rfl⟩
 ·have he:=cpG_end (enc:=encS) (d:=⟨#[]⟩) (z:=[.str ⟨#[]⟩]) (l:=l) (i:=i) (by omega)
  refine ⟨_,?_,h⟩
  repeat' ((conv=>whnf); first|with_reducible exact True.intro|exact vW|with_reducible refine And.intro ?_ ?_)
def okPl (x:Place):Prop:=x.bs.length≤1048576∧x.rules.length≤1048576
def C129:List AV→(AV→Prop)→Prop:=con (X:=Place) (fun x=>[enPl x]) okPl fun x K=>K (enPl x)
theorem F129:FF 46 C129:=by
 refine fitE [(88,C12),(17,C155)] (by simp only [List.mem_cons,List.not_mem_nil,or_false]; rintro _ (rfl|rfl) <;> first|exact F12|exact F155) Tryz.f46 ⟨rfl,by decide +kernel,by decide +kernel⟩ (fun _ _ _ hk h=>hk _ h) ?_
 rintro ⟨p,bs,rs⟩ K ⟨h1,h2⟩ h
 refine ⟨Nat.le_of_ble_eq_true rfl,?_⟩
 dsimp only [enPl,plC] at h1 h2 h ⊢
 repeat' (first|refine vz ?_|(conv=>whnf); first|with_reducible first|refine Sp.mk ?_ ?_|refine br_d (fun _=>?_) fun _=>?_|refine vM (fun _=>?_) fun _=>?_)
 refine ⟨⟨p,bs⟩,?_,⟨h1⟩,?_⟩
 ·exact wq
 dsimp only [enH]
 repeat' (first|refine vz ?_|(conv=>whnf); first|with_reducible first|refine Sp.mk ?_ ?_|refine br_d (fun _=>?_) fun _=>?_|refine vM (fun _=>?_) fun _=>?_)
 refine ⟨rs,?_,⟨h2⟩,?_⟩
 ·exact wq
 repeat' (first|refine vz ?_|(conv=>whnf); first|with_reducible first|refine Sp.mk ?_ ?_|refine br_d (fun _=>?_) fun _=>?_|refine vM (fun _=>?_) fun _=>?_)
 exact h
def okPs (l:List Place):Prop:=l.length≤1048576∧∀ x∈l,okPl x
def C163:List AV→(AV→Prop)→Prop:=con (X:=List Place) (fun l=>[slP l]) okPs fun l K=>K (slP l)
theorem F163:FF 47 C163:=by
 refine fitXE [(46,C129)] (by simp only [List.mem_cons,List.not_mem_nil,or_false]; rintro _ rfl <;> first|exact F129) [] (by simp) Tryz.f47 ⟨rfl,by decide +kernel,by decide +kernel⟩ (by intro x K K2 hk h; (try dsimp only at h ⊢); intros; apply hk; first|exact h|(apply h <;> assumption)) ?_
 rintro l K ⟨h1,h2⟩ h
 refine ⟨Nat.le_of_ble_eq_true rfl,?_⟩
 repeat' ((conv=>whnf); first|((with_reducible refine And.intro (Chk.mk ?_) ?_); (focus (refine ⟨rfl,?_,?_,?_⟩; (focus omega); (focus omega); (focus (show (56:Int)*_≤_; omega)))))|refine vA ?_|with_reducible first|refine v8 ?_|refine Ch.l ?_|refine Sp.mk ?_ ?_|refine vS ?_|refine vR ?_|refine vB ?_|refine br_nt ?_|refine br_tt ?_|refine br_ff ?_|refine vP ?_|refine vQ ?_|refine vT ?_|refine vF ?_|refine br_and ?_|refine br_or ?_|refine br_d (fun _=>?_) fun _=>?_|refine vM (fun _=>?_) fun _=>?_)
 refine Lp.mk ⟨Nat,fun i=>[(0,slP l),(3,.row 0 3 0 l.length),(4,.int .i64 i)],fun i=>[.row 3 l.length (cpG plC default [.int .i64 0,.nils,.nils] l i)],fun i=>i≤l.length,fun i=>l.length-i,⟨0,Nat.zero_le _,⟨⟨[some 0],[],rfl,rfl,?_,?_⟩⟩⟩,?_⟩
 ·exact wq
 ·exact wq
 intro i i1
 dsimp only
 repeat' (first|refine vz ?_|(conv=>whnf); first|with_reducible first|refine Sp.mk ?_ ?_|refine br_d (fun _=>?_) fun _=>?_|refine vM (fun _=>?_) fun _=>?_)
 ·rename_i hi
  have hi:i<l.length:=by omega
  refine ⟨l.getD i default,?_,⟨h2 _ (getD_mem' hi)⟩,?_⟩
  ·exact wq
  dsimp only [enPl,plC]
  repeat' (first|refine vz ?_|(conv=>whnf); first|with_reducible first|refine Sp.mk ?_ ?_|refine br_d (fun _=>?_) fun _=>?_|refine vM (fun _=>?_) fun _=>?_)
  refine ⟨i+1,by omega,by omega,⟨⟨[some 0],[],rfl,rfl,?_,?_⟩⟩⟩
  ·exact wq
  ·repeat' ((conv=>whnf); first|with_reducible exact True.intro|exact vW|with_reducible refine And.intro ?_ ?_)
   exact Chk.mk ⟨rfl,fun j _=>by rw [cpG_step,Nat.zero_add,Int.toNat_natCast,cpG_at]; rfl⟩
 ·have he:=cpG_end (enc:=plC) (d:=default) (z:=[.int .i64 0,.nils,.nils]) (l:=l) (i:=i) (by omega)
  refine ⟨_,?_,h⟩
  repeat' ((conv=>whnf); first|with_reducible exact True.intro|exact vW|with_reducible refine And.intro ?_ ?_)
def okDe (d:Desk):Prop:=okPl d.now∧okPs d.past
/-! ### Comparisons: what is the same is found to be the same -/
def C156:List AV→(AV→Prop)→Prop:=con (X:=List ByteArray) (fun l=>[slS l,slS l]) (fun l=>l.length<9223372036854775808) fun _ K=>K (.bool true)
theorem F156:FF 19 C156:=by
 refine fitE [] (by simp) Tryz.f19 ⟨rfl,by decide +kernel,by decide +kernel⟩ (fun _ _ _ hk h=>hk _ h) ?_
 rintro l K h1 h
 refine ⟨Nat.le_of_ble_eq_true rfl,?_⟩
 repeat' (first|refine vz ?_|(conv=>whnf); first|with_reducible first|refine Sp.mk ?_ ?_|refine br_d (fun _=>?_) fun _=>?_|refine vM (fun _=>?_) fun _=>?_)
 refine Lp.mk ⟨Nat,fun i=>[(0,slS l),(1,slS l),(5,.int .i64 i)],fun i=>[],fun i=>i≤l.length,fun i=>l.length-i,⟨0,Nat.zero_le _,⟨⟨[],[],rfl,rfl,?_,?_⟩⟩⟩,?_⟩
 ·exact wq
 ·exact wq
 intro i i1
 dsimp only
 repeat' (first|refine vz ?_|(conv=>whnf); first|with_reducible first|refine Sp.mk ?_ ?_|refine br_d (fun _=>?_) fun _=>?_|refine vM (fun _=>?_) fun _=>?_)
 ·refine Dr.mk ⟨(.rd 0 (.rd 1 (.rd 2 (.rd 3 (.rd 4 (.rd 5 (.rd 6 (.rd 7 (.rd 8 .dn))))))))),by decide +kernel,?_⟩
  repeat' (first|refine vz ?_|(conv=>whnf); first|with_reducible first|refine Sp.mk ?_ ?_|refine br_d (fun _=>?_) fun _=>?_|refine vM (fun _=>?_) fun _=>?_)
  ·refine ⟨i+1,by omega,by omega,⟨⟨[],[],rfl,rfl,?_,?_⟩⟩⟩
   ·exact wq
   ·exact wq
  ·rename_i hne
   exact absurd rfl hne
 ·exact h
def lenI (x:Place):Prop:=x.bs.length≤1048576∧x.rules.length<9223372036854775808
def C130:List AV→(AV→Prop)→Prop:=con (X:=Place) (fun x=>[enPl x,enPl x]) lenI fun _ K=>K (.bool true)
theorem F130:FF 50 C130:=by
 refine fitE [(94,C16),(19,C156)] (by simp only [List.mem_cons,List.not_mem_nil,or_false]; rintro _ (rfl|rfl) <;> first|exact F16|exact F156) Tryz.f50 ⟨rfl,by decide +kernel,by decide +kernel⟩ (fun _ _ _ hk h=>hk _ h) ?_
 rintro ⟨p,bs,rs⟩ K ⟨h1,h2⟩ h
 refine ⟨Nat.le_of_ble_eq_true rfl,?_⟩
 dsimp only [enPl,plC] at h1 h2 h ⊢
 repeat' (first|refine vz ?_|(conv=>whnf); first|with_reducible first|refine Sp.mk ?_ ?_|refine br_d (fun _=>?_) fun _=>?_|refine vM (fun _=>?_) fun _=>?_)
 refine ⟨⟨p,bs⟩,?_,⟨h1⟩,?_⟩
 ·exact wq
 repeat' (first|refine vz ?_|(conv=>whnf); first|with_reducible first|refine Sp.mk ?_ ?_|refine br_d (fun _=>?_) fun _=>?_|refine vM (fun _=>?_) fun _=>?_)
 refine ⟨rs,?_,⟨h2⟩,?_⟩
 ·exact wq
 repeat' (first|refine vz ?_|(conv=>whnf); first|with_reducible first|refine Sp.mk ?_ ?_|refine br_d (fun _=>?_) fun _=>?_|refine vM (fun _=>?_) fun _=>?_)
 exact h
def lensI (l:List Place):Prop:=l.length<9223372036854775808∧∀ x∈l,lenI x
def C164:List AV→(AV→Prop)→Prop:=con (X:=List Place) (fun l=>[slP l,slP l]) lensI fun _ K=>K (.bool true)
theorem F164:FF 51 C164:=by
 refine fitE [(50,C130)] (by simp only [List.mem_cons,List.not_mem_nil,or_false]; rintro _ rfl <;> first|exact F130) Tryz.f51 ⟨rfl,by decide +kernel,by decide +kernel⟩ (fun _ _ _ hk h=>hk _ h) ?_
 rintro l K ⟨h1,h2⟩ h
 refine ⟨Nat.le_of_ble_eq_true rfl,?_⟩
 repeat' (first|refine vz ?_|(conv=>whnf); first|with_reducible first|refine Sp.mk ?_ ?_|refine br_d (fun _=>?_) fun _=>?_|refine vM (fun _=>?_) fun _=>?_)
 refine Lp.mk ⟨Nat,fun i=>[(0,slP l),(1,slP l),(5,.int .i64 i)],fun i=>[],fun i=>i≤l.length,fun i=>l.length-i,⟨0,Nat.zero_le _,⟨⟨[],[],rfl,rfl,?_,?_⟩⟩⟩,?_⟩
 ·exact wq
 ·exact wq
 intro i i1
 dsimp only
 repeat' (first|refine vz ?_|(conv=>whnf); first|with_reducible first|refine Sp.mk ?_ ?_|refine br_d (fun _=>?_) fun _=>?_|refine vM (fun _=>?_) fun _=>?_)
 ·rename_i hi
  have hi:i<l.length:=by omega
  refine Dr.mk ⟨(.rd 0 (.rd 1 (.rd 2 (.rd 3 (.rd 4 (.rd 5 (.rd 6 (.rd 7 (.ef 8 (.rd 9 .dn) .no))))))))),by decide +kernel,?_⟩
  repeat' (first|refine vz ?_|(conv=>whnf); first|with_reducible first|refine Sp.mk ?_ ?_|refine br_d (fun _=>?_) fun _=>?_|refine vM (fun _=>?_) fun _=>?_)
  refine ⟨l.getD i default,?_,⟨h2 _ (getD_mem' hi)⟩,?_⟩
  ·exact wq
  repeat' (first|refine vz ?_|(conv=>whnf); first|with_reducible first|refine Sp.mk ?_ ?_|refine br_d (fun _=>?_) fun _=>?_|refine vM (fun _=>?_) fun _=>?_)
  refine ⟨i+1,by omega,by omega,⟨⟨[],[],rfl,rfl,?_,?_⟩⟩⟩
  ·exact wq
  ·exact wq
 ·exact h
def lenD (d:Desk):Prop:=lenI d.now∧lensI d.past
def C141:List AV→(AV→Prop)→Prop:=con (X:=Desk) (fun d=>[enDe d,enDe d]) lenD fun _ K=>K (.bool true)
theorem F141:FF 12 C141:=by
 refine fitE [(50,C130),(51,C164)] (by simp only [List.mem_cons,List.not_mem_nil,or_false]; rintro _ (rfl|rfl) <;> first|exact F130|exact F164) Tryz.f12 ⟨rfl,by decide +kernel,by decide +kernel⟩ (fun _ _ _ hk h=>hk _ h) ?_
 rintro ⟨⟨p,bs,rs⟩,l⟩ K ⟨h1,h2⟩ h
 refine ⟨Nat.le_of_ble_eq_true rfl,?_⟩
 dsimp only [enDe,deC] at h1 h2 h ⊢
 repeat' (first|refine vz ?_|(conv=>whnf); first|with_reducible first|refine Sp.mk ?_ ?_|refine br_d (fun _=>?_) fun _=>?_|refine vM (fun _=>?_) fun _=>?_)
 refine ⟨⟨p,bs,rs⟩,?_,⟨h1⟩,?_⟩
 ·exact wq
 repeat' (first|refine vz ?_|(conv=>whnf); first|with_reducible first|refine Sp.mk ?_ ?_|refine br_d (fun _=>?_) fun _=>?_|refine vM (fun _=>?_) fun _=>?_)
 refine ⟨l,?_,⟨h2⟩,?_⟩
 ·exact wq
 repeat' (first|refine vz ?_|(conv=>whnf); first|with_reducible first|refine Sp.mk ?_ ?_|refine br_d (fun _=>?_) fun _=>?_|refine vM (fun _=>?_) fun _=>?_)
 exact h
end Go.Proofs.YtgdbhjmpkkbnnaaGreatDoor.Vc
end
section
/- Part TJ: laws on places, desks and new stores. -/
namespace Go.Proofs.YtgdbhjmpkkbnnaaGreatDoor.Vc
open Go.Proofs
set_option maxRecDepth 10000
set_option maxHeartbeats 4000000
/-! ### Stores -/
structure Store where
 saved:ByteArray
 log:ByteArray
 sure:Int
 deriving Inhabited,DecidableEq
def stC (s:Store):List AV:=[.str s.saved,.str s.log,.int .i64 s.sure]
def enSt (s:Store):AV:=.agg (stC s)
end Go.Proofs.YtgdbhjmpkkbnnaaGreatDoor.Vc
end
section
/- Part OQ: stores, deeds and texts that come in, opened. -/
namespace Go.Proofs.YtgdbhjmpkkbnnaaGreatDoor.Vc
open Go.Proofs Go.ChangeShapes Go.WideShapes Go.ChangeAt Go.RowKit
section
variable (P:Program)
def IsStore (t:TypeId):Prop:=P.cellsOf t=3∧∃ f0 f1 f2,P.underlying t=some (.struct #[f0,f1,f2])∧f0.offset=0∧f1.offset=1∧f2.offset=2∧P.underlying f0.type=some .string∧P.underlying f1.type=some .string∧P.underlying f2.type=some (.int .i64)∧P.cellsOf f0.type=1∧P.cellsOf f1.type=1∧P.cellsOf f2.type=1
end
section
variable {H:Type} {enc:TypeId × Value→H} {P:Program} {w:World} {spare:Nat→Bool} {held:Bool}
theorem op_store {t:TypeId} {v:Value} {d:DataW H} {ps:List MemPlace} {r:Reach} {b0:Nat} (hT:IsStore P t) (hv:Value.okWide P w r b0 t v) (h:DataW.Trod enc P w 0 spare held t v d ps) :
  ∃ x:Store,PV (Rw0 w) w (enSt x) v∧(x.saved.size<9223372036854775808∧x.log.size<9223372036854775808∧i64r x.sure):=by
 obtain ⟨ce,f0,f1,f2,ht,o0,o1,o2,k0,k1,k2,c0,c1,c2⟩:=hT
 obtain ⟨cs,rfl,hcs⟩:=okWide_struct ht hv
 obtain ⟨fuel,hf⟩:=h
 obtain ⟨y0,y1,y2,n,_,hl,g0,g1,g2⟩:=Go.Deep.trod_struct3 ht hf
 have e0:(Value.agg cs).cells.toList=cs.toList:=rfl
 rw [e0] at g0 g1 g2 hl
 rw [ce] at hl
 obtain ⟨cs⟩:=cs
 match cs,hl with
 |[v0,v1,v2],_ =>
  simp [o0,o1,o2,c0,c1,c2] at g0 g1 g2
  obtain ⟨s,e4,_,w3⟩:=DataW.trod_string k0 g0
  obtain ⟨l,e5,_,w4⟩:=DataW.trod_string k1 g1
  obtain ⟨k,e1,_,w0⟩:=DataW.trod_int k2 g2
  simp only [List.cons.injEq,and_true] at e1 e4 e5
  subst e1; subst e4; subst e5
  have:maxLen=9223372036854775807:=rfl
  refine ⟨⟨s,l,k⟩,.agg _ _ rfl fun j hj=>?_,by show s.size<_; omega,by show l.size<_; omega,i64_wf w0⟩
  match j,hj with
  |0,_=>exact .data (.str _)
  |1,_=>exact .data (.str _)
  |2,_=>exact .data (.int _ _)
theorem op_str {t:TypeId} {v:Value} {d:DataW H} {ps:List MemPlace} {r:Reach} {b0:Nat} (ht:P.underlying t=some .string) (hv:Value.okWide P w r b0 t v) (h:DataW.Trod enc P w 0 spare held t v d ps):∃ s:ByteArray,v=.string s∧s.size<9223372036854775808:=by
 obtain ⟨s,rfl⟩:=okWide_string ht hv
 obtain ⟨fuel,hf⟩:=h
 obtain ⟨q,e1,_,w0⟩:=DataW.trod_string ht hf
 have e2:(Value.string s).cells.toList=[.string s]:=rfl
 rw [e2] at e1
 cases e1
 have:maxLen=9223372036854775807:=rfl
 exact ⟨s,rfl,by omega⟩
end
end Go.Proofs.YtgdbhjmpkkbnnaaGreatDoor.Vc
end
section
/- Part RP: what the rows of this seat ask of the program as a whole. -/
namespace Go.Proofs.YtgdbhjmpkkbnnaaGreatDoor.Vc
open Go.Proofs Go.ChangeShapes Go.WideShapes Go.ChangeAt Go.RowKit
open Go.Proofs.YtgdbhjmpkkbnnaaGreatDoor
set_option maxRecDepth 100000
theorem andT {a b:Bool} (ha:a=true) (hb:b=true):(a && b)=true:=by rw [ha,hb]; rfl
theorem pw2:laidOutB Tryz.checked.prog=true:=by kernel_rfl
theorem pw3:mapsRowed Tryz.checked.prog=true:=by kernel_rfl
theorem pw7:(Tryz.checked.prog.stops == [])=true:=by kernel_rfl
theorem pw9:(Tryz.checked.prog.stopKnobs == [])=true:=by kernel_rfl
theorem pw23:(Rows.fnExactDeskDoRow.plainKeys == Tryz.checked.prog.plainKeys)=true:=by kernel_rfl
theorem pw25:Tryz.checked.prog.stopsHeard=true:=by kernel_rfl
theorem pw26:Tryz.checked.prog.mayEnter=true:=by kernel_rfl
theorem pw27:(Rows.fnExactDeskDoRow.lifted == Tryz.checked.prog.liftsFinal)=true:=by kernel_rfl
theorem pw28:(Tryz.checked.prog.make == some Rows.fnExactDeskDoRow.make)=true:=by kernel_rfl
theorem pwL:Rows.fnExactDeskDoCard.stood.looks=Tryz.checked.prog.looks []:=by kernel_rfl
end Go.Proofs.YtgdbhjmpkkbnnaaGreatDoor.Vc
end
section
/- Part DB: the texts of deeds. -/
namespace Go.Proofs.YtgdbhjmpkkbnnaaGreatDoor.Vc
open Go.Proofs
set_option maxRecDepth 20000
structure Dd where
 kind:Int
 a:Int
 b:Int
 words:ByteArray
 deriving Inhabited,DecidableEq
def encD (d:Dd):List AV:=[.int .i64 d.kind,.int .i64 d.a,.int .i64 d.b,.str d.words]
abbrev ded (d:Dd):AV:=.agg (encD d)
def tx (l:List UInt8):ByteArray:=⟨l.toArray⟩
def plainW (s:ByteArray):Bool:=decide (¬ s=⟨#[]⟩) && !spc s
def deedT (d:Dd):ByteArray :=
 if d.a<0∨99<d.a∨d.b<0∨99<d.b then ⟨#[]⟩
 else if d.kind=0∧d.b=0∧d.words=⟨#[]⟩ then ⟨#[98,111,100,121,32]⟩ ++ num d.a
 else if d.kind=1∧d.a=0∧d.b=0∧plainW d.words=true then ⟨#[114,117,108,101,32]⟩ ++ d.words
 else if d.kind=2∧plainW d.words=true then ⟨#[97,109,101,110,100,32]⟩ ++ num d.a ++ ⟨#[32]⟩ ++ num d.b ++ ⟨#[32]⟩ ++ d.words
 else if d.kind=3∧d.words=⟨#[]⟩ then ⟨#[100,114,111,112,32]⟩ ++ num d.a ++ ⟨#[32]⟩ ++ num d.b
 else if d.kind=4∧d.a=0∧d.b=0∧d.words=⟨#[]⟩ then ⟨#[98,97,99,107]⟩
 else ⟨#[]⟩
theorem sz1:(⟨#[98,111,100,121,32]⟩:ByteArray).size=5:=rfl
theorem sz2:(⟨#[114,117,108,101,32]⟩:ByteArray).size=5:=rfl
theorem sz3:(⟨#[97,109,101,110,100,32]⟩:ByteArray).size=6:=rfl
theorem sz4:(⟨#[100,114,111,112,32]⟩:ByteArray).size=5:=rfl
theorem sz5:(⟨#[32]⟩:ByteArray).size=1:=rfl
def C103:List AV→(AV→Prop)→Prop:=con (X:=Dd) (fun d=>[ded d]) (fun d=>d.words.size≤1048576) fun d K=>K (.str (deedT d))
set_option maxHeartbeats 4000000 in
theorem F103:FF 126 C103:=by
 refine fitE [(147,C101),(148,C102)] (by simp only [List.mem_cons,List.not_mem_nil,or_false]; rintro _ (rfl|rfl) <;> first|exact F101|exact F102) Tryz.f126 ⟨rfl,by decide +kernel,by decide +kernel⟩ (fun _ _ _ hk h=>hk _ h) ?_
 rintro ⟨k,a,b,w⟩ K h1 h
 refine ⟨Nat.le_of_ble_eq_true rfl,?_⟩
 dsimp only [ded,encD] at h1 h ⊢
 repeat' (first|refine vz ?_|(conv=>whnf); first|with_reducible first|refine Sp.mk ?_ ?_|refine br_d (fun _=>?_) fun _=>?_|refine vM (fun _=>?_) fun _=>?_)
 all_goals try ((unfold deedT plainW at h; repeat' (split at h)) <;> first|exact h|(exfalso; simp_all; done)|(exfalso; simp_all; omega))
 ·have na':=num_size (n:=a) (by omega) (by omega)
  refine ⟨a,?_,⟨by omega,by omega⟩,?_⟩
  ·exact wq
  repeat' ((conv=>whnf); first|refine ⟨Chk.mk (by have z1:=sz1; have z2:=sz2; have z3:=sz3; have z4:=sz4; have z5:=sz5; (repeat rw [ByteArray.size_append]); omega),?_⟩|refine vA ?_|with_reducible first|refine v8 ?_|refine Ch.l ?_|refine Sp.mk ?_ ?_|refine vS ?_|refine vR ?_|refine vB ?_|refine br_nt ?_|refine br_tt ?_|refine br_ff ?_|refine vP ?_|refine vQ ?_|refine vT ?_|refine vF ?_|refine br_and ?_|refine br_or ?_|refine br_d (fun _=>?_) fun _=>?_|refine vM (fun _=>?_) fun _=>?_)
  ((unfold deedT plainW at h; repeat' (split at h)) <;> first|exact h|(exfalso; simp_all; done)|(exfalso; simp_all; omega))
 ·have na':=num_size (n:=a) (by omega) (by omega)
  have nb':=num_size (n:=b) (by omega) (by omega)
  refine Dr.mk ⟨(.rd 0 (.rd 1 (.rd 5 (.rd 6 (.ef 2 (.rd 3 (.rd 4 (.ef 7 (.rd 8 (.rd 9 .dn)) .no))) .no))))),by decide +kernel,?_⟩
  repeat' ((conv=>whnf); first|refine ⟨Chk.mk (by have z1:=sz1; have z2:=sz2; have z3:=sz3; have z4:=sz4; have z5:=sz5; (repeat rw [ByteArray.size_append]); omega),?_⟩|refine vA ?_|with_reducible first|refine v8 ?_|refine Ch.l ?_|refine Sp.mk ?_ ?_|refine vS ?_|refine vR ?_|refine vB ?_|refine br_nt ?_|refine br_tt ?_|refine br_ff ?_|refine vP ?_|refine vQ ?_|refine vT ?_|refine vF ?_|refine br_and ?_|refine br_or ?_|refine br_d (fun _=>?_) fun _=>?_|refine vM (fun _=>?_) fun _=>?_)
  refine ⟨a,?_,⟨by omega,by omega⟩,?_⟩
  ·exact wq
  repeat' ((conv=>whnf); first|refine ⟨Chk.mk (by have z1:=sz1; have z2:=sz2; have z3:=sz3; have z4:=sz4; have z5:=sz5; (repeat rw [ByteArray.size_append]); omega),?_⟩|refine vA ?_|with_reducible first|refine v8 ?_|refine Ch.l ?_|refine Sp.mk ?_ ?_|refine vS ?_|refine vR ?_|refine vB ?_|refine br_nt ?_|refine br_tt ?_|refine br_ff ?_|refine vP ?_|refine vQ ?_|refine vT ?_|refine vF ?_|refine br_and ?_|refine br_or ?_|refine br_d (fun _=>?_) fun _=>?_|refine vM (fun _=>?_) fun _=>?_)
  refine ⟨b,?_,⟨by omega,by omega⟩,?_⟩
  ·exact wq
  repeat' ((conv=>whnf); first|refine ⟨Chk.mk (by have z1:=sz1; have z2:=sz2; have z3:=sz3; have z4:=sz4; have z5:=sz5; (repeat rw [ByteArray.size_append]); omega),?_⟩|refine vA ?_|with_reducible first|refine v8 ?_|refine Ch.l ?_|refine Sp.mk ?_ ?_|refine vS ?_|refine vR ?_|refine vB ?_|refine br_nt ?_|refine br_tt ?_|refine br_ff ?_|refine vP ?_|refine vQ ?_|refine vT ?_|refine vF ?_|refine br_and ?_|refine br_or ?_|refine br_d (fun _=>?_) fun _=>?_|refine vM (fun _=>?_) fun _=>?_)
  ((unfold deedT plainW at h; repeat' (split at h)) <;> first|exact h|(exfalso; simp_all; done)|(exfalso; simp_all; omega))
 ·refine ⟨w,?_,⟨by omega⟩,?_⟩
  ·exact wq
  cases hs:spc w
  ·repeat' (first|refine vz ?_|(conv=>whnf); first|with_reducible first|refine Sp.mk ?_ ?_|refine br_d (fun _=>?_) fun _=>?_|refine vM (fun _=>?_) fun _=>?_)
   all_goals try ((unfold deedT plainW at h; repeat' (split at h)) <;> first|exact h|(exfalso; simp_all; done)|(exfalso; simp_all; omega))
   ·repeat' ((conv=>whnf); first|refine ⟨Chk.mk (by have z1:=sz1; have z2:=sz2; have z3:=sz3; have z4:=sz4; have z5:=sz5; (repeat rw [ByteArray.size_append]); omega),?_⟩|refine vA ?_|with_reducible first|refine v8 ?_|refine Ch.l ?_|refine Sp.mk ?_ ?_|refine vS ?_|refine vR ?_|refine vB ?_|refine br_nt ?_|refine br_tt ?_|refine br_ff ?_|refine vP ?_|refine vQ ?_|refine vT ?_|refine vF ?_|refine br_and ?_|refine br_or ?_|refine br_d (fun _=>?_) fun _=>?_|refine vM (fun _=>?_) fun _=>?_)
    ((unfold deedT plainW at h; repeat' (split at h)) <;> first|exact h|(exfalso; simp_all; done)|(exfalso; simp_all; omega))
   ·have na':=num_size (n:=a) (by omega) (by omega)
    have nb':=num_size (n:=b) (by omega) (by omega)
    refine Dr.mk ⟨(.rd 0 (.rd 1 (.rd 5 (.rd 6 (.rd 10 (.rd 11 (.ef 2 (.rd 3 (.rd 4 (.ef 7 (.rd 8 (.rd 9 (.rd 12 (.rd 13 .dn)))) .no))) .no))))))),by decide +kernel,?_⟩
    repeat' ((conv=>whnf); first|refine ⟨Chk.mk (by have z1:=sz1; have z2:=sz2; have z3:=sz3; have z4:=sz4; have z5:=sz5; (repeat rw [ByteArray.size_append]); omega),?_⟩|refine vA ?_|with_reducible first|refine v8 ?_|refine Ch.l ?_|refine Sp.mk ?_ ?_|refine vS ?_|refine vR ?_|refine vB ?_|refine br_nt ?_|refine br_tt ?_|refine br_ff ?_|refine vP ?_|refine vQ ?_|refine vT ?_|refine vF ?_|refine br_and ?_|refine br_or ?_|refine br_d (fun _=>?_) fun _=>?_|refine vM (fun _=>?_) fun _=>?_)
    refine ⟨a,?_,⟨by omega,by omega⟩,?_⟩
    ·exact wq
    repeat' ((conv=>whnf); first|refine ⟨Chk.mk (by have z1:=sz1; have z2:=sz2; have z3:=sz3; have z4:=sz4; have z5:=sz5; (repeat rw [ByteArray.size_append]); omega),?_⟩|refine vA ?_|with_reducible first|refine v8 ?_|refine Ch.l ?_|refine Sp.mk ?_ ?_|refine vS ?_|refine vR ?_|refine vB ?_|refine br_nt ?_|refine br_tt ?_|refine br_ff ?_|refine vP ?_|refine vQ ?_|refine vT ?_|refine vF ?_|refine br_and ?_|refine br_or ?_|refine br_d (fun _=>?_) fun _=>?_|refine vM (fun _=>?_) fun _=>?_)
    refine ⟨b,?_,⟨by omega,by omega⟩,?_⟩
    ·exact wq
    repeat' ((conv=>whnf); first|refine ⟨Chk.mk (by have z1:=sz1; have z2:=sz2; have z3:=sz3; have z4:=sz4; have z5:=sz5; (repeat rw [ByteArray.size_append]); omega),?_⟩|refine vA ?_|with_reducible first|refine v8 ?_|refine Ch.l ?_|refine Sp.mk ?_ ?_|refine vS ?_|refine vR ?_|refine vB ?_|refine br_nt ?_|refine br_tt ?_|refine br_ff ?_|refine vP ?_|refine vQ ?_|refine vT ?_|refine vF ?_|refine br_and ?_|refine br_or ?_|refine br_d (fun _=>?_) fun _=>?_|refine vM (fun _=>?_) fun _=>?_)
    ((unfold deedT plainW at h; repeat' (split at h)) <;> first|exact h|(exfalso; simp_all; done)|(exfalso; simp_all; omega))
  ·repeat' (first|refine vz ?_|(conv=>whnf); first|with_reducible first|refine Sp.mk ?_ ?_|refine br_d (fun _=>?_) fun _=>?_|refine vM (fun _=>?_) fun _=>?_)
   all_goals ((unfold deedT plainW at h; repeat' (split at h)) <;> first|exact h|(exfalso; simp_all; done)|(exfalso; simp_all; omega))
end Go.Proofs.YtgdbhjmpkkbnnaaGreatDoor.Vc
end
section
/- Part TM: what a deed makes of a place, by the reference. -/
namespace Go.Proofs.YtgdbhjmpkkbnnaaGreatDoor.Vc
open Go.Proofs
set_option maxRecDepth 10000
set_option maxHeartbeats 4000000
structure Hc where
 h:House
 t:List Mark
 c:Int
def consB (x:Hc):Bool:=decide (termOk x.h x.t) && (decide (crowd x.h.p x.c) && says x.h.bs x.c x.t)
def C209:List AV→(AV→Prop)→Prop:=con (X:=Hc) (fun x=>[enH x.h,slM x.t,.int .i64 x.c]) (fun x=>termI x.h x.t∧i64r x.c) fun x K=>K (.bool (consB x))
theorem sayOk_of' {p:Int} {bs:List Int} {t:List Mark} (h:termOk ⟨p,bs⟩ t) {c:Int} (hc:crowd p c):sayOk ⟨p,bs,t,c⟩:=by
 have pw2:=(pw_le hc.1).2
 have hl:=h.2.1
 have hcl:=hc.2
 exact ⟨by show t.length<4611686018427387904; omega,h.2.2,fun b hb=>by have g:crowd p b:=(h.1.2.2 b hb).1; have:=g.2; omega,hcl.1,by show c<64; omega⟩
theorem F209:FF 85 C209:=by
 refine fitE [(108,C33),(114,C62),(111,C36)] (by simp only [List.mem_cons,List.not_mem_nil,or_false]; rintro _ (rfl|rfl|rfl) <;> first|exact F33|exact F62|exact F36) Tryz.f85 ⟨rfl,by decide +kernel,by decide +kernel⟩ (fun _ _ _ hk h=>hk _ h) ?_
 rintro ⟨⟨p,bs⟩,t,c⟩ K ⟨hI,hc⟩ h
 refine ⟨Nat.le_of_ble_eq_true rfl,?_⟩
 have hp:=hI.1.1
 unfold consB at h
 dsimp only [enH] at h hc hp ⊢
 repeat' (first|refine vz ?_|(conv=>whnf); first|with_reducible first|refine Sp.mk ?_ ?_|refine br_d (fun _=>?_) fun _=>?_|refine vM (fun _=>?_) fun _=>?_)
 refine ⟨(⟨p,bs⟩,t),?_,⟨hI⟩,?_⟩
 ·exact wq
 repeat' (first|refine vz ?_|(conv=>whnf); first|with_reducible first|refine Sp.mk ?_ ?_|refine br_d (fun _=>?_) fun _=>?_|refine vM (fun _=>?_) fun _=>?_)
 ·rename_i hO
  have hO':termOk ⟨p,bs⟩ t:=hO
  rw [decide_eq_true hO',Bool.true_and] at h
  refine ⟨(p,c),?_,⟨hp,hc⟩,?_⟩
  ·exact wq
  repeat' (first|refine vz ?_|(conv=>whnf); first|with_reducible first|refine Sp.mk ?_ ?_|refine br_d (fun _=>?_) fun _=>?_|refine vM (fun _=>?_) fun _=>?_)
  ·rename_i hcr
   have hcr':crowd p c:=hcr
   rw [decide_eq_true hcr',Bool.true_and] at h
   refine ⟨⟨p,bs,t,c⟩,?_,⟨sayOk_of' hO' hcr'⟩,?_⟩
   ·exact wq
   repeat' (first|refine vz ?_|(conv=>whnf); first|with_reducible first|refine Sp.mk ?_ ?_|refine br_d (fun _=>?_) fun _=>?_|refine vM (fun _=>?_) fun _=>?_)
   exact h
  ·rename_i hcr
   have hcr':¬ crowd p c:=hcr
   rw [decide_eq_false hcr',Bool.false_and] at h
   exact h
 ·rename_i hO
  have hO':¬ termOk ⟨p,bs⟩ t:=hO
  rw [decide_eq_false hO',Bool.false_and] at h
  exact h
def consR (x:Place) (r c:Int):Bool:=if 0≤r∧r<x.rules.length then (match rdT 49 x.h (x.rules.getD r.toNat ⟨#[]⟩) with
 |some t=>decide (crowd x.p c) && says x.bs c t
 |none=>false) else false
structure Pc where
 x:Place
 r:Int
 c:Int
def C206:List AV→(AV→Prop)→Prop:=con (X:=Pc) (fun x=>[enPl x.x,.int .i64 x.r,.int .i64 x.c]) (fun x=>placeI x.x∧i64r x.r∧i64r x.c) fun x K=>K (.bool (consR x.x x.r x.c))
theorem rdT_termI {h:House} (hI:houI h) {s:ByteArray} {t:List Mark} (e:rdT 49 h s=some t):termI h t∧termOk h t:=by
 obtain ⟨g1,g2,g3⟩:=(rdT_iff (by decide)).1 e
 have hs:=(read_tr (lo:=49) (bodies_of g2.1) (by decide) (Tr.of g2.2.2)).2 80 (by rw [g3]; exact g1) [] (by simp)
 rw [List.append_nil] at hs
 have hs':eitherP (partF 49 80) (bys (textT t))=some (t,[]):=by rw [hs]; rfl
 have hm:=eitherP_sane (by decide) 80 _ _ _ hs'
 have hl:=g2.2.1
 exact ⟨⟨hI.1,hI.2,hm,by omega⟩,g2⟩
theorem F206:FF 100 C206:=by
 refine fitE [(74,C35),(101,C153),(85,C209)] (by simp only [List.mem_cons,List.not_mem_nil,or_false]; rintro _ (rfl|rfl|rfl) <;> first|exact F35|exact F153|exact F209) Tryz.f100 ⟨rfl,by decide +kernel,by decide +kernel⟩ (fun _ _ _ hk h=>hk _ h) ?_
 rintro ⟨⟨p,bs,rs⟩,r,c⟩ K ⟨hI,hr,hc⟩ h
 refine ⟨Nat.le_of_ble_eq_true rfl,?_⟩
 have hI1:=hI.1
 have hI2:=hI.2.1
 have hI3:=hI.2.2
 unfold consR at h
 dsimp only [enPl,plC] at h hr hc hI2 hI3 ⊢
 repeat' (first|refine vz ?_|(conv=>whnf); first|with_reducible first|refine Sp.mk ?_ ?_|refine br_d (fun _=>?_) fun _=>?_|refine vM (fun _=>?_) fun _=>?_)
 refine ⟨(r,0,rs.length-1),?_,⟨trivial⟩,?_⟩
 ·exact wq
 dsimp only
 repeat' (first|refine vz ?_|(conv=>whnf); first|with_reducible first|refine Sp.mk ?_ ?_|refine br_d (fun _=>?_) fun _=>?_|refine vM (fun _=>?_) fun _=>?_)
 ·rename_i g
  rw [if_pos (by omega)] at h
  have hr2:r.toNat<rs.length:=by omega
  refine Dr.mk ⟨(.rd 0 (.rd 1 (.rd 2 (.rd 3 (.rd 4 (.rd 5 (.rd 6 (.ef 7 (.rd 8 (.rd 9 (.rd 10 (.rd 11 (.rd 12 .dn))))) .no)))))))),by decide +kernel,?_⟩
  repeat' (first|refine vz ?_|(conv=>whnf); first|with_reducible first|refine Sp.mk ?_ ?_|refine br_d (fun _=>?_) fun _=>?_|refine vM (fun _=>?_) fun _=>?_)
  refine ⟨⟨⟨p,bs⟩,rs.getD r.toNat ⟨#[]⟩⟩,?_,⟨hI1,getD_len hI3 hr2⟩,?_⟩
  ·exact wq
  refine And.intro (fun e=>?_) (fun t e=>?_)
  ·have e':rdT 49 (Place.h ⟨p,bs,rs⟩) (rs.getD r.toNat ⟨#[]⟩)=none:=by rw [← rdT_eq]; exact e
   rw [e'] at h
   repeat' (first|refine vz ?_|(conv=>whnf); first|with_reducible first|refine Sp.mk ?_ ?_|refine br_d (fun _=>?_) fun _=>?_|refine vM (fun _=>?_) fun _=>?_)
   refine ⟨⟨⟨p,bs⟩,[],c⟩,?_,⟨⟨hI1.1,hI1.2,by simp,by simp⟩,hc⟩,?_⟩
   ·exact wq
   have hno:consB ⟨⟨p,bs⟩,[],c⟩=false:=by
    unfold consB
    rw [decide_eq_false (fun q=>by have:=q.2.2; simp [walkP] at this)]
    rfl
   dsimp only
   rw [hno]
   repeat' (first|refine vz ?_|(conv=>whnf); first|with_reducible first|refine Sp.mk ?_ ?_|refine br_d (fun _=>?_) fun _=>?_|refine vM (fun _=>?_) fun _=>?_)
   exact h
  ·have e':rdT 49 (Place.h ⟨p,bs,rs⟩) (rs.getD r.toNat ⟨#[]⟩)=some t:=by rw [← rdT_eq]; exact e
   rw [e'] at h
   obtain ⟨ht,hO⟩:=rdT_termI hI1 e'
   repeat' (first|refine vz ?_|(conv=>whnf); first|with_reducible first|refine Sp.mk ?_ ?_|refine br_d (fun _=>?_) fun _=>?_|refine vM (fun _=>?_) fun _=>?_)
   refine ⟨⟨⟨p,bs⟩,t,c⟩,?_,⟨ht,hc⟩,?_⟩
   ·exact wq
   have hyes:consB ⟨⟨p,bs⟩,t,c⟩=(decide (crowd p c) && says bs c t):=by
    unfold consB
    rw [decide_eq_true (show termOk ⟨p,bs⟩ t from hO),Bool.true_and]
   dsimp only
   rw [hyes]
   repeat' (first|refine vz ?_|(conv=>whnf); first|with_reducible first|refine Sp.mk ?_ ?_|refine br_d (fun _=>?_) fun _=>?_|refine vM (fun _=>?_) fun _=>?_)
   exact h
 ·rename_i g
  rw [if_neg (by omega)] at h
  exact h
/-! ### Copies with memory of their own -/
def plG (x:Place):AV:=.agg [.int .i64 x.p,.row 0 1 0 x.bs.length,.row 1 1 0 x.rules.length]
def plO (x:Place):List Obj:=[.row 1 x.bs.length fun i=>encI (x.bs.getD i 0),.row 1 x.rules.length fun i=>encS (x.rules.getD i ⟨#[]⟩)]
def C158g:GC:=conG (X:=Place) (fun x=>[enPl x]) (fun _=>[]) (fun x=>x.rules.length≤100000000∧x.bs.length≤100000000) fun x K=>K (plG x) (plO x)
theorem F158g:GG 70 C158g:=by
 refine fitG [] (by simp) [] (by simp) Tryz.f70 ⟨rfl,by decide +kernel,by decide +kernel⟩ (by intro x K K2 hk h; (try dsimp only at h ⊢); intros; apply hk; first|exact h|(apply h <;> assumption)) ?_
 rintro ⟨p,bs,rs⟩ K ⟨h1,h2⟩ h
 refine ⟨Nat.le_of_ble_eq_true rfl,?_⟩
 unfold plG plO at h
 dsimp only [enPl,plC] at h h1 h2 ⊢
 repeat' (first|refine vz ?_|(conv=>whnf); first|with_reducible first|refine Sp.mk ?_ ?_|refine br_d (fun _=>?_) fun _=>?_|refine vM (fun _=>?_) fun _=>?_)
 refine Dr.mk ⟨(.rd 0 (.rd 1 (.rd 2 (.rd 4 (.rd 5 (.rd 6 (.rd 10 (.rd 11 (.ef 3 (.ef 7 (.rd 8 (.ef 9 (.ef 12 (.rd 13 (.ef 14 .dn .no)) .no) .no)) (.ef 9 (.ef 7 (.rd 8 (.ef 12 (.rd 13 (.ef 14 .dn .no)) .no)) .no) .no)) (.ef 9 (.ef 3 (.ef 7 (.rd 8 (.ef 12 (.rd 13 (.ef 14 .dn .no)) .no)) .no) .no) .no)))))))))),by decide +kernel,?_⟩
 repeat' (first|refine vz ?_|(conv=>whnf); first|with_reducible first|refine Sp.mk ?_ ?_|refine br_d (fun _=>?_) fun _=>?_|refine vM (fun _=>?_) fun _=>?_)
 all_goals
  first
  |(refine ⟨_,_,[some 2,some 3],[],rfl,rfl,?_,?_,h⟩ <;> (repeat' ((conv=>whnf); first|with_reducible exact True.intro|exact vW|with_reducible refine And.intro ?_ ?_)) <;> fail)
  |(refine ⟨_,_,[some 3,some 2],[],rfl,rfl,?_,?_,h⟩ <;> (repeat' ((conv=>whnf); first|with_reducible exact True.intro|exact vW|with_reducible refine And.intro ?_ ?_)) <;> fail)
def C157g:=C158g
theorem F157g:GG 99 C157g:=by
 refine fitG [] (by simp) [] (by simp) Tryz.f99 ⟨rfl,by decide +kernel,by decide +kernel⟩ (by intro x K K2 hk h; (try dsimp only at h ⊢); intros; apply hk; first|exact h|(apply h <;> assumption)) ?_
 rintro ⟨p,bs,rs⟩ K ⟨h1,h2⟩ h
 refine ⟨Nat.le_of_ble_eq_true rfl,?_⟩
 unfold plG plO at h
 dsimp only [enPl,plC] at h h1 h2 ⊢
 repeat' (first|refine vz ?_|(conv=>whnf); first|with_reducible first|refine Sp.mk ?_ ?_|refine br_d (fun _=>?_) fun _=>?_|refine vM (fun _=>?_) fun _=>?_)
 refine Dr.mk ⟨(.rd 0 (.rd 1 (.rd 2 (.rd 4 (.rd 5 (.rd 6 (.rd 10 (.rd 11 (.ef 3 (.ef 7 (.rd 8 (.ef 9 (.ef 12 (.rd 13 (.ef 14 .dn .no)) .no) .no)) (.ef 9 (.ef 7 (.rd 8 (.ef 12 (.rd 13 (.ef 14 .dn .no)) .no)) .no) .no)) (.ef 9 (.ef 3 (.ef 7 (.rd 8 (.ef 12 (.rd 13 (.ef 14 .dn .no)) .no)) .no) .no) .no)))))))))),by decide +kernel,?_⟩
 repeat' (first|refine vz ?_|(conv=>whnf); first|with_reducible first|refine Sp.mk ?_ ?_|refine br_d (fun _=>?_) fun _=>?_|refine vM (fun _=>?_) fun _=>?_)
 all_goals
  first
  |(refine ⟨_,_,[some 2,some 3],[],rfl,rfl,?_,?_,h⟩ <;> (repeat' ((conv=>whnf); first|with_reducible exact True.intro|exact vW|with_reducible refine And.intro ?_ ?_)) <;> fail)
  |(refine ⟨_,_,[some 3,some 2],[],rfl,rfl,?_,?_,h⟩ <;> (repeat' ((conv=>whnf); first|with_reducible exact True.intro|exact vW|with_reducible refine And.intro ?_ ?_)) <;> fail)
theorem ext_sym {α:Type} {enc:α→List AV} {d:α} {l:List α} {n:Nat} {g:Nat→List AV} (h:l.length=n∧∀ j,j<l.length→enc (l.getD j d)=g j):n=l.length∧∀ j,j<n→g (0+j)=enc (l.getD j d):=⟨h.1.symm,fun j hj=>by rw [Nat.zero_add]; exact (h.2 j (by rw [h.1]; exact hj)).symm⟩
theorem consR_in {x:Place} {r c:Int} (h:consR x r c=true):(0≤r∧r<x.rules.length)∧r.toNat<x.rules.length:=by
 unfold consR at h
 split at h
 ·rename_i g
  exact ⟨g,by omega⟩
 ·cases h
theorem ext_set {l:List ByteArray} {x:ByteArray} {n:Nat} (h:n<l.length):l.length=(l.set n x).length∧∀ i,i<l.length→setF (fun j=>encS (l.getD j ⟨#[]⟩)) (0+n) (encS x) (0+i)=encS ((l.set n x).getD i ⟨#[]⟩):=by
 refine ⟨by rw [List.length_set],fun i hi=>?_⟩
 rw [Nat.zero_add,Nat.zero_add,List.getD_eq_getElem?_getD,List.getElem?_set]
 unfold setF
 cases hb:Nat.beq i n with
 |true =>
  obtain rfl:=Nat.eq_of_beq_eq_true hb
  rw [if_pos rfl,if_pos h]
  rfl
 |false =>
  have:=Nat.ne_of_beq_eq_false hb
  rw [if_neg (fun e=>this e.symm),← List.getD_eq_getElem?_getD]
  rfl
theorem ext_cut {l:List ByteArray} {n:Nat} (h:n<l.length):n+(l.length-(n+1))=(l.take n ++ l.drop (n+1)).length∧∀ i,i<n+(l.length-(n+1))→appF n (fun j=>encS (l.getD j ⟨#[]⟩)) (fun j=>encS (l.getD (n+1+j) ⟨#[]⟩)) (0+i)=encS ((l.take n ++ l.drop (n+1)).getD i ⟨#[]⟩):=by
 have:=ext_app (enc:=encS) (d:=⟨#[]⟩) (l:=l) (m:=l.drop (n+1)) (n:=n) (g:=fun j=>encS (l.getD (n+1+j) ⟨#[]⟩)) (by omega) fun j hj=>by
  rw [List.getD_eq_getElem?_getD,List.getD_eq_getElem?_getD,List.getElem?_drop]
 rw [List.length_drop] at this
 exact ext_sym this
def madeP (x:Place) (a:Dd):Place :=
 if a.kind=0∧a.b=0∧a.words=⟨#[]⟩ then ⟨x.p,x.bs ++ [a.a],x.rules⟩
 else if a.kind=1∧a.a=0∧a.b=0 then ⟨x.p,x.bs,x.rules ++ [a.words]⟩
 else if a.kind=2∧consR x a.a a.b=true then ⟨x.p,x.bs,x.rules.set a.a.toNat a.words⟩
 else if a.kind=3∧a.words=⟨#[]⟩∧consR x a.a a.b=true then ⟨x.p,x.bs,x.rules.take a.a.toNat ++ x.rules.drop (a.a.toNat+1)⟩
 else default
section
variable {x:Place} {k a b:Int} {w:ByteArray}
theorem made_0n (h:k=0) (hn:¬ (b=0∧w=⟨#[]⟩)):madeP x ⟨k,a,b,w⟩=default:=by
 unfold madeP
 dsimp only
 rw [if_neg (fun q=>hn q.2),if_neg (by omega),if_neg (by omega),if_neg (by omega)]
theorem made_1n (h:k=1) (hn:¬ (a=0∧b=0)):madeP x ⟨k,a,b,w⟩=default:=by
 unfold madeP
 dsimp only
 rw [if_neg (by omega),if_neg (fun q=>hn q.2),if_neg (by omega),if_neg (by omega)]
theorem made_2n (h:k=2) (hn:consR x a b=false):madeP x ⟨k,a,b,w⟩=default:=by
 unfold madeP
 dsimp only
 rw [if_neg (by omega),if_neg (by omega),if_neg (fun q=>by rw [hn] at q; cases q.2),if_neg (by omega)]
theorem made_3n (h:k=3) (hn:¬ (w=⟨#[]⟩∧consR x a b=true)):madeP x ⟨k,a,b,w⟩=default:=by
 unfold madeP
 dsimp only
 rw [if_neg (by omega),if_neg (by omega),if_neg (by omega),if_neg (fun q=>hn q.2)]
theorem made_n (h0:¬ k=0) (h1:¬ k=1) (h2:¬ k=2) (h3:¬ k=3):madeP x ⟨k,a,b,w⟩=default:=by
 unfold madeP
 dsimp only
 rw [if_neg (by omega),if_neg (by omega),if_neg (by omega),if_neg (by omega)]
theorem made_0 (h:k=0) (h1:b=0) (h2:w=⟨#[]⟩):madeP x ⟨k,a,b,w⟩=⟨x.p,x.bs ++ [a],x.rules⟩:=if_pos ⟨h,h1,h2⟩
theorem made_1 (h:k=1) (h1:a=0) (h2:b=0):madeP x ⟨k,a,b,w⟩=⟨x.p,x.bs,x.rules ++ [w]⟩:=by
 unfold madeP
 dsimp only
 rw [if_neg (by omega),if_pos ⟨h,h1,h2⟩]
theorem made_2 (h:k=2) (h1:consR x a b=true):madeP x ⟨k,a,b,w⟩=⟨x.p,x.bs,x.rules.set a.toNat w⟩:=by
 unfold madeP
 dsimp only
 rw [if_neg (by omega),if_neg (by omega),if_pos ⟨h,h1⟩]
theorem made_3 (h:k=3) (h1:w=⟨#[]⟩) (h2:consR x a b=true):madeP x ⟨k,a,b,w⟩=⟨x.p,x.bs,x.rules.take a.toNat ++ x.rules.drop (a.toNat+1)⟩:=by
 unfold madeP
 dsimp only
 rw [if_neg (by omega),if_neg (by omega),if_neg (by omega),if_pos ⟨h,h1,h2⟩]
end
structure Pd where
 x:Place
 a:Dd
def shortP (x:Place):Prop:=x.rules.length≤100000000∧x.bs.length≤100000000
def dedI (a:Dd):Prop:=i64r a.kind∧i64r a.a∧i64r a.b∧a.words.size<9223372036854775808
def C199:List AV→(AV→Prop)→Prop:=con (X:=Pd) (fun x=>[enPl x.x,ded x.a]) (fun x=>placeI x.x∧shortP x.x∧dedI x.a) fun x K=>K (enPl (madeP x.x x.a))
theorem F199:FF 58 C199:=by
 refine fitXE [(100,C206)] (by simp only [List.mem_cons,List.not_mem_nil,or_false]; rintro _ rfl; exact F206) [(70,C158g)] (by simp only [List.mem_cons,List.not_mem_nil,or_false]; rintro _ rfl; exact F158g) Tryz.f58 ⟨rfl,by decide +kernel,by decide +kernel⟩ (fun _ _ _ hk h=>hk _ h) ?_
 rintro ⟨⟨p,bs,rs⟩,⟨k,a,b,w⟩⟩ K ⟨hI,hs,h1,h2,h3,h4⟩ h
 refine ⟨Nat.le_of_ble_eq_true rfl,?_⟩
 have hs1:=hs.1
 have hs2:=hs.2
 dsimp only [ded,encD,enPl,plC] at h1 h2 h3 h4 hs1 hs2 ⊢
 have x1:=ext_push (enc:=encI) (d:=0) (l:=bs) (x:=a) (g:=fun i=>(fun i=>[[AV.int .i64 a]].getD i [.int .i64 0]) (0+i)) rfl
 have x2:=ext_push (enc:=encS) (d:=⟨#[]⟩) (l:=rs) (x:=w) (g:=fun i=>(fun i=>[[AV.str w]].getD i [.str ⟨#[]⟩]) (0+i)) rfl
 have y1:=ext_sym x1
 have y2:=ext_sym x2
 repeat' (first|refine vz ?_|(conv=>whnf); first|with_reducible first|refine Sp.mk ?_ ?_|refine br_d (fun _=>?_) fun _=>?_|refine vM (fun _=>?_) fun _=>?_)
 refine ⟨_,_,[],[],rfl,?_,?_,⟨p,bs,rs⟩,rfl,rfl,⟨hs⟩,?_⟩
 ·exact wq
 ·exact wq
 dsimp only [plG,plO]
 repeat' (first|refine vz ?_|(conv=>whnf); first|with_reducible first|refine Sp.mk ?_ ?_|refine br_d (fun _=>?_) fun _=>?_|refine vM (fun _=>?_) fun _=>?_)
 ·have e:=made_0 (x:=⟨p,bs,rs⟩) (k:=k) (b:=b) (w:=w) (a:=a) (by assumption) (by assumption) (by assumption)
  replace h:K (enPl (madeP ⟨p,bs,rs⟩ ⟨k,a,b,w⟩)):=h
  rw [e] at h
  refine ⟨_,?_,h⟩
  repeat' ((conv=>whnf); first|with_reducible exact True.intro|exact vW|with_reducible refine And.intro ?_ ?_)
  all_goals first|exact Chk.mk ⟨rfl,fun i _=>by dsimp only; rw [Nat.zero_add]⟩|exact Chk.mk y1
 ·rename_i q1 q2 q3
  have e:=made_0n (x:=⟨p,bs,rs⟩) (a:=a) (b:=b) q1 fun q=>q3 q.2
  replace h:K (enPl (madeP ⟨p,bs,rs⟩ ⟨k,a,b,w⟩)):=h
  rw [e] at h
  refine ⟨_,?_,h⟩
  repeat' ((conv=>whnf); first|with_reducible exact True.intro|exact vW|with_reducible refine And.intro ?_ ?_)
 ·rename_i q1 q2
  have e:=made_0n (x:=⟨p,bs,rs⟩) (a:=a) (b:=b) (w:=w) q1 fun q=>q2 q.1
  replace h:K (enPl (madeP ⟨p,bs,rs⟩ ⟨k,a,b,w⟩)):=h
  rw [e] at h
  refine ⟨_,?_,h⟩
  repeat' ((conv=>whnf); first|with_reducible exact True.intro|exact vW|with_reducible refine And.intro ?_ ?_)
 ·rename_i q1 q2 q3 q4
  have e:=made_1 (x:=⟨p,bs,rs⟩) (w:=w) q1 q2 q3
  replace h:K (enPl (madeP ⟨p,bs,rs⟩ ⟨k,a,b,w⟩)):=h
  rw [e] at h
  refine ⟨_,?_,h⟩
  repeat' ((conv=>whnf); first|with_reducible exact True.intro|exact vW|with_reducible refine And.intro ?_ ?_)
  all_goals first|exact Chk.mk ⟨rfl,fun i _=>by dsimp only; rw [Nat.zero_add]⟩|exact Chk.mk y2
 ·rename_i hw
  exact absurd rfl hw
 ·rename_i q1 q2 q3
  have e:=made_1n (x:=⟨p,bs,rs⟩) (w:=w) (a:=a) (b:=b) q1 fun q=>q3 q.2
  replace h:K (enPl (madeP ⟨p,bs,rs⟩ ⟨k,a,b,w⟩)):=h
  rw [e] at h
  refine ⟨_,?_,h⟩
  repeat' ((conv=>whnf); first|with_reducible exact True.intro|exact vW|with_reducible refine And.intro ?_ ?_)
 ·rename_i q1 q2
  have e:=made_1n (x:=⟨p,bs,rs⟩) (w:=w) (a:=a) (b:=b) q1 fun q=>q2 q.1
  replace h:K (enPl (madeP ⟨p,bs,rs⟩ ⟨k,a,b,w⟩)):=h
  rw [e] at h
  refine ⟨_,?_,h⟩
  repeat' ((conv=>whnf); first|with_reducible exact True.intro|exact vW|with_reducible refine And.intro ?_ ?_)
 ·rename_i q1
  refine ⟨⟨⟨p,bs,rs⟩,a,b⟩,?_,⟨hI,h2,h3⟩,?_⟩
  ·exact wq
  dsimp only
  cases hc:consR ⟨p,bs,rs⟩ a b
  ·have e:=made_2n (x:=⟨p,bs,rs⟩) (w:=w) q1 hc
   repeat' (first|refine vz ?_|(conv=>whnf); first|with_reducible first|refine Sp.mk ?_ ?_|refine br_d (fun _=>?_) fun _=>?_|refine vM (fun _=>?_) fun _=>?_)
   replace h:K (enPl (madeP ⟨p,bs,rs⟩ ⟨k,a,b,w⟩)):=h
   rw [e] at h
   refine ⟨_,?_,h⟩
   repeat' ((conv=>whnf); first|with_reducible exact True.intro|exact vW|with_reducible refine And.intro ?_ ?_)
  ·have hr:=consR_in hc
   dsimp only at hr
   have y3:=ext_set (x:=w) hr.2
   have e:=made_2 (x:=⟨p,bs,rs⟩) (w:=w) q1 hc
   repeat' (first|refine vz ?_|(conv=>whnf); first|with_reducible first|refine Sp.mk ?_ ?_|refine br_d (fun _=>?_) fun _=>?_|refine vM (fun _=>?_) fun _=>?_)
   replace h:K (enPl (madeP ⟨p,bs,rs⟩ ⟨k,a,b,w⟩)):=h
   rw [e] at h
   refine ⟨_,?_,h⟩
   repeat' ((conv=>whnf); first|with_reducible exact True.intro|exact vW|with_reducible refine And.intro ?_ ?_)
   all_goals first|exact Chk.mk ⟨rfl,fun i _=>by dsimp only; rw [Nat.zero_add]⟩|exact Chk.mk y3
 ·rename_i q1 q2
  refine ⟨⟨⟨p,bs,rs⟩,a,b⟩,?_,⟨hI,h2,h3⟩,?_⟩
  ·exact wq
  dsimp only
  cases hc:consR ⟨p,bs,rs⟩ a b
  ·have e:=made_3n (x:=⟨p,bs,rs⟩) (w:=w) (a:=a) (b:=b) q1 fun q=>by rw [hc] at q; cases q.2
   repeat' (first|refine vz ?_|(conv=>whnf); first|with_reducible first|refine Sp.mk ?_ ?_|refine br_d (fun _=>?_) fun _=>?_|refine vM (fun _=>?_) fun _=>?_)
   replace h:K (enPl (madeP ⟨p,bs,rs⟩ ⟨k,a,b,w⟩)):=h
   rw [e] at h
   refine ⟨_,?_,h⟩
   repeat' ((conv=>whnf); first|with_reducible exact True.intro|exact vW|with_reducible refine And.intro ?_ ?_)
  ·have hr:=consR_in hc
   dsimp only at hr
   have y3:=ext_cut hr.2
   have e:=made_3 (x:=⟨p,bs,rs⟩) (w:=w) q1 q2 hc
   repeat' (first|refine vz ?_|(conv=>whnf); first|with_reducible first|refine Sp.mk ?_ ?_|refine br_d (fun _=>?_) fun _=>?_|refine vM (fun _=>?_) fun _=>?_)
   have e5:(a+1).toNat=a.toNat+1:=by omega
   have y4:a.toNat-Int.toNat 0+((rs.length:Int).toNat-(a+1).toNat)=(rs.take a.toNat ++ rs.drop (a.toNat+1)).length∧∀ i,i<a.toNat-Int.toNat 0+((rs.length:Int).toNat-(a+1).toNat)→appF (a.toNat-Int.toNat 0) (fun i=>(fun i=>encS (rs.getD i ⟨#[]⟩)) (Int.toNat 0+i)) (fun i=>(fun i=>encS (rs.getD i ⟨#[]⟩)) ((a+1).toNat+i)) (0+i)=encS ((rs.take a.toNat ++ rs.drop (a.toNat+1)).getD i ⟨#[]⟩):=by
    rw [e5,show Int.toNat 0=0 from rfl,Nat.sub_zero,Int.toNat_natCast]
    simp only [Nat.zero_add] at y3 ⊢
    exact y3
   refine Dr.mk ⟨(.rd 0 (.rd 1 (.rd 3 (.rd 4 (.rd 5 (.rd 6 (.rd 7 (.rd 9 (.rd 10 (.rd 11 (.rd 12 (.rd 13 (.rd 14 (.ef 2 (.ef 8 (.ef 15 (.rd 16 (.ef 17 .dn .no)) .no) .no) .no)))))))))))))),by decide +kernel,?_⟩
   repeat' (first|refine vz ?_|(conv=>whnf); first|with_reducible first|refine Sp.mk ?_ ?_|refine br_d (fun _=>?_) fun _=>?_|refine vM (fun _=>?_) fun _=>?_)
   replace h:K (enPl (madeP ⟨p,bs,rs⟩ ⟨k,a,b,w⟩)):=h
   rw [e] at h
   refine ⟨_,?_,h⟩
   repeat' ((conv=>whnf); first|with_reducible exact True.intro|exact vW|with_reducible refine And.intro ?_ ?_)
   all_goals first|exact Chk.mk ⟨rfl,fun i _=>by dsimp only; rw [Nat.zero_add]⟩|exact Chk.mk y4
 ·rename_i q1 q2
  have e:=made_3n (x:=⟨p,bs,rs⟩) (a:=a) (b:=b) (w:=w) q1 fun q=>q2 q.1
  replace h:K (enPl (madeP ⟨p,bs,rs⟩ ⟨k,a,b,w⟩)):=h
  rw [e] at h
  refine ⟨_,?_,h⟩
  repeat' ((conv=>whnf); first|with_reducible exact True.intro|exact vW|with_reducible refine And.intro ?_ ?_)
 ·have e:=made_n (x:=⟨p,bs,rs⟩) (a:=a) (b:=b) (w:=w) (by assumption) (by assumption) (by assumption) (by assumption)
  replace h:K (enPl (madeP ⟨p,bs,rs⟩ ⟨k,a,b,w⟩)):=h
  rw [e] at h
  refine ⟨_,?_,h⟩
  repeat' ((conv=>whnf); first|with_reducible exact True.intro|exact vW|with_reducible refine And.intro ?_ ?_)
end Go.Proofs.YtgdbhjmpkkbnnaaGreatDoor.Vc
end
section
/- Part OR: deeds that come in, opened. -/
namespace Go.Proofs.YtgdbhjmpkkbnnaaGreatDoor.Vc
open Go.Proofs Go.ChangeShapes Go.WideShapes Go.ChangeAt Go.RowKit
section
variable (P:Program)
end
section
variable {H:Type} {enc:TypeId × Value→H} {P:Program} {w:World} {spare:Nat→Bool} {held:Bool}
end
end Go.Proofs.YtgdbhjmpkkbnnaaGreatDoor.Vc
end
section
/- Part ZO: the readers of a code. -/
namespace Go.Proofs.YtgdbhjmpkkbnnaaGreatDoor.Vc
open Go.Proofs
set_option maxRecDepth 10000
set_option maxHeartbeats 4000000
structure Rd where
 b:List Int
 p:Int
def Rd.ok (r:Rd):Prop:=r.b.length≤2000∧(∀ n∈r.b,u8r n)∧0≤r.p∧r.p≤1000000000
end Go.Proofs.YtgdbhjmpkkbnnaaGreatDoor.Vc
end
section
/- Part ZP: houses and terms that are drawn. -/
namespace Go.Proofs.YtgdbhjmpkkbnnaaGreatDoor.Vc
open Go.Proofs
set_option maxRecDepth 10000
set_option maxHeartbeats 4000000
end Go.Proofs.YtgdbhjmpkkbnnaaGreatDoor.Vc
end
section
/- Part ZQ: terms that are drawn. -/
namespace Go.Proofs.YtgdbhjmpkkbnnaaGreatDoor.Vc
open Go.Proofs
set_option maxRecDepth 10000
set_option maxHeartbeats 4000000
theorem app_extG {α:Type} (enc:α→List AV) (d:α) {l:List α} {c:α} {g:Nat→List AV} (hg:g 0=enc c):(l ++ [c]).length=l.length+1∧∀ j,j<(l ++ [c]).length→enc ((l ++ [c]).getD j d)=appF l.length (fun j=>enc (l.getD j d)) g j:=by
 refine ⟨by simp,fun j hj=>?_⟩
 simp only [List.length_append,List.length_cons,List.length_nil] at hj
 unfold appF
 rw [List.getD_eq_getElem?_getD,List.getElem?_append]
 cases hb:Nat.blt j l.length with
 |true =>
  have h1:j<l.length:=Nat.le_of_ble_eq_true hb
  rw [if_pos h1,← List.getD_eq_getElem?_getD]
  rfl
 |false =>
  have:¬ j<l.length:=fun h=>by
   have:Nat.blt j l.length=true:=Nat.ble_eq_true_of_le h
   rw [this] at hb; cases hb
  have:j=l.length:=by omega
  subst this
  rw [if_neg (by omega)]
  simp [hg]
end Go.Proofs.YtgdbhjmpkkbnnaaGreatDoor.Vc
end
section
/- Part TK: places that are drawn. -/
namespace Go.Proofs.YtgdbhjmpkkbnnaaGreatDoor.Vc
open Go.Proofs
set_option maxRecDepth 10000
set_option maxHeartbeats 4000000
structure drawnP (x:Place):Prop where
 p0:0≤x.p
 p1:x.p≤7
 bl:x.bs.length≤4
 bb:∀ b∈x.bs,0≤b∧b≤64
 rl:x.rules.length≤4
 rr:∀ r∈x.rules,r.size≤10000
theorem drawnP.I {x:Place} (h:drawnP x):placeI x:=⟨⟨⟨⟨by have:=h.p0; show -9223372036854775808≤x.p; omega,by have:=h.p1; show x.p≤9223372036854775807; omega⟩,fun b hb=>by have:=h.bb b hb; exact ⟨by omega,by omega⟩⟩,by have:=h.bl; show x.bs.length<_; omega⟩,by have:=h.rl; omega,fun r hr=>by have:=h.rr r hr; omega⟩
theorem drawnP.len {x:Place} (h:drawnP x):lenI x:=⟨by have:=h.bl; omega,by have:=h.rl; omega⟩
/-! ### A further body leaves terms what they are -/
theorem no_place:¬ placeOk default:=fun h=>by
 have:=h.1.1.1
 exact absurd this (by decide)
end Go.Proofs.YtgdbhjmpkkbnnaaGreatDoor.Vc
end
section
/- Part TL: new desks. -/
namespace Go.Proofs.YtgdbhjmpkkbnnaaGreatDoor.Vc
open Go.Proofs
set_option maxRecDepth 10000
set_option maxHeartbeats 4000000
theorem placeOk_short {x:Place} (h:placeOk x):x.rules.length≤100000000∧x.bs.length≤100000000:=⟨Nat.le_trans h.2.1.2 (by omega),Nat.le_trans h.1.2.1 (by omega)⟩
theorem drawnP.lenD {x:Place} (h:drawnP x):lenD ⟨x,[]⟩:=⟨h.len,(by decide:0<9223372036854775808),fun _ hb=>by cases hb⟩
end Go.Proofs.YtgdbhjmpkkbnnaaGreatDoor.Vc
end
section
/- Part TN: a deed at a desk, by the reference. -/
namespace Go.Proofs.YtgdbhjmpkkbnnaaGreatDoor.Vc
open Go.Proofs
set_option maxRecDepth 10000
set_option maxHeartbeats 4000000
def deG (d:Desk):AV:=.agg [.int .i64 d.now.p,slI d.now.bs,slS d.now.rules,.row 0 3 0 d.past.length]
def psO (l:List Place):Obj:=.row 3 l.length fun i=>plC (l.getD i default)
def shortD (d:Desk):Prop:=shortP d.now∧d.past.length≤100000∧∀ p∈d.past,shortP p
def C198:GC:=conG (X:=Desk) (fun d=>[enDe d]) (fun _=>[]) shortD fun d K=>K (deG d) [psO d.past]
theorem F198:GG 39 C198:=by
 refine fitG [(70,C158)] (by simp only [List.mem_cons,List.not_mem_nil,or_false]; rintro _ rfl <;> first|exact F158) [] (by simp) Tryz.f39 ⟨rfl,by decide +kernel,by decide +kernel⟩ (by intro x K K2 hk h; (try dsimp only at h ⊢); intros; apply hk; first|exact h|(apply h <;> assumption)) ?_
 rintro ⟨⟨p,bs,rs⟩,l⟩ K ⟨h1,h2,h3⟩ h
 refine ⟨Nat.le_of_ble_eq_true rfl,?_⟩
 unfold deG psO at h
 dsimp only [enDe,deC] at h h1 h2 h3 ⊢
 repeat' (first|refine vz ?_|(conv=>whnf); first|with_reducible first|refine Sp.mk ?_ ?_|refine br_d (fun _=>?_) fun _=>?_|refine vM (fun _=>?_) fun _=>?_)
 refine ⟨⟨p,bs,rs⟩,?_,⟨h1⟩,?_⟩
 ·exact wq
 dsimp only [enPl,plC]
 repeat' (first|refine vz ?_|(conv=>whnf); first|with_reducible first|refine Sp.mk ?_ ?_|refine br_d (fun _=>?_) fun _=>?_|refine vM (fun _=>?_) fun _=>?_)
 refine Lp.mk ⟨Nat,fun i=>[(1,.ptr 0 0),(2,.ptr 1 0),(3,.ptr 2 0),(4,.int .i64 i)],fun i=>[.box (deC ⟨⟨p,bs,rs⟩,l⟩),.box [.int .i64 0,.nils,.nils,.nils],.box [.int .i64 p,slI bs,slS rs,.row 3 3 0 (l.take i).length],psO (l.take i)],fun i=>i≤l.length,fun i=>l.length-i,⟨0,Nat.zero_le _,⟨⟨[some 0,some 1,some 2,none],[],rfl,rfl,?_,?_⟩⟩⟩,?_⟩
 ·exact wq
 ·exact wq
 intro i i1
 dsimp only [deC,psO]
 have hti:(l.take i).length≤100000:=by rw [List.length_take]; omega
 repeat' (first|refine vz ?_|(conv=>whnf); first|with_reducible first|refine Sp.mk ?_ ?_|refine br_d (fun _=>?_) fun _=>?_|refine vM (fun _=>?_) fun _=>?_)
 ·rename_i hi
  have hi:i<l.length:=by omega
  have hsn:l.take (i+1)=l.take i ++ [l.getD i default]:=take_succ' default hi
  refine Dr.mk ⟨(.rd 0 (.rd 1 (.rd 2 (.rd 3 (.rd 4 (.rd 5 (.rd 6 (.ef 7 (.ef 8 (.ef 9 (.rd 10 (.ef 11 .dn .no)) .no) .no) .no)))))))),by decide +kernel,?_⟩
  repeat' (first|refine vz ?_|(conv=>whnf); first|with_reducible first|refine Sp.mk ?_ ?_|refine br_d (fun _=>?_) fun _=>?_|refine vM (fun _=>?_) fun _=>?_)
  refine ⟨l.getD i default,?_,⟨h3 _ (getD_mem' hi)⟩,?_⟩
  ·exact wq
  dsimp only [enPl,plC]
  repeat' (first|refine vz ?_|(conv=>whnf); first|with_reducible first|refine Sp.mk ?_ ?_|refine br_d (fun _=>?_) fun _=>?_|refine vM (fun _=>?_) fun _=>?_)
  refine ⟨i+1,by omega,by omega,⟨⟨[some 0,some 1,some 2,some 5],[],rfl,rfl,?_,?_⟩⟩⟩
  ·exact wq
  ·repeat' ((conv=>whnf); first|with_reducible exact True.intro|exact vW|with_reducible refine And.intro ?_ ?_)
   all_goals first|exact Chk.mk ⟨rfl,by rw [hsn,List.length_append]; rfl⟩|exact Chk.mk (by rw [hsn]; exact ext_push (enc:=plC) (d:=default) (l:=l.take i) (x:=l.getD i default) rfl)
 ·rename_i hi
  rw [List.take_of_length_le (by omega)]
  repeat' (first|refine vz ?_|(conv=>whnf); first|with_reducible first|refine Sp.mk ?_ ?_|refine br_d (fun _=>?_) fun _=>?_|refine vM (fun _=>?_) fun _=>?_)
  refine ⟨_,_,[some 3],[],rfl,rfl,?_,?_,h⟩
  ·exact wq
  ·exact wq
def backD:Dd:=⟨4,0,0,⟨#[]⟩⟩
def pushP (l:List Place) (x:Place):List Place:=if 8<(l ++ [x]).length then (l ++ [x]).drop 1 else l ++ [x]
def doD (d:Desk) (a:Dd):Option Desk :=
 if a=backD∧0<d.past.length then some ⟨d.past.getD (d.past.length-1) default,d.past.take (d.past.length-1)⟩
 else if placeOk (madeP d.now a)∧ptext (madeP d.now a)≠ptext d.now then some ⟨madeP d.now a,pushP d.past d.now⟩ else none
def afterD (d:Desk) (a:Dd):Desk:=if deskOk d then (doD d a).getD d else default
def canD (d:Desk) (a:Dd):Bool:=decide (deskOk d) && (doD d a).isSome
structure De where
 d:Desk
 a:Dd
def C183:List AV→(AV→Prop)→Prop:=con (X:=De) (fun x=>[enDe x.d,ded x.a]) (fun x=>deskI x.d∧dedI x.a) fun x K=>K (.tup [enDe (afterD x.d x.a),.bool (canD x.d x.a)])
theorem deskOk_short {d:Desk} (h:deskOk d):shortD d:=⟨placeOk_short h.1,Nat.le_trans h.2.1 (by decide),fun p hp=>placeOk_short (h.2.2 p hp)⟩
theorem placeI0:placeI default:=⟨⟨⟨⟨by decide,by decide⟩,fun _ hb=>by cases hb⟩,by decide⟩,by decide,fun _ hb=>by cases hb⟩
theorem madeP_I {x:Place} {a:Dd} (h:placeI x) (hs:shortP x) (ha:dedI a):placeI (madeP x a):=by
 obtain ⟨⟨h1,h2⟩,h3,h4⟩:=h
 have s1:=hs.1
 have s2:=hs.2
 have b2:=h1.2
 unfold madeP
 split
 ·refine ⟨⟨⟨h1.1,fun b hb=>(List.mem_append.1 hb).elim (fun hb=>b2 b hb) fun hb=>by rw [List.mem_singleton.1 hb]; exact ha.2.1⟩,?_⟩,h3,h4⟩
  show (x.bs ++ [a.a]).length<_
  simp only [List.length_append,List.length_cons,List.length_nil]
  omega
 ·split
  ·refine ⟨⟨h1,h2⟩,?_,fun r hr=>(List.mem_append.1 hr).elim (fun hr=>h4 r hr) fun hr=>by rw [List.mem_singleton.1 hr]; exact ha.2.2.2⟩
   show (x.rules ++ [a.words]).length<_
   simp only [List.length_append,List.length_cons,List.length_nil]
   omega
  ·split
   ·refine ⟨⟨h1,h2⟩,by show (x.rules.set _ _).length<_; rw [List.length_set]; exact h3,fun r hr=>(List.mem_or_eq_of_mem_set hr).elim (fun hr=>h4 r hr) fun hr=>by rw [hr]; exact ha.2.2.2⟩
   ·split
    ·refine ⟨⟨h1,h2⟩,?_,fun r hr=>(List.mem_append.1 hr).elim (fun hr=>h4 r (List.mem_of_mem_take hr)) fun hr=>h4 r (List.mem_of_mem_drop hr)⟩
     show (x.rules.take _ ++ x.rules.drop _).length<_
     simp only [List.length_append,List.length_take,List.length_drop]
     omega
    ·exact placeI0
theorem ext_take {α:Type} {enc:α→List AV} {d:α} {l:List α} {n:Nat} (hn:n≤l.length):n-Int.toNat 0=(l.take n).length∧∀ i,i<n-Int.toNat 0→enc (l.getD (0+Int.toNat 0+i) d)=enc ((l.take n).getD i d):=by
 refine ⟨by rw [List.length_take]; show n-0=_; omega,fun i hi=>?_⟩
 rw [show 0+Int.toNat 0+i=i by show 0+0+i=i; omega,List.getD_eq_getElem?_getD,List.getD_eq_getElem?_getD,List.getElem?_take_of_lt (by exact hi)]
theorem ext_pushV {α:Type} {enc:α→List AV} {d:α} {l:List α} {x:α} {g:Nat→List AV} (hg:g 0=enc x):l.length+1=(l ++ [x]).length∧∀ i,i<l.length+1→appF l.length (fun i=>enc (l.getD i d)) g (0+i)=enc ((l ++ [x]).getD i d):=by
 have h:=ext_push (enc:=enc) (d:=d) (l:=l) (x:=x) (g:=g) hg
 refine ⟨h.1.symm,fun i hi=>?_⟩
 rw [Nat.zero_add]
 exact (h.2 i (by rw [h.1]; exact hi)).symm
theorem ext_dropV {α:Type} {enc:α→List AV} {d:α} {l:List α} {x:α} {g:Nat→List AV} (hg:g 0=enc x):((l.length+1:Nat):Int).toNat-Int.toNat 1=((l ++ [x]).drop 1).length∧∀ i,i<((l.length+1:Nat):Int).toNat-Int.toNat 1→appF l.length (fun i=>enc (l.getD i d)) g (0+Int.toNat 1+i)=enc (((l ++ [x]).drop 1).getD i d):=by
 have h:=ext_push (enc:=enc) (d:=d) (l:=l) (x:=x) (g:=g) hg
 refine ⟨by rw [List.length_drop,h.1]; rfl,fun i hi=>?_⟩
 have e:((l.length+1:Nat):Int).toNat-Int.toNat 1=l.length:=rfl
 rw [e] at hi
 rw [show 0+Int.toNat 1+i=1+i by rw [Nat.zero_add]; rfl,List.getD_eq_getElem?_getD (l:=(l ++ [x]).drop 1),List.getElem?_drop,← List.getD_eq_getElem?_getD]
 exact (h.2 (1+i) (by rw [h.1]; omega)).symm
theorem afterD_some {d e:Desk} {a:Dd} (h:deskOk d) (he:doD d a=some e):afterD d a=e:=by
 unfold afterD
 rw [if_pos h,he]
 rfl
theorem canD_some {d e:Desk} {a:Dd} (h:deskOk d) (he:doD d a=some e):canD d a=true:=by
 unfold canD
 rw [decide_eq_true h,he]
 rfl
theorem afterD_none {d:Desk} {a:Dd} (h:deskOk d) (he:doD d a=none):afterD d a=d:=by
 unfold afterD
 rw [if_pos h,he]
 rfl
theorem canD_none {d:Desk} {a:Dd} (he:doD d a=none):canD d a=false:=by
 unfold canD
 rw [he]
 simp
theorem F183:FF 23 C183:=by
 refine fitXE [(38,C139),(58,C199),(59,C127),(41,C142)] (by simp only [List.mem_cons,List.not_mem_nil,or_false]; rintro _ (rfl|rfl|rfl|rfl) <;> first|exact F139|exact F199|exact F127|exact F142) [(39,C198)] (by simp only [List.mem_cons,List.not_mem_nil,or_false]; rintro _ rfl; exact F198) Tryz.f23 ⟨rfl,by decide +kernel,by decide +kernel⟩ (fun _ _ _ hk h=>hk _ h) ?_
 rintro ⟨⟨⟨p,bs,rs⟩,l⟩,⟨k,a,b,w⟩⟩ K ⟨hI,ha⟩ h
 refine ⟨Nat.le_of_ble_eq_true rfl,?_⟩
 dsimp only [enDe,deC,ded,encD] at hI ha ⊢
 repeat' (first|refine vz ?_|(conv=>whnf); first|with_reducible first|refine Sp.mk ?_ ?_|refine br_d (fun _=>?_) fun _=>?_|refine vM (fun _=>?_) fun _=>?_)
 refine ⟨⟨⟨p,bs,rs⟩,l⟩,?_,⟨hI⟩,?_⟩
 ·exact wq
 by_cases hO:deskOk ⟨⟨p,bs,rs⟩,l⟩
 ·have hs:=deskOk_short hO
  have hs2:=hs.2.1
  dsimp only at hs2
  repeat' (first|refine vz ?_|(conv=>whnf); first|with_reducible first|refine Sp.mk ?_ ?_|refine br_d (fun _=>?_) fun _=>?_|refine vM (fun _=>?_) fun _=>?_)
  refine ⟨_,_,[],[],rfl,?_,?_,⟨⟨p,bs,rs⟩,l⟩,rfl,rfl,⟨hs⟩,?_⟩
  ·exact wq
  ·exact wq
  dsimp only [deG,psO]
  repeat' ((conv=>whnf); first|with_reducible refine wk_at 9 ?_|with_reducible refine wk_at1 9 ?_|with_reducible refine wk_at2 9 ?_|refine vA ?_|with_reducible first|refine v8 ?_|refine Ch.l ?_|refine Sp.mk ?_ ?_|refine vS ?_|refine vR ?_|refine vB ?_|refine br_nt ?_|refine br_tt ?_|refine br_ff ?_|refine vP ?_|refine vQ ?_|refine vT ?_|refine vF ?_|refine br_and ?_|refine br_or ?_|refine br_d (fun _=>?_) fun _=>?_|refine vM (fun _=>?_) fun _=>?_)
  ·rename_i q1 q2 q3 q4 q5
   have hl:0<l.length:=by omega
   have e0:doD ⟨⟨p,bs,rs⟩,l⟩ ⟨k,a,b,w⟩=some ⟨l.getD (l.length-1) default,l.take (l.length-1)⟩:=if_pos ⟨by subst q1; subst q2; subst q3; subst q4; rfl,hl⟩
   replace h:K (.tup [enDe (afterD ⟨⟨p,bs,rs⟩,l⟩ ⟨k,a,b,w⟩),.bool (canD ⟨⟨p,bs,rs⟩,l⟩ ⟨k,a,b,w⟩)]):=h
   rw [afterD_some hO e0,canD_some hO e0] at h
   have e1:((l.length:Int)-1).toNat=l.length-1:=by omega
   refine ⟨_,?_,h⟩
   rw [e1,Nat.zero_add]
   repeat' ((conv=>whnf); first|with_reducible exact True.intro|exact vW|with_reducible refine And.intro ?_ ?_)
   all_goals exact Chk.mk (ext_take (enc:=plC) (d:=default) (l:=l) (n:=l.length-1) (by omega))
  all_goals
   have hnb:¬ ((⟨k,a,b,w⟩:Dd)=backD∧0<l.length):=by
    rintro ⟨e,e2⟩
    have e3:=congrArg Dd.kind e
    have e4:=congrArg Dd.a e
    have e5:=congrArg Dd.b e
    have e6:=congrArg Dd.words e
    dsimp only [backD] at e3 e4 e5 e6
    first|omega|exact absurd e6 (by assumption)
   refine ⟨Wk.go [(2,.ptr 0 0),(3,.ptr 1 0),(4,.ptr 2 0),(6,.ptr 3 0)] [.box (deC ⟨⟨p,bs,rs⟩,l⟩),.box (encD ⟨k,a,b,w⟩),.box [.int .i64 0,.nils,.nils,.nils],.box [.int .i64 p,slI bs,slS rs,.row 4 3 0 l.length],psO l] ⟨⟨[some 0,some 1,some 2,some 4,some 3],[],rfl,rfl,?_,?_⟩⟩ ?_⟩
   ·exact wq
   ·exact wq
   dsimp only [deC,encD,psO]
   repeat' (first|refine vz ?_|(conv=>whnf); first|with_reducible first|refine Sp.mk ?_ ?_|refine br_d (fun _=>?_) fun _=>?_|refine vM (fun _=>?_) fun _=>?_)
   refine ⟨⟨⟨p,bs,rs⟩,⟨k,a,b,w⟩⟩,?_,⟨hI.1,hs.1,ha⟩,?_⟩
   ·exact wq
   have hMI:=madeP_I (a:=⟨k,a,b,w⟩) hI.1 hs.1 ha
   replace h:K (.tup [enDe (afterD ⟨⟨p,bs,rs⟩,l⟩ ⟨k,a,b,w⟩),.bool (canD ⟨⟨p,bs,rs⟩,l⟩ ⟨k,a,b,w⟩)]):=h
   have eD:doD ⟨⟨p,bs,rs⟩,l⟩ ⟨k,a,b,w⟩=_:=if_neg hnb
   dsimp only at hMI eD ⊢
   generalize madeP ⟨p,bs,rs⟩ ⟨k,a,b,w⟩=M at hMI eD ⊢
   obtain ⟨mp,mb,mr⟩:=M
   dsimp only [enPl,plC]
   repeat' (first|refine vz ?_|(conv=>whnf); first|with_reducible first|refine Sp.mk ?_ ?_|refine br_d (fun _=>?_) fun _=>?_|refine vM (fun _=>?_) fun _=>?_)
   refine Dr.mk ⟨(.rd 0 (.ef 1 (.rd 2 (.rd 3 (.rd 4 (.rd 6 (.rd 7 (.ef 5 (.ef 8 (.rd 9 (.rd 10 .dn)) .no) .no)))))) .no)),by decide +kernel,?_⟩
   repeat' (first|refine vz ?_|(conv=>whnf); first|with_reducible first|refine Sp.mk ?_ ?_|refine br_d (fun _=>?_) fun _=>?_|refine vM (fun _=>?_) fun _=>?_)
   refine ⟨⟨mp,mb,mr⟩,?_,⟨hMI⟩,?_⟩
   ·exact wq
   repeat' (first|refine vz ?_|(conv=>whnf); first|with_reducible first|refine Sp.mk ?_ ?_|refine br_d (fun _=>?_) fun _=>?_|refine vM (fun _=>?_) fun _=>?_)
   ·rename_i hp
    replace hp:placeOk ⟨mp,mb,mr⟩:=hp
    refine ⟨⟨mp,mb,mr⟩,?_,⟨hMI⟩,?_⟩
    ·exact wq
    repeat' (first|refine vz ?_|(conv=>whnf); first|with_reducible first|refine Sp.mk ?_ ?_|refine br_d (fun _=>?_) fun _=>?_|refine vM (fun _=>?_) fun _=>?_)
    refine ⟨⟨p,bs,rs⟩,?_,⟨hI.1⟩,?_⟩
    ·exact wq
    by_cases he:ptext ⟨mp,mb,mr⟩=ptext ⟨p,bs,rs⟩
    ·replace eD:doD ⟨⟨p,bs,rs⟩,l⟩ ⟨k,a,b,w⟩=none:=eD.trans (if_neg fun q=>q.2 he)
     rw [afterD_none hO eD,canD_none eD] at h
     repeat' (first|refine vz ?_|(conv=>whnf); first|with_reducible first|refine Sp.mk ?_ ?_|refine br_d (fun _=>?_) fun _=>?_|refine vM (fun _=>?_) fun _=>?_)
     refine ⟨_,?_,h⟩
     repeat' ((conv=>whnf); first|with_reducible exact True.intro|exact vW|with_reducible refine And.intro ?_ ?_)
     all_goals exact Chk.mk ⟨rfl,fun i _=>by dsimp only; rw [Nat.zero_add]; rfl⟩
    ·replace eD:doD ⟨⟨p,bs,rs⟩,l⟩ ⟨k,a,b,w⟩=some ⟨⟨mp,mb,mr⟩,pushP l ⟨p,bs,rs⟩⟩:=eD.trans (if_pos ⟨hp,he⟩)
     rw [afterD_some hO eD,canD_some hO eD] at h
     by_cases h8:8<(l ++ [(⟨p,bs,rs⟩:Place)]).length
     ·rw [show pushP l ⟨p,bs,rs⟩=(l ++ [(⟨p,bs,rs⟩:Place)]).drop 1 from if_pos h8] at h
      simp only [List.length_append,List.length_cons,List.length_nil] at h8
      repeat' (first|refine vz ?_|(conv=>whnf); first|with_reducible first|refine Sp.mk ?_ ?_|refine br_d (fun _=>?_) fun _=>?_|refine vM (fun _=>?_) fun _=>?_)
      first
      |refine ⟨_,?_,h⟩
      |refine ⟨Chk.mk ⟨⟨by show 0+1+(l.length+1-1)≤l.length+1; omega,trivial⟩,trivial⟩,_,?_,h⟩
      repeat' ((conv=>whnf); first|with_reducible exact True.intro|exact vW|with_reducible refine And.intro ?_ ?_)
      all_goals exact Chk.mk (ext_dropV (enc:=plC) (d:=default) (l:=l) (x:=⟨p,bs,rs⟩) rfl)
     ·rw [show pushP l ⟨p,bs,rs⟩=l ++ [(⟨p,bs,rs⟩:Place)] from if_neg h8] at h
      simp only [List.length_append,List.length_cons,List.length_nil] at h8
      repeat' (first|refine vz ?_|(conv=>whnf); first|with_reducible first|refine Sp.mk ?_ ?_|refine br_d (fun _=>?_) fun _=>?_|refine vM (fun _=>?_) fun _=>?_)
      refine ⟨_,?_,h⟩
      repeat' ((conv=>whnf); first|with_reducible exact True.intro|exact vW|with_reducible refine And.intro ?_ ?_)
      all_goals exact Chk.mk (ext_pushV (enc:=plC) (d:=default) (l:=l) (x:=⟨p,bs,rs⟩) rfl)
   ·rename_i hp
    replace hp:¬ placeOk ⟨mp,mb,mr⟩:=hp
    replace eD:doD ⟨⟨p,bs,rs⟩,l⟩ ⟨k,a,b,w⟩=none:=eD.trans (if_neg fun q=>hp q.1)
    rw [afterD_none hO eD,canD_none eD] at h
    refine ⟨_,?_,h⟩
    repeat' ((conv=>whnf); first|with_reducible exact True.intro|exact vW|with_reducible refine And.intro ?_ ?_)
    all_goals exact Chk.mk ⟨rfl,fun i _=>by dsimp only; rw [Nat.zero_add]; rfl⟩
 ·replace h:K (.tup [enDe (afterD ⟨⟨p,bs,rs⟩,l⟩ ⟨k,a,b,w⟩),.bool (canD ⟨⟨p,bs,rs⟩,l⟩ ⟨k,a,b,w⟩)]):=h
  rw [show afterD ⟨⟨p,bs,rs⟩,l⟩ ⟨k,a,b,w⟩=default from if_neg hO,show canD ⟨⟨p,bs,rs⟩,l⟩ ⟨k,a,b,w⟩=false by unfold canD; rw [decide_eq_false hO]; rfl] at h
  repeat' (first|refine vz ?_|(conv=>whnf); first|with_reducible first|refine Sp.mk ?_ ?_|refine br_d (fun _=>?_) fun _=>?_|refine vM (fun _=>?_) fun _=>?_)
  refine ⟨_,?_,h⟩
  repeat' ((conv=>whnf); first|with_reducible exact True.intro|exact vW|with_reducible refine And.intro ?_ ?_)
end Go.Proofs.YtgdbhjmpkkbnnaaGreatDoor.Vc
end
section
/- Part EH: results that are told anew by what they mean. -/
namespace Go.Proofs.YtgdbhjmpkkbnnaaGreatDoor.Vc
open Go.Proofs
set_option maxRecDepth 10000
end Go.Proofs.YtgdbhjmpkkbnnaaGreatDoor.Vc
end
section
/- Part NA: desks whose past owns its places' rows: copies. -/
namespace Go.Proofs.YtgdbhjmpkkbnnaaGreatDoor.Vc
open Go.Proofs
set_option maxRecDepth 10000
set_option maxHeartbeats 4000000
def npO (l:List Place):Obj:=.nrow 3 l.length (fun i=>plC (l.getD i default)) none
def deN (d:Desk):AV:=.agg [.int .i64 d.now.p,.row 0 1 0 d.now.bs.length,.row 1 1 0 d.now.rules.length,.row 2 3 0 d.past.length]
def deO (d:Desk):List Obj:=[.row 1 d.now.bs.length fun i=>encI (d.now.bs.getD i 0),.row 1 d.now.rules.length fun i=>encS (d.now.rules.getD i ⟨#[]⟩),npO d.past]
def C261n:GC:=conG (X:=Desk) (fun d=>[enDe d]) (fun _=>[]) shortD fun d K=>K (deN d) (deO d)
theorem F261n:GG 56 C261n:=by
 refine fitG [] (by simp) [(99,C157g)] (by simp only [List.mem_cons,List.not_mem_nil,or_false]; rintro _ rfl <;> first|exact F157g) Tryz.f56 ⟨rfl,by decide +kernel,by decide +kernel⟩ (by intro x K K2 hk h; (try dsimp only at h ⊢); intros; apply hk; first|exact h|(apply h <;> assumption)) ?_
 rintro ⟨⟨p,bs,rs⟩,l⟩ K ⟨h1,h2,h3⟩ h
 refine ⟨Nat.le_of_ble_eq_true rfl,?_⟩
 unfold deN deO npO at h
 dsimp only [enDe,deC] at h h1 h2 h3 ⊢
 repeat' (first|refine vz ?_|(conv=>whnf); first|with_reducible first|refine Sp.mk ?_ ?_|refine br_d (fun _=>?_) fun _=>?_|refine vM (fun _=>?_) fun _=>?_)
 refine ⟨_,_,[],[],rfl,?_,?_,⟨p,bs,rs⟩,rfl,rfl,⟨h1⟩,?_⟩
 ·exact wq
 ·exact wq
 dsimp only [plG,plO]
 repeat' (first|refine vz ?_|(conv=>whnf); first|with_reducible first|refine Sp.mk ?_ ?_|refine br_d (fun _=>?_) fun _=>?_|refine vM (fun _=>?_) fun _=>?_)
 refine Lp.mk ⟨Nat,fun i=>[(1,.ptr 0 0),(2,.ptr 1 0),(3,.ptr 4 0),(11,slP l),(12,.int .i64 l.length),(13,.int .i64 i)],fun i=>[.box (deC ⟨⟨p,bs,rs⟩,l⟩),.box [.int .i64 0,.nils,.nils,.nils],.row 1 bs.length fun i=>encI (bs.getD i 0),.row 1 rs.length fun i=>encS (rs.getD i ⟨#[]⟩),.box [.int .i64 p,.row 2 1 0 bs.length,.row 3 1 0 rs.length,.row 5 3 0 (l.take i).length],npO (l.take i)],fun i=>i≤l.length,fun i=>l.length-i,⟨0,Nat.zero_le _,⟨⟨[some 0,some 1,some 2,some 3,some 4,none],[],rfl,rfl,?_,?_⟩⟩⟩,?_⟩
 ·exact wq
 ·exact wq
 intro i i1
 dsimp only [deC,npO]
 have hti:(l.take i).length≤100000:=by rw [List.length_take]; omega
 repeat' (first|refine vz ?_|(conv=>whnf); first|with_reducible first|refine Sp.mk ?_ ?_|refine br_d (fun _=>?_) fun _=>?_|refine vM (fun _=>?_) fun _=>?_)
 ·rename_i hi
  have hi:i<l.length:=by omega
  have hsn:l.take (i+1)=l.take i ++ [l.getD i default]:=take_succ' default hi
  refine Dr.mk ⟨(.rd 0 (.rd 1 (.rd 2 (.ef 3 (.ef 4 (.ef 5 (.rd 6 (.ef 7 .dn .no)) .no) .no) .no)))),by decide +kernel,?_⟩
  repeat' (first|refine vz ?_|(conv=>whnf); first|with_reducible first|refine Sp.mk ?_ ?_|refine br_d (fun _=>?_) fun _=>?_|refine vM (fun _=>?_) fun _=>?_)
  all_goals
   refine ⟨_,_,[],[],rfl,?_,?_,l.getD i default,rfl,rfl,⟨h3 _ (getD_mem' hi)⟩,?_⟩
   ·exact wq
   ·exact wq
   dsimp only [plG,plO]
   repeat' ((conv=>whnf); first|refine Ch.r ?_|refine vA ?_|with_reducible first|refine v8 ?_|refine Ch.l ?_|refine Sp.mk ?_ ?_|refine vS ?_|refine vR ?_|refine vB ?_|refine br_nt ?_|refine br_tt ?_|refine br_ff ?_|refine vP ?_|refine vQ ?_|refine vT ?_|refine vF ?_|refine br_and ?_|refine br_or ?_|refine br_d (fun _=>?_) fun _=>?_|refine vM (fun _=>?_) fun _=>?_)
  all_goals
   refine ⟨i+1,by omega,by omega,?_⟩
   first|(refine ⟨⟨[some 0,some 1,some 2,some 3,some 4,some 10],[],rfl,rfl,?_,?_⟩⟩ <;> (repeat' ((conv=>whnf); first|with_reducible exact True.intro|exact vW|with_reducible refine And.intro ?_ ?_|exact Chk.mk ⟨rfl,by rw [hsn,List.length_append]; rfl⟩|exact Chk.mk (by rw [hsn]; exact ext_push (enc:=plC) (d:=default) (l:=l.take i) (x:=l.getD i default) rfl))) <;> fail)|(refine ⟨⟨[some 0,some 1,some 2,some 3,some 4,some 9],[],rfl,rfl,?_,?_⟩⟩ <;> (repeat' ((conv=>whnf); first|with_reducible exact True.intro|exact vW|with_reducible refine And.intro ?_ ?_|exact Chk.mk ⟨rfl,by rw [hsn,List.length_append]; rfl⟩|exact Chk.mk (by rw [hsn]; exact ext_push (enc:=plC) (d:=default) (l:=l.take i) (x:=l.getD i default) rfl))) <;> fail)|(refine ⟨⟨[some 0,some 1,some 2,some 3,some 4,some 11],[],rfl,rfl,?_,?_⟩⟩ <;> (repeat' ((conv=>whnf); first|with_reducible exact True.intro|exact vW|with_reducible refine And.intro ?_ ?_|exact Chk.mk ⟨rfl,by rw [hsn,List.length_append]; rfl⟩|exact Chk.mk (by rw [hsn]; exact ext_push (enc:=plC) (d:=default) (l:=l.take i) (x:=l.getD i default) rfl))) <;> fail)
 ·rename_i hi
  rw [List.take_of_length_le (by omega)]
  repeat' (first|refine vz ?_|(conv=>whnf); first|with_reducible first|refine Sp.mk ?_ ?_|refine br_d (fun _=>?_) fun _=>?_|refine vM (fun _=>?_) fun _=>?_)
  refine ⟨_,_,[some 2,some 3,some 5],[],rfl,rfl,?_,?_,h⟩
  ·exact wq
  ·exact wq
theorem orG {P:Program} {Gl:List (Nat × Go.Obj)} {f:FuncId} {C D:GC} (h:FitsG P Gl f C) (k:FitsG P Gl f D):FitsG P Gl f (fun us og K=>C us og K∨D us og K) :=
 ⟨h.has,fun us og K K' hk q=>q.imp (h.mono us og K K' hk) (k.mono us og K K' hk),fun us og K q=>q.elim (h.ok us og K) (k.ok us og K)⟩
end Go.Proofs.YtgdbhjmpkkbnnaaGreatDoor.Vc
end
section
/- Part TS: inputs copied into memory of one's own. -/
namespace Go.Proofs.YtgdbhjmpkkbnnaaGreatDoor.Vc
open Go.Proofs
set_option maxRecDepth 10000
set_option maxHeartbeats 4000000
def C14g:GC:=conG (X:=List Int) (fun l=>[slI l]) (fun _=>[]) (fun l=>l.length≤1048576) fun l K=>K (.row 0 1 0 l.length) [.row 1 l.length fun i=>encI (l.getD i 0)]
theorem F14g:GG 117 C14g:=by
 refine fitG [] (by simp) [] (by simp) Tryz.f117 ⟨rfl,by decide +kernel,by decide +kernel⟩ (by intro x K K2 hk h; (try dsimp only at h ⊢); intros; apply hk; first|exact h|(apply h <;> assumption)) ?_
 rintro l K h1 h
 refine ⟨Nat.le_of_ble_eq_true rfl,?_⟩
 repeat' ((conv=>whnf); first|((with_reducible refine And.intro (Chk.mk ?_) ?_); (focus (refine ⟨rfl,?_,?_,?_⟩; (focus omega); (focus omega); (focus (show (8:Int)*_≤_; omega)))))|refine vA ?_|with_reducible first|refine v8 ?_|refine Ch.l ?_|refine Sp.mk ?_ ?_|refine vS ?_|refine vR ?_|refine vB ?_|refine br_nt ?_|refine br_tt ?_|refine br_ff ?_|refine vP ?_|refine vQ ?_|refine vT ?_|refine vF ?_|refine br_and ?_|refine br_or ?_|refine br_d (fun _=>?_) fun _=>?_|refine vM (fun _=>?_) fun _=>?_)
 refine Lp.mk ⟨Nat,fun i=>[(0,slI l),(2,.nils),(3,.row 0 1 0 l.length),(4,.int .i64 i)],fun i=>[.row 1 l.length (cpG encI 0 [.int .i64 0] l i)],fun i=>i≤l.length,fun i=>l.length-i,⟨0,Nat.zero_le _,⟨⟨[some 0],[],rfl,rfl,?_,?_⟩⟩⟩,?_⟩
 ·exact wq
 ·exact wq
 intro i i1
 dsimp only
 repeat' (first|refine vz ?_|(conv=>whnf); first|with_reducible first|refine Sp.mk ?_ ?_|refine br_d (fun _=>?_) fun _=>?_|refine vM (fun _=>?_) fun _=>?_)
 ·refine ⟨i+1,by omega,by omega,⟨⟨[some 0],[],rfl,rfl,?_,?_⟩⟩⟩
  ·exact wq
  ·repeat' ((conv=>whnf); first|with_reducible exact True.intro|exact vW|with_reducible refine And.intro ?_ ?_)
   exact Chk.mk ⟨rfl,fun j _=>by rw [cpG_step,Nat.zero_add,Int.toNat_natCast,cpG_at]; rfl⟩
 ·have he:=cpG_end (enc:=encI) (d:=0) (z:=[.int .i64 0]) (l:=l) (i:=i) (by omega)
  refine ⟨_,_,[some 0],[],rfl,rfl,?_,?_,h⟩
  ·exact wq
  ·repeat' ((conv=>whnf); first|with_reducible exact True.intro|exact vW|with_reducible refine And.intro ?_ ?_)
   all_goals exact Chk.mk ⟨rfl,fun j hj=>by have:=he j hj; rw [Nat.zero_add] at this; exact this.symm⟩
def C155g:GC:=conG (X:=List ByteArray) (fun l=>[slS l]) (fun _=>[]) (fun l=>l.length≤1048576) fun l K=>K (.row 0 1 0 l.length) [.row 1 l.length fun i=>encS (l.getD i ⟨#[]⟩)]
theorem F155g:GG 17 C155g:=by
 refine fitG [] (by simp) [] (by simp) Tryz.f17 ⟨rfl,by decide +kernel,by decide +kernel⟩ (by intro x K K2 hk h; (try dsimp only at h ⊢); intros; apply hk; first|exact h|(apply h <;> assumption)) ?_
 rintro l K h1 h
 refine ⟨Nat.le_of_ble_eq_true rfl,?_⟩
 repeat' ((conv=>whnf); first|((with_reducible refine And.intro (Chk.mk ?_) ?_); (focus (refine ⟨rfl,?_,?_,?_⟩; (focus omega); (focus omega); (focus (show (16:Int)*_≤_; omega)))))|refine vA ?_|with_reducible first|refine v8 ?_|refine Ch.l ?_|refine Sp.mk ?_ ?_|refine vS ?_|refine vR ?_|refine vB ?_|refine br_nt ?_|refine br_tt ?_|refine br_ff ?_|refine vP ?_|refine vQ ?_|refine vT ?_|refine vF ?_|refine br_and ?_|refine br_or ?_|refine br_d (fun _=>?_) fun _=>?_|refine vM (fun _=>?_) fun _=>?_)
 refine Lp.mk ⟨Nat,fun i=>[(0,slS l),(3,.row 0 1 0 l.length),(4,.int .i64 i)],fun i=>[.row 1 l.length (cpG encS ⟨#[]⟩ [.str ⟨#[]⟩] l i)],fun i=>i≤l.length,fun i=>l.length-i,⟨0,Nat.zero_le _,⟨⟨[some 0],[],rfl,rfl,?_,?_⟩⟩⟩,?_⟩
 ·exact wq
 ·exact wq
 intro i i1
 dsimp only
 repeat' (first|refine vz ?_|(conv=>whnf); first|with_reducible first|refine Sp.mk ?_ ?_|refine br_d (fun _=>?_) fun _=>?_|refine vM (fun _=>?_) fun _=>?_)
 ·refine ⟨i+1,by omega,by omega,⟨⟨[some 0],[],rfl,rfl,?_,?_⟩⟩⟩
  ·exact wq
  ·repeat' ((conv=>whnf); first|with_reducible exact True.intro|exact vW|with_reducible refine And.intro ?_ ?_)
   exact Chk.mk ⟨rfl,fun j _=>by rw [cpG_step,Nat.zero_add,Int.toNat_natCast,cpG_at]; rfl⟩
 ·have he:=cpG_end (enc:=encS) (d:=⟨#[]⟩) (z:=[.str ⟨#[]⟩]) (l:=l) (i:=i) (by omega)
  refine ⟨_,_,[some 0],[],rfl,rfl,?_,?_,h⟩
  ·exact wq
  ·repeat' ((conv=>whnf); first|with_reducible exact True.intro|exact vW|with_reducible refine And.intro ?_ ?_)
   all_goals exact Chk.mk ⟨rfl,fun j hj=>by have:=he j hj; rw [Nat.zero_add] at this; exact this.symm⟩
def C12g:GC:=conG (X:=House) (fun h=>[enH h]) (fun _=>[]) (fun h=>h.bs.length≤1048576) fun h K=>K (.agg [.int .i64 h.p,.row 0 1 0 h.bs.length]) [.row 1 h.bs.length fun i=>encI (h.bs.getD i 0)]
theorem F12g:GG 88 C12g:=by
 refine fitG [] (by simp) [(117,C14g)] (by simp only [List.mem_cons,List.not_mem_nil,or_false]; rintro _ rfl <;> first|exact F14g) Tryz.f88 ⟨rfl,by decide +kernel,by decide +kernel⟩ (by intro x K K2 hk h; (try dsimp only at h ⊢); intros; apply hk; first|exact h|(apply h <;> assumption)) ?_
 rintro ⟨p,bs⟩ K h1 h
 refine ⟨Nat.le_of_ble_eq_true rfl,?_⟩
 dsimp only at h1 h ⊢
 repeat' (first|refine vz ?_|(conv=>whnf); first|with_reducible first|refine Sp.mk ?_ ?_|refine br_d (fun _=>?_) fun _=>?_|refine vM (fun _=>?_) fun _=>?_)
 refine ⟨_,_,[],[],rfl,?_,?_,bs,rfl,rfl,⟨h1⟩,?_⟩
 ·exact wq
 ·exact wq
 dsimp only
 repeat' (first|refine vz ?_|(conv=>whnf); first|with_reducible first|refine Sp.mk ?_ ?_|refine br_d (fun _=>?_) fun _=>?_|refine vM (fun _=>?_) fun _=>?_)
 refine ⟨_,_,[some 3],[],rfl,rfl,?_,?_,h⟩
 ·exact wq
 ·exact wq
def C129g:GC:=conG (X:=Place) (fun x=>[enPl x]) (fun _=>[]) okPl fun x K=>K (plG x) (plO x)
theorem F129g:GG 46 C129g:=by
 refine fitG [] (by simp) [(88,C12g),(17,C155g)] (by simp only [List.mem_cons,List.not_mem_nil,or_false]; rintro _ (rfl|rfl) <;> first|exact F12g|exact F155g) Tryz.f46 ⟨rfl,by decide +kernel,by decide +kernel⟩ (by intro x K K2 hk h; (try dsimp only at h ⊢); intros; apply hk; first|exact h|(apply h <;> assumption)) ?_
 rintro ⟨p,bs,rs⟩ K ⟨h1,h2⟩ h
 refine ⟨Nat.le_of_ble_eq_true rfl,?_⟩
 unfold plG plO at h
 dsimp only [enPl,plC] at h1 h2 h ⊢
 repeat' (first|refine vz ?_|(conv=>whnf); first|with_reducible first|refine Sp.mk ?_ ?_|refine br_d (fun _=>?_) fun _=>?_|refine vM (fun _=>?_) fun _=>?_)
 refine ⟨_,_,[],[],rfl,?_,?_,⟨p,bs⟩,rfl,rfl,⟨h1⟩,?_⟩
 ·exact wq
 ·exact wq
 dsimp only
 repeat' (first|refine vz ?_|(conv=>whnf); first|with_reducible first|refine Sp.mk ?_ ?_|refine br_d (fun _=>?_) fun _=>?_|refine vM (fun _=>?_) fun _=>?_)
 refine ⟨_,_,[],[],rfl,?_,?_,rs,rfl,rfl,⟨h2⟩,?_⟩
 ·exact wq
 ·exact wq
 dsimp only
 repeat' (first|refine vz ?_|(conv=>whnf); first|with_reducible first|refine Sp.mk ?_ ?_|refine br_d (fun _=>?_) fun _=>?_|refine vM (fun _=>?_) fun _=>?_)
 refine ⟨_,_,[some 3,some 4],[],rfl,rfl,?_,?_,h⟩
 ·exact wq
 ·exact wq
/-! ### Copies of places whose memory is ours -/
/-! ### New desks over places whose memory is ours -/
end Go.Proofs.YtgdbhjmpkkbnnaaGreatDoor.Vc
end
section
/- Part NG: desks as inputs, with nested memory of their own. -/
namespace Go.Proofs.YtgdbhjmpkkbnnaaGreatDoor.Vc
open Go.Proofs
set_option maxRecDepth 10000
set_option maxHeartbeats 4000000
theorem plain3:∀ v,v∈[AV.int .i64 0,.nils,.nils]→v.plain=true:=by
 intro v hv
 simp only [List.mem_cons,List.not_mem_nil,or_false] at hv
 rcases hv with rfl|rfl|rfl <;> rfl
def C163n:GC:=conG (X:=List Place) (fun l=>[slP l]) (fun _=>[]) okPs fun l K=>K (.row 0 3 0 l.length) [npO l]
theorem F163n:GG 47 C163n:=by
 refine fitG [] (by simp) [(46,C129g)] (by simp only [List.mem_cons,List.not_mem_nil,or_false]; rintro _ rfl <;> first|exact F129g) Tryz.f47 ⟨rfl,by decide +kernel,by decide +kernel⟩ (by intro x K K2 hk h; (try dsimp only at h ⊢); intros; apply hk; first|exact h|(apply h <;> assumption)) ?_
 rintro l K ⟨h1,h2⟩ h
 refine ⟨Nat.le_of_ble_eq_true rfl,?_⟩
 unfold npO at h
 repeat' ((conv=>whnf); first|((with_reducible refine And.intro (Chk.mk ?_) ?_); (focus (refine ⟨rfl,?_,?_,?_⟩; (focus omega); (focus omega); (focus (show (56:Int)*_≤_; omega)))))|with_reducible refine wk_at 2 ?_|with_reducible refine wk_at1 2 ?_|with_reducible refine wk_at2 2 ?_|refine vA ?_|with_reducible first|refine v8 ?_|refine Ch.l ?_|refine Sp.mk ?_ ?_|refine vS ?_|refine vR ?_|refine vB ?_|refine br_nt ?_|refine br_tt ?_|refine br_ff ?_|refine vP ?_|refine vQ ?_|refine vT ?_|refine vF ?_|refine br_and ?_|refine br_or ?_|refine br_d (fun _=>?_) fun _=>?_|refine vM (fun _=>?_) fun _=>?_)
 refine ⟨Wk.mv _ (.cons _ _ _ (.nr 0 3 _ _ rfl (Nat.zero_le _) (fun _ _ v hv=>plain3 v hv) (by conv=>whnf)) (.nil _)) ?_⟩
 repeat' (first|refine vz ?_|(conv=>whnf); first|with_reducible first|refine Sp.mk ?_ ?_|refine br_d (fun _=>?_) fun _=>?_|refine vM (fun _=>?_) fun _=>?_)
 refine Lp.mk ⟨Nat,fun i=>[(0,slP l),(3,.row 0 3 0 l.length),(4,.int .i64 i)],fun i=>[.nrow 3 l.length (cpG plC default [.int .i64 0,.nils,.nils] l i) none],fun i=>i≤l.length,fun i=>l.length-i,⟨0,Nat.zero_le _,⟨⟨[some 0],[],rfl,rfl,?_,?_⟩⟩⟩,?_⟩
 ·exact wq
 ·exact wq
 intro i i1
 dsimp only
 repeat' (first|refine vz ?_|(conv=>whnf); first|with_reducible first|refine Sp.mk ?_ ?_|refine br_d (fun _=>?_) fun _=>?_|refine vM (fun _=>?_) fun _=>?_)
 ·rename_i hi
  have hi:i<l.length:=by omega
  refine ⟨_,_,[],[],rfl,?_,?_,l.getD i default,rfl,rfl,⟨h2 _ (getD_mem' hi)⟩,?_⟩
  ·exact wq
  ·exact wq
  dsimp only [plG,plO]
  repeat' ((conv=>whnf); first|(refine And.intro (Chk.mk ⟨by omega,rfl,rfl,trivial⟩) ?_)|refine vA ?_|with_reducible first|refine v8 ?_|refine Ch.l ?_|refine Sp.mk ?_ ?_|refine vS ?_|refine vR ?_|refine vB ?_|refine br_nt ?_|refine br_tt ?_|refine br_ff ?_|refine vP ?_|refine vQ ?_|refine vT ?_|refine vF ?_|refine br_and ?_|refine br_or ?_|refine br_d (fun _=>?_) fun _=>?_|refine vM (fun _=>?_) fun _=>?_)
  refine ⟨i+1,by omega,by omega,⟨⟨[some 0],[],rfl,rfl,?_,?_⟩⟩⟩
  ·exact wq
  ·repeat' ((conv=>whnf); first|with_reducible exact True.intro|exact vW|with_reducible refine And.intro ?_ ?_)
   exact Chk.mk ⟨rfl,fun j _=>by rw [cpG_step,Nat.zero_add,Int.toNat_natCast,cpG_at]; rfl⟩
 ·have he:=cpG_end (enc:=plC) (d:=default) (z:=[.int .i64 0,.nils,.nils]) (l:=l) (i:=i) (by omega)
  refine ⟨_,_,[some 0],[],rfl,rfl,?_,?_,h⟩
  ·exact wq
  ·repeat' ((conv=>whnf); first|with_reducible exact True.intro|exact vW|with_reducible refine And.intro ?_ ?_)
   all_goals exact Chk.mk ⟨rfl,fun j hj=>by have:=he j hj; rw [Nat.zero_add] at this; exact this.symm⟩
def C140n:GC:=conG (X:=Desk) (fun x=>[enDe x]) (fun _=>[]) okDe fun x K=>K (deN x) (deO x)
theorem F140n:GG 10 C140n:=by
 refine fitG [] (by simp) [(46,C129g),(47,C163n)] (by simp only [List.mem_cons,List.not_mem_nil,or_false]; rintro _ (rfl|rfl) <;> first|exact F129g|exact F163n) Tryz.f10 ⟨rfl,by decide +kernel,by decide +kernel⟩ (by intro x K K2 hk h; (try dsimp only at h ⊢); intros; apply hk; first|exact h|(apply h <;> assumption)) ?_
 rintro ⟨⟨p,bs,rs⟩,l⟩ K ⟨h1,h2⟩ h
 refine ⟨Nat.le_of_ble_eq_true rfl,?_⟩
 unfold deN deO at h
 dsimp only [enDe,deC] at h1 h2 h ⊢
 repeat' (first|refine vz ?_|(conv=>whnf); first|with_reducible first|refine Sp.mk ?_ ?_|refine br_d (fun _=>?_) fun _=>?_|refine vM (fun _=>?_) fun _=>?_)
 refine ⟨_,_,[],[],rfl,?_,?_,⟨p,bs,rs⟩,rfl,rfl,⟨h1⟩,?_⟩
 ·exact wq
 ·exact wq
 dsimp only [plG,plO]
 repeat' (first|refine vz ?_|(conv=>whnf); first|with_reducible first|refine Sp.mk ?_ ?_|refine br_d (fun _=>?_) fun _=>?_|refine vM (fun _=>?_) fun _=>?_)
 refine ⟨_,_,[],[],rfl,?_,?_,l,rfl,rfl,⟨h2⟩,?_⟩
 ·exact wq
 ·exact wq
 dsimp only [npO] at h ⊢
 repeat' (first|refine vz ?_|(conv=>whnf); first|with_reducible first|refine Sp.mk ?_ ?_|refine br_d (fun _=>?_) fun _=>?_|refine vM (fun _=>?_) fun _=>?_)
 refine ⟨_,_,[some 3,some 4,some 5],[],rfl,rfl,?_,?_,h⟩
 ·exact wq
 ·exact wq
end Go.Proofs.YtgdbhjmpkkbnnaaGreatDoor.Vc
end
section
/- Part UM: marks in memory of one's own. -/
namespace Go.Proofs.YtgdbhjmpkkbnnaaGreatDoor.Vc
open Go.Proofs
set_option maxRecDepth 10000
set_option maxHeartbeats 4000000
def digT:Nat→Nat→ByteArray→ByteArray
 |0,_,acc=>acc
 |k+1,n,acc=>if n=0 then acc else digT k (n / 10) (⟨#[UInt8.ofNat (48+n % 10)]⟩ ++ acc)
def mkT (n:Int):ByteArray:=if n≤0 then ⟨#[109,48]⟩ else ⟨#[109]⟩ ++ digT 40 n.toNat ⟨#[]⟩
def mksI (n:Int) (k:Nat):List Int:=(List.range k).map fun (i:Nat)=>n+(i:Int)
def mksS (n:Int) (k:Nat):List ByteArray:=(List.range k).map fun (i:Nat)=>mkT (n+(i:Int))
theorem mksI_len (n:Int) (k:Nat):(mksI n k).length=k:=by simp [mksI]
theorem mksS_len (n:Int) (k:Nat):(mksS n k).length=k:=by simp [mksS]
theorem mksI_get {n:Int} {k i:Nat} (h:i<k):(mksI n k).getD i 0=n+(i:Int):=by
 unfold mksI
 rw [List.getD_eq_getElem?_getD,List.getElem?_map,List.getElem?_range h]
 rfl
theorem mksS_get {n:Int} {k i:Nat} (h:i<k):(mksS n k).getD i ⟨#[]⟩=mkT (n+(i:Int)):=by
 unfold mksS
 rw [List.getD_eq_getElem?_getD,List.getElem?_map,List.getElem?_range h]
 rfl
structure Mk where
 l:List Int
 n:Int
def mixF (i:Nat) (f g:Nat→List AV):Nat→List AV:=fun j=>cond (Nat.blt j i) (f j) (g j)
theorem mix_at {i:Nat} {f g:Nat→List AV}:mixF i f g i=g i:=by
 have:Nat.blt i i=false:=by
  cases h:Nat.blt i i with
  |false=>rfl
  |true=>exact absurd (Nat.le_of_ble_eq_true h) (Nat.not_succ_le_self _)
 unfold mixF
 rw [this]
 rfl
theorem mix_set {i:Nat} {f g:Nat→List AV} {v:List AV} (hv:v=f i) (j:Nat):mixF (i+1) f g j=setF (mixF i f g) i v j:=by
 unfold setF mixF
 rcases Nat.lt_trichotomy j i with h|rfl|h
 ·have h1:Nat.blt j (i+1)=true:=Nat.ble_eq_true_of_le (by omega)
  have h2:Nat.blt j i=true:=Nat.ble_eq_true_of_le h
  have h3:Nat.beq j i=false:=by cases e:Nat.beq j i with|false=>rfl|true=>have:=Nat.eq_of_beq_eq_true e; omega
  rw [h1,h2,h3]
  rfl
 ·have h1:Nat.blt j (j+1)=true:=Nat.ble_eq_true_of_le (Nat.le_refl _)
  have h3:Nat.beq j j=true:=Nat.beq_refl j
  rw [h1,h3,hv]
  rfl
 ·have h1:Nat.blt j (i+1)=false:=by cases e:Nat.blt j (i+1) with|false=>rfl|true=>have:=Nat.le_of_ble_eq_true e; omega
  have h2:Nat.blt j i=false:=by cases e:Nat.blt j i with|false=>rfl|true=>have:=Nat.le_of_ble_eq_true e; omega
  have h3:Nat.beq j i=false:=by cases e:Nat.beq j i with|false=>rfl|true=>have:=Nat.eq_of_beq_eq_true e; omega
  rw [h1,h2,h3]
  rfl
theorem mix_lt {i j:Nat} {f g:Nat→List AV} (h:j<i):mixF i f g j=f j:=by
 unfold mixF
 rw [show Nat.blt j i=true from Nat.ble_eq_true_of_le h]
 rfl
theorem mix_step {i N:Nat} {f g:Nat→List AV} {v:AV} (hv:setCells (g i) 0 [v]=f i):N=N∧∀ j,j<N→mixF (i+1) f g j=setF (mixF i f g) (0+i) (setCells (mixF i f g (0+i)) 0 [v]) j:=⟨rfl,fun j _=>by rw [Nat.zero_add,mix_at,hv]; exact mix_set rfl j⟩
def C185:GC:=conG (X:=Mk) (fun x=>[.row 0 1 0 x.l.length,.int .i64 x.n]) (fun x=>[.row 1 x.l.length fun i=>encI (x.l.getD i 0)]) (fun x=>0≤x.n∧x.n≤1000000000000000∧x.l.length≤1000000000000000) fun x K=>K (.int .i64 (x.n+x.l.length)) [.row 1 x.l.length fun i=>encI ((mksI x.n x.l.length).getD i 0)]
theorem F185:GG 96 C185:=by
 refine fitG [] (by simp) [] (by simp) Tryz.f96 ⟨rfl,by decide +kernel,by decide +kernel⟩ (by intro x K K2 hk h; (try dsimp only at h ⊢); intros; apply hk; first|exact h|(apply h <;> assumption)) ?_
 rintro ⟨l,n⟩ K ⟨h1,h2,h3⟩ h
 refine ⟨Nat.le_of_ble_eq_true rfl,?_⟩
 dsimp only at h h1 h2 h3 ⊢
 repeat' (first|refine vz ?_|(conv=>whnf); first|with_reducible first|refine Sp.mk ?_ ?_|refine br_d (fun _=>?_) fun _=>?_|refine vM (fun _=>?_) fun _=>?_)
 refine Lp.mk ⟨Nat,fun i=>[(0,.row 0 1 0 l.length),(1,.int .i64 (n+i)),(5,.int .i64 i)],fun i=>[.row 1 l.length (mixF i (fun j=>encI (n+(j:Int))) fun j=>encI (l.getD j 0))],fun i=>i≤l.length,fun i=>l.length-i,⟨0,Nat.zero_le _,⟨⟨[some 0],[],rfl,rfl,?_,?_⟩⟩⟩,?_⟩
 ·exact wq
 ·exact wq
 intro i i1
 dsimp only
 repeat' (first|refine vz ?_|(conv=>whnf); first|with_reducible first|refine Sp.mk ?_ ?_|refine br_d (fun _=>?_) fun _=>?_|refine vM (fun _=>?_) fun _=>?_)
 ·refine ⟨i+1,by omega,by omega,⟨⟨[some 0],[],rfl,rfl,?_,?_⟩⟩⟩
  ·exact wq
  ·repeat' ((conv=>whnf); first|with_reducible exact True.intro|exact vW|with_reducible refine And.intro ?_ ?_)
   all_goals exact Chk.mk (mix_step rfl)
 ·obtain rfl:i=l.length:=by omega
  refine ⟨_,_,[some 0],[],rfl,rfl,?_,?_,h⟩
  ·exact wq
  ·repeat' ((conv=>whnf); first|with_reducible exact True.intro|exact vW|with_reducible refine And.intro ?_ ?_)
   all_goals exact Chk.mk ⟨rfl,fun j hj=>by show encI _=_; rw [mksI_get hj,mix_lt hj]⟩
structure Hd where
 k:Nat
 n:Int
def C189:List AV→(AV→Prop)→Prop:=con (X:=Hd) (fun x=>[slI (mksI x.n x.k),.int .i64 x.n]) (fun x=>0≤x.n∧x.n≤1000000000000000∧x.k≤1000000000000000) fun x K=>K (.int .i64 (x.n+x.k))
theorem F189:FF 98 C189:=by
 refine fitE [] (by simp) Tryz.f98 ⟨rfl,by decide +kernel,by decide +kernel⟩ (fun _ _ _ hk h=>hk _ h) ?_
 rintro ⟨k,n⟩ K ⟨h1,h2,h3⟩ h
 refine ⟨Nat.le_of_ble_eq_true rfl,?_⟩
 dsimp only at h h1 h2 h3 ⊢
 have hl:=mksI_len n k
 obtain ⟨l,hle⟩:∃ l,mksI n k=l:=⟨_,rfl⟩
 rw [hle] at hl ⊢
 have hg:∀ i:Nat,i<k→l.getD i 0=n+i:=fun i hi=>by rw [← hle]; exact mksI_get hi
 repeat' (first|refine vz ?_|(conv=>whnf); first|with_reducible first|refine Sp.mk ?_ ?_|refine br_d (fun _=>?_) fun _=>?_|refine vM (fun _=>?_) fun _=>?_)
 refine Lp.mk ⟨Nat,fun i=>[(0,slI l),(1,.int .i64 (n+i)),(5,.int .i64 i)],fun _=>[],fun i=>i≤l.length,fun i=>l.length-i,⟨0,Nat.zero_le _,⟨⟨[],[],rfl,rfl,?_,?_⟩⟩⟩,?_⟩
 ·exact wq
 ·exact wq
 intro i i1
 dsimp only
 by_cases hi:i<l.length
 ·have hgi:=hg i (by omega)
  have hgi':l.getD (i:Int).toNat 0=n+i:=hgi
  repeat' (first|refine vz ?_|(conv=>whnf); first|with_reducible first|refine Sp.mk ?_ ?_|refine br_d (fun _=>?_) fun _=>?_|refine vM (fun _=>?_) fun _=>?_)
  ·refine ⟨i+1,by omega,by omega,⟨⟨[],[],rfl,rfl,?_,?_⟩⟩⟩
   ·exact wq
   ·exact wq
 ·obtain rfl:i=l.length:=by omega
  rw [← hl] at h
  repeat' (first|refine vz ?_|(conv=>whnf); first|with_reducible first|refine Sp.mk ?_ ?_|refine br_d (fun _=>?_) fun _=>?_|refine vM (fun _=>?_) fun _=>?_)
  exact h
structure Dg where
 m:Nat
 k:Nat
 acc:ByteArray
def C186:List AV→(AV→Prop)→Prop:=con (X:=Int) (fun n=>[.int .i64 n]) (fun n=>0≤n∧n≤4000000000000000) fun n K=>K (.str (mkT n))
theorem F186:FF 57 C186:=by
 refine fitE [] (by simp) Tryz.f57 ⟨rfl,by decide +kernel,by decide +kernel⟩ (fun _ _ _ hk h=>hk _ h) ?_
 rintro n K ⟨h1,h2⟩ h
 refine ⟨Nat.le_of_ble_eq_true rfl,?_⟩
 unfold mkT at h
 by_cases h0:n≤0
 ·rw [if_pos h0] at h
  repeat' (first|refine vz ?_|(conv=>whnf); first|with_reducible first|refine Sp.mk ?_ ?_|refine br_d (fun _=>?_) fun _=>?_|refine vM (fun _=>?_) fun _=>?_)
  exact h
 rw [if_neg h0] at h
 have h40:(4000000000000000:Nat)<10 ^ 40:=by decide
 repeat' (first|refine vz ?_|(conv=>whnf); first|with_reducible first|refine Sp.mk ?_ ?_|refine br_d (fun _=>?_) fun _=>?_|refine vM (fun _=>?_) fun _=>?_)
 refine Lp.mk ⟨Dg,fun x=>[(0,.int .i64 x.m),(3,.str x.acc)],fun _=>[],fun x=>digT x.k x.m x.acc=digT 40 n.toNat ⟨#[]⟩∧x.m<10 ^ x.k∧x.acc.size+x.k≤40∧x.m≤4000000000000000,fun x=>x.m,⟨⟨n.toNat,40,⟨#[]⟩⟩,⟨rfl,by dsimp only; omega,Nat.le_refl _,by dsimp only; omega⟩,⟨⟨[],[],rfl,rfl,?_,?_⟩⟩⟩,?_⟩
 ·repeat' ((conv=>whnf); first|with_reducible exact True.intro|exact vW|with_reducible refine And.intro ?_ ?_)
  all_goals exact Chk.mk (by dsimp only; omega)
 ·exact wq
 rintro ⟨m,k,acc⟩ ⟨i1,i2,i3,i4⟩
 dsimp only at i1 i2 i3 i4 ⊢
 by_cases hm:0<m
 ·cases k with
  |zero=>simp at i2; omega
  |succ k =>
   have e1:(m:Int).tmod 10=(m % 10:Nat):=by rw [Int.tmod_eq_emod_of_nonneg (by omega)]; omega
   have e2:(m:Int).tdiv 10=(m / 10:Nat):=by rw [Int.tdiv_eq_ediv_of_nonneg (by omega)]; omega
   repeat' (first|refine vz ?_|(conv=>whnf); first|with_reducible first|refine Sp.mk ?_ ?_|refine br_d (fun _=>?_) fun _=>?_|refine vM (fun _=>?_) fun _=>?_)
   (conv=>whnf)
   rw [e1]
   repeat' (first|refine vz ?_|(conv=>whnf); first|with_reducible first|refine Sp.mk ?_ ?_|refine br_d (fun _=>?_) fun _=>?_|refine vM (fun _=>?_) fun _=>?_)
   refine ⟨Chk.mk (by rw [str1]; show 1+acc.size≤_; omega),?_⟩
   rw [str1]
   have e3:(48+((m % 10:Nat):Int)).toNat=48+m % 10:=by omega
   rw [e3]
   repeat' (first|refine vz ?_|(conv=>whnf); first|with_reducible first|refine Sp.mk ?_ ?_|refine br_d (fun _=>?_) fun _=>?_|refine vM (fun _=>?_) fun _=>?_)
   (conv=>whnf)
   try rw [e2]
   repeat' (first|refine vz ?_|(conv=>whnf); first|with_reducible first|refine Sp.mk ?_ ?_|refine br_d (fun _=>?_) fun _=>?_|refine vM (fun _=>?_) fun _=>?_)
   have e4:digT k (m / 10) (⟨#[UInt8.ofNat (48+m % 10)]⟩ ++ acc)=digT 40 n.toNat ⟨#[]⟩:=by
    rw [← i1]
    show _=if m=0 then acc else _
    rw [if_neg (by omega)]
   refine ⟨⟨m / 10,k,⟨#[UInt8.ofNat (48+m % 10)]⟩ ++ acc⟩,⟨e4,by rw [Nat.pow_succ] at i2; dsimp only; omega,by rw [ByteArray.size_append]; show 1+acc.size+k≤40; omega,by dsimp only; omega⟩,by dsimp only; omega,⟨⟨[],[],rfl,rfl,?_,?_⟩⟩⟩
   ·exact wq
   ·exact wq
 ·obtain rfl:m=0:=by omega
  have e:digT k 0 acc=acc:=by cases k <;> rfl
  rw [e] at i1
  rw [← i1] at h
  repeat' (first|refine vz ?_|(conv=>whnf); first|with_reducible first|refine Sp.mk ?_ ?_|refine br_d (fun _=>?_) fun _=>?_|refine vM (fun _=>?_) fun _=>?_)
  refine ⟨⟨by show 1+acc.size≤_; omega⟩,?_⟩
  repeat' (first|refine vz ?_|(conv=>whnf); first|with_reducible first|refine Sp.mk ?_ ?_|refine br_d (fun _=>?_) fun _=>?_|refine vM (fun _=>?_) fun _=>?_)
  exact h
structure Ms where
 l:List ByteArray
 n:Int
def C169:GC:=conG (X:=Ms) (fun x=>[.row 0 1 0 x.l.length,.int .i64 x.n]) (fun x=>[.row 1 x.l.length fun i=>encS (x.l.getD i ⟨#[]⟩)]) (fun x=>0≤x.n∧x.n≤2000000000000000∧x.l.length≤1000000000000000) fun x K=>K (.int .i64 (x.n+x.l.length)) [.row 1 x.l.length fun i=>encS ((mksS x.n x.l.length).getD i ⟨#[]⟩)]
theorem F169:GG 20 C169:=by
 refine fitG [(57,C186)] (by simp only [List.mem_cons,List.not_mem_nil,or_false]; rintro _ rfl <;> first|exact F186) [] (by simp) Tryz.f20 ⟨rfl,by decide +kernel,by decide +kernel⟩ (by intro x K K2 hk h; (try dsimp only at h ⊢); intros; apply hk; first|exact h|(apply h <;> assumption)) ?_
 rintro ⟨l,n⟩ K ⟨h1,h2,h3⟩ h
 refine ⟨Nat.le_of_ble_eq_true rfl,?_⟩
 dsimp only at h h1 h2 h3 ⊢
 repeat' (first|refine vz ?_|(conv=>whnf); first|with_reducible first|refine Sp.mk ?_ ?_|refine br_d (fun _=>?_) fun _=>?_|refine vM (fun _=>?_) fun _=>?_)
 refine Lp.mk ⟨Nat,fun i=>[(0,.row 0 1 0 l.length),(1,.int .i64 (n+i)),(5,.int .i64 i)],fun i=>[.row 1 l.length (mixF i (fun j=>encS (mkT (n+(j:Int)))) fun j=>encS (l.getD j ⟨#[]⟩))],fun i=>i≤l.length,fun i=>l.length-i,⟨0,Nat.zero_le _,⟨⟨[some 0],[],rfl,rfl,?_,?_⟩⟩⟩,?_⟩
 ·exact wq
 ·exact wq
 intro i i1
 dsimp only
 repeat' (first|refine vz ?_|(conv=>whnf); first|with_reducible first|refine Sp.mk ?_ ?_|refine br_d (fun _=>?_) fun _=>?_|refine vM (fun _=>?_) fun _=>?_)
 ·refine ⟨n+i,?_,⟨by omega,by omega⟩,?_⟩
  ·exact wq
  repeat' (first|refine vz ?_|(conv=>whnf); first|with_reducible first|refine Sp.mk ?_ ?_|refine br_d (fun _=>?_) fun _=>?_|refine vM (fun _=>?_) fun _=>?_)
  refine ⟨i+1,by omega,by omega,⟨⟨[some 0],[],rfl,rfl,?_,?_⟩⟩⟩
  ·exact wq
  ·repeat' ((conv=>whnf); first|with_reducible exact True.intro|exact vW|with_reducible refine And.intro ?_ ?_)
   all_goals exact Chk.mk (mix_step rfl)
 ·obtain rfl:i=l.length:=by omega
  refine ⟨_,_,[some 0],[],rfl,rfl,?_,?_,h⟩
  ·exact wq
  ·repeat' ((conv=>whnf); first|with_reducible exact True.intro|exact vW|with_reducible refine And.intro ?_ ?_)
   all_goals exact Chk.mk ⟨rfl,fun j hj=>by show encS _=_; rw [mksS_get hj,mix_lt hj]⟩
def C188:List AV→(AV→Prop)→Prop:=con (X:=Hd) (fun x=>[slS (mksS x.n x.k),.int .i64 x.n]) (fun x=>0≤x.n∧x.n≤2000000000000000∧x.k≤1000000000000000) fun x K=>K (.int .i64 (x.n+x.k))
theorem F188:FF 21 C188:=by
 refine fitE [(57,C186)] (by simp only [List.mem_cons,List.not_mem_nil,or_false]; rintro _ rfl <;> first|exact F186) Tryz.f21 ⟨rfl,by decide +kernel,by decide +kernel⟩ (fun _ _ _ hk h=>hk _ h) ?_
 rintro ⟨k,n⟩ K ⟨h1,h2,h3⟩ h
 refine ⟨Nat.le_of_ble_eq_true rfl,?_⟩
 dsimp only at h h1 h2 h3 ⊢
 have hl:=mksS_len n k
 obtain ⟨l,hle⟩:∃ l,mksS n k=l:=⟨_,rfl⟩
 rw [hle] at hl ⊢
 have hg:∀ i:Nat,i<k→l.getD i ⟨#[]⟩=mkT (n+i):=fun i hi=>by rw [← hle]; exact mksS_get hi
 repeat' (first|refine vz ?_|(conv=>whnf); first|with_reducible first|refine Sp.mk ?_ ?_|refine br_d (fun _=>?_) fun _=>?_|refine vM (fun _=>?_) fun _=>?_)
 refine Lp.mk ⟨Nat,fun i=>[(0,slS l),(1,.int .i64 (n+i)),(5,.int .i64 i)],fun _=>[],fun i=>i≤l.length,fun i=>l.length-i,⟨0,Nat.zero_le _,⟨⟨[],[],rfl,rfl,?_,?_⟩⟩⟩,?_⟩
 ·exact wq
 ·exact wq
 intro i i1
 dsimp only
 by_cases hi:i<l.length
 ·have hgi:=hg i (by omega)
  have hgi':l.getD (i:Int).toNat ⟨#[]⟩=mkT (n+i):=hgi
  repeat' (first|refine vz ?_|(conv=>whnf); first|with_reducible first|refine Sp.mk ?_ ?_|refine br_d (fun _=>?_) fun _=>?_|refine vM (fun _=>?_) fun _=>?_)
  refine Dr.mk ⟨(.rd 0 (.rd 1 (.rd 2 (.rd 3 (.rd 4 (.ef 5 (.rd 6 .dn) .no)))))),by decide +kernel,?_⟩
  repeat' (first|refine vz ?_|(conv=>whnf); first|with_reducible first|refine Sp.mk ?_ ?_|refine br_d (fun _=>?_) fun _=>?_|refine vM (fun _=>?_) fun _=>?_)
  refine ⟨n+i,?_,⟨by omega,by omega⟩,?_⟩
  ·exact wq
  repeat' (first|refine vz ?_|(conv=>whnf); first|with_reducible first|refine Sp.mk ?_ ?_|refine br_d (fun _=>?_) fun _=>?_|refine vM (fun _=>?_) fun _=>?_)
  refine ⟨i+1,by omega,by omega,⟨⟨[],[],rfl,rfl,?_,?_⟩⟩⟩
  ·exact wq
  ·exact wq
 ·obtain rfl:i=l.length:=by omega
  rw [← hl] at h
  repeat' (first|refine vz ?_|(conv=>whnf); first|with_reducible first|refine Sp.mk ?_ ?_|refine br_d (fun _=>?_) fun _=>?_|refine vM (fun _=>?_) fun _=>?_)
  exact h
structure Mh where
 p:Int
 l:List Int
 n:Int
def C168:GC:=conG (X:=Mh) (fun x=>[.agg [.int .i64 x.p,.row 0 1 0 x.l.length],.int .i64 x.n]) (fun x=>[.row 1 x.l.length fun i=>encI (x.l.getD i 0)]) (fun x=>0≤x.n∧x.n≤1000000000000000∧x.l.length≤1000000000000000) fun x K=>K (.int .i64 (x.n+x.l.length)) [.row 1 x.l.length fun i=>encI ((mksI x.n x.l.length).getD i 0)]
theorem F168:GG 95 C168:=by
 refine fitG [] (by simp) [(96,C185)] (by simp only [List.mem_cons,List.not_mem_nil,or_false]; rintro _ rfl <;> first|exact F185) Tryz.f95 ⟨rfl,by decide +kernel,by decide +kernel⟩ (by intro x K K2 hk h; (try dsimp only at h ⊢); intros; apply hk; first|exact h|(apply h <;> assumption)) ?_
 rintro ⟨p,l,n⟩ K hp h
 refine ⟨Nat.le_of_ble_eq_true rfl,?_⟩
 dsimp only at h hp ⊢
 repeat' (first|refine vz ?_|(conv=>whnf); first|with_reducible first|refine Sp.mk ?_ ?_|refine br_d (fun _=>?_) fun _=>?_|refine vM (fun _=>?_) fun _=>?_)
 refine ⟨_,_,[0],[],rfl,?_,?_,⟨l,n⟩,rfl,rfl,⟨hp⟩,?_⟩
 ·exact wq
 ·exact wq
 dsimp only
 repeat' (first|refine vz ?_|(conv=>whnf); first|with_reducible first|refine Sp.mk ?_ ?_|refine br_d (fun _=>?_) fun _=>?_|refine vM (fun _=>?_) fun _=>?_)
 refine ⟨_,_,[some 0],[],rfl,rfl,?_,?_,h⟩
 ·exact wq
 ·exact wq
structure Mp where
 x:Place
 n:Int
def plW (x:Place):AV:=.agg [.int .i64 x.p,.row 0 1 0 x.bs.length,.row 1 1 0 x.rules.length]
def plR (x:Place):List Obj:=[.row 1 x.bs.length fun i=>encI (x.bs.getD i 0),.row 1 x.rules.length fun i=>encS (x.rules.getD i ⟨#[]⟩)]
def mkPl (x:Place) (n:Int):Place:=⟨x.p,mksI n x.bs.length,mksS (n+x.bs.length) x.rules.length⟩
def mkPre (x:Mp):Prop:=0≤x.n∧x.n≤100000000000000∧x.x.bs.length≤100000000000000∧x.x.rules.length≤100000000000000
def C148:GC:=conG (X:=Mp) (fun x=>[plW x.x,.int .i64 x.n]) (fun x=>plR x.x) mkPre fun x K=>K (.int .i64 (x.n+x.x.bs.length+x.x.rules.length)) (plR (mkPl x.x x.n))
theorem F148:GG 52 C148:=by
 refine fitG [] (by simp) [(95,C168),(20,C169)] (by simp only [List.mem_cons,List.not_mem_nil,or_false]; rintro _ (rfl|rfl) <;> first|exact F168|exact F169) Tryz.f52 ⟨rfl,by decide +kernel,by decide +kernel⟩ (by intro x K K2 hk h; (try dsimp only at h ⊢); intros; apply hk; first|exact h|(apply h <;> assumption)) ?_
 rintro ⟨⟨p,bs,rs⟩,n⟩ K ⟨h1,h2,h3,h4⟩ h
 refine ⟨Nat.le_of_ble_eq_true rfl,?_⟩
 unfold plR mkPl at h
 dsimp only [plW,plR] at h h1 h2 h3 h4 ⊢
 rw [mksI_len,mksS_len] at h
 repeat' (first|refine vz ?_|(conv=>whnf); first|with_reducible first|refine Sp.mk ?_ ?_|refine br_d (fun _=>?_) fun _=>?_|refine vM (fun _=>?_) fun _=>?_)
 refine ⟨_,_,[0],[],rfl,?_,?_,⟨p,bs,n⟩,rfl,rfl,⟨by dsimp only; omega,by dsimp only; omega,by dsimp only; omega⟩,?_⟩
 ·exact wq
 ·exact wq
 dsimp only
 repeat' (first|refine vz ?_|(conv=>whnf); first|with_reducible first|refine Sp.mk ?_ ?_|refine br_d (fun _=>?_) fun _=>?_|refine vM (fun _=>?_) fun _=>?_)
 refine ⟨_,_,[1],[],rfl,?_,?_,⟨rs,n+bs.length⟩,rfl,rfl,⟨by dsimp only; omega,by dsimp only; omega,by dsimp only; omega⟩,?_⟩
 ·exact wq
 ·exact wq
 dsimp only
 repeat' (first|refine vz ?_|(conv=>whnf); first|with_reducible first|refine Sp.mk ?_ ?_|refine br_d (fun _=>?_) fun _=>?_|refine vM (fun _=>?_) fun _=>?_)
 refine ⟨_,_,[some 0,some 1],[],rfl,rfl,?_,?_,h⟩
 ·exact wq
 ·exact wq
def C187:List AV→(AV→Prop)→Prop:=con (X:=Int × Hd) (fun x=>[.agg [.int .i64 x.1,slI (mksI x.2.n x.2.k)],.int .i64 x.2.n]) (fun x=>0≤x.2.n∧x.2.n≤1000000000000000∧x.2.k≤1000000000000000) fun x K=>K (.int .i64 (x.2.n+x.2.k))
theorem F187:FF 97 C187:=by
 refine fitE [(98,C189)] (by simp only [List.mem_cons,List.not_mem_nil,or_false]; rintro _ rfl <;> first|exact F189) Tryz.f97 ⟨rfl,by decide +kernel,by decide +kernel⟩ (fun _ _ _ hk h=>hk _ h) ?_
 rintro ⟨p,⟨k,n⟩⟩ K hp h
 refine ⟨Nat.le_of_ble_eq_true rfl,?_⟩
 dsimp only at h hp ⊢
 repeat' (first|refine vz ?_|(conv=>whnf); first|with_reducible first|refine Sp.mk ?_ ?_|refine br_d (fun _=>?_) fun _=>?_|refine vM (fun _=>?_) fun _=>?_)
 refine ⟨⟨k,n⟩,?_,⟨hp⟩,?_⟩
 ·exact wq
 dsimp only
 repeat' (first|refine vz ?_|(conv=>whnf); first|with_reducible first|refine Sp.mk ?_ ?_|refine br_d (fun _=>?_) fun _=>?_|refine vM (fun _=>?_) fun _=>?_)
 exact h
def C171:List AV→(AV→Prop)→Prop:=con (X:=Mp) (fun x=>[enPl (mkPl x.x x.n),.int .i64 x.n]) mkPre fun x K=>K (.int .i64 (x.n+x.x.bs.length+x.x.rules.length))
theorem F171:FF 54 C171:=by
 refine fitE [(97,C187),(21,C188)] (by simp only [List.mem_cons,List.not_mem_nil,or_false]; rintro _ (rfl|rfl) <;> first|exact F187|exact F188) Tryz.f54 ⟨rfl,by decide +kernel,by decide +kernel⟩ (fun _ _ _ hk h=>hk _ h) ?_
 rintro ⟨⟨p,bs,rs⟩,n⟩ K ⟨h1,h2,h3,h4⟩ h
 refine ⟨Nat.le_of_ble_eq_true rfl,?_⟩
 dsimp only [enPl,plC,mkPl] at h h1 h2 h3 h4 ⊢
 repeat' (first|refine vz ?_|(conv=>whnf); first|with_reducible first|refine Sp.mk ?_ ?_|refine br_d (fun _=>?_) fun _=>?_|refine vM (fun _=>?_) fun _=>?_)
 refine ⟨(p,⟨bs.length,n⟩),?_,⟨by dsimp only; omega,by dsimp only; omega,by dsimp only; omega⟩,?_⟩
 ·exact wq
 dsimp only
 repeat' (first|refine vz ?_|(conv=>whnf); first|with_reducible first|refine Sp.mk ?_ ?_|refine br_d (fun _=>?_) fun _=>?_|refine vM (fun _=>?_) fun _=>?_)
 refine ⟨⟨rs.length,n+bs.length⟩,?_,⟨by dsimp only; omega,by dsimp only; omega,by dsimp only; omega⟩,?_⟩
 ·exact wq
 dsimp only
 repeat' (first|refine vz ?_|(conv=>whnf); first|with_reducible first|refine Sp.mk ?_ ?_|refine br_d (fun _=>?_) fun _=>?_|refine vM (fun _=>?_) fun _=>?_)
 exact h
end Go.Proofs.YtgdbhjmpkkbnnaaGreatDoor.Vc
end
section
/- Part NF: marks of rows of places: plain law. -/
namespace Go.Proofs.YtgdbhjmpkkbnnaaGreatDoor.Vc
open Go.Proofs
set_option maxRecDepth 10000
set_option maxHeartbeats 4000000
def mkN:List Place→Nat
 |[]=>0
 |x :: r=>1+x.bs.length+x.rules.length+mkN r
theorem mkN_app:∀ (l r:List Place),mkN (l ++ r)=mkN l+mkN r
 |[],r=>(Nat.zero_add _).symm
 |x :: l,r=>by rw [List.cons_append,mkN,mkN,mkN_app l r]; omega
theorem mkN_step {l:List Place} {i:Nat} (h:i<l.length):mkN (l.take (i+1))=mkN (l.take i)+(1+(l.getD i default).bs.length+(l.getD i default).rules.length):=by
 rw [take_succ' default h,mkN_app]
 simp [mkN]
theorem mkN_le {l:List Place} {i:Nat}:mkN (l.take i)≤mkN l:=by
 have:=mkN_app (l.take i) (l.drop i)
 rw [List.take_append_drop] at this
 omega
def mkAt (l:List Place) (n:Int) (j:Nat):Place:=⟨n+mkN (l.take j),mksI (n+mkN (l.take j)+1) (l.getD j default).bs.length,mksS (n+mkN (l.take j)+1+(l.getD j default).bs.length) (l.getD j default).rules.length⟩
def mkPs (l:List Place) (n:Int):List Place:=(List.range l.length).map fun j=>mkAt l n j
theorem mkPs_len (l:List Place) (n:Int):(mkPs l n).length=l.length:=by simp [mkPs]
theorem mkPs_get {l:List Place} {n:Int} {j:Nat} (h:j<l.length):(mkPs l n).getD j default=mkAt l n j:=by
 unfold mkPs
 rw [List.getD_eq_getElem?_getD,List.getElem?_map,List.getElem?_range h]
 rfl
structure Mps where
 l:List Place
 n:Int
def mpsPre (x:Mps):Prop:=0≤x.n∧x.n≤10000000000000∧mkN x.l≤10000000000000∧x.l.length≤10000000000000
def mkDe (d:Desk) (n:Int):Desk:=⟨mkPl d.now n,mkPs d.past (n+d.now.bs.length+d.now.rules.length)⟩
def mkM (d:Desk):Nat:=d.now.bs.length+d.now.rules.length+mkN d.past
structure Mds where
 d:Desk
 n:Int
def mdsPre (x:Mds):Prop:=0≤x.n∧x.n≤1000000000000∧x.d.now.bs.length≤1000000000000∧x.d.now.rules.length≤1000000000000∧mkN x.d.past≤10000000000000∧x.d.past.length≤10000000000000
end Go.Proofs.YtgdbhjmpkkbnnaaGreatDoor.Vc
end
section
/- Part NH: marks of desks with a past. -/
namespace Go.Proofs.YtgdbhjmpkkbnnaaGreatDoor.Vc
open Go.Proofs
set_option maxRecDepth 10000
set_option maxHeartbeats 4000000
theorem setF_at {X:Nat→List AV} {i:Nat} {v:List AV}:setF X i v i=v:=by
 unfold setF
 rw [Nat.beq_refl]
 rfl
theorem setF_two {X:Nat→List AV} {i:Nat} {u v:List AV}:setF (setF X i u) i v=setF X i v:=by
 funext j
 unfold setF
 cases Nat.beq j i <;> rfl
theorem mkAt_cells (a:Int) (m:Int) (b:Nat) (m':Int) (c:Nat):[.int .i64 a,.sl 1 b fun j=>encI ((mksI m b).getD j 0),.sl 1 c fun j=>encS ((mksS m' c).getD j ⟨#[]⟩)]=plC ⟨a,mksI m b,mksS m' c⟩:=by
 unfold plC
 dsimp only [slI,slS]
 rw [mksI_len,mksS_len]
def C170n:GC:=conG (X:=Mps) (fun x=>[.row 0 3 0 x.l.length,.int .i64 x.n]) (fun x=>[npO x.l]) mpsPre fun x K=>K (.int .i64 (x.n+mkN x.l)) [npO (mkPs x.l x.n)]
theorem F170n:GG 53 C170n:=by
 refine fitG [] (by simp) [(96,C185),(20,C169)] (by simp only [List.mem_cons,List.not_mem_nil,or_false]; rintro _ (rfl|rfl) <;> first|exact F185|exact F169) Tryz.f53 ⟨rfl,by decide +kernel,by decide +kernel⟩ (by intro x K K2 hk h; (try dsimp only at h ⊢); intros; apply hk; first|exact h|(apply h <;> assumption)) ?_
 rintro ⟨l,n⟩ K ⟨h1,h2,h3,h4⟩ h
 refine ⟨Nat.le_of_ble_eq_true rfl,?_⟩
 unfold npO at h
 dsimp only [npO] at h h1 h2 h3 h4 ⊢
 repeat' (first|refine vz ?_|(conv=>whnf); first|with_reducible first|refine Sp.mk ?_ ?_|refine br_d (fun _=>?_) fun _=>?_|refine vM (fun _=>?_) fun _=>?_)
 refine Lp.mk ⟨Nat,fun i=>[(0,.row 0 3 0 l.length),(1,.int .i64 (n+mkN (l.take i))),(5,.int .i64 i)],fun i=>[.nrow 3 l.length (mixF i (fun j=>plC (mkAt l n j)) fun j=>plC (l.getD j default)) none],fun i=>i≤l.length,fun i=>l.length-i,⟨0,Nat.zero_le _,⟨⟨[some 0],[],rfl,rfl,?_,?_⟩⟩⟩,?_⟩
 ·repeat' ((conv=>whnf); first|with_reducible exact True.intro|exact vW|with_reducible refine And.intro ?_ ?_)
  all_goals exact Chk.mk (by show n+((0:Nat):Int)=n; omega)
 ·exact wq
 intro i i1
 dsimp only
 have hN:=mkN_le (l:=l) (i:=i)
 by_cases hi:i<l.length
 ·have hN2:=mkN_le (l:=l) (i:=i+1)
  rw [mkN_step hi] at hN2
  obtain ⟨q,hq⟩:∃ q,l.getD i default=q:=⟨_,rfl⟩
  have hst:=mkN_step hi
  have hmk:mkAt l n i=⟨n+mkN (l.take i),mksI (n+mkN (l.take i)+1) q.bs.length,mksS (n+mkN (l.take i)+1+q.bs.length) q.rules.length⟩:=by unfold mkAt; rw [hq]
  rw [hq] at hst hN2
  obtain ⟨qp,qb,qr⟩:=q
  dsimp only at hst hN2 hmk
  generalize hM:mkN (l.take i)=M at *
  have hcs:setF (mixF i (fun j=>plC (mkAt l n j)) fun j=>plC (l.getD j default)) (0+i) (setCells (mixF i (fun j=>plC (mkAt l n j)) (fun j=>plC (l.getD j default)) (0+i)) 0 [.int .i64 (n+M)]) i=[.int .i64 (n+M),slI qb,slS qr]:=by
   rw [Nat.zero_add,setF_at,mix_at]
   show setCells (plC (l.getD i default)) 0 _=_
   rw [hq]
   rfl
  repeat' ((conv=>whnf); first|with_reducible refine wk_at 6 ?_|with_reducible refine wk_at1 6 ?_|with_reducible refine wk_at2 6 ?_|refine vA ?_|with_reducible first|refine v8 ?_|refine Ch.l ?_|refine Sp.mk ?_ ?_|refine vS ?_|refine vR ?_|refine vB ?_|refine br_nt ?_|refine br_tt ?_|refine br_ff ?_|refine vP ?_|refine vQ ?_|refine vT ?_|refine vF ?_|refine br_and ?_|refine br_or ?_|refine br_d (fun _=>?_) fun _=>?_|refine vM (fun _=>?_) fun _=>?_)
  refine ⟨Wk.mv _ (.cons _ _ _ (.op 0 3 _ _ i _ rfl hi hcs (by conv=>whnf)) (.nil _)) ?_⟩
  repeat' (first|refine vz ?_|(conv=>whnf); first|with_reducible first|refine Sp.mk ?_ ?_|refine br_d (fun _=>?_) fun _=>?_|refine vM (fun _=>?_) fun _=>?_)
  refine ⟨_,_,[1],[],rfl,?_,?_,⟨qb,n+M+1⟩,rfl,rfl,⟨by dsimp only; omega,by dsimp only; omega,by dsimp only; omega⟩,?_⟩
  ·exact wq
  ·exact wq
  dsimp only
  repeat' (first|refine vz ?_|(conv=>whnf); first|with_reducible first|refine Sp.mk ?_ ?_|refine br_d (fun _=>?_) fun _=>?_|refine vM (fun _=>?_) fun _=>?_)
  refine ⟨_,_,[2],[],rfl,?_,?_,⟨qr,n+M+1+qb.length⟩,rfl,rfl,⟨by dsimp only; omega,by dsimp only; omega,by dsimp only; omega⟩,?_⟩
  ·exact wq
  ·exact wq
  dsimp only
  repeat' ((conv=>whnf); first|with_reducible refine wk_at 3 ?_|with_reducible refine wk_at1 3 ?_|with_reducible refine wk_at2 3 ?_|refine vA ?_|with_reducible first|refine v8 ?_|refine Ch.l ?_|refine Sp.mk ?_ ?_|refine vS ?_|refine vR ?_|refine vB ?_|refine br_nt ?_|refine br_tt ?_|refine br_ff ?_|refine vP ?_|refine vQ ?_|refine vT ?_|refine vF ?_|refine br_and ?_|refine br_or ?_|refine br_d (fun _=>?_) fun _=>?_|refine vM (fun _=>?_) fun _=>?_)
  refine ⟨Wk.mv _ (.cons _ _ _ (.cl 0 3 _ _ i _ _ _ _ rfl rfl ⟨rfl,rfl,trivial⟩ rfl (by conv=>whnf)) (.nil _)) ?_⟩
  repeat' (first|refine vz ?_|(conv=>whnf); first|with_reducible first|refine Sp.mk ?_ ?_|refine br_d (fun _=>?_) fun _=>?_|refine vM (fun _=>?_) fun _=>?_)
  refine ⟨i+1,by omega,by omega,⟨⟨[some 0],[],rfl,rfl,?_,?_⟩⟩⟩
  ·repeat' ((conv=>whnf); first|with_reducible exact True.intro|exact vW|with_reducible refine And.intro ?_ ?_)
   all_goals exact Chk.mk (by rw [hst]; omega)
  ·repeat' ((conv=>whnf); first|with_reducible exact True.intro|exact vW|with_reducible refine And.intro ?_ ?_)
   all_goals exact Chk.mk ⟨rfl,fun j _=>by
    rw [Nat.zero_add,Int.toNat_natCast,setF_two]
    exact mix_set (by rw [hmk]; exact mkAt_cells _ _ _ _ _) j⟩
 ·obtain rfl:i=l.length:=by omega
  repeat' (first|refine vz ?_|(conv=>whnf); first|with_reducible first|refine Sp.mk ?_ ?_|refine br_d (fun _=>?_) fun _=>?_|refine vM (fun _=>?_) fun _=>?_)
  refine ⟨_,_,[some 0],[],rfl,rfl,?_,?_,h⟩
  ·repeat' ((conv=>whnf); first|with_reducible exact True.intro|exact vW|with_reducible refine And.intro ?_ ?_)
   all_goals exact Chk.mk (by rw [List.take_length])
  ·repeat' ((conv=>whnf); first|with_reducible exact True.intro|exact vW|with_reducible refine And.intro ?_ ?_)
   all_goals exact Chk.mk ⟨by rw [mkPs_len],fun j hj=>by rw [mkPs_len] at hj; show plC _=_; rw [mkPs_get hj,mix_lt hj]⟩
def C172n:List AV→(AV→Prop)→Prop:=con (X:=Mps) (fun x=>[slP (mkPs x.l x.n),.int .i64 x.n]) mpsPre fun x K=>K (.int .i64 (x.n+mkN x.l))
theorem F172n:FF 55 C172n:=by
 refine fitE [(98,C189),(21,C188)] (by simp only [List.mem_cons,List.not_mem_nil,or_false]; rintro _ (rfl|rfl) <;> first|exact F189|exact F188) Tryz.f55 ⟨rfl,by decide +kernel,by decide +kernel⟩ (fun _ _ _ hk h=>hk _ h) ?_
 rintro ⟨l,n⟩ K ⟨h1,h2,h3,h4⟩ h
 refine ⟨Nat.le_of_ble_eq_true rfl,?_⟩
 dsimp only at h h1 h2 h3 h4 ⊢
 have hl:=mkPs_len l n
 have hg:∀ i:Nat,i<l.length→(mkPs l n).getD i default=mkAt l n i:=fun i hi=>mkPs_get hi
 generalize mkPs l n=L at hl hg ⊢
 repeat' (first|refine vz ?_|(conv=>whnf); first|with_reducible first|refine Sp.mk ?_ ?_|refine br_d (fun _=>?_) fun _=>?_|refine vM (fun _=>?_) fun _=>?_)
 refine Lp.mk ⟨Nat,fun i=>[(0,slP L),(1,.int .i64 (n+mkN (l.take i))),(5,.int .i64 i)],fun _=>[],fun i=>i≤l.length,fun i=>l.length-i,⟨0,Nat.zero_le _,⟨⟨[],[],rfl,rfl,?_,?_⟩⟩⟩,?_⟩
 ·repeat' ((conv=>whnf); first|with_reducible exact True.intro|exact vW|with_reducible refine And.intro ?_ ?_)
  all_goals exact Chk.mk (by show n+((0:Nat):Int)=n; omega)
 ·exact wq
 intro i i1
 dsimp only
 have hN:=mkN_le (l:=l) (i:=i)
 by_cases hi:i<l.length
 ·have hN2:=mkN_le (l:=l) (i:=i+1)
  have hst:=mkN_step hi
  rw [hst] at hN2
  have hgi:L.getD (i:Int).toNat default=mkAt l n i:=hg i hi
  have g1:(L.getD (i:Int).toNat default).p=n+mkN (l.take i):=by rw [hgi]; rfl
  have g2:(L.getD (i:Int).toNat default).bs=mksI (n+mkN (l.take i)+1) (l.getD i default).bs.length:=by rw [hgi]; rfl
  have g3:(L.getD (i:Int).toNat default).rules=mksS (n+mkN (l.take i)+1+(l.getD i default).bs.length) (l.getD i default).rules.length:=by rw [hgi]; rfl
  generalize mkN (l.take i)=M at *
  repeat' (first|refine vz ?_|(conv=>whnf); first|with_reducible first|refine Sp.mk ?_ ?_|refine br_d (fun _=>?_) fun _=>?_|refine vM (fun _=>?_) fun _=>?_)
  refine ⟨⟨(l.getD i default).bs.length,n+M+1⟩,?_,⟨by dsimp only; omega,by dsimp only; omega,by dsimp only; omega⟩,?_⟩
  ·repeat' ((conv=>whnf); first|with_reducible exact True.intro|exact vW|with_reducible refine And.intro ?_ ?_)
   all_goals exact Chk.mk (by rw [g2]; exact ⟨rfl,fun _ _=>rfl⟩)
  dsimp only
  repeat' (first|refine vz ?_|(conv=>whnf); first|with_reducible first|refine Sp.mk ?_ ?_|refine br_d (fun _=>?_) fun _=>?_|refine vM (fun _=>?_) fun _=>?_)
  refine ⟨⟨(l.getD i default).rules.length,n+M+1+(l.getD i default).bs.length⟩,?_,⟨by dsimp only; omega,by dsimp only; omega,by dsimp only; omega⟩,?_⟩
  ·repeat' ((conv=>whnf); first|with_reducible exact True.intro|exact vW|with_reducible refine And.intro ?_ ?_)
   all_goals exact Chk.mk (by rw [g3]; exact ⟨rfl,fun _ _=>rfl⟩)
  dsimp only
  repeat' (first|refine vz ?_|(conv=>whnf); first|with_reducible first|refine Sp.mk ?_ ?_|refine br_d (fun _=>?_) fun _=>?_|refine vM (fun _=>?_) fun _=>?_)
  refine ⟨i+1,by omega,by omega,⟨⟨[],[],rfl,rfl,?_,?_⟩⟩⟩
  ·repeat' ((conv=>whnf); first|with_reducible exact True.intro|exact vW|with_reducible refine And.intro ?_ ?_)
   all_goals exact Chk.mk (by rw [hst]; omega)
  ·exact wq
 ·obtain rfl:i=l.length:=by omega
  rw [List.take_length]
  repeat' (first|refine vz ?_|(conv=>whnf); first|with_reducible first|refine Sp.mk ?_ ?_|refine br_d (fun _=>?_) fun _=>?_|refine vM (fun _=>?_) fun _=>?_)
  exact h
def C149n:GC:=conG (X:=Mds) (fun x=>[deN x.d,.int .i64 x.n]) (fun x=>deO x.d) mdsPre fun x K=>K (.int .i64 (x.n+mkM x.d)) (deO (mkDe x.d x.n))
theorem F149n:GG 13 C149n:=by
 refine fitG [] (by simp) [(52,C148),(53,C170n)] (by simp only [List.mem_cons,List.not_mem_nil,or_false]; rintro _ (rfl|rfl) <;> first|exact F148|exact F170n) Tryz.f13 ⟨rfl,by decide +kernel,by decide +kernel⟩ (by intro x K K2 hk h; (try dsimp only at h ⊢); intros; apply hk; first|exact h|(apply h <;> assumption)) ?_
 rintro ⟨⟨⟨p,bs,rs⟩,l⟩,n⟩ K ⟨h1,h2,h3,h4,h5,h6⟩ h
 refine ⟨Nat.le_of_ble_eq_true rfl,?_⟩
 unfold deO mkDe mkPl mkM at h
 dsimp only [deN,deO,npO] at h h1 h2 h3 h4 h5 h6 ⊢
 repeat' (first|refine vz ?_|(conv=>whnf); first|with_reducible first|refine Sp.mk ?_ ?_|refine br_d (fun _=>?_) fun _=>?_|refine vM (fun _=>?_) fun _=>?_)
 refine ⟨_,_,[0,1],[],rfl,?_,?_,⟨⟨p,bs,rs⟩,n⟩,rfl,rfl,⟨by dsimp only; omega,by dsimp only; omega,by dsimp only; omega,by dsimp only; omega⟩,?_⟩
 ·exact wq
 ·exact wq
 dsimp only [plR,mkPl]
 repeat' (first|refine vz ?_|(conv=>whnf); first|with_reducible first|refine Sp.mk ?_ ?_|refine br_d (fun _=>?_) fun _=>?_|refine vM (fun _=>?_) fun _=>?_)
 refine ⟨_,_,[2],[],rfl,?_,?_,⟨l,n+bs.length+rs.length⟩,rfl,rfl,⟨by dsimp only; omega,by dsimp only; omega,by dsimp only; omega,by dsimp only; omega⟩,?_⟩
 ·exact wq
 ·exact wq
 dsimp only [npO]
 repeat' (first|refine vz ?_|(conv=>whnf); first|with_reducible first|refine Sp.mk ?_ ?_|refine br_d (fun _=>?_) fun _=>?_|refine vM (fun _=>?_) fun _=>?_)
 refine ⟨_,_,[some 0,some 1,some 2],[],rfl,rfl,?_,?_,h⟩
 ·exact wq
 ·exact wq
def deM (d:Desk) (n:Int):List Obj:=[.row 1 d.now.bs.length fun i=>encI ((mksI n d.now.bs.length).getD i 0),.row 1 d.now.rules.length fun i=>encS ((mksS (n+d.now.bs.length) d.now.rules.length).getD i ⟨#[]⟩),.nrow 3 d.past.length (fun i=>plC ((mkPs d.past (n+d.now.bs.length+d.now.rules.length)).getD i default)) none]
theorem deM_eq (d:Desk) (n:Int):deO (mkDe d n)=deM d n:=by
 unfold deO mkDe mkPl npO deM
 dsimp only
 rw [mksI_len,mksS_len,mkPs_len]
def C150n:List AV→(AV→Prop)→Prop:=con (X:=Mds) (fun x=>[enDe (mkDe x.d x.n),.int .i64 x.n]) mdsPre fun x K=>K (.int .i64 (x.n+mkM x.d))
theorem F150n:FF 14 C150n:=by
 refine fitXE [(54,C171),(55,C172n)] (by simp only [List.mem_cons,List.not_mem_nil,or_false]; rintro _ (rfl|rfl) <;> first|exact F171|exact F172n) [] (by simp) Tryz.f14 ⟨rfl,by decide +kernel,by decide +kernel⟩ (fun _ _ _ hk h=>hk _ h) ?_
 rintro ⟨⟨⟨p,bs,rs⟩,l⟩,n⟩ K ⟨h1,h2,h3,h4,h5,h6⟩ h
 refine ⟨Nat.le_of_ble_eq_true rfl,?_⟩
 unfold mkM at h
 dsimp only [enDe,deC,mkDe,mkPl] at h h1 h2 h3 h4 h5 h6 ⊢
 repeat' (first|refine vz ?_|(conv=>whnf); first|with_reducible first|refine Sp.mk ?_ ?_|refine br_d (fun _=>?_) fun _=>?_|refine vM (fun _=>?_) fun _=>?_)
 refine ⟨⟨⟨p,bs,rs⟩,n⟩,?_,⟨by dsimp only; omega,by dsimp only; omega,by dsimp only; omega,by dsimp only; omega⟩,?_⟩
 ·exact wq
 dsimp only
 repeat' (first|refine vz ?_|(conv=>whnf); first|with_reducible first|refine Sp.mk ?_ ?_|refine br_d (fun _=>?_) fun _=>?_|refine vM (fun _=>?_) fun _=>?_)
 refine ⟨⟨l,n+bs.length+rs.length⟩,?_,⟨by dsimp only; omega,by dsimp only; omega,by dsimp only; omega,by dsimp only; omega⟩,?_⟩
 ·exact wq
 dsimp only
 repeat' (first|refine vz ?_|(conv=>whnf); first|with_reducible first|refine Sp.mk ?_ ?_|refine br_d (fun _=>?_) fun _=>?_|refine vM (fun _=>?_) fun _=>?_)
 refine ⟨_,?_,h⟩
 repeat' ((conv=>whnf); first|with_reducible exact True.intro|exact vW|with_reducible refine And.intro ?_ ?_)
 all_goals exact Chk.mk (by omega)
end Go.Proofs.YtgdbhjmpkkbnnaaGreatDoor.Vc
end
section
/- Part TO: deeds and desks that are drawn. -/
namespace Go.Proofs.YtgdbhjmpkkbnnaaGreatDoor.Vc
open Go.Proofs
set_option maxRecDepth 10000
set_option maxHeartbeats 4000000
structure drawnA (a:Dd):Prop where
 k0:i64r a.kind
 a0:i64r a.a
 b0:i64r a.b
 w0:a.words.size≤10000
def placeS (x:Place):Prop:=placeI x∧x.bs.length≤4∧x.rules.length≤100000
/-! ### Desks that are drawn -/
structure drawnQ (x:Place):Prop where
 i:placeI x
 bl:x.bs.length≤4
 rl:x.rules.length≤4
 rr:∀ r∈x.rules,r.size≤10000
def drawnD (d:Desk):Prop:=drawnQ d.now∧d.past.length≤9∧∀ p∈d.past,drawnQ p
theorem drawnP.q {x:Place} (h:drawnP x):drawnQ x:=⟨h.I,h.bl,h.rl,h.rr⟩
theorem drawnQ.s {x:Place} (h:drawnQ x):shortP x:=⟨Nat.le_trans h.rl (by decide),Nat.le_trans h.bl (by decide)⟩
theorem drawnD.I {d:Desk} (h:drawnD d):deskI d:=⟨h.1.i,Nat.lt_of_le_of_lt h.2.1 (by decide),fun p hp=>(h.2.2 p hp).i⟩
theorem drawnA.I {a:Dd} (h:drawnA a):dedI a:=⟨h.k0,h.a0,h.b0,Nat.lt_of_le_of_lt h.w0 (by decide)⟩
end Go.Proofs.YtgdbhjmpkkbnnaaGreatDoor.Vc
end
section
/- Part UA: texts that are cut, and numbers that are read. -/
namespace Go.Proofs.YtgdbhjmpkkbnnaaGreatDoor.Vc
open Go.Proofs
set_option maxRecDepth 10000
/-! ### Numbers -/
def digB (b:UInt8):Prop:=48≤b.toNat∧b.toNat≤57
def valL (a:Nat):List UInt8→Nat
 |[]=>a
 |b :: l=>valL (a*10+(b.toNat-48)) l
theorem valL_app:∀ (l m:List UInt8) (a:Nat),valL a (l ++ m)=valL (valL a l) m
 |[],_,_=>rfl
 |_ :: l,m,_=>valL_app l m _
theorem valL_ge:∀ (l:List UInt8) (a:Nat),a≤valL a l
 |[],_=>Nat.le_refl _
 |_ :: l,a=>Nat.le_trans (by omega) (valL_ge l _)
theorem dig_toNat {k:Nat} (h:k<10):(UInt8.ofNat (48+k)).toNat=48+k:=by
 rw [UInt8.toNat_ofNat']
 exact Nat.mod_eq_of_lt (by omega)
theorem dec_val (n:Nat):valL 0 (Lib.decDigits n)=n:=by
 induction n using Nat.strongRecOn with
 |_ n ih =>
  rw [Lib.decDigits]
  split
  ·rename_i h
   show 0*10+((UInt8.ofNat (48+n)).toNat-48)=n
   rw [dig_toNat h]
   omega
  ·rename_i h
   rw [valL_app,ih (n / 10) (by omega)]
   show n / 10*10+((UInt8.ofNat (48+n % 10)).toNat-48)=n
   rw [dig_toNat (by omega)]
   omega
theorem dec_dig (n:Nat):∀ b∈Lib.decDigits n,digB b:=by
 induction n using Nat.strongRecOn with
 |_ n ih =>
  rw [Lib.decDigits]
  split
  ·rename_i h
   intro b hb
   rw [List.mem_singleton.1 hb]
   unfold digB
   rw [dig_toNat h]
   omega
  ·rename_i h
   intro b hb
   rcases List.mem_append.1 hb with hb|hb
   ·exact ih _ (by omega) b hb
   ·rw [List.mem_singleton.1 hb]
    unfold digB
    rw [dig_toNat (by omega)]
    omega
theorem dec_pos (n:Nat):1≤(Lib.decDigits n).length:=by
 rw [Lib.decDigits]
 split
 ·exact Nat.le_refl _
 ·rw [List.length_append]; exact Nat.le_add_left _ _
theorem dec_len6 {n:Nat} (h:n<1000000):(Lib.decDigits n).length≤6:=by
 have key:∀ k n,n<10 ^ (k+1)→(Lib.decDigits n).length≤k+1:=by
  intro k
  induction k with
  |zero=>intro n h; rw [Lib.decDigits,dif_pos (by simpa using h)]; exact Nat.le_refl _
  |succ k ih =>
   intro n h
   rw [Lib.decDigits]
   split
   ·show 1≤_; omega
   ·rw [List.length_append]
    have:=ih (n / 10) (by rw [Nat.pow_succ] at h; omega)
    show _+1≤_
    omega
 exact key 5 n (by simpa using h)
theorem dec_head (n:Nat):1≤n→(Lib.decDigits n).head?≠some 48:=by
 induction n using Nat.strongRecOn with
 |_ n ih =>
  intro h1
  rw [Lib.decDigits]
  split
  ·rename_i h
   intro e
   have e2:UInt8.ofNat (48+n)=48:=by simpa using e
   have:=congrArg UInt8.toNat e2
   rw [dig_toNat h] at this
   have h48:(48:UInt8).toNat=48:=rfl
   omega
  ·rename_i h
   have ih2:=ih (n / 10) (by omega) (by omega)
   have hp:=dec_pos (n / 10)
   intro e
   cases hl:Lib.decDigits (n / 10) with
   |nil=>rw [hl] at hp; simp at hp
   |cons c r=>rw [hl] at e ih2; exact ih2 (by simpa using e)
theorem num_list (n:Nat):(num (n:Int)).data.toList=Lib.decDigits n:=by
 show (Lib.decDigits (n:Int).toNat).toArray.toList=_
 rw [Int.toNat_natCast]
theorem num_val (n:Nat):valL 0 (num (n:Int)).data.toList=n:=by rw [num_list,dec_val]
theorem parse_dig:∀ (l:List UInt8) (a:Nat),(∀ b∈l,digB b)→valL a l<1844674407370955162→Lib.parseUint10 a l=.ok (valL a l)
 |[],_,_,_=>rfl
 |b :: l,a,hd,hv=>by
  have h1:=hd b List.mem_cons_self
  have h2:=valL_ge l (a*10+(b.toNat-48))
  have h3:valL a (b :: l)=valL (a*10+(b.toNat-48)) l:=rfl
  rw [h3] at hv
  rw [Lib.parseUint10,if_pos (show 48≤b.toNat∧b.toNat≤57 from h1),if_neg (by omega),if_neg (by omega),parse_dig l _ (fun c hc=>hd c (List.mem_cons_of_mem _ hc)) hv]
  rfl
theorem atoi_num {n:Nat} (h:n<1000000):Lib.atoiAll (num (n:Int)).data.toList=.ok (n:Int):=by
 rw [num_list]
 have hd:=dec_dig n
 have hv:=dec_val n
 have hp:=dec_pos n
 cases hl:Lib.decDigits n with
 |nil=>rw [hl] at hp; simp at hp
 |cons c r =>
  rw [hl] at hd hv
  have hc:=hd c List.mem_cons_self
  unfold digB at hc
  unfold Lib.atoiAll
  have e:Lib.parseMag (c :: r)=.ok n:=by
   unfold Lib.parseMag
   rw [if_neg (by simp),parse_dig _ _ hd (by rw [hv]; omega),hv]
  simp only
  rw [if_neg (by omega),e]
  simp only
  rw [if_neg (by omega),if_neg (by omega),if_neg (by omega)]
/-! ### Cutting -/
def headApp (x:List UInt8):List (List UInt8)→List (List UInt8)
 |y :: r=>(x ++ y) :: r
 |[]=>[x]
def cutL (c:UInt8):List UInt8→List (List UInt8)
 |[]=>[[]]
 |b :: l=>if b=c then [] :: cutL c l else headApp [b] (cutL c l)
theorem headApp_app (x y:List UInt8):∀ L,headApp x (headApp y L)=headApp (x ++ y) L
 |[]=>rfl
 |z :: r=>by show (x ++ (y ++ z)) :: r=_; rw [← List.append_assoc]; rfl
theorem headApp_nil {L:List (List UInt8)} (h:L≠[]):headApp [] L=L:=by cases L with|nil=>exact absurd rfl h|cons=>rfl
theorem cutL_ne (c:UInt8) (l:List UInt8):cutL c l≠[]:=by
 cases l with
 |nil=>exact List.cons_ne_nil _ _
 |cons b l =>
  unfold cutL
  split
  ·exact List.cons_ne_nil _ _
  ·cases cutL c l <;> exact List.cons_ne_nil _ _
theorem cutL_none {c:UInt8}:∀ {x:List UInt8},c ∉ x→cutL c x=[x]
 |[],_=>rfl
 |b :: x,h=>by
  unfold cutL
  rw [if_neg (fun e:b=c=>h (e ▸ List.mem_cons_self)),cutL_none fun q=>h (List.mem_cons_of_mem _ q)]
  rfl
theorem cutL_hit {c:UInt8} {r:List UInt8}:∀ {x:List UInt8},c ∉ x→cutL c (x ++ c :: r)=x :: cutL c r
 |[],_=>by show (if c=c then _ else _)=_; rw [if_pos rfl]
 |b :: x,h=>by
  show (if b=c then _ else headApp [b] (cutL c (x ++ c :: r)))=_
  rw [if_neg (fun e:b=c=>h (e ▸ List.mem_cons_self)),cutL_hit fun q=>h (List.mem_cons_of_mem _ q)]
  rfl
theorem index_none {c:UInt8}:∀ {x:List UInt8},c ∉ x→Lib.index x [c]=-1
 |[],_=>rfl
 |b :: x,h=>by
  have e1:c≠b:=fun e=>h (e ▸ List.mem_cons_self)
  have hp:([c]:List UInt8).isPrefixOf (b :: x)=false:=by simp [List.isPrefixOf,e1]
  rw [Lib.index,hp,index_none fun q=>h (List.mem_cons_of_mem _ q)]
  rfl
theorem index_hit {c:UInt8} {r:List UInt8}:∀ {x:List UInt8},c ∉ x→Lib.index (x ++ c :: r) [c]=(x.length:Int)
 |[],_=>by
  show Lib.index (c :: r) [c]=0
  rw [Lib.index]
  simp [List.isPrefixOf]
 |b :: x,h=>by
  have e1:c≠b:=fun e=>h (e ▸ List.mem_cons_self)
  have hp:([c]:List UInt8).isPrefixOf (b :: (x ++ c :: r))=false:=by simp [List.isPrefixOf,e1]
  rw [List.cons_append,Lib.index,hp,index_hit fun q=>h (List.mem_cons_of_mem _ q)]
  have:¬ (((x.length:Int) == -1)=true):=fun e=>by have:=beq_iff_eq.1 e; omega
  simp only [Bool.false_eq_true,if_false]
  rw [if_neg this,List.length_cons]
  omega
theorem first_occ {c:UInt8}:∀ {l:List UInt8},c∈l→∃ x r,l=x ++ c :: r∧c ∉ x
 |b :: l,h=>by
  by_cases e:c=b
  ·exact ⟨[],l,by rw [e]; rfl,fun q=>by cases q⟩
  ·obtain ⟨x,r,e1,e2⟩:=first_occ ((List.mem_cons.1 h).resolve_left e)
   exact ⟨b :: x,r,by rw [e1]; rfl,fun q=>(List.mem_cons.1 q).elim e e2⟩
theorem split_cut (c:UInt8):∀ (n:Nat) (l:List UInt8),l.length≤n→Lib.splitK [c] 0 (Lib.count l [c]) l=cutL c l
 |n,l,hn=>by
  by_cases h:c∈l
  ·obtain ⟨x,r,rfl,hx⟩:=first_occ h
   have hi:=index_hit (r:=r) hx
   have e1:(x ++ c :: r).drop (x.length+1)=r:=by
    rw [List.drop_append,List.drop_of_length_le (by omega),show x.length+1-x.length=1 by omega]
    rfl
   have hc:Lib.count (x ++ c :: r) [c]=Lib.count r [c]+1:=by
    rw [Lib.count_hit (by simp) hi,show ([c]:List UInt8).length=1 from rfl,e1,Nat.add_comm]
   have hm:¬ (Lib.index (x ++ c :: r) [c] == -1)=true:=fun e=>by have:=beq_iff_eq.1 e; omega
   rw [hc,Lib.splitK,if_neg hm,hi,Int.toNat_natCast,Nat.add_zero,List.take_left,show ([c]:List UInt8).length=1 from rfl,e1,cutL_hit hx]
   cases n with
   |zero=>simp at hn
   |succ n=>rw [split_cut c n r (by simp at hn; omega)]
  ·rw [Lib.count_miss (index_none h),cutL_none h]
   rfl
def cutB (s:ByteArray) (c:UInt8):List ByteArray:=(cutL c s.data.toList).map fun l=>⟨l.toArray⟩
theorem splitB_cut (s:ByteArray) (c:UInt8):Lib.splitB ⟨#[c]⟩ 0 (Lib.countB s ⟨#[c]⟩) s=cutB s c:=by
 have h:=Lib.splitB_data ⟨#[c]⟩ 0 (Lib.countB s ⟨#[c]⟩) s
 have h2:Lib.splitK [c] 0 (Lib.countB s ⟨#[c]⟩) s.data.toList=cutL c s.data.toList:=split_cut c _ _ (Nat.le_refl _)
 have h3:(Lib.splitB ⟨#[c]⟩ 0 (Lib.countB s ⟨#[c]⟩) s).map (·.data.toList)=cutL c s.data.toList:=h.trans h2
 unfold cutB
 rw [← h3,List.map_map]
 exact (List.map_id _).symm
theorem headApp_len (x:List UInt8) {L:List (List UInt8)} (h:L≠[]):(headApp x L).length=L.length:=by cases L with|nil=>exact absurd rfl h|cons=>rfl
theorem cutL_len (c:UInt8):∀ l:List UInt8,1≤(cutL c l).length∧(cutL c l).length≤l.length+1
 |[]=>⟨Nat.le_refl _,Nat.le_refl _⟩
 |b :: l=>by
  have ih:=cutL_len c l
  unfold cutL
  split
  ·simp only [List.length_cons]; omega
  ·rw [headApp_len _ (cutL_ne c l)]; simp only [List.length_cons]; omega
theorem cutL_mem (c:UInt8):∀ (l:List UInt8),∀ x∈cutL c l,x.length≤l.length
 |[],x,h=>by rw [List.mem_singleton.1 h]; exact Nat.le_refl _
 |b :: l,x,h=>by
  have ih:=cutL_mem c l
  unfold cutL at h
  split at h
  ·rcases List.mem_cons.1 h with rfl|h
   ·exact Nat.zero_le _
   ·exact Nat.le_trans (ih x h) (Nat.le_succ _)
  ·cases e:cutL c l with
   |nil=>exact absurd e (cutL_ne c l)
   |cons y r =>
    rw [e] at h ih
    rcases List.mem_cons.1 h with rfl|h
    ·have:=ih y List.mem_cons_self
     simp only [List.length_append,List.length_cons,List.length_nil]; omega
    ·exact Nat.le_trans (ih x (List.mem_cons_of_mem _ h)) (Nat.le_succ _)
theorem cutB_len (s:ByteArray) (c:UInt8):1≤(cutB s c).length∧(cutB s c).length≤s.size+1:=by
 unfold cutB
 rw [List.length_map]
 exact cutL_len c _
theorem cutB_mem {s:ByteArray} {c:UInt8} {x:ByteArray} (h:x∈cutB s c):x.size≤s.size:=by
 obtain ⟨l,hl,rfl⟩:=List.mem_map.1 h
 exact cutL_mem c _ l hl
theorem join_cut (c:UInt8):∀ {xs:List (List UInt8)},xs≠[]→(∀ x∈xs,c ∉ x)→cutL c (Lib.join xs [c])=xs
 |[],h,_=>absurd rfl h
 |[x],_,h=>by rw [Lib.join_one,cutL_none (h x List.mem_cons_self)]
 |x :: y :: r,_,h=>by
  have e:Lib.join (x :: y :: r) [c]=x ++ c :: Lib.join (y :: r) [c]:=by
   unfold Lib.join List.intercalate
   rw [List.intersperse_cons_cons,List.flatten_cons,List.flatten_cons]
   rfl
  rw [e,cutL_hit (h x List.mem_cons_self),join_cut c (List.cons_ne_nil _ _) fun z hz=>h z (List.mem_cons_of_mem _ hz)]
theorem joinB_cut {c:UInt8} {xs:List ByteArray} (h:xs≠[]) (hc:∀ x∈xs,c ∉ x.data.toList):cutB (joinB xs ⟨#[c]⟩) c=xs:=by
 have e:cutL c (Lib.join (xs.map (·.data.toList)) [c])=xs.map (·.data.toList):=join_cut c (fun e=>h (List.map_eq_nil_iff.1 e)) fun x hx=>by
  obtain ⟨y,hy,rfl⟩:=List.mem_map.1 hx
  exact hc y hy
 show (cutL c (Lib.join (xs.map (·.data.toList)) [c])).map _=_
 rw [e,List.map_map]
 exact List.map_id _
end Go.Proofs.YtgdbhjmpkkbnnaaGreatDoor.Vc
end
section
/- Part UB: strings.Split, strconv.Atoi, and what reads by them. -/
namespace Go.Proofs.YtgdbhjmpkkbnnaaGreatDoor.Vc
open Go.Proofs Go.RowKit Go.Sort
set_option maxRecDepth 10000
set_option maxHeartbeats 4000000
def C211:List AV→(AV→Prop)→Prop:=con (X:=ByteArray × UInt8) (fun x=>[.str x.1,.str ⟨#[x.2]⟩]) (fun x=>x.1.size<4294967281) fun x K=>K (slS (cutB x.1 x.2))
theorem F211:FF 123 C211:=fun Gl hG=>by
 refine ⟨FnOk.has ⟨rfl,by decide +kernel,by decide +kernel⟩ (fn:=Tryz.f123),fun us K K' hk ⟨x,h1,h2,h3⟩=>⟨x,h1,h2,hk _ h3⟩,?_⟩
 rintro us K ⟨⟨s,c⟩,h1,⟨h2⟩,h3⟩ R w xs hL hA
 obtain ⟨g1,g2⟩:=exL_PV (R:=R) (w:=w) us _ h1
 have hA':ArgsV R w [.str s,.str ⟨#[c]⟩] xs:=⟨hA.1.trans g1,fun j hj=>g2 j (g1 ▸ hj) _ (hA.2 j (g1 ▸ hj))⟩
 obtain rfl:=args_pl rfl hA'
 have hw:=(hG w fun p hp=>(hL.gl p hp).2).len
 obtain ⟨cs, hv, m, rfl⟩ := hw.resolve_left (by intro e; have : Tryz.prog.globalNamed "internal/bytealg.MaxLen" = none := e; revert this; decide +kernel)
 refine (Tryz.strings_Split s ⟨#[c]⟩ m w h2 ((World.var?_cell (P:=Tryz.prog) (by kernel_rfl) hv 0).trans rfl) (Nat.le_refl _)).mono fun e w' he=>?_
 obtain ⟨rfl,rfl⟩:=he
 have hlen:Lib.countB s ⟨#[c]⟩+1=(cutB s c).length:=by rw [← splitB_cut,Lib.splitB_all _ (Nat.le_refl _) 0 _ s rfl]
 rw [splitB_cut,hlen]
 refine ⟨_,_,fun b=>R b∨b=w.heap.size,rfl,h3,.data (.sl 1 _ _ _ _ (fun i _=>.string ((cutB s c).getD i ⟨#[]⟩)) (Nat.le_refl _) (.inr rfl) (fun i _=>rfl) (fun i hi j hj=>?_) fun i _ j hj=>?_),⟨?_,fun b h=>.inl h,fun b h=>h.imp id fun e=>by omega,?_,fun b hb=>?_,rfl,rfl,rfl⟩⟩
 ·obtain rfl:j=0:=by omega
  rw [Nat.mul_one,Nat.add_zero,addr_add,Nat.zero_add,World.cell?_alloc_new]
  rw [List.getElem?_toArray,List.getElem?_map,List.getElem?_eq_getElem hi,List.getD_eq_getElem?_getD,List.getElem?_eq_getElem hi]
  rfl
 ·obtain rfl:j=0:=by omega
  exact .str _
 ·rintro b (h|rfl)
  ·have:=hL.lt b h
   show b<(w.heap.push _).size
   rw [Array.size_push]
   omega
  ·show w.heap.size<(w.heap.push _).size
   rw [Array.size_push]
   exact Nat.lt_succ_self _
 ·show w.heap.size≤(w.heap.push _).size
  rw [Array.size_push]
  exact Nat.le_succ _
 ·show (w.heap.push _)[b]?=_
  rw [Array.getElem?_push,if_neg (by omega)]
def C212:List AV→(AV→Prop)→Prop:=con (X:=ByteArray) (fun s=>[.str s]) (fun s=>s.size≤281474976710656) fun s K=>∀ (v:Int) (e:AV),i64r v→e=.nili∨e=.ifc→(∀ n:Nat,n<1000000→s=num n→v=n∧e=.nili)→K (.tup [.int .i64 v,e])
theorem pair_pv {R:Nat→Prop} {w:World} {v:Int} {e:AV} {x:Value} (h:DR R w e x):PV R w (.tup [.int .i64 v,e]) (.tuple #[.int .i64 v,x]):=by
 refine .tup _ _ rfl fun j hj=>?_
 replace hj:j<2:=hj
 rcases (show j=0∨j=1 by omega) with rfl|rfl
 ·exact .data (.int _ _)
 ·exact .data h
theorem F212:FF 146 C212:=fun Gl hG=>by
 refine ⟨FnOk.has ⟨rfl,by decide +kernel,by decide +kernel⟩ (fn:=Tryz.f146),fun us K K' hk ⟨x,h1,h2,h3⟩=>⟨x,h1,h2,fun v e q1 q2 q3=>hk _ (h3 v e q1 q2 q3)⟩,?_⟩
 rintro us K ⟨s,h1,⟨h2⟩,h3⟩ R w xs hL hA
 obtain ⟨g1,g2⟩:=exL_PV (R:=R) (w:=w) us _ h1
 have hA':ArgsV R w [.str s] xs:=⟨hA.1.trans g1,fun j hj=>g2 j (g1 ▸ hj) _ (hA.2 j (g1 ▸ hj))⟩
 obtain rfl:=args_pl rfl hA'
 have hw:=hG w fun p hp=>(hL.gl p hp).2
 have hsyn : ∃ tp p, w.var? Tryz.prog "strconv.ErrSyntax" = some #[.iface tp p] := by
  obtain ⟨cs, hv, tp, p, rfl⟩ := hw.syn.resolve_left (by intro e; have : Tryz.prog.globalNamed "strconv.ErrSyntax" = none := e; revert this; decide +kernel)
  exact ⟨tp,p,hv⟩
 have hrng : ∃ tp p, w.var? Tryz.prog "strconv.ErrRange" = some #[.iface tp p] := by
  obtain ⟨cs, hv, tp, p, rfl⟩ := hw.rng.resolve_left (by intro e; have : Tryz.prog.globalNamed "strconv.ErrRange" = none := e; revert this; decide +kernel)
  exact ⟨tp,p,hv⟩
 have hnum:∀ n:Nat,n<1000000→s=num n→Lib.atoiAll s.data.toList=.ok (n:Int):=fun n hn e=>by rw [e]; exact atoi_num hn
 cases hr:Lib.atoiAll s.data.toList
 ·rename_i v
  obtain ⟨b1,b2⟩:=Lib.atoiAll_bounds hr
  refine (Tryz.strconv_Atoi_ok s (by omega) v hr w).mono fun e w' he=>?_
  obtain ⟨rfl,he⟩:=he
  have hbl:Below w.heap.size w w':=by
   rcases he with rfl|⟨t,rfl⟩
   ·exact ⟨rfl,rfl,rfl,Nat.le_refl _,fun _ _=>rfl⟩
   ·exact Go.Joins.below_bytesWorld _ _ _ _ (Nat.le_refl _)
  refine ⟨_,_,R,rfl,h3 v .nili ⟨by omega,by omega⟩ (.inl rfl) fun n hn e=>⟨?_,rfl⟩,pair_pv .nili,⟨fun b' hb'=>Nat.lt_of_lt_of_le (hL.lt b' hb') hbl.size,fun _ h=>h,fun _ h=>.inl h,hbl.size,fun b' hlt=>hbl.block b' hlt,hbl.os,hbl.tape,hbl.output⟩⟩
  have:=(hnum n hn e).symm.trans hr
  injection this with this
  exact this.symm
 ·obtain ⟨tp,p,hv⟩:=hsyn
  refine (Tryz.strconv_Atoi_syntax_var s h2 hr tp p w hv).mono fun e w' he=>?_
  obtain ⟨N,rfl,_,_,hbl⟩:=he
  exact ⟨_,_,R,rfl,h3 0 .ifc ⟨by decide,by decide⟩ (.inr rfl) (fun n hn e=>by have:=(hnum n hn e).symm.trans hr; cases this),pair_pv (.ifc _ _),⟨fun b' hb'=>Nat.lt_of_lt_of_le (hL.lt b' hb') hbl.size,fun _ h=>h,fun _ h=>.inl h,hbl.size,fun b' hlt=>hbl.block b' hlt,hbl.os,hbl.tape,hbl.output⟩⟩
 ·obtain ⟨tp,p,hv⟩:=hrng
  refine (Tryz.strconv_Atoi_range_var s h2 hr tp p w hv).mono fun e w' he=>?_
  obtain ⟨N,rfl,_,_,hbl⟩:=he
  exact ⟨_,_,R,rfl,h3 _ .ifc (by unfold Lib.atoiSat; split <;> exact ⟨by decide,by decide⟩) (.inr rfl) (fun n hn e=>by have:=(hnum n hn e).symm.trans hr; cases this),pair_pv (.ifc _ _),⟨fun b' hb'=>Nat.lt_of_lt_of_le (hL.lt b' hb') hbl.size,fun _ h=>h,fun _ h=>.inl h,hbl.size,fun b' hlt=>hbl.block b' hlt,hbl.os,hbl.tape,hbl.output⟩⟩
end Go.Proofs.YtgdbhjmpkkbnnaaGreatDoor.Vc
end
