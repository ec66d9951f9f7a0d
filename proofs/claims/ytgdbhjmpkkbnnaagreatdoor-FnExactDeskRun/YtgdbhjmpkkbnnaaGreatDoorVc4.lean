/- Part TD: the reference reader of terms. -/
import Derived.Lib.Join
import Derived.WalkKit
import Derived.ProofKit
import Derived.OpenShut
import Derived.ShutString
import Derived.ChangeOld
import Derived.Below
import Derived.SizedLaws
import Derived.Carry
import Derived.Deep.Strs
import Derived.SliceStrings
import Derived.Handed
import Derived.JoinedOf
import Derived.LaidSub
import Derived.Lay
import Derived.Lib.LaidTab
import Derived.Lib.SmallJoins
import Derived.SevenTiedAt
import Derived.Test.YtgdbhjmpkkbnnaaGreatDoorRows
import Derived.Test.YtgdbhjmpkkbnnaaGreatDoorCards
import Derived.Test.YtgdbhjmpkkbnnaaGreatDoorTie
import Derived.Stop.LaidErr
import Derived.LaidLaws
import Derived.Shelf.Vars
import Derived.Test.YtgdbhjmpkkbnnaaGreatDoorVc3
section
namespace Go.Proofs.YtgdbhjmpkkbnnaaGreatDoor.Vc
open Go.Proofs
set_option maxRecDepth 10000
set_option maxHeartbeats 4000000
def spost (s:ByteArray) (a:Nat) (r:PR) (K:AV→Prop):Prop:=(r=none→K (.tup [.nils,.int .i64 (-1)])∧∀ t:List Mark,t.length≤s.size-a→K (.tup [slM t,.int .i64 (-1)]))∧∀ t u,r=some (t,u)→∀ a':Nat,a≤a'→a'≤s.size→rem s a'=u→K (.tup [slM t,.int .i64 a'])
theorem spost_mono {s:ByteArray} {a:Nat} {r:PR} {K K':AV→Prop} (hk:∀ r,K r→K' r) (h:spost s a r K):spost s a r K':=⟨fun e=>⟨hk _ (h.1 e).1,fun t ht=>hk _ ((h.1 e).2 t ht)⟩,fun t u e a' h1 h2 h3=>hk _ (h.2 t u e a' h1 h2 h3)⟩
def C203 (f:Nat):List AV→(AV→Prop)→Prop:=con (X:=Rt) (fun x=>[.str x.s,.int .i64 x.a]) (fun x=>x.ok∧x.s.size-x.a≤f) fun x K=>spost x.s x.a (partF 48 f (rem x.s x.a)) K
def C193 (f:Nat):List AV→(AV→Prop)→Prop:=con (X:=Rt) (fun x=>[.str x.s,.int .i64 x.a]) (fun x=>x.ok∧x.s.size-x.a≤f) fun x K=>spost x.s x.a (bothP (partF 48 f) (rem x.s x.a)) K
def C177 (f:Nat):List AV→(AV→Prop)→Prop:=con (X:=Rt) (fun x=>[.str x.s,.int .i64 x.a]) (fun x=>x.ok∧x.s.size-x.a≤f) fun x K=>spost x.s x.a (eitherP (partF 48 f) (rem x.s x.a)) K
theorem atom_at {s:ByteArray} {a:Nat} (h1:a<s.size) (f:Nat) (e:bt s a≠40):(¬ (a+2≤s.size∧65≤bt s a∧bt s a≤68∧48≤bt s (a+1)∧bt s (a+1)≤57)→partF 48 (f+1) (rem s a)=none) ∧
  (a+2≤s.size∧65≤bt s a∧bt s a≤68∧48≤bt s (a+1)∧bt s (a+1)≤57→partF 48 (f+1) (rem s a)=some ([⟨0,bt s a-65,bt s (a+1)-48⟩],rem s (a+2))):=by
 rw [rem_lt h1,partF_atom e]
 rcases Nat.lt_or_ge (a+1) s.size with h2|h2
 ·rw [rem_lt h2]
  unfold atomP
  dsimp only
  exact ⟨fun h=>if_neg fun q=>h ⟨by omega,q⟩,fun h=>if_pos h.2⟩
 ·rw [rem_ge h2]
  exact ⟨fun _=>rfl,fun h=>by omega⟩
theorem F203s {f:Nat} (hF:FF 132 (C177 f)):FF 184 (C203 (f+1)):=by
 refine fitE [(132,C177 f)] (by simp only [List.mem_cons,List.not_mem_nil,or_false]; rintro _ rfl; exact hF) Tryz.f184 ⟨rfl,by decide +kernel,by decide +kernel⟩ (fun _ _ _ hk h=>spost_mono hk h) ?_
 rintro ⟨s,a⟩ K ⟨⟨h1,h2⟩,h3⟩ h
 refine ⟨Nat.le_of_ble_eq_true rfl,?_⟩
 dsimp only at h h1 h2 h3 ⊢
 have b0:=bt_u8 s a
 have b1:=bt_u8 s (a+1)
 repeat' (first|refine vz ?_|(conv=>whnf); first|with_reducible first|refine Sp.mk ?_ ?_|refine br_d (fun _=>?_) fun _=>?_|refine vM (fun _=>?_) fun _=>?_)
 ·exact (h.1 (by rw [rem_ge (by omega)]; rfl)).1
 ·rename_i e40
  replace e40:bt s a=40:=e40
  have hlt:a<s.size:=by omega
  rw [rem_lt hlt,e40,partF_paren] at h
  refine ⟨⟨s,a+1⟩,?_,⟨⟨by dsimp only; omega,h2⟩,by dsimp only; omega⟩,?_⟩
  ·exact wq
  refine And.intro (fun e=>And.intro ?_ fun t ht=>?_) (fun t u e a' g1 g2 g3=>?_)
  ·dsimp only at e
   rw [e] at h
   repeat' (first|refine vz ?_|(conv=>whnf); first|with_reducible first|refine Sp.mk ?_ ?_|refine br_d (fun _=>?_) fun _=>?_|refine vM (fun _=>?_) fun _=>?_)
   exact (h.1 rfl).1
  ·dsimp only at e
   rw [e] at h
   repeat' (first|refine vz ?_|(conv=>whnf); first|with_reducible first|refine Sp.mk ?_ ?_|refine br_d (fun _=>?_) fun _=>?_|refine vM (fun _=>?_) fun _=>?_)
   exact (h.1 rfl).1
  ·dsimp only at e g1 g2 g3
   rw [e] at h
   have b2:=bt_u8 s a'
   repeat' (first|refine vz ?_|(conv=>whnf); first|with_reducible first|refine Sp.mk ?_ ?_|refine br_d (fun _=>?_) fun _=>?_|refine vM (fun _=>?_) fun _=>?_)
   ·refine (h.1 ?_).1
    rw [← g3,rem_ge (by omega)]
    rfl
   ·rename_i ge e41
    replace e41:bt s a'=41:=e41
    refine h.2 t (rem s (a'+1)) ?_ (a'+1) (by omega) (by omega) rfl
    rw [← g3,rem_lt (by omega)]
    exact if_pos e41
   ·rename_i ge e41
    replace e41:¬ bt s a'=41:=e41
    refine (h.1 ?_).1
    rw [← g3,rem_lt (by omega)]
    exact if_neg e41
 all_goals
  have hlt:a<s.size:=by omega
  have e1:((a:Int)+1).toNat=a+1:=by omega
  simp only [Int.toNat_natCast,e1] at *
  obtain ⟨no,yes⟩:=atom_at hlt f (by assumption)
  try (exact (h.1 (no (by omega))).1)
 have y:=yes (by omega)
 have e1:((a:Int)+1).toNat=a+1:=by omega
 have e0:(a:Int).toNat=a:=by omega
 refine Dr.mk ⟨(.rd 0 (.rd 1 (.rd 2 (.rd 3 (.rd 4 (.rd 5 (.rd 6 (.rd 7 (.rd 8 (.rd 9 (.rd 10 (.rd 11 (.rd 13 (.rd 14 (.ef 12 (.rd 15 (.rd 16 .dn)) .no))))))))))))))),by decide +kernel,?_⟩
 repeat' (first|refine vz ?_|(conv=>whnf); first|with_reducible refine Wr.ex (wu8 (by rw [e0]; omega) (by rw [e0]; omega)) ?_|with_reducible refine Wr.ex (wi64 (by rw [e0]; omega) (by rw [e0]; omega)) ?_|with_reducible refine Wr.ex (wu8 (by rw [e1]; omega) (by rw [e1]; omega)) ?_|with_reducible refine Wr.ex (wi64 (by rw [e1]; omega) (by rw [e1]; omega)) ?_|with_reducible first|refine Sp.mk ?_ ?_|refine br_d (fun _=>?_) fun _=>?_|refine vM (fun _=>?_) fun _=>?_)
 rw [e1]
 refine Eq.mp (congrArg (fun z=>K (.tup [AV.sl 3 _ z,.int .i64 (a+2:Nat)])) ?_) (h.2 _ _ y (a+2) (by omega) (by omega) rfl)
 funext j
 cases j <;> rfl
theorem F203z:FF 184 (C203 0):=by
 refine fitE [] (by simp) Tryz.f184 ⟨rfl,by decide +kernel,by decide +kernel⟩ (fun _ _ _ hk h=>spost_mono hk h) ?_
 rintro ⟨s,a⟩ K ⟨⟨h1,h2⟩,h3⟩ h
 refine ⟨Nat.le_of_ble_eq_true rfl,?_⟩
 dsimp only at h h1 h2 h3 ⊢
 repeat' (first|refine vz ?_|(conv=>whnf); first|with_reducible first|refine Sp.mk ?_ ?_|refine br_d (fun _=>?_) fun _=>?_|refine vM (fun _=>?_) fun _=>?_)
 exact (h.1 rfl).1
theorem app3_gen {t u:List Mark} {k:Int} {gu gk:Nat→List AV} (hu:∀ j,j<u.length→gu j=encM (u.getD j default)) (hk:gk 0=encM ⟨k,0,0⟩):(t ++ u ++ [(⟨k,0,0⟩:Mark)]).length=t.length+u.length+1∧0+(t.length+u.length+1)≤t.length+u.length+1∧∀ i,i<(t ++ u ++ [(⟨k,0,0⟩:Mark)]).length→encM ((t ++ u ++ [(⟨k,0,0⟩:Mark)]).getD i default)=appF (t.length+u.length) (appF t.length (fun i=>encM (t.getD i default)) gu) gk (0+i):=by
 refine ⟨by simp [Nat.add_assoc],by omega,fun i hi=>?_⟩
 simp only [List.length_append,List.length_cons,List.length_nil] at hi
 rw [Nat.zero_add]
 unfold appF
 rw [List.getD_eq_getElem?_getD,List.getElem?_append,List.length_append]
 cases hb:Nat.blt i (t.length+u.length) with
 |true =>
  have h1:=blt_t hb
  rw [if_pos h1,List.getElem?_append]
  cases hc:Nat.blt i t.length with
  |true =>
   rw [if_pos (blt_t hc),← List.getD_eq_getElem?_getD]
   rfl
  |false =>
   have h2:=blt_f hc
   rw [if_neg h2,← List.getD_eq_getElem?_getD,← hu _ (by omega)]
   rfl
 |false =>
  have h2:=blt_f hb
  have:i=t.length+u.length:=by omega
  subst this
  rw [if_neg (by omega)]
  simp [hk]
theorem F193 {f:Nat} (hF:FF 184 (C203 f)):FF 162 (C193 f):=by
 refine fitE [(184,C203 f)] (by simp only [List.mem_cons,List.not_mem_nil,or_false]; rintro _ rfl; exact hF) Tryz.f162 ⟨rfl,by decide +kernel,by decide +kernel⟩ (fun _ _ _ hk h=>spost_mono hk h) ?_
 rintro ⟨s,a⟩ K ⟨⟨h1,h2⟩,h3⟩ h
 refine ⟨Nat.le_of_ble_eq_true rfl,?_⟩
 dsimp only at h h1 h2 h3 ⊢
 unfold bothP joinP at h
 repeat' (first|refine vz ?_|(conv=>whnf); first|with_reducible first|refine Sp.mk ?_ ?_|refine br_d (fun _=>?_) fun _=>?_|refine vM (fun _=>?_) fun _=>?_)
 refine ⟨⟨s,a⟩,?_,⟨⟨h1,h2⟩,h3⟩,?_⟩
 ·exact wq
 refine And.intro (fun e=>And.intro ?_ fun t ht=>?_) (fun t u e a' g1 g2 g3=>?_)
 ·dsimp only at e
  rw [e] at h
  repeat' (first|refine vz ?_|(conv=>whnf); first|with_reducible first|refine Sp.mk ?_ ?_|refine br_d (fun _=>?_) fun _=>?_|refine vM (fun _=>?_) fun _=>?_)
  obtain ⟨R,hR⟩:∃ R:PR,R=none:=⟨_,rfl⟩
  replace h:spost s a R K:=by rw [hR]; exact h
  obtain ⟨x0,hx⟩:∃ x:List Mark × Int,x=([],-1):=⟨_,rfl⟩
  have hx0:(x0.2=-1∧R=none∧x0.1.length≤s.size-a)∨(∃ k a':Nat,x0.2=a'∧a≤a'∧a'≤s.size∧s.size-a'≤k∧x0.1.length+(s.size-a')≤s.size-a∧loopF ( (partF 48 f)) 38 1 k x0.1 (rem s a')=R):=.inl (by rw [hx]; exact ⟨rfl,hR,Nat.zero_le _⟩)
  subst hx
  refine Lp.mk ⟨List Mark × Int,fun x=>[(0,.str s),(6,slM x.1),(7,.int .i64 x.2)],fun _=>[],fun x=>(x.2=-1∧R=none∧x.1.length≤s.size-a)∨(∃ k a':Nat,x.2=a'∧a≤a'∧a'≤s.size∧s.size-a'≤k∧x.1.length+(s.size-a')≤s.size-a∧loopF ( (partF 48 f)) 38 1 k x.1 (rem s a')=R),
   fun x=>if x.2<0 then 0 else (s.size+1-x.2).toNat,⟨_,hx0,⟨⟨[],[],rfl,rfl,?_,?_⟩⟩⟩,?_⟩
  ·exact wq
  ·exact wq
  clear hx0
  rintro ⟨t,n⟩ (⟨i1,i2,i3⟩|⟨k,b,i1,i2,i3,i4,i5,i6⟩)
  ·dsimp only at i1 i2 i3 ⊢
   subst i1
   repeat' (first|refine vz ?_|(conv=>whnf); first|with_reducible first|refine Sp.mk ?_ ?_|refine br_d (fun _=>?_) fun _=>?_|refine vM (fun _=>?_) fun _=>?_)
   exact (h.1 i2).2 t i3
  ·dsimp only at i1 i2 i3 i4 i5 i6 ⊢
   subst i1
   have stop:(b<s.size→bt s b≠38)→R=some (t,rem s b):=fun hb=>by
    rw [← i6,loopF_stop]
    rcases Nat.lt_or_ge b s.size with g|g
    ·rw [rem_lt g]
     intro q
     injection q with q
     exact hb g q
    ·rw [rem_ge g]; simp
   repeat' (first|refine vz ?_|(conv=>whnf); first|with_reducible first|refine Sp.mk ?_ ?_|refine br_d (fun _=>?_) fun _=>?_|refine vM (fun _=>?_) fun _=>?_)
   ·rename_i hlt es
    replace es:bt s b=38:=es
    replace hlt:b<s.size:=by omega
    obtain ⟨k,rfl⟩:∃ k',k=k'+1:=⟨k-1,by omega⟩
    rw [rem_lt hlt,es,loopF_step] at i6
    refine ⟨⟨s,b+1⟩,?_,⟨⟨by dsimp only; omega,h2⟩,by dsimp only; omega⟩,?_⟩
    ·exact wq
    refine And.intro (fun e2=>And.intro ?_ fun t2 ht2=>?_) (fun t2 u2 e2 b' g4 g5 g6=>?_)
    ·dsimp only at e2
     rw [e2] at i6
     repeat' (first|refine vz ?_|(conv=>whnf); first|with_reducible first|refine Sp.mk ?_ ?_|refine br_d (fun _=>?_) fun _=>?_|refine vM (fun _=>?_) fun _=>?_)
     have ha:=app3_gen (t:=t) (u:=[]) (k:=1) (gu:=fun _=>[]) (gk:=fun i=>[[AV.int .i64 1,.int .i64 0,.int .i64 0]].getD (0+i) [.int .i64 0,.int .i64 0,.int .i64 0]) (fun j hj=>absurd hj (Nat.not_lt_zero _)) rfl
     refine ⟨(t ++ [] ++ [⟨1,0,0⟩],-1),.inl ⟨rfl,i6.symm,by dsimp only; rw [ha.1]; simp only [List.length_nil]; omega⟩,by dsimp only; rw [if_pos (by decide),if_neg (by omega)]; omega,⟨⟨[],[3],rfl,rfl,?_,?_⟩⟩⟩
     ·exact wq
     ·exact wq
    ·dsimp only at e2 ht2
     rw [e2] at i6
     have ha:=app3_gen (t:=t) (u:=t2) (k:=1) (gu:=fun i=>encM (t2.getD i default)) (gk:=fun i=>[[AV.int .i64 1,.int .i64 0,.int .i64 0]].getD (0+i) [.int .i64 0,.int .i64 0,.int .i64 0]) (fun _ _=>rfl) rfl
     repeat' (first|refine vz ?_|(conv=>whnf); first|with_reducible first|refine Sp.mk ?_ ?_|refine br_d (fun _=>?_) fun _=>?_|refine vM (fun _=>?_) fun _=>?_)
     refine ⟨(t ++ t2 ++ [⟨1,0,0⟩],-1),.inl ⟨rfl,i6.symm,by dsimp only; rw [ha.1]; omega⟩,by dsimp only; rw [if_pos (by decide),if_neg (by omega)]; omega,⟨⟨[],[3],rfl,rfl,?_,?_⟩⟩⟩
     ·exact wq
     ·exact wq
    ·dsimp only at e2 g4 g5 g6
     rw [e2] at i6
     replace i6:loopF ( (partF 48 f)) 38 1 k (t ++ t2 ++ [⟨1,0,0⟩]) u2=R:=i6
     have hf2:=partF_fair 48 f _ _ _ e2
     rw [← g6,rem_len,rem_len] at hf2
     have ha:=app3_gen (t:=t) (u:=t2) (k:=1) (gu:=fun i=>encM (t2.getD i default)) (gk:=fun i=>[[AV.int .i64 1,.int .i64 0,.int .i64 0]].getD (0+i) [.int .i64 0,.int .i64 0,.int .i64 0]) (fun _ _=>rfl) rfl
     repeat' (first|refine vz ?_|(conv=>whnf); first|with_reducible first|refine Sp.mk ?_ ?_|refine br_d (fun _=>?_) fun _=>?_|refine vM (fun _=>?_) fun _=>?_)
     refine ⟨(t ++ t2 ++ [⟨1,0,0⟩],b'),.inr ⟨k,b',rfl,by omega,g5,by omega,by dsimp only; rw [ha.1]; omega,by dsimp only; rw [g6]; exact i6⟩,by dsimp only; rw [if_neg (by omega),if_neg (by omega)]; omega,⟨⟨[],[3],rfl,rfl,?_,?_⟩⟩⟩
     ·exact wq
     ·exact wq
   ·rename_i hlt es
    replace es:¬ bt s b=38:=es
    exact h.2 _ _ (stop fun _=>es) b i2 i3 rfl
   ·exact h.2 _ _ (stop fun q=>absurd q (by omega)) b i2 i3 rfl
 ·dsimp only at e ht
  rw [e] at h
  repeat' (first|refine vz ?_|(conv=>whnf); first|with_reducible first|refine Sp.mk ?_ ?_|refine br_d (fun _=>?_) fun _=>?_|refine vM (fun _=>?_) fun _=>?_)
  obtain ⟨R,hR⟩:∃ R:PR,R=none:=⟨_,rfl⟩
  replace h:spost s a R K:=by rw [hR]; exact h
  obtain ⟨x0,hx⟩:∃ x:List Mark × Int,x=(t,-1):=⟨_,rfl⟩
  have hx0:(x0.2=-1∧R=none∧x0.1.length≤s.size-a)∨(∃ k a':Nat,x0.2=a'∧a≤a'∧a'≤s.size∧s.size-a'≤k∧x0.1.length+(s.size-a')≤s.size-a∧loopF ( (partF 48 f)) 38 1 k x0.1 (rem s a')=R):=.inl (by rw [hx]; exact ⟨rfl,hR,ht⟩)
  subst hx
  refine Lp.mk ⟨List Mark × Int,fun x=>[(0,.str s),(6,slM x.1),(7,.int .i64 x.2)],fun _=>[],fun x=>(x.2=-1∧R=none∧x.1.length≤s.size-a)∨(∃ k a':Nat,x.2=a'∧a≤a'∧a'≤s.size∧s.size-a'≤k∧x.1.length+(s.size-a')≤s.size-a∧loopF ( (partF 48 f)) 38 1 k x.1 (rem s a')=R),
   fun x=>if x.2<0 then 0 else (s.size+1-x.2).toNat,⟨_,hx0,⟨⟨[],[],rfl,rfl,?_,?_⟩⟩⟩,?_⟩
  ·exact wq
  ·exact wq
  clear hx0
  rintro ⟨t,n⟩ (⟨i1,i2,i3⟩|⟨k,b,i1,i2,i3,i4,i5,i6⟩)
  ·dsimp only at i1 i2 i3 ⊢
   subst i1
   repeat' (first|refine vz ?_|(conv=>whnf); first|with_reducible first|refine Sp.mk ?_ ?_|refine br_d (fun _=>?_) fun _=>?_|refine vM (fun _=>?_) fun _=>?_)
   exact (h.1 i2).2 t i3
  ·dsimp only at i1 i2 i3 i4 i5 i6 ⊢
   subst i1
   have stop:(b<s.size→bt s b≠38)→R=some (t,rem s b):=fun hb=>by
    rw [← i6,loopF_stop]
    rcases Nat.lt_or_ge b s.size with g|g
    ·rw [rem_lt g]
     intro q
     injection q with q
     exact hb g q
    ·rw [rem_ge g]; simp
   repeat' (first|refine vz ?_|(conv=>whnf); first|with_reducible first|refine Sp.mk ?_ ?_|refine br_d (fun _=>?_) fun _=>?_|refine vM (fun _=>?_) fun _=>?_)
   ·rename_i hlt es
    replace es:bt s b=38:=es
    replace hlt:b<s.size:=by omega
    obtain ⟨k,rfl⟩:∃ k',k=k'+1:=⟨k-1,by omega⟩
    rw [rem_lt hlt,es,loopF_step] at i6
    refine ⟨⟨s,b+1⟩,?_,⟨⟨by dsimp only; omega,h2⟩,by dsimp only; omega⟩,?_⟩
    ·exact wq
    refine And.intro (fun e2=>And.intro ?_ fun t2 ht2=>?_) (fun t2 u2 e2 b' g4 g5 g6=>?_)
    ·dsimp only at e2
     rw [e2] at i6
     repeat' (first|refine vz ?_|(conv=>whnf); first|with_reducible first|refine Sp.mk ?_ ?_|refine br_d (fun _=>?_) fun _=>?_|refine vM (fun _=>?_) fun _=>?_)
     have ha:=app3_gen (t:=t) (u:=[]) (k:=1) (gu:=fun _=>[]) (gk:=fun i=>[[AV.int .i64 1,.int .i64 0,.int .i64 0]].getD (0+i) [.int .i64 0,.int .i64 0,.int .i64 0]) (fun j hj=>absurd hj (Nat.not_lt_zero _)) rfl
     refine ⟨(t ++ [] ++ [⟨1,0,0⟩],-1),.inl ⟨rfl,i6.symm,by dsimp only; rw [ha.1]; simp only [List.length_nil]; omega⟩,by dsimp only; rw [if_pos (by decide),if_neg (by omega)]; omega,⟨⟨[],[3],rfl,rfl,?_,?_⟩⟩⟩
     ·exact wq
     ·exact wq
    ·dsimp only at e2 ht2
     rw [e2] at i6
     have ha:=app3_gen (t:=t) (u:=t2) (k:=1) (gu:=fun i=>encM (t2.getD i default)) (gk:=fun i=>[[AV.int .i64 1,.int .i64 0,.int .i64 0]].getD (0+i) [.int .i64 0,.int .i64 0,.int .i64 0]) (fun _ _=>rfl) rfl
     repeat' (first|refine vz ?_|(conv=>whnf); first|with_reducible first|refine Sp.mk ?_ ?_|refine br_d (fun _=>?_) fun _=>?_|refine vM (fun _=>?_) fun _=>?_)
     refine ⟨(t ++ t2 ++ [⟨1,0,0⟩],-1),.inl ⟨rfl,i6.symm,by dsimp only; rw [ha.1]; omega⟩,by dsimp only; rw [if_pos (by decide),if_neg (by omega)]; omega,⟨⟨[],[3],rfl,rfl,?_,?_⟩⟩⟩
     ·exact wq
     ·exact wq
    ·dsimp only at e2 g4 g5 g6
     rw [e2] at i6
     replace i6:loopF ( (partF 48 f)) 38 1 k (t ++ t2 ++ [⟨1,0,0⟩]) u2=R:=i6
     have hf2:=partF_fair 48 f _ _ _ e2
     rw [← g6,rem_len,rem_len] at hf2
     have ha:=app3_gen (t:=t) (u:=t2) (k:=1) (gu:=fun i=>encM (t2.getD i default)) (gk:=fun i=>[[AV.int .i64 1,.int .i64 0,.int .i64 0]].getD (0+i) [.int .i64 0,.int .i64 0,.int .i64 0]) (fun _ _=>rfl) rfl
     repeat' (first|refine vz ?_|(conv=>whnf); first|with_reducible first|refine Sp.mk ?_ ?_|refine br_d (fun _=>?_) fun _=>?_|refine vM (fun _=>?_) fun _=>?_)
     refine ⟨(t ++ t2 ++ [⟨1,0,0⟩],b'),.inr ⟨k,b',rfl,by omega,g5,by omega,by dsimp only; rw [ha.1]; omega,by dsimp only; rw [g6]; exact i6⟩,by dsimp only; rw [if_neg (by omega),if_neg (by omega)]; omega,⟨⟨[],[3],rfl,rfl,?_,?_⟩⟩⟩
     ·exact wq
     ·exact wq
   ·rename_i hlt es
    replace es:¬ bt s b=38:=es
    exact h.2 _ _ (stop fun _=>es) b i2 i3 rfl
   ·exact h.2 _ _ (stop fun q=>absurd q (by omega)) b i2 i3 rfl
 ·dsimp only at e g1 g2 g3
  rw [e] at h
  replace h:spost s a (loopF ( (partF 48 f)) 38 1 u.length t u) K:=h
  have hf:=partF_fair 48 f _ _ _ e
  rw [← g3,rem_len,rem_len] at hf
  generalize hR:loopF ( (partF 48 f)) 38 1 u.length t u=R at h
  rw [← g3] at hR
  repeat' (first|refine vz ?_|(conv=>whnf); first|with_reducible first|refine Sp.mk ?_ ?_|refine br_d (fun _=>?_) fun _=>?_|refine vM (fun _=>?_) fun _=>?_)
  obtain ⟨x0,hx⟩:∃ x:List Mark × Int,x=(t,(a':Int)):=⟨_,rfl⟩
  have hx0:(x0.2=-1∧R=none∧x0.1.length≤s.size-a)∨(∃ k a':Nat,x0.2=a'∧a≤a'∧a'≤s.size∧s.size-a'≤k∧x0.1.length+(s.size-a')≤s.size-a∧loopF ( (partF 48 f)) 38 1 k x0.1 (rem s a')=R):=.inr (by rw [hx]; exact ⟨(rem s a').length,a',rfl,g1,g2,by rw [rem_len]; exact Nat.le_refl _,hf.2,hR⟩)
  subst hx
  refine Lp.mk ⟨List Mark × Int,fun x=>[(0,.str s),(6,slM x.1),(7,.int .i64 x.2)],fun _=>[],fun x=>(x.2=-1∧R=none∧x.1.length≤s.size-a)∨(∃ k a':Nat,x.2=a'∧a≤a'∧a'≤s.size∧s.size-a'≤k∧x.1.length+(s.size-a')≤s.size-a∧loopF ( (partF 48 f)) 38 1 k x.1 (rem s a')=R),
   fun x=>if x.2<0 then 0 else (s.size+1-x.2).toNat,⟨_,hx0,⟨⟨[],[],rfl,rfl,?_,?_⟩⟩⟩,?_⟩
  ·exact wq
  ·exact wq
  clear hx0
  rintro ⟨t,n⟩ (⟨i1,i2,i3⟩|⟨k,b,i1,i2,i3,i4,i5,i6⟩)
  ·dsimp only at i1 i2 i3 ⊢
   subst i1
   repeat' (first|refine vz ?_|(conv=>whnf); first|with_reducible first|refine Sp.mk ?_ ?_|refine br_d (fun _=>?_) fun _=>?_|refine vM (fun _=>?_) fun _=>?_)
   exact (h.1 i2).2 t i3
  ·dsimp only at i1 i2 i3 i4 i5 i6 ⊢
   subst i1
   have stop:(b<s.size→bt s b≠38)→R=some (t,rem s b):=fun hb=>by
    rw [← i6,loopF_stop]
    rcases Nat.lt_or_ge b s.size with g|g
    ·rw [rem_lt g]
     intro q
     injection q with q
     exact hb g q
    ·rw [rem_ge g]; simp
   repeat' (first|refine vz ?_|(conv=>whnf); first|with_reducible first|refine Sp.mk ?_ ?_|refine br_d (fun _=>?_) fun _=>?_|refine vM (fun _=>?_) fun _=>?_)
   ·rename_i hlt es
    replace es:bt s b=38:=es
    replace hlt:b<s.size:=by omega
    obtain ⟨k,rfl⟩:∃ k',k=k'+1:=⟨k-1,by omega⟩
    rw [rem_lt hlt,es,loopF_step] at i6
    refine ⟨⟨s,b+1⟩,?_,⟨⟨by dsimp only; omega,h2⟩,by dsimp only; omega⟩,?_⟩
    ·exact wq
    refine And.intro (fun e2=>And.intro ?_ fun t2 ht2=>?_) (fun t2 u2 e2 b' g4 g5 g6=>?_)
    ·dsimp only at e2
     rw [e2] at i6
     repeat' (first|refine vz ?_|(conv=>whnf); first|with_reducible first|refine Sp.mk ?_ ?_|refine br_d (fun _=>?_) fun _=>?_|refine vM (fun _=>?_) fun _=>?_)
     have ha:=app3_gen (t:=t) (u:=[]) (k:=1) (gu:=fun _=>[]) (gk:=fun i=>[[AV.int .i64 1,.int .i64 0,.int .i64 0]].getD (0+i) [.int .i64 0,.int .i64 0,.int .i64 0]) (fun j hj=>absurd hj (Nat.not_lt_zero _)) rfl
     refine ⟨(t ++ [] ++ [⟨1,0,0⟩],-1),.inl ⟨rfl,i6.symm,by dsimp only; rw [ha.1]; simp only [List.length_nil]; omega⟩,by dsimp only; rw [if_pos (by decide),if_neg (by omega)]; omega,⟨⟨[],[3],rfl,rfl,?_,?_⟩⟩⟩
     ·exact wq
     ·exact wq
    ·dsimp only at e2 ht2
     rw [e2] at i6
     have ha:=app3_gen (t:=t) (u:=t2) (k:=1) (gu:=fun i=>encM (t2.getD i default)) (gk:=fun i=>[[AV.int .i64 1,.int .i64 0,.int .i64 0]].getD (0+i) [.int .i64 0,.int .i64 0,.int .i64 0]) (fun _ _=>rfl) rfl
     repeat' (first|refine vz ?_|(conv=>whnf); first|with_reducible first|refine Sp.mk ?_ ?_|refine br_d (fun _=>?_) fun _=>?_|refine vM (fun _=>?_) fun _=>?_)
     refine ⟨(t ++ t2 ++ [⟨1,0,0⟩],-1),.inl ⟨rfl,i6.symm,by dsimp only; rw [ha.1]; omega⟩,by dsimp only; rw [if_pos (by decide),if_neg (by omega)]; omega,⟨⟨[],[3],rfl,rfl,?_,?_⟩⟩⟩
     ·exact wq
     ·exact wq
    ·dsimp only at e2 g4 g5 g6
     rw [e2] at i6
     replace i6:loopF ( (partF 48 f)) 38 1 k (t ++ t2 ++ [⟨1,0,0⟩]) u2=R:=i6
     have hf2:=partF_fair 48 f _ _ _ e2
     rw [← g6,rem_len,rem_len] at hf2
     have ha:=app3_gen (t:=t) (u:=t2) (k:=1) (gu:=fun i=>encM (t2.getD i default)) (gk:=fun i=>[[AV.int .i64 1,.int .i64 0,.int .i64 0]].getD (0+i) [.int .i64 0,.int .i64 0,.int .i64 0]) (fun _ _=>rfl) rfl
     repeat' (first|refine vz ?_|(conv=>whnf); first|with_reducible first|refine Sp.mk ?_ ?_|refine br_d (fun _=>?_) fun _=>?_|refine vM (fun _=>?_) fun _=>?_)
     refine ⟨(t ++ t2 ++ [⟨1,0,0⟩],b'),.inr ⟨k,b',rfl,by omega,g5,by omega,by dsimp only; rw [ha.1]; omega,by dsimp only; rw [g6]; exact i6⟩,by dsimp only; rw [if_neg (by omega),if_neg (by omega)]; omega,⟨⟨[],[3],rfl,rfl,?_,?_⟩⟩⟩
     ·exact wq
     ·exact wq
   ·rename_i hlt es
    replace es:¬ bt s b=38:=es
    exact h.2 _ _ (stop fun _=>es) b i2 i3 rfl
   ·exact h.2 _ _ (stop fun q=>absurd q (by omega)) b i2 i3 rfl
theorem F177 {f:Nat} (hF:FF 184 (C203 f)):FF 132 (C177 f):=by
 refine fitE [(162,C193 f)] (by simp only [List.mem_cons,List.not_mem_nil,or_false]; rintro _ rfl; exact F193 hF) Tryz.f132 ⟨rfl,by decide +kernel,by decide +kernel⟩ (fun _ _ _ hk h=>spost_mono hk h) ?_
 rintro ⟨s,a⟩ K ⟨⟨h1,h2⟩,h3⟩ h
 refine ⟨Nat.le_of_ble_eq_true rfl,?_⟩
 dsimp only at h h1 h2 h3 ⊢
 unfold eitherP joinP at h
 repeat' (first|refine vz ?_|(conv=>whnf); first|with_reducible first|refine Sp.mk ?_ ?_|refine br_d (fun _=>?_) fun _=>?_|refine vM (fun _=>?_) fun _=>?_)
 refine ⟨⟨s,a⟩,?_,⟨⟨h1,h2⟩,h3⟩,?_⟩
 ·exact wq
 refine And.intro (fun e=>And.intro ?_ fun t ht=>?_) (fun t u e a' g1 g2 g3=>?_)
 ·dsimp only at e
  rw [e] at h
  repeat' (first|refine vz ?_|(conv=>whnf); first|with_reducible first|refine Sp.mk ?_ ?_|refine br_d (fun _=>?_) fun _=>?_|refine vM (fun _=>?_) fun _=>?_)
  obtain ⟨R,hR⟩:∃ R:PR,R=none:=⟨_,rfl⟩
  replace h:spost s a R K:=by rw [hR]; exact h
  obtain ⟨x0,hx⟩:∃ x:List Mark × Int,x=([],-1):=⟨_,rfl⟩
  have hx0:(x0.2=-1∧R=none∧x0.1.length≤s.size-a)∨(∃ k a':Nat,x0.2=a'∧a≤a'∧a'≤s.size∧s.size-a'≤k∧x0.1.length+(s.size-a')≤s.size-a∧loopF (bothP (partF 48 f)) 124 2 k x0.1 (rem s a')=R):=.inl (by rw [hx]; exact ⟨rfl,hR,Nat.zero_le _⟩)
  subst hx
  refine Lp.mk ⟨List Mark × Int,fun x=>[(0,.str s),(6,slM x.1),(7,.int .i64 x.2)],fun _=>[],fun x=>(x.2=-1∧R=none∧x.1.length≤s.size-a)∨(∃ k a':Nat,x.2=a'∧a≤a'∧a'≤s.size∧s.size-a'≤k∧x.1.length+(s.size-a')≤s.size-a∧loopF (bothP (partF 48 f)) 124 2 k x.1 (rem s a')=R),
   fun x=>if x.2<0 then 0 else (s.size+1-x.2).toNat,⟨_,hx0,⟨⟨[],[],rfl,rfl,?_,?_⟩⟩⟩,?_⟩
  ·exact wq
  ·exact wq
  clear hx0
  rintro ⟨t,n⟩ (⟨i1,i2,i3⟩|⟨k,b,i1,i2,i3,i4,i5,i6⟩)
  ·dsimp only at i1 i2 i3 ⊢
   subst i1
   repeat' (first|refine vz ?_|(conv=>whnf); first|with_reducible first|refine Sp.mk ?_ ?_|refine br_d (fun _=>?_) fun _=>?_|refine vM (fun _=>?_) fun _=>?_)
   exact (h.1 i2).2 t i3
  ·dsimp only at i1 i2 i3 i4 i5 i6 ⊢
   subst i1
   have stop:(b<s.size→bt s b≠124)→R=some (t,rem s b):=fun hb=>by
    rw [← i6,loopF_stop]
    rcases Nat.lt_or_ge b s.size with g|g
    ·rw [rem_lt g]
     intro q
     injection q with q
     exact hb g q
    ·rw [rem_ge g]; simp
   repeat' (first|refine vz ?_|(conv=>whnf); first|with_reducible first|refine Sp.mk ?_ ?_|refine br_d (fun _=>?_) fun _=>?_|refine vM (fun _=>?_) fun _=>?_)
   ·rename_i hlt es
    replace es:bt s b=124:=es
    replace hlt:b<s.size:=by omega
    obtain ⟨k,rfl⟩:∃ k',k=k'+1:=⟨k-1,by omega⟩
    rw [rem_lt hlt,es,loopF_step] at i6
    refine ⟨⟨s,b+1⟩,?_,⟨⟨by dsimp only; omega,h2⟩,by dsimp only; omega⟩,?_⟩
    ·exact wq
    refine And.intro (fun e2=>And.intro ?_ fun t2 ht2=>?_) (fun t2 u2 e2 b' g4 g5 g6=>?_)
    ·dsimp only at e2
     rw [e2] at i6
     repeat' (first|refine vz ?_|(conv=>whnf); first|with_reducible first|refine Sp.mk ?_ ?_|refine br_d (fun _=>?_) fun _=>?_|refine vM (fun _=>?_) fun _=>?_)
     have ha:=app3_gen (t:=t) (u:=[]) (k:=2) (gu:=fun _=>[]) (gk:=fun i=>[[AV.int .i64 2,.int .i64 0,.int .i64 0]].getD (0+i) [.int .i64 0,.int .i64 0,.int .i64 0]) (fun j hj=>absurd hj (Nat.not_lt_zero _)) rfl
     refine ⟨(t ++ [] ++ [⟨2,0,0⟩],-1),.inl ⟨rfl,i6.symm,by dsimp only; rw [ha.1]; simp only [List.length_nil]; omega⟩,by dsimp only; rw [if_pos (by decide),if_neg (by omega)]; omega,⟨⟨[],[3],rfl,rfl,?_,?_⟩⟩⟩
     ·exact wq
     ·exact wq
    ·dsimp only at e2 ht2
     rw [e2] at i6
     have ha:=app3_gen (t:=t) (u:=t2) (k:=2) (gu:=fun i=>encM (t2.getD i default)) (gk:=fun i=>[[AV.int .i64 2,.int .i64 0,.int .i64 0]].getD (0+i) [.int .i64 0,.int .i64 0,.int .i64 0]) (fun _ _=>rfl) rfl
     repeat' (first|refine vz ?_|(conv=>whnf); first|with_reducible first|refine Sp.mk ?_ ?_|refine br_d (fun _=>?_) fun _=>?_|refine vM (fun _=>?_) fun _=>?_)
     refine ⟨(t ++ t2 ++ [⟨2,0,0⟩],-1),.inl ⟨rfl,i6.symm,by dsimp only; rw [ha.1]; omega⟩,by dsimp only; rw [if_pos (by decide),if_neg (by omega)]; omega,⟨⟨[],[3],rfl,rfl,?_,?_⟩⟩⟩
     ·exact wq
     ·exact wq
    ·dsimp only at e2 g4 g5 g6
     rw [e2] at i6
     replace i6:loopF (bothP (partF 48 f)) 124 2 k (t ++ t2 ++ [⟨2,0,0⟩]) u2=R:=i6
     have hf2:=bothP_fair 48 f _ _ _ e2
     rw [← g6,rem_len,rem_len] at hf2
     have ha:=app3_gen (t:=t) (u:=t2) (k:=2) (gu:=fun i=>encM (t2.getD i default)) (gk:=fun i=>[[AV.int .i64 2,.int .i64 0,.int .i64 0]].getD (0+i) [.int .i64 0,.int .i64 0,.int .i64 0]) (fun _ _=>rfl) rfl
     repeat' (first|refine vz ?_|(conv=>whnf); first|with_reducible first|refine Sp.mk ?_ ?_|refine br_d (fun _=>?_) fun _=>?_|refine vM (fun _=>?_) fun _=>?_)
     refine ⟨(t ++ t2 ++ [⟨2,0,0⟩],b'),.inr ⟨k,b',rfl,by omega,g5,by omega,by dsimp only; rw [ha.1]; omega,by dsimp only; rw [g6]; exact i6⟩,by dsimp only; rw [if_neg (by omega),if_neg (by omega)]; omega,⟨⟨[],[3],rfl,rfl,?_,?_⟩⟩⟩
     ·exact wq
     ·exact wq
   ·rename_i hlt es
    replace es:¬ bt s b=124:=es
    exact h.2 _ _ (stop fun _=>es) b i2 i3 rfl
   ·exact h.2 _ _ (stop fun q=>absurd q (by omega)) b i2 i3 rfl
 ·dsimp only at e ht
  rw [e] at h
  repeat' (first|refine vz ?_|(conv=>whnf); first|with_reducible first|refine Sp.mk ?_ ?_|refine br_d (fun _=>?_) fun _=>?_|refine vM (fun _=>?_) fun _=>?_)
  obtain ⟨R,hR⟩:∃ R:PR,R=none:=⟨_,rfl⟩
  replace h:spost s a R K:=by rw [hR]; exact h
  obtain ⟨x0,hx⟩:∃ x:List Mark × Int,x=(t,-1):=⟨_,rfl⟩
  have hx0:(x0.2=-1∧R=none∧x0.1.length≤s.size-a)∨(∃ k a':Nat,x0.2=a'∧a≤a'∧a'≤s.size∧s.size-a'≤k∧x0.1.length+(s.size-a')≤s.size-a∧loopF (bothP (partF 48 f)) 124 2 k x0.1 (rem s a')=R):=.inl (by rw [hx]; exact ⟨rfl,hR,ht⟩)
  subst hx
  refine Lp.mk ⟨List Mark × Int,fun x=>[(0,.str s),(6,slM x.1),(7,.int .i64 x.2)],fun _=>[],fun x=>(x.2=-1∧R=none∧x.1.length≤s.size-a)∨(∃ k a':Nat,x.2=a'∧a≤a'∧a'≤s.size∧s.size-a'≤k∧x.1.length+(s.size-a')≤s.size-a∧loopF (bothP (partF 48 f)) 124 2 k x.1 (rem s a')=R),
   fun x=>if x.2<0 then 0 else (s.size+1-x.2).toNat,⟨_,hx0,⟨⟨[],[],rfl,rfl,?_,?_⟩⟩⟩,?_⟩
  ·exact wq
  ·exact wq
  clear hx0
  rintro ⟨t,n⟩ (⟨i1,i2,i3⟩|⟨k,b,i1,i2,i3,i4,i5,i6⟩)
  ·dsimp only at i1 i2 i3 ⊢
   subst i1
   repeat' (first|refine vz ?_|(conv=>whnf); first|with_reducible first|refine Sp.mk ?_ ?_|refine br_d (fun _=>?_) fun _=>?_|refine vM (fun _=>?_) fun _=>?_)
   exact (h.1 i2).2 t i3
  ·dsimp only at i1 i2 i3 i4 i5 i6 ⊢
   subst i1
   have stop:(b<s.size→bt s b≠124)→R=some (t,rem s b):=fun hb=>by
    rw [← i6,loopF_stop]
    rcases Nat.lt_or_ge b s.size with g|g
    ·rw [rem_lt g]
     intro q
     injection q with q
     exact hb g q
    ·rw [rem_ge g]; simp
   repeat' (first|refine vz ?_|(conv=>whnf); first|with_reducible first|refine Sp.mk ?_ ?_|refine br_d (fun _=>?_) fun _=>?_|refine vM (fun _=>?_) fun _=>?_)
   ·rename_i hlt es
    replace es:bt s b=124:=es
    replace hlt:b<s.size:=by omega
    obtain ⟨k,rfl⟩:∃ k',k=k'+1:=⟨k-1,by omega⟩
    rw [rem_lt hlt,es,loopF_step] at i6
    refine ⟨⟨s,b+1⟩,?_,⟨⟨by dsimp only; omega,h2⟩,by dsimp only; omega⟩,?_⟩
    ·exact wq
    refine And.intro (fun e2=>And.intro ?_ fun t2 ht2=>?_) (fun t2 u2 e2 b' g4 g5 g6=>?_)
    ·dsimp only at e2
     rw [e2] at i6
     repeat' (first|refine vz ?_|(conv=>whnf); first|with_reducible first|refine Sp.mk ?_ ?_|refine br_d (fun _=>?_) fun _=>?_|refine vM (fun _=>?_) fun _=>?_)
     have ha:=app3_gen (t:=t) (u:=[]) (k:=2) (gu:=fun _=>[]) (gk:=fun i=>[[AV.int .i64 2,.int .i64 0,.int .i64 0]].getD (0+i) [.int .i64 0,.int .i64 0,.int .i64 0]) (fun j hj=>absurd hj (Nat.not_lt_zero _)) rfl
     refine ⟨(t ++ [] ++ [⟨2,0,0⟩],-1),.inl ⟨rfl,i6.symm,by dsimp only; rw [ha.1]; simp only [List.length_nil]; omega⟩,by dsimp only; rw [if_pos (by decide),if_neg (by omega)]; omega,⟨⟨[],[3],rfl,rfl,?_,?_⟩⟩⟩
     ·exact wq
     ·exact wq
    ·dsimp only at e2 ht2
     rw [e2] at i6
     have ha:=app3_gen (t:=t) (u:=t2) (k:=2) (gu:=fun i=>encM (t2.getD i default)) (gk:=fun i=>[[AV.int .i64 2,.int .i64 0,.int .i64 0]].getD (0+i) [.int .i64 0,.int .i64 0,.int .i64 0]) (fun _ _=>rfl) rfl
     repeat' (first|refine vz ?_|(conv=>whnf); first|with_reducible first|refine Sp.mk ?_ ?_|refine br_d (fun _=>?_) fun _=>?_|refine vM (fun _=>?_) fun _=>?_)
     refine ⟨(t ++ t2 ++ [⟨2,0,0⟩],-1),.inl ⟨rfl,i6.symm,by dsimp only; rw [ha.1]; omega⟩,by dsimp only; rw [if_pos (by decide),if_neg (by omega)]; omega,⟨⟨[],[3],rfl,rfl,?_,?_⟩⟩⟩
     ·exact wq
     ·exact wq
    ·dsimp only at e2 g4 g5 g6
     rw [e2] at i6
     replace i6:loopF (bothP (partF 48 f)) 124 2 k (t ++ t2 ++ [⟨2,0,0⟩]) u2=R:=i6
     have hf2:=bothP_fair 48 f _ _ _ e2
     rw [← g6,rem_len,rem_len] at hf2
     have ha:=app3_gen (t:=t) (u:=t2) (k:=2) (gu:=fun i=>encM (t2.getD i default)) (gk:=fun i=>[[AV.int .i64 2,.int .i64 0,.int .i64 0]].getD (0+i) [.int .i64 0,.int .i64 0,.int .i64 0]) (fun _ _=>rfl) rfl
     repeat' (first|refine vz ?_|(conv=>whnf); first|with_reducible first|refine Sp.mk ?_ ?_|refine br_d (fun _=>?_) fun _=>?_|refine vM (fun _=>?_) fun _=>?_)
     refine ⟨(t ++ t2 ++ [⟨2,0,0⟩],b'),.inr ⟨k,b',rfl,by omega,g5,by omega,by dsimp only; rw [ha.1]; omega,by dsimp only; rw [g6]; exact i6⟩,by dsimp only; rw [if_neg (by omega),if_neg (by omega)]; omega,⟨⟨[],[3],rfl,rfl,?_,?_⟩⟩⟩
     ·exact wq
     ·exact wq
   ·rename_i hlt es
    replace es:¬ bt s b=124:=es
    exact h.2 _ _ (stop fun _=>es) b i2 i3 rfl
   ·exact h.2 _ _ (stop fun q=>absurd q (by omega)) b i2 i3 rfl
 ·dsimp only at e g1 g2 g3
  rw [e] at h
  replace h:spost s a (loopF (bothP (partF 48 f)) 124 2 u.length t u) K:=h
  have hf:=bothP_fair 48 f _ _ _ e
  rw [← g3,rem_len,rem_len] at hf
  generalize hR:loopF (bothP (partF 48 f)) 124 2 u.length t u=R at h
  rw [← g3] at hR
  repeat' (first|refine vz ?_|(conv=>whnf); first|with_reducible first|refine Sp.mk ?_ ?_|refine br_d (fun _=>?_) fun _=>?_|refine vM (fun _=>?_) fun _=>?_)
  obtain ⟨x0,hx⟩:∃ x:List Mark × Int,x=(t,(a':Int)):=⟨_,rfl⟩
  have hx0:(x0.2=-1∧R=none∧x0.1.length≤s.size-a)∨(∃ k a':Nat,x0.2=a'∧a≤a'∧a'≤s.size∧s.size-a'≤k∧x0.1.length+(s.size-a')≤s.size-a∧loopF (bothP (partF 48 f)) 124 2 k x0.1 (rem s a')=R):=.inr (by rw [hx]; exact ⟨(rem s a').length,a',rfl,g1,g2,by rw [rem_len]; exact Nat.le_refl _,hf.2,hR⟩)
  subst hx
  refine Lp.mk ⟨List Mark × Int,fun x=>[(0,.str s),(6,slM x.1),(7,.int .i64 x.2)],fun _=>[],fun x=>(x.2=-1∧R=none∧x.1.length≤s.size-a)∨(∃ k a':Nat,x.2=a'∧a≤a'∧a'≤s.size∧s.size-a'≤k∧x.1.length+(s.size-a')≤s.size-a∧loopF (bothP (partF 48 f)) 124 2 k x.1 (rem s a')=R),
   fun x=>if x.2<0 then 0 else (s.size+1-x.2).toNat,⟨_,hx0,⟨⟨[],[],rfl,rfl,?_,?_⟩⟩⟩,?_⟩
  ·exact wq
  ·exact wq
  clear hx0
  rintro ⟨t,n⟩ (⟨i1,i2,i3⟩|⟨k,b,i1,i2,i3,i4,i5,i6⟩)
  ·dsimp only at i1 i2 i3 ⊢
   subst i1
   repeat' (first|refine vz ?_|(conv=>whnf); first|with_reducible first|refine Sp.mk ?_ ?_|refine br_d (fun _=>?_) fun _=>?_|refine vM (fun _=>?_) fun _=>?_)
   exact (h.1 i2).2 t i3
  ·dsimp only at i1 i2 i3 i4 i5 i6 ⊢
   subst i1
   have stop:(b<s.size→bt s b≠124)→R=some (t,rem s b):=fun hb=>by
    rw [← i6,loopF_stop]
    rcases Nat.lt_or_ge b s.size with g|g
    ·rw [rem_lt g]
     intro q
     injection q with q
     exact hb g q
    ·rw [rem_ge g]; simp
   repeat' (first|refine vz ?_|(conv=>whnf); first|with_reducible first|refine Sp.mk ?_ ?_|refine br_d (fun _=>?_) fun _=>?_|refine vM (fun _=>?_) fun _=>?_)
   ·rename_i hlt es
    replace es:bt s b=124:=es
    replace hlt:b<s.size:=by omega
    obtain ⟨k,rfl⟩:∃ k',k=k'+1:=⟨k-1,by omega⟩
    rw [rem_lt hlt,es,loopF_step] at i6
    refine ⟨⟨s,b+1⟩,?_,⟨⟨by dsimp only; omega,h2⟩,by dsimp only; omega⟩,?_⟩
    ·exact wq
    refine And.intro (fun e2=>And.intro ?_ fun t2 ht2=>?_) (fun t2 u2 e2 b' g4 g5 g6=>?_)
    ·dsimp only at e2
     rw [e2] at i6
     repeat' (first|refine vz ?_|(conv=>whnf); first|with_reducible first|refine Sp.mk ?_ ?_|refine br_d (fun _=>?_) fun _=>?_|refine vM (fun _=>?_) fun _=>?_)
     have ha:=app3_gen (t:=t) (u:=[]) (k:=2) (gu:=fun _=>[]) (gk:=fun i=>[[AV.int .i64 2,.int .i64 0,.int .i64 0]].getD (0+i) [.int .i64 0,.int .i64 0,.int .i64 0]) (fun j hj=>absurd hj (Nat.not_lt_zero _)) rfl
     refine ⟨(t ++ [] ++ [⟨2,0,0⟩],-1),.inl ⟨rfl,i6.symm,by dsimp only; rw [ha.1]; simp only [List.length_nil]; omega⟩,by dsimp only; rw [if_pos (by decide),if_neg (by omega)]; omega,⟨⟨[],[3],rfl,rfl,?_,?_⟩⟩⟩
     ·exact wq
     ·exact wq
    ·dsimp only at e2 ht2
     rw [e2] at i6
     have ha:=app3_gen (t:=t) (u:=t2) (k:=2) (gu:=fun i=>encM (t2.getD i default)) (gk:=fun i=>[[AV.int .i64 2,.int .i64 0,.int .i64 0]].getD (0+i) [.int .i64 0,.int .i64 0,.int .i64 0]) (fun _ _=>rfl) rfl
     repeat' (first|refine vz ?_|(conv=>whnf); first|with_reducible first|refine Sp.mk ?_ ?_|refine br_d (fun _=>?_) fun _=>?_|refine vM (fun _=>?_) fun _=>?_)
     refine ⟨(t ++ t2 ++ [⟨2,0,0⟩],-1),.inl ⟨rfl,i6.symm,by dsimp only; rw [ha.1]; omega⟩,by dsimp only; rw [if_pos (by decide),if_neg (by omega)]; omega,⟨⟨[],[3],rfl,rfl,?_,?_⟩⟩⟩
     ·exact wq
     ·exact wq
    ·dsimp only at e2 g4 g5 g6
     rw [e2] at i6
     replace i6:loopF (bothP (partF 48 f)) 124 2 k (t ++ t2 ++ [⟨2,0,0⟩]) u2=R:=i6
     have hf2:=bothP_fair 48 f _ _ _ e2
     rw [← g6,rem_len,rem_len] at hf2
     have ha:=app3_gen (t:=t) (u:=t2) (k:=2) (gu:=fun i=>encM (t2.getD i default)) (gk:=fun i=>[[AV.int .i64 2,.int .i64 0,.int .i64 0]].getD (0+i) [.int .i64 0,.int .i64 0,.int .i64 0]) (fun _ _=>rfl) rfl
     repeat' (first|refine vz ?_|(conv=>whnf); first|with_reducible first|refine Sp.mk ?_ ?_|refine br_d (fun _=>?_) fun _=>?_|refine vM (fun _=>?_) fun _=>?_)
     refine ⟨(t ++ t2 ++ [⟨2,0,0⟩],b'),.inr ⟨k,b',rfl,by omega,g5,by omega,by dsimp only; rw [ha.1]; omega,by dsimp only; rw [g6]; exact i6⟩,by dsimp only; rw [if_neg (by omega),if_neg (by omega)]; omega,⟨⟨[],[3],rfl,rfl,?_,?_⟩⟩⟩
     ·exact wq
     ·exact wq
   ·rename_i hlt es
    replace es:¬ bt s b=124:=es
    exact h.2 _ _ (stop fun _=>es) b i2 i3 rfl
   ·exact h.2 _ _ (stop fun q=>absurd q (by omega)) b i2 i3 rfl
theorem F203:∀ f,FF 184 (C203 f)
 |0=>F203z
 |f+1=>F203s (F177 (F203 f))
end Go.Proofs.YtgdbhjmpkkbnnaaGreatDoor.Vc
end
section
/- Part TE: the text of a term, and a term that is read, by the reference. -/
namespace Go.Proofs.YtgdbhjmpkkbnnaaGreatDoor.Vc
open Go.Proofs
set_option maxRecDepth 10000
set_option maxHeartbeats 4000000
theorem tr_last {bs:List Int} {t:List Mark} (h:Tr bs t):(partT t).o=decide ((t.getD (t.length-1) default).kind=2)∧decide ((partT t).n > 1)=decide (¬ (t.getD (t.length-1) default).kind=0):=by
 cases h with
 |leaf m hk h =>
  rw [partT_leaf hk]
  show false=decide (m.kind=2)∧decide ((1:Int) > 1)=decide (¬ m.kind=0)
  rw [hk]
  exact ⟨rfl,rfl⟩
 |node l r k hk hl hr =>
  have e:(l ++ r ++ [(⟨k,0,0⟩:Mark)]).getD ((l ++ r ++ [(⟨k,0,0⟩:Mark)]).length-1) default=⟨k,0,0⟩:=by
   simp [List.getD_eq_getElem?_getD]
  rw [e,partT_node hl.one hr.one (by dsimp only; omega)]
  have h1:=hl.len
  have h2:=hr.len
  have n1:=partT_n hl
  have n2:=partT_n hr
  dsimp only
  refine ⟨?_,?_⟩
  ·unfold join2
   rcases hk with rfl|rfl <;> rfl
  ·rw [join2_n,n1,n2,decide_eq_true (by omega),decide_eq_true (by omega)]
theorem text_size {bs:List Int} (hb:bodies bs) {t:List Mark} (h:walkP bs t 0=some 1) (hl:t.length≤9):(textT t).size≤10000:=by
 have h1:=runT_small hb h t.length (Nat.le_refl _)
 rw [List.take_length,runT_one h] at h1
 have:=(h1 (partT t) (by simp)).2.2
 exact Nat.le_trans this (bndT_le _ hl)
theorem text_split {bs:List Int} {t:List Mark} {n s:Nat} (h:walkP bs t 0=some 1) (hn:t.length=n+1) (hk:(t.getD n default).kind≠0) (hs:starts ⟨bs,t,n-1,2⟩ s):s<n∧1≤s∧walkP bs (t.take s) 0=some 1∧walkP bs ((t.take n).drop s) 0=some 1 ∧
  textT t=(if (t.getD n default).kind=2 then textT (t.take s) ++ ⟨#[124]⟩ ++ wrapT (textT ((t.take n).drop s)) (decide ((t.getD (n-1) default).kind=2)) else wrapT (textT (t.take s)) (decide ((t.getD (s-1) default).kind=2)) ++ ⟨#[38]⟩ ++ wrapT (textT ((t.take n).drop s)) (decide (¬ (t.getD (n-1) default).kind=0))):=by
 obtain ⟨w2,hn1,hsp⟩:=says_split (c:=0) (s:=s) h hn hk
 obtain ⟨s1,s2,s3,s4,_⟩:=hsp hs
 refine ⟨s1,s2,s3,s4,?_⟩
 obtain ⟨n',m,q,h1,h2,h3,_,_⟩:=last_mark h
 obtain rfl:n'=n:=by omega
 rw [h2] at hk ⊢
 have e:t=t.take s ++ (t.take n').drop s ++ [m]:=by
  have:t.take n'=t.take s ++ (t.take n').drop s:=by
   have:=(List.take_append_drop s (t.take n')).symm
   rwa [List.take_take,Nat.min_eq_left (by omega)] at this
  rw [← this]
  exact h3
 have ep:=partT_node s3 s4 hk
 rw [← e] at ep
 have l1:(t.take s).length=s:=by rw [List.length_take]; omega
 have l2:((t.take n').drop s).length=n'-s:=by simp; omega
 have ta:=tr_last (Tr.of s3)
 have tb:=tr_last (Tr.of s4)
 have ga:(t.take s).getD ((t.take s).length-1) default=t.getD (s-1) default:=by
  rw [l1,List.getD_eq_getElem?_getD,List.getElem?_take_of_lt (by omega),List.getD_eq_getElem?_getD]
 have gb:((t.take n').drop s).getD (((t.take n').drop s).length-1) default=t.getD (n'-1) default:=by
  rw [l2,List.getD_eq_getElem?_getD,List.getElem?_drop,List.getElem?_take_of_lt (by omega),List.getD_eq_getElem?_getD,show s+(n'-s-1)=n'-1 by omega]
 rw [ga] at ta
 rw [gb] at tb
 show (partT t).s=_
 rw [ep]
 unfold join2
 rw [ta.1,tb.1,tb.2]
 split <;> rfl
def C178k (k:Nat):List AV→(AV→Prop)→Prop:=con (X:=Tu) (fun x=>[slM x.t]) (fun x=>x.t.length<k∧txOk x) fun x K=>K (.str (textT x.t))
theorem F178k:∀ k,FF 112 (C178k k):=by
 intro k
 induction k with
 |zero=>exact fitE [] (by simp) Tryz.f112 ⟨rfl,by decide +kernel,by decide +kernel⟩ (fun _ _ _ hk h=>hk _ h) fun x K h=>absurd h.1 (Nat.not_lt_zero _)
 |succ k ih =>
  refine fitE [(112,C178k k),(72,C106),(138,C56)] (by simp only [List.mem_cons,List.not_mem_nil,or_false]; rintro _ (rfl|rfl|rfl) <;> first|exact ih|exact F106|exact F56) Tryz.f112 ⟨rfl,by decide +kernel,by decide +kernel⟩ (fun _ _ _ hk h=>hk _ h) ?_
  rintro ⟨bs,t⟩ K ⟨h0,h1,h2,h3⟩ h
  refine ⟨Nat.le_of_ble_eq_true rfl,?_⟩
  dsimp only at h h0 h1 h2 h3 ⊢
  obtain ⟨n,m,q,g1,g2,g3,g4,g5⟩:=last_mark h2
  have hn:((t.length:Int)-1).toNat=n:=by omega
  have hn2:((t.length:Int)-1-1).toNat=n-1:=by omega
  have z0:(⟨#[124]⟩:ByteArray).size=1:=rfl
  have z1:(⟨#[38]⟩:ByteArray).size=1:=rfl
  have z2:(⟨#[40]⟩:ByteArray).size=1:=rfl
  have z3:(⟨#[41]⟩:ByteArray).size=1:=rfl
  repeat' (first|refine vz ?_|(conv=>whnf); first|with_reducible first|refine Sp.mk ?_ ?_|refine br_d (fun _=>?_) fun _=>?_|refine vM (fun _=>?_) fun _=>?_)
  ·rename_i hk
   rw [hn] at hk
   obtain ⟨m',et,m1,m2⟩:∃ m,t=[m]∧m.kind=0∧stepP bs m 0=some 1:=by
    have:=Tr.of h2
    cases this with
    |leaf m hk' h'=>exact ⟨m,rfl,hk',h'⟩
    |node l r k hk' hl hr =>
     exfalso
     have e:(l ++ r ++ [(⟨k,0,0⟩:Mark)]).getD n default=⟨k,0,0⟩:=by
      have:n=(l ++ r).length:=by simp only [List.length_append,List.length_cons,List.length_nil] at g1 ⊢; omega
      rw [this]
      simp [List.getD_eq_getElem?_getD]
     rw [e] at hk
     dsimp only at hk
     omega
   have tl:t.length=1:=by rw [et]; rfl
   have em:t.getD ((t.length:Int)-1).toNat default=m':=by rw [tl,et]; rfl
   have k4:=leaf_in h1 m1 m2
   have ht:textT t=letter m'.at_ ++ num m'.need:=by rw [et,textT,partT_leaf m1]
   rw [ht] at h
   rw [← em] at k4 h
   clear em
   generalize hA:(t.getD ((t.length:Int)-1).toNat default).at_=A at *
   generalize hN:(t.getD ((t.length:Int)-1).toNat default).need=N at *
   obtain ⟨k1,k2,k3,k4⟩:=k4
   have hnum:=num1 (n:=N) (by omega) (by omega)
   have e65:(65+A).toNat=65+A.toNat:=by omega
   refine Dr.mk ⟨(.rd 0 (.rd 1 (.rd 2 (.rd 3 (.rd 4 (.rd 5 (.rd 6 (.rd 9 (.rd 10 (.rd 11 (.rd 12 (.rd 13 (.ef 7 (.rd 8 (.ef 14 (.rd 15 (.rd 16 .dn)) .no)) (.ef 14 (.ef 7 (.rd 8 (.rd 15 (.rd 16 .dn))) .no) .no)))))))))))))),by decide +kernel,?_⟩
   repeat' ((conv=>whnf); first|refine ⟨Chk.mk ⟨by decide,by decide,fun i hi=>by obtain rfl:i=0:=by omega; exact ⟨_,rfl⟩⟩,?_⟩|with_reducible refine Wr.ex (wu8 (by rw [hA]; omega) (by rw [hA]; omega)) ?_|with_reducible refine Wr.ex (wi64 (by rw [hA]; omega) (by rw [hA]; omega)) ?_|refine vA ?_|with_reducible first|refine v8 ?_|refine Ch.l ?_|refine Sp.mk ?_ ?_|refine vS ?_|refine vR ?_|refine vB ?_|refine br_nt ?_|refine br_tt ?_|refine br_ff ?_|refine vP ?_|refine vQ ?_|refine vT ?_|refine vF ?_|refine br_and ?_|refine br_or ?_|refine br_d (fun _=>?_) fun _=>?_|refine vM (fun _=>?_) fun _=>?_)
   all_goals
    refine ⟨N,?_,⟨by omega,by omega⟩,?_⟩
    ·exact wq
    repeat' ((conv=>whnf); first|refine ⟨Chk.mk (by rw [str1,hnum]; exact (by decide:1+1≤9223372036854775807)),?_⟩|refine ⟨Chk.mk ⟨by decide,by decide,fun i hi=>by obtain rfl:i=0:=by omega; exact ⟨_,rfl⟩⟩,?_⟩|with_reducible refine Wr.ex (wu8 (by rw [hA]; omega) (by rw [hA]; omega)) ?_|with_reducible refine Wr.ex (wi64 (by rw [hA]; omega) (by rw [hA]; omega)) ?_|refine vA ?_|with_reducible first|refine v8 ?_|refine Ch.l ?_|refine Sp.mk ?_ ?_|refine vS ?_|refine vR ?_|refine vB ?_|refine br_nt ?_|refine br_tt ?_|refine br_ff ?_|refine vP ?_|refine vQ ?_|refine vT ?_|refine vF ?_|refine br_and ?_|refine br_or ?_|refine br_d (fun _=>?_) fun _=>?_|refine vM (fun _=>?_) fun _=>?_)
    rw [str1,hA,e65]
    exact h
  ·rename_i hk
   rw [hn] at hk
   obtain ⟨k1,k2,_⟩:=says_split (c:=0) (s:=0) h2 g1 hk
   refine ⟨⟨bs,t,n-1,2⟩,?_,⟨⟨by show n-1<t.length; omega,by dsimp only; omega,(by decide:1≤2),by show walkP bs (t.take (n-1+1)) 0=some 2; rw [show n-1+1=n by omega]; exact k1⟩⟩,?_⟩
   ·dsimp only
    repeat' ((conv=>whnf); first|with_reducible exact True.intro|exact vW|with_reducible refine And.intro ?_ ?_)
   intro s hs
   obtain ⟨s1,s2,s3,s4,s5⟩:=text_split h2 g1 hk hs
   have l1:(t.take s).length=s:=by rw [List.length_take]; omega
   have l2:((t.take n).drop s).length=n-s:=by simp; omega
   have e2:((t.length:Int)-1).toNat-s=((t.take n).drop s).length∧∀ i,i<((t.length:Int)-1).toNat-s→encM (t.getD (s+i) default)=encM (((t.take n).drop s).getD i default):=by
    rw [hn]
    exact take_ext (by omega)
   have x1:=text_size h1 s3 (by omega)
   have x2:=text_size h1 s4 (by omega)
   repeat' (first|refine vz ?_|(conv=>whnf); first|with_reducible first|refine Sp.mk ?_ ?_|refine br_d (fun _=>?_) fun _=>?_|refine vM (fun _=>?_) fun _=>?_)
   refine ⟨⟨bs,t.take s⟩,?_,⟨by show (t.take s).length<k; rw [l1]; omega,h1,s3,by show (t.take s).length≤9; omega⟩,?_⟩
   ·repeat' ((conv=>whnf); first|with_reducible exact True.intro|exact vW|with_reducible refine And.intro ?_ ?_)
    all_goals exact Chk.mk (take_ext0 (by omega))
   dsimp only
   repeat' (first|refine vz ?_|(conv=>whnf); first|with_reducible first|refine Sp.mk ?_ ?_|refine br_d (fun _=>?_) fun _=>?_|refine vM (fun _=>?_) fun _=>?_)
   refine ⟨⟨bs,(t.take n).drop s⟩,?_,⟨by show ((t.take n).drop s).length<k; rw [l2]; omega,h1,s4,by show ((t.take n).drop s).length≤9; omega⟩,?_⟩
   ·repeat' ((conv=>whnf); first|with_reducible exact True.intro|exact vW|with_reducible refine And.intro ?_ ?_)
    all_goals exact Chk.mk e2
   dsimp only
   have hs1:((s:Int)-1).toNat=s-1:=by omega
   have k5:textT t=(if (t.getD ((t.length:Int)-1).toNat default).kind=2 then textT (t.take s) ++ ⟨#[124]⟩ ++ (if (t.getD ((t.length:Int)-1-1).toNat default).kind=2 then ⟨#[40]⟩ ++ textT ((t.take n).drop s) ++ ⟨#[41]⟩ else textT ((t.take n).drop s)) else (if (t.getD ((s:Int)-1).toNat default).kind=2 then ⟨#[40]⟩ ++ textT (t.take s) ++ ⟨#[41]⟩ else textT (t.take s)) ++ ⟨#[38]⟩ ++ (if (t.getD ((t.length:Int)-1-1).toNat default).kind=0 then textT ((t.take n).drop s) else ⟨#[40]⟩ ++ textT ((t.take n).drop s) ++ ⟨#[41]⟩)):=by
    rw [hn,hn2,hs1,s5]
    unfold wrapT
    simp only [decide_eq_true_eq]
    split <;> (repeat' split) <;> first|rfl|(exfalso; omega)
   repeat' ((conv=>whnf); first|refine ⟨Chk.mk (by (try dsimp only); (repeat rw [ByteArray.size_append]); omega),?_⟩|refine vA ?_|with_reducible first|refine v8 ?_|refine Ch.l ?_|refine Sp.mk ?_ ?_|refine vS ?_|refine vR ?_|refine vB ?_|refine br_nt ?_|refine br_tt ?_|refine br_ff ?_|refine vP ?_|refine vQ ?_|refine vT ?_|refine vF ?_|refine br_and ?_|refine br_or ?_|refine br_d (fun _=>?_) fun _=>?_|refine vM (fun _=>?_) fun _=>?_)
   all_goals
    rw [k5] at h
    (repeat' split at h) <;> first|exact h|(exfalso; omega)
def C178:List AV→(AV→Prop)→Prop:=con (X:=Tu) (fun x=>[slM x.t]) txOk fun x K=>K (.str (textT x.t))
theorem F178:FF 112 C178:=fun Gl hG=>fits_rec (fun x=>x.t.length) fun k=>F178k k Gl hG
def C153:List AV→(AV→Prop)→Prop:=con (X:=Hs) (fun x=>[enH x.h,.str x.s]) (fun x=>houI x.h∧x.s.size<9223372036854775808) fun x K=>rdpost 48 x K
theorem F153:FF 101 C153:=by
 refine fitE [(108,C33),(112,C178),(132,C177 80)] (by simp only [List.mem_cons,List.not_mem_nil,or_false]; rintro _ (rfl|rfl|rfl) <;> first|exact F33|exact F178|exact F177 (F203 80)) Tryz.f101 ⟨rfl,by decide +kernel,by decide +kernel⟩ (fun _ _ _ hk h=>rdpost_mono hk h) ?_
 rintro ⟨⟨p,bs⟩,s⟩ K ⟨h1,h2⟩ h
 refine ⟨Nat.le_of_ble_eq_true rfl,?_⟩
 have hI:=h1.1
 have hI2:=h1.2
 unfold rdpost at h
 dsimp only [enH] at h h2 ⊢
 repeat' (first|refine vz ?_|(conv=>whnf); first|with_reducible first|refine Sp.mk ?_ ?_|refine br_d (fun _=>?_) fun _=>?_|refine vM (fun _=>?_) fun _=>?_)
 ·exact h.1 (if_neg (by omega))
 ·rename_i h80
  refine ⟨⟨s,0⟩,?_,⟨⟨Nat.zero_le _,by dsimp only; omega⟩,by dsimp only; omega⟩,?_⟩
  ·exact wq
  have hr0:rem s 0=bys s:=rfl
  refine And.intro (fun e=>And.intro ?_ fun t ht=>?_) (fun t u e a' g1 g2 g3=>?_)
  ·dsimp only at e
   rw [hr0] at e
   have hn:rdT 48 ⟨p,bs⟩ s=none:=rdT_no fun t e1=>by rw [e] at e1; cases e1
   replace h:=h.1 hn
   repeat' (first|refine vz ?_|(conv=>whnf); first|with_reducible first|refine Sp.mk ?_ ?_|refine br_d (fun _=>?_) fun _=>?_|refine vM (fun _=>?_) fun _=>?_)
   exact h
  ·dsimp only at e
   rw [hr0] at e
   have hn:rdT 48 ⟨p,bs⟩ s=none:=rdT_no fun t e1=>by rw [e] at e1; cases e1
   replace h:=h.1 hn
   repeat' (first|refine vz ?_|(conv=>whnf); first|with_reducible first|refine Sp.mk ?_ ?_|refine br_d (fun _=>?_) fun _=>?_|refine vM (fun _=>?_) fun _=>?_)
   exact h
  ·dsimp only at e g1 g2 g3
   rw [hr0] at e
   have hfa:=eitherP_fair 48 80 _ _ _ e
   rw [bys_len] at hfa
   have hsa:=eitherP_sane (by decide) 80 _ _ _ e
   have hlen:t.length<9223372036854775808:=by omega
   repeat' (first|refine vz ?_|(conv=>whnf); first|with_reducible first|refine Sp.mk ?_ ?_|refine br_d (fun _=>?_) fun _=>?_|refine vM (fun _=>?_) fun _=>?_)
   ·rename_i ea
    have hu:u=[]:=by rw [← g3]; exact rem_ge (by omega)
    subst hu
    refine ⟨(⟨p,bs⟩,t),?_,⟨⟨hI,hI2,hsa,hlen⟩⟩,?_⟩
    ·exact wq
    repeat' (first|refine vz ?_|(conv=>whnf); first|with_reducible first|refine Sp.mk ?_ ?_|refine br_d (fun _=>?_) fun _=>?_|refine vM (fun _=>?_) fun _=>?_)
    ·rename_i hO
     have hO':termOk ⟨p,bs⟩ t:=hO
     refine ⟨⟨bs,t⟩,?_,⟨bodies_of hO'.1,hO'.2.2,hO'.2.1⟩,?_⟩
     ·exact wq
     repeat' (first|refine vz ?_|(conv=>whnf); first|with_reducible first|refine Sp.mk ?_ ?_|refine br_d (fun _=>?_) fun _=>?_|refine vM (fun _=>?_) fun _=>?_)
     ·rename_i hq
      exact h.2 t ((rdT_iff (by decide)).2 ⟨by omega,hO',hq⟩)
     ·rename_i hq
      exact h.1 (rdT_no fun t' e1 _ _ hq'=>by rw [e] at e1; injection e1 with e1; injection e1 with e1 _; subst e1; exact hq hq')
    ·rename_i hO
     exact h.1 (rdT_no fun t' e1 _ hq _=>by rw [e] at e1; injection e1 with e1; injection e1 with e1 _; subst e1; exact hO hq)
   ·rename_i ea
    refine h.1 (rdT_no fun t' e1=>?_)
    rw [e] at e1
    injection e1 with e1
    injection e1 with _ e1
    rw [← g3] at e1
    have:=rem_len s a'
    rw [e1] at this
    simp only [List.length_nil] at this
    omega
end Go.Proofs.YtgdbhjmpkkbnnaaGreatDoor.Vc
end
section
/- Part TF: places. -/
namespace Go.Proofs.YtgdbhjmpkkbnnaaGreatDoor.Vc
open Go.Proofs
set_option maxRecDepth 10000
set_option maxHeartbeats 4000000
structure Place where
 p:Int
 bs:List Int
 rules:List ByteArray
 deriving Inhabited
def encS (s:ByteArray):List AV:=[.str s]
abbrev slS (l:List ByteArray):AV:=.sl 1 l.length fun i=>encS (l.getD i ⟨#[]⟩)
def Place.h (x:Place):House:=⟨x.p,x.bs⟩
def plC (x:Place):List AV:=[.int .i64 x.p,slI x.bs,slS x.rules]
def enPl (x:Place):AV:=.agg (plC x)
def placeI (x:Place):Prop:=houI x.h∧x.rules.length<9223372036854775808∧∀ r∈x.rules,r.size<9223372036854775808
def bad (h:House) (r:ByteArray):Bool:=(rdT 49 h r).isNone
abbrev placeOk (x:Place):Prop:=houseOk x.h∧(1≤x.rules.length∧x.rules.length≤4)∧∀ r∈x.rules,bad x.h r=false
def C175:GC:=conG (X:=Place × ByteArray) (fun x=>[.str x.2,.ptr 0 0]) (fun x=>[.box (plC x.1)]) (fun x=>houI x.1.h∧x.2.size<9223372036854775808) fun x K=>K (.bool (bad x.1.h x.2)) [.box (plC x.1)]
theorem F175:GG 120 C175:=by
 refine fitG [(121,C176)] (by simp only [List.mem_cons,List.not_mem_nil,or_false]; rintro _ rfl <;> first|exact F176) [] (by simp) Tryz.f120 ⟨rfl,by decide +kernel,by decide +kernel⟩ (by intro x K K2 hk h; (try dsimp only at h ⊢); intros; apply hk; first|exact h|(apply h <;> assumption)) ?_
 rintro ⟨⟨p,bs,rs⟩,r⟩ K ⟨h1,h2⟩ h
 refine ⟨Nat.le_of_ble_eq_true rfl,?_⟩
 dsimp only [plC] at h h1 h2 ⊢
 repeat' (first|refine vz ?_|(conv=>whnf); first|with_reducible first|refine Sp.mk ?_ ?_|refine br_d (fun _=>?_) fun _=>?_|refine vM (fun _=>?_) fun _=>?_)
 refine ⟨⟨⟨p,bs⟩,r⟩,?_,⟨h1,h2⟩,?_⟩
 ·exact wq
 refine And.intro (fun e=>?_) (fun t e=>?_)
 ·have hb:bad (Place.h ⟨p,bs,rs⟩) r=true:=by unfold bad; rw [show rdT 49 (Place.h ⟨p,bs,rs⟩) r=none from e]; rfl
  rw [hb] at h
  repeat' (first|refine vz ?_|(conv=>whnf); first|with_reducible first|refine Sp.mk ?_ ?_|refine br_d (fun _=>?_) fun _=>?_|refine vM (fun _=>?_) fun _=>?_)
  refine ⟨_,_,[some 0],[],rfl,rfl,?_,?_,h⟩
  ·exact wq
  ·exact wq
 ·have hb:bad (Place.h ⟨p,bs,rs⟩) r=false:=by unfold bad; rw [show rdT 49 (Place.h ⟨p,bs,rs⟩) r=some t from e]; rfl
  rw [hb] at h
  repeat' (first|refine vz ?_|(conv=>whnf); first|with_reducible first|refine Sp.mk ?_ ?_|refine br_d (fun _=>?_) fun _=>?_|refine vM (fun _=>?_) fun _=>?_)
  refine ⟨_,_,[some 0],[],rfl,rfl,?_,?_,h⟩
  ·exact wq
  ·exact wq
def ixpost (n:Nat) (b:Nat→Prop) (K:AV→Prop):Prop:=∀ i:Int,-1≤i→i<n→(i=-1→∀ j,j<n→¬ b j)→(0≤i→b i.toNat)→K (.int .i64 i)
def C190:GC:=conG (X:=Place) (fun x=>[slS x.rules,.fn 120 [] [.ptr 0 0]]) (fun x=>[.box (plC x)]) placeI fun x K=>ixpost x.rules.length (fun i=>bad x.h (x.rules.getD i ⟨#[]⟩)=true) fun r=>K r [.box (plC x)]
theorem getD_len {l:List ByteArray} (h:∀ r∈l,r.size<9223372036854775808) {i:Nat} (hi:i<l.length):(l.getD i ⟨#[]⟩).size<9223372036854775808:=h _ (getD_mem' hi)
theorem F190:GG 141 C190:=by
 refine fitG [] (by simp) [(120,C175)] (by simp only [List.mem_cons,List.not_mem_nil,or_false]; rintro _ rfl <;> first|exact F175) Tryz.f141 ⟨rfl,by decide +kernel,by decide +kernel⟩ (fun _ _ _ hk h i h1 h2 h3 h4=>hk _ _ (h i h1 h2 h3 h4)) ?_
 rintro ⟨p,bs,rs⟩ K ⟨h1,h2,h3⟩ h
 refine ⟨Nat.le_of_ble_eq_true rfl,?_⟩
 dsimp only [plC] at h h1 h2 h3 ⊢
 repeat' (first|refine vz ?_|(conv=>whnf); first|with_reducible first|refine Sp.mk ?_ ?_|refine br_d (fun _=>?_) fun _=>?_|refine vM (fun _=>?_) fun _=>?_)
 refine Lp.mk ⟨Nat,fun i=>[(0,slS rs),(1,.fn 120 [] [.ptr 0 0]),(7,.int .i64 rs.length),(8,.int .i64 i)],fun _=>[.box (plC ⟨p,bs,rs⟩)],fun i=>i≤rs.length∧∀ j,j<i→¬ bad (Place.h ⟨p,bs,rs⟩) (rs.getD j ⟨#[]⟩)=true,fun i=>rs.length-i,⟨0,⟨Nat.zero_le _,fun j hj=>absurd hj (Nat.not_lt_zero _)⟩,⟨⟨[some 0],[],rfl,rfl,?_,?_⟩⟩⟩,?_⟩
 ·exact wq
 ·exact wq
 rintro i ⟨i1,i2⟩
 dsimp only [plC]
 repeat' (first|refine vz ?_|(conv=>whnf); first|with_reducible first|refine Sp.mk ?_ ?_|refine br_d (fun _=>?_) fun _=>?_|refine vM (fun _=>?_) fun _=>?_)
 ·rename_i hi
  have hi:i<rs.length:=by omega
  refine ⟨_,_,[0],[],rfl,?_,?_,(⟨p,bs,rs⟩,rs.getD i ⟨#[]⟩),rfl,rfl,⟨h1,getD_len h3 hi⟩,?_⟩
  ·exact wq
  ·exact wq
  dsimp only [plC]
  repeat' (first|refine vz ?_|(conv=>whnf); first|with_reducible first|refine Sp.mk ?_ ?_|refine br_d (fun _=>?_) fun _=>?_|refine vM (fun _=>?_) fun _=>?_)
  ·rename_i hb
   refine ⟨_,_,[some 0],[],rfl,rfl,?_,?_,h i (by omega) (by omega) (fun e=>by omega) (fun _=>hb)⟩
   ·exact wq
   ·exact wq
  ·rename_i hb
   refine ⟨i+1,⟨by omega,fun j hj=>?_⟩,by omega,⟨⟨[some 0],[],rfl,rfl,?_,?_⟩⟩⟩
   ·by_cases e:j=i
    ·subst e; rw [hb]; exact Bool.false_ne_true
    ·exact i2 j (by omega)
   ·exact wq
   ·exact wq
 ·rename_i hi
  refine ⟨_,_,[some 0],[],rfl,rfl,?_,?_,h (-1) (by omega) (by omega) (fun _ j hj=>i2 j (by omega)) (fun e=>absurd e (by decide))⟩
  ·exact wq
  ·exact wq
def C174:GC:=conG (X:=Place) (fun x=>[slS x.rules,.fn 120 [] [.ptr 0 0]]) (fun x=>[.box (plC x)]) placeI fun x K=>K (.bool (decide (¬ ∀ r∈x.rules,bad x.h r=false))) [.box (plC x)]
theorem F174:GG 119 C174:=by
 refine fitG [] (by simp) [(141,C190)] (by simp only [List.mem_cons,List.not_mem_nil,or_false]; rintro _ rfl <;> first|exact F190) Tryz.f119 ⟨rfl,by decide +kernel,by decide +kernel⟩ (by intro x K K2 hk h; (try dsimp only at h ⊢); intros; apply hk; first|exact h|(apply h <;> assumption)) ?_
 rintro ⟨p,bs,rs⟩ K hI h
 refine ⟨Nat.le_of_ble_eq_true rfl,?_⟩
 dsimp only [plC] at h ⊢
 repeat' (first|refine vz ?_|(conv=>whnf); first|with_reducible first|refine Sp.mk ?_ ?_|refine br_d (fun _=>?_) fun _=>?_|refine vM (fun _=>?_) fun _=>?_)
 refine ⟨_,_,[0],[],rfl,?_,?_,⟨p,bs,rs⟩,rfl,rfl,⟨hI⟩,?_⟩
 ·exact wq
 ·exact wq
 intro i g1 g2 g3 g4
 dsimp only [plC] at g1 g2 g3 g4 ⊢
 have e:decide (i≥0)=decide (¬ ∀ r∈rs,bad (Place.h ⟨p,bs,rs⟩) r=false):=by
  refine decide_eq_decide.2 ⟨fun hi q=>?_,fun q=>?_⟩
  ·have:=g4 hi
   rw [q _ (getD_mem' (by omega))] at this
   cases this
  ·by_cases hi:i≥0
   ·exact hi
   ·exfalso
    refine q (all_of_getD (d:=⟨#[]⟩) fun j hj=>?_)
    have:=g3 (by omega) j hj
    cases hb:bad (Place.h ⟨p,bs,rs⟩) (rs.getD j ⟨#[]⟩) with
    |false=>rfl
    |true=>exact absurd hb this
 rw [← e] at h
 repeat' (first|refine vz ?_|(conv=>whnf); first|with_reducible first|refine Sp.mk ?_ ?_|refine br_d (fun _=>?_) fun _=>?_|refine vM (fun _=>?_) fun _=>?_)
 refine ⟨_,_,[some 0],[],rfl,rfl,?_,?_,h⟩
 ·exact wq
 ·exact wq
def C152:List AV→(AV→Prop)→Prop:=con (X:=Place) (fun x=>[enPl x]) placeI fun x K=>K (.bool (decide (placeOk x)))
theorem F152:FF 89 C152:=by
 refine fitX [(118,C57)] (by simp only [List.mem_cons,List.not_mem_nil,or_false]; rintro _ rfl <;> first|exact F57) [(119,C174)] (by simp only [List.mem_cons,List.not_mem_nil,or_false]; rintro _ rfl <;> first|exact F174) Tryz.f89 ⟨rfl,by decide +kernel,by decide +kernel⟩ (by intro x K K2 hk h; (try dsimp only at h ⊢); intros; apply hk; first|exact h|(apply h <;> assumption)) ?_
 rintro ⟨p,bs,rs⟩ K hI h
 refine ⟨Nat.le_of_ble_eq_true rfl,?_⟩
 have hI2:=hI.1
 have hI3:=hI.2.1
 dsimp only [enPl,plC] at h hI3 ⊢
 repeat' (first|refine vz ?_|(conv=>whnf); first|with_reducible first|refine Sp.mk ?_ ?_|refine br_d (fun _=>?_) fun _=>?_|refine vM (fun _=>?_) fun _=>?_)
 refine ⟨⟨p,bs⟩,?_,⟨hI2⟩,?_⟩
 ·exact wq
 repeat' (first|refine vz ?_|(conv=>whnf); first|with_reducible first|refine Sp.mk ?_ ?_|refine br_d (fun _=>?_) fun _=>?_|refine vM (fun _=>?_) fun _=>?_)
 ·exact yesF h fun q=>by have:=q.2.1.1; dsimp only at this; omega
 ·exact yesF h fun q=>by have:=q.2.1.2; dsimp only at this; omega
 ·rename_i hO g1 g2
  refine ⟨_,_,[0],[],rfl,?_,?_,⟨p,bs,rs⟩,rfl,rfl,⟨hI⟩,?_⟩
  ·exact wq
  ·exact wq
  dsimp only [plC]
  have e:(!decide (¬ ∀ r∈rs,bad (Place.h ⟨p,bs,rs⟩) r=false))=decide (placeOk ⟨p,bs,rs⟩):=by
   rw [← decide_not]
   refine decide_eq_decide.2 ⟨fun q=>⟨hO,⟨by dsimp only; omega,by dsimp only; omega⟩,Classical.not_not.1 q⟩,fun q=>Classical.not_not.2 q.2.2⟩
  rw [← e] at h
  repeat' (first|refine vz ?_|(conv=>whnf); first|with_reducible first|refine Sp.mk ?_ ?_|refine br_d (fun _=>?_) fun _=>?_|refine vM (fun _=>?_) fun _=>?_)
  exact h
 ·rename_i hO
  exact yesF h fun q=>hO q.1
def C127:=C152
theorem F127:FF 59 C127:=by
 refine fitE [(101,C153),(102,C55),(74,C35)] (by simp only [List.mem_cons,List.not_mem_nil,or_false]; rintro _ (rfl|rfl|rfl) <;> first|exact F153|exact F55|exact F35) Tryz.f59 ⟨rfl,by decide +kernel,by decide +kernel⟩ (fun _ _ _ hk h=>hk _ h) ?_
 rintro ⟨p,bs,rs⟩ K hI h
 refine ⟨Nat.le_of_ble_eq_true rfl,?_⟩
 have hI2:=hI.1
 have hI3:=hI.2.1
 have hI4:=hI.2.2
 dsimp only [enPl,plC] at h hI3 hI4 ⊢
 repeat' (first|refine vz ?_|(conv=>whnf); first|with_reducible first|refine Sp.mk ?_ ?_|refine br_d (fun _=>?_) fun _=>?_|refine vM (fun _=>?_) fun _=>?_)
 refine Lp.mk ⟨Nat,fun i=>[(1,.ptr 0 0),(3,.int .i64 i)],fun _=>[.box (plC ⟨p,bs,rs⟩)],fun i=>i≤rs.length∧∀ j,j<i→bad (Place.h ⟨p,bs,rs⟩) (rs.getD j ⟨#[]⟩)=false,fun i=>rs.length-i,⟨0,⟨Nat.zero_le _,fun j hj=>absurd hj (Nat.not_lt_zero _)⟩,⟨⟨[some 0],[],rfl,rfl,?_,?_⟩⟩⟩,?_⟩
 ·exact wq
 ·exact wq
 rintro i ⟨i1,i2⟩
 dsimp only [plC]
 repeat' (first|refine vz ?_|(conv=>whnf); first|with_reducible first|refine Sp.mk ?_ ?_|refine br_d (fun _=>?_) fun _=>?_|refine vM (fun _=>?_) fun _=>?_)
 ·rename_i hi
  have hi:i<rs.length:=by omega
  refine Dr.mk ⟨(.rd 0 (.rd 1 (.rd 2 (.rd 3 (.rd 4 (.rd 5 (.rd 6 (.ef 7 (.rd 8 (.rd 9 (.rd 10 (.rd 11 (.rd 12 .dn))))) .no)))))))),by decide +kernel,?_⟩
  repeat' (first|refine vz ?_|(conv=>whnf); first|with_reducible first|refine Sp.mk ?_ ?_|refine br_d (fun _=>?_) fun _=>?_|refine vM (fun _=>?_) fun _=>?_)
  refine ⟨⟨⟨p,bs⟩,rs.getD i ⟨#[]⟩⟩,?_,⟨hI2,getD_len hI4 hi⟩,?_⟩
  ·exact wq
  refine And.intro (fun e=>?_) (fun t e=>?_)
  ·have hb:bad (Place.h ⟨p,bs,rs⟩) (rs.getD i ⟨#[]⟩)=true:=by unfold bad; rw [← rdT_eq,show rdT 48 (Place.h ⟨p,bs,rs⟩) (rs.getD i ⟨#[]⟩)=none from e]; rfl
   repeat' (first|refine vz ?_|(conv=>whnf); first|with_reducible first|refine Sp.mk ?_ ?_|refine br_d (fun _=>?_) fun _=>?_|refine vM (fun _=>?_) fun _=>?_)
   exact yesF h fun q=>by
    have:=q.2.2 _ (getD_mem' (l:=rs) (d:=⟨#[]⟩) hi)
    rw [hb] at this
    cases this
  ·have hb:bad (Place.h ⟨p,bs,rs⟩) (rs.getD i ⟨#[]⟩)=false:=by unfold bad; rw [← rdT_eq,show rdT 48 (Place.h ⟨p,bs,rs⟩) (rs.getD i ⟨#[]⟩)=some t from e]; rfl
   repeat' (first|refine vz ?_|(conv=>whnf); first|with_reducible first|refine Sp.mk ?_ ?_|refine br_d (fun _=>?_) fun _=>?_|refine vM (fun _=>?_) fun _=>?_)
   refine ⟨i+1,⟨by omega,fun j hj=>?_⟩,by omega,⟨⟨[some 0],[],rfl,rfl,?_,?_⟩⟩⟩
   ·by_cases e:j=i
    ·subst e; exact hb
    ·exact i2 j (by omega)
   ·exact wq
   ·exact wq
 ·rename_i hi
  have hall:∀ r∈rs,bad (Place.h ⟨p,bs,rs⟩) r=false:=all_of_getD (d:=⟨#[]⟩) fun j hj=>i2 j (by omega)
  refine ⟨⟨p,bs⟩,?_,⟨hI2⟩,?_⟩
  ·exact wq
  repeat' (first|refine vz ?_|(conv=>whnf); first|with_reducible first|refine Sp.mk ?_ ?_|refine br_d (fun _=>?_) fun _=>?_|refine vM (fun _=>?_) fun _=>?_)
  ·rename_i hO
   refine ⟨((rs.length:Int),1,4),?_,⟨trivial⟩,?_⟩
   ·exact wq
   dsimp only
   repeat' (first|refine vz ?_|(conv=>whnf); first|with_reducible first|refine Sp.mk ?_ ?_|refine br_d (fun _=>?_) fun _=>?_|refine vM (fun _=>?_) fun _=>?_)
   exact yesD h ⟨fun q=>by have:=q.2.1; dsimp only at this; omega,fun q=>⟨hO,⟨by dsimp only; omega,by dsimp only; omega⟩,hall⟩⟩
  ·rename_i hO
   exact yesF h fun q=>hO q.1
/-! ### Copies -/
def C157:List AV→(AV→Prop)→Prop:=con (X:=Place) (fun x=>[enPl x]) (fun x=>x.rules.length≤100000000∧x.bs.length≤100000000) fun x K=>K (enPl x)
theorem F157:FF 99 C157:=by
 refine fitE [] (by simp) Tryz.f99 ⟨rfl,by decide +kernel,by decide +kernel⟩ (fun _ _ _ hk h=>hk _ h) ?_
 rintro ⟨p,bs,rs⟩ K ⟨h1,h2⟩ h
 refine ⟨Nat.le_of_ble_eq_true rfl,?_⟩
 dsimp only [enPl,plC] at h h1 h2 ⊢
 repeat' (first|refine vz ?_|(conv=>whnf); first|with_reducible first|refine Sp.mk ?_ ?_|refine br_d (fun _=>?_) fun _=>?_|refine vM (fun _=>?_) fun _=>?_)
 refine Dr.mk ⟨(.rd 0 (.rd 1 (.rd 2 (.rd 4 (.rd 5 (.rd 6 (.rd 10 (.rd 11 (.ef 3 (.ef 7 (.rd 8 (.ef 9 (.ef 12 (.rd 13 (.ef 14 .dn .no)) .no) .no)) (.ef 9 (.ef 7 (.rd 8 (.ef 12 (.rd 13 (.ef 14 .dn .no)) .no)) .no) .no)) (.ef 9 (.ef 3 (.ef 7 (.rd 8 (.ef 12 (.rd 13 (.ef 14 .dn .no)) .no)) .no) .no) .no)))))))))),by decide +kernel,?_⟩
 repeat' (first|refine vz ?_|(conv=>whnf); first|with_reducible first|refine Sp.mk ?_ ?_|refine br_d (fun _=>?_) fun _=>?_|refine vM (fun _=>?_) fun _=>?_)
 all_goals
  simp only [Nat.zero_add]
  exact h
def C158:=C157
theorem F158:FF 70 C158:=by
 refine fitE [] (by simp) Tryz.f70 ⟨rfl,by decide +kernel,by decide +kernel⟩ (fun _ _ _ hk h=>hk _ h) ?_
 rintro ⟨p,bs,rs⟩ K ⟨h1,h2⟩ h
 refine ⟨Nat.le_of_ble_eq_true rfl,?_⟩
 dsimp only [enPl,plC] at h h1 h2 ⊢
 repeat' (first|refine vz ?_|(conv=>whnf); first|with_reducible first|refine Sp.mk ?_ ?_|refine br_d (fun _=>?_) fun _=>?_|refine vM (fun _=>?_) fun _=>?_)
 refine Dr.mk ⟨(.rd 0 (.rd 1 (.rd 2 (.rd 4 (.rd 5 (.rd 6 (.rd 10 (.rd 11 (.ef 3 (.ef 7 (.rd 8 (.ef 9 (.ef 12 (.rd 13 (.ef 14 .dn .no)) .no) .no)) (.ef 9 (.ef 7 (.rd 8 (.ef 12 (.rd 13 (.ef 14 .dn .no)) .no)) .no) .no)) (.ef 9 (.ef 3 (.ef 7 (.rd 8 (.ef 12 (.rd 13 (.ef 14 .dn .no)) .no)) .no) .no) .no)))))))))),by decide +kernel,?_⟩
 repeat' (first|refine vz ?_|(conv=>whnf); first|with_reducible first|refine Sp.mk ?_ ?_|refine br_d (fun _=>?_) fun _=>?_|refine vM (fun _=>?_) fun _=>?_)
 all_goals
  simp only [Nat.zero_add]
  exact h
end Go.Proofs.YtgdbhjmpkkbnnaaGreatDoor.Vc
end
section
/- Part TG: the texts of places. -/
namespace Go.Proofs.YtgdbhjmpkkbnnaaGreatDoor.Vc
open Go.Proofs
set_option maxRecDepth 10000
set_option maxHeartbeats 4000000
/-! ### strings.Join -/
def joinB (xs:List ByteArray) (sep:ByteArray):ByteArray:=⟨(Lib.join (xs.map (·.data.toList)) sep.data.toList).toArray⟩
theorem joinB_app {l:List ByteArray} {x sep:ByteArray} (h:l≠[]):joinB (l ++ [x]) sep=joinB l sep ++ sep ++ x:=by
 have key:∀ (l:List (List UInt8)) (x sep:List UInt8),l≠[]→Lib.join (l ++ [x]) sep=Lib.join l sep ++ sep ++ x:=by
  intro l x sep
  induction l with
  |nil=>intro h; exact absurd rfl h
  |cons a l ih =>
   intro _
   cases l with
   |nil=>simp [Lib.join,List.intercalate,List.intersperse]
   |cons b l =>
    have h2:=ih (by simp)
    unfold Lib.join List.intercalate at h2 ⊢
    simp only [List.cons_append,List.intersperse_cons_cons,List.flatten_cons] at h2 ⊢
    rw [h2]
    simp [List.append_assoc]
 unfold joinB
 rw [List.map_append,List.map_cons,List.map_nil,key _ _ _ (by simpa using h)]
 apply ByteArray.ext
 simp
theorem joinB_one (x sep:ByteArray):joinB [x] sep=x:=by
 unfold joinB
 rw [List.map_cons,List.map_nil,Lib.join_one]
theorem joinB_nil (sep:ByteArray):joinB [] sep=⟨#[]⟩:=rfl
theorem joinB_two (x y sep:ByteArray):joinB [x,y] sep=x ++ sep ++ y:=by
 have:=joinB_app (l:=[x]) (x:=y) (sep:=sep) (by simp)
 rwa [joinB_one] at this
theorem joinB_size {sep:ByteArray} {M:Nat}:∀ (n:Nat) (l:List ByteArray),l.length=n→(∀ x∈l,x.size≤M)→(joinB l sep).size≤l.length*(M+sep.size)
 |0,l,h,_=>by
  have:l=[]:=List.eq_nil_of_length_eq_zero h
  subst this
  exact Nat.zero_le _
 |n+1,l,h,hM=>by
  rcases List.eq_nil_or_concat l with rfl|⟨l',x,rfl⟩
  ·simp at h
  ·rw [List.concat_eq_append] at h hM ⊢
   simp only [List.length_append,List.length_cons,List.length_nil] at h
   have hx:=hM x (by simp)
   rcases Nat.eq_zero_or_pos n with rfl|hn
   ·have:l'=[]:=List.eq_nil_of_length_eq_zero (by omega)
    subst this
    rw [List.nil_append,joinB_one]
    simp only [List.length_cons,List.length_nil,Nat.zero_add,Nat.one_mul]
    omega
   ·have ih:=joinB_size (sep:=sep) n l' (by omega) fun y hy=>hM y (by simp [hy])
    rw [joinB_app (fun e=>by subst e; simp at h; omega),ByteArray.size_append,ByteArray.size_append,List.length_append,Nat.add_mul]
    simp only [List.length_cons,List.length_nil,Nat.zero_add,Nat.one_mul]
    omega
/-! ### Lists of numbers -/
def comma:ByteArray:=⟨#[44]⟩
def space:ByteArray:=⟨#[32]⟩
def listT (l:List Int):ByteArray:=joinB (l.map num) comma
def smallL (l:List Int):Prop:=l.length≤1000∧∀ n∈l,0≤n∧n<100
theorem listT_size {l:List Int} (h:smallL l):(listT l).size≤3000:=by
 have:=joinB_size (sep:=comma) (M:=2) _ (l.map num) rfl fun x hx=>by
  obtain ⟨n,hn,rfl⟩:=List.mem_map.1 hx
  exact num_size (h.2 n hn).1 (h.2 n hn).2
 have h1:=h.1
 rw [List.length_map,show comma.size=1 from rfl] at this
 exact Nat.le_trans this (by omega)
theorem map_take_snoc {l:List Int} {i:Nat} (h:i<l.length):(l.take (i+1)).map num=(l.take i).map num ++ [num (l.getD i 0)]:=by
 rw [take_succ' 0 h,List.map_append]
 rfl
def C165:List AV→(AV→Prop)→Prop:=con (X:=List Int) (fun l=>[slI l]) smallL fun l K=>K (.str (if l.length=0 then ⟨#[110,111,110,101]⟩ else listT l))
theorem take_smallL {l:List Int} (h:smallL l) (i:Nat):smallL (l.take i):=⟨by rw [List.length_take]; have:=h.1; omega,fun n hn=>h.2 n (List.mem_of_mem_take hn)⟩
theorem listT_snoc {l:List Int} {i:Nat} (h:i<l.length):listT (l.take (i+1))=(if (i:Int) > 0 then listT (l.take i) ++ comma else listT (l.take i)) ++ num (l.getD i 0):=by
 unfold listT
 rw [map_take_snoc h]
 by_cases h0:(i:Int) > 0
 ·rw [if_pos h0,joinB_app]
  intro e
  have:=congrArg List.length e
  rw [List.length_map,List.length_take] at this
  simp only [List.length_nil] at this
  omega
 ·have:i=0:=by omega
  subst this
  rw [if_neg h0]
  simp only [List.take_zero,List.map_nil,List.nil_append]
  rw [joinB_one,joinB_nil]
  apply ByteArray.ext
  simp
theorem F165:FF 73 C165:=by
 refine fitE [(72,C106)] (by simp only [List.mem_cons,List.not_mem_nil,or_false]; rintro _ rfl <;> first|exact F106) Tryz.f73 ⟨rfl,by decide +kernel,by decide +kernel⟩ (fun _ _ _ hk h=>hk _ h) ?_
 rintro l K ⟨h1,h2⟩ h
 refine ⟨Nat.le_of_ble_eq_true rfl,?_⟩
 repeat' (first|refine vz ?_|(conv=>whnf); first|with_reducible first|refine Sp.mk ?_ ?_|refine br_d (fun _=>?_) fun _=>?_|refine vM (fun _=>?_) fun _=>?_)
 refine Lp.mk ⟨Nat,fun i=>[(0,slI l),(3,.str (listT (l.take i))),(4,.int .i64 i)],fun i=>[],fun i=>i≤l.length,fun i=>l.length-i,⟨0,Nat.zero_le _,⟨⟨[],[],rfl,rfl,?_,?_⟩⟩⟩,?_⟩
 ·exact wq
 ·exact wq
 intro i i1
 dsimp only
 have hs:=listT_size (take_smallL ⟨h1,h2⟩ i)
 have hz:comma.size=1:=rfl
 have hz':(⟨#[44]⟩:ByteArray).size=1:=rfl
 repeat' ((conv=>whnf); first|refine ⟨Chk.mk (by (try dsimp only); (repeat rw [ByteArray.size_append]); omega),?_⟩|refine vA ?_|with_reducible first|refine v8 ?_|refine Ch.l ?_|refine Sp.mk ?_ ?_|refine vS ?_|refine vR ?_|refine vB ?_|refine br_nt ?_|refine br_tt ?_|refine br_ff ?_|refine vP ?_|refine vQ ?_|refine vT ?_|refine vF ?_|refine br_and ?_|refine br_or ?_|refine br_d (fun _=>?_) fun _=>?_|refine vM (fun _=>?_) fun _=>?_)
 ·rename_i hi h0
  have hi:i<l.length:=by omega
  have hb:=h2 _ (getD_mem' (d:=0) hi)
  have hn:=num_size hb.1 hb.2
  have hsn:=listT_snoc hi
  rw [if_pos h0] at hsn
  refine ⟨l.getD i 0,?_,⟨by omega,by omega⟩,?_⟩
  ·exact wq
  repeat' ((conv=>whnf); first|refine ⟨Chk.mk (by (try dsimp only); (repeat rw [ByteArray.size_append]); omega),?_⟩|refine vA ?_|with_reducible first|refine v8 ?_|refine Ch.l ?_|refine Sp.mk ?_ ?_|refine vS ?_|refine vR ?_|refine vB ?_|refine br_nt ?_|refine br_tt ?_|refine br_ff ?_|refine vP ?_|refine vQ ?_|refine vT ?_|refine vF ?_|refine br_and ?_|refine br_or ?_|refine br_d (fun _=>?_) fun _=>?_|refine vM (fun _=>?_) fun _=>?_)
  refine ⟨i+1,by omega,by omega,⟨⟨[],[],rfl,rfl,?_,?_⟩⟩⟩
  ·exact wq
  ·exact wq
 ·rename_i hi h0
  have hi:i<l.length:=by omega
  have hb:=h2 _ (getD_mem' (d:=0) hi)
  have hn:=num_size hb.1 hb.2
  have hsn:=listT_snoc hi
  rw [if_neg h0] at hsn
  refine ⟨l.getD i 0,?_,⟨by omega,by omega⟩,?_⟩
  ·exact wq
  repeat' ((conv=>whnf); first|refine ⟨Chk.mk (by (try dsimp only); (repeat rw [ByteArray.size_append]); omega),?_⟩|refine vA ?_|with_reducible first|refine v8 ?_|refine Ch.l ?_|refine Sp.mk ?_ ?_|refine vS ?_|refine vR ?_|refine vB ?_|refine br_nt ?_|refine br_tt ?_|refine br_ff ?_|refine vP ?_|refine vQ ?_|refine vT ?_|refine vF ?_|refine br_and ?_|refine br_or ?_|refine br_d (fun _=>?_) fun _=>?_|refine vM (fun _=>?_) fun _=>?_)
  refine ⟨i+1,by omega,by omega,⟨⟨[],[],rfl,rfl,?_,?_⟩⟩⟩
  ·exact wq
  ·exact wq
 ·rename_i hi h0
  rw [if_pos (by omega)] at h
  exact h
 ·rename_i hi h0
  rw [if_neg (by omega)] at h
  rw [List.take_of_length_le (by omega)]
  exact h
/-! ### Places -/
def plT (x:Place):ByteArray:=joinB (num x.p :: listT x.bs :: x.rules) space
def ptext (x:Place):ByteArray:=if placeOk x then plT x else ⟨#[]⟩
theorem bad_size {h:House} {r:ByteArray} (e:bad h r=false):r.size≤80:=by
 unfold bad at e
 cases e2:rdT 49 h r with
 |none=>rw [e2] at e; cases e
 |some t=>exact ((rdT_iff (by decide)).1 e2).1
theorem bad_term {h:House} {r:ByteArray} (e:bad h r=false):∃ t,rdT 49 h r=some t:=by
 unfold bad at e
 cases e2:rdT 49 h r with
 |none=>rw [e2] at e; cases e
 |some t=>exact ⟨t,rfl⟩
theorem placeOk_bs {x:Place} (h:placeOk x):x.bs≠[]:=by
 intro e
 obtain ⟨h1,⟨h2,_⟩,h3⟩:=h
 obtain ⟨t,ht⟩:=bad_term (h3 _ (getD_mem' (l:=x.rules) (i:=0) (d:=⟨#[]⟩) (by omega)))
 have hO:=((rdT_iff (by decide)).1 ht).2.1
 have hw:walkP x.bs t 0=some 1:=hO.2.2
 have tr:=Tr.of hw
 have leafin:∀ {u},Tr x.bs u→∃ m,stepP x.bs m 0=some 1:=fun hu=>by
  induction hu with
  |leaf m _ h=>exact ⟨m,h⟩
  |node _ _ _ _ _ _ ih _=>exact ih
 obtain ⟨m,hm⟩:=leafin tr
 rw [e] at hm
 unfold stepP at hm
 split at hm
 ·rename_i g; have:=g.2.2.1; simp only [List.length_nil] at this; omega
 ·split at hm
  ·rename_i g; omega
  ·cases hm
theorem placeOk_small {x:Place} (h:placeOk x):smallL x.bs∧0≤x.p∧x.p<100∧∀ r∈x.rules,r.size≤80:=by
 have hb:=bodies_of h.1
 have hp:people x.p:=h.1.1
 exact ⟨⟨Nat.le_trans hb.1 (by omega),fun n hn=>by have:=hb.2 n hn; omega⟩,by have:=hp.1; omega,by have:=hp.2; omega,fun r hr=>bad_size (h.2.2 r hr)⟩
theorem plT_take_size {x:Place} (h:placeOk x) (i:Nat):(joinB (num x.p :: listT x.bs :: x.rules.take i) space).size≤20000:=by
 obtain ⟨h1,h2,h3,h4⟩:=placeOk_small h
 have h5:=h.2.1.2
 have:=joinB_size (sep:=space) (M:=3000) _ (num x.p :: listT x.bs :: x.rules.take i) rfl fun r hr=>by
  rcases List.mem_cons.1 hr with rfl|hr
  ·exact Nat.le_trans (num_size h2 h3) (by omega)
  ·rcases List.mem_cons.1 hr with rfl|hr
   ·exact listT_size h1
   ·exact Nat.le_trans (h4 r (List.mem_of_mem_take hr)) (by omega)
 rw [show space.size=1 from rfl] at this
 simp only [List.length_cons,List.length_take] at this
 exact Nat.le_trans this (by omega)
def C143:List AV→(AV→Prop)→Prop:=con (X:=Place) (fun x=>[enPl x]) placeI fun x K=>K (.str (ptext x))
def C142:=C143
theorem F142:FF 41 C142:=by
 refine fitE [(59,C127),(72,C106),(73,C165)] (by simp only [List.mem_cons,List.not_mem_nil,or_false]; rintro _ (rfl|rfl|rfl) <;> first|exact F127|exact F106|exact F165) Tryz.f41 ⟨rfl,by decide +kernel,by decide +kernel⟩ (fun _ _ _ hk h=>hk _ h) ?_
 rintro ⟨p,bs,rs⟩ K hI h
 refine ⟨Nat.le_of_ble_eq_true rfl,?_⟩
 unfold ptext at h
 dsimp only [enPl,plC] at h ⊢
 repeat' (first|refine vz ?_|(conv=>whnf); first|with_reducible first|refine Sp.mk ?_ ?_|refine br_d (fun _=>?_) fun _=>?_|refine vM (fun _=>?_) fun _=>?_)
 refine ⟨⟨p,bs,rs⟩,?_,⟨hI⟩,?_⟩
 ·exact wq
 repeat' (first|refine vz ?_|(conv=>whnf); first|with_reducible first|refine Sp.mk ?_ ?_|refine br_d (fun _=>?_) fun _=>?_|refine vM (fun _=>?_) fun _=>?_)
 ·rename_i hO
  rw [if_pos hO] at h
  unfold plT at h
  have hsz:=plT_take_size hO
  obtain ⟨k1,k2,k3,k4⟩:=placeOk_small hO
  have k5:=hO.2.1.2
  have k6:=placeOk_bs hO
  have k7:=listT_size k1
  have k8:=num_size k2 k3
  have hz:space.size=1:=rfl
  have hz':(⟨#[32]⟩:ByteArray).size=1:=rfl
  dsimp only at h hsz k1 k2 k3 k4 k5 k6 k7 k8
  have h0:¬ bs.length=0:=fun e=>k6 (List.eq_nil_of_length_eq_zero e)
  have hj:num p ++ ⟨#[32]⟩ ++ listT bs=joinB (num p :: listT bs :: rs.take 0) space:=(joinB_two _ _ _).symm
  have hn:∀ i,i<rs.length→joinB (num p :: listT bs :: rs.take (i+1)) space=joinB (num p :: listT bs :: rs.take i) space ++ ⟨#[32]⟩ ++ rs.getD i ⟨#[]⟩:=fun i hi=>by
   rw [take_succ' (d:=⟨#[]⟩) hi,← List.cons_append,← List.cons_append,joinB_app (by simp)]
   rfl
  refine Dr.mk ⟨(.rd 0 (.rd 1 (.rd 2 (.rd 5 (.rd 6 (.rd 7 (.ef 3 (.rd 4 (.ef 8 (.rd 9 (.rd 10 .dn)) .no)) .no))))))),by decide +kernel,?_⟩
  repeat' (first|refine vz ?_|(conv=>whnf); first|with_reducible first|refine Sp.mk ?_ ?_|refine br_d (fun _=>?_) fun _=>?_|refine vM (fun _=>?_) fun _=>?_)
  refine ⟨p,?_,⟨k2,by omega⟩,?_⟩
  ·exact wq
  repeat' ((conv=>whnf); first|refine ⟨Chk.mk (by (try dsimp only); (repeat rw [ByteArray.size_append]); omega),?_⟩|refine vA ?_|with_reducible first|refine v8 ?_|refine Ch.l ?_|refine Sp.mk ?_ ?_|refine vS ?_|refine vR ?_|refine vB ?_|refine br_nt ?_|refine br_tt ?_|refine br_ff ?_|refine vP ?_|refine vQ ?_|refine vT ?_|refine vF ?_|refine br_and ?_|refine br_or ?_|refine br_d (fun _=>?_) fun _=>?_|refine vM (fun _=>?_) fun _=>?_)
  refine ⟨bs,?_,⟨k1⟩,?_⟩
  ·exact wq
  dsimp only
  rw [if_neg h0]
  repeat' ((conv=>whnf); first|refine ⟨Chk.mk (by (try dsimp only); (repeat rw [ByteArray.size_append]); omega),?_⟩|refine vA ?_|with_reducible first|refine v8 ?_|refine Ch.l ?_|refine Sp.mk ?_ ?_|refine vS ?_|refine vR ?_|refine vB ?_|refine br_nt ?_|refine br_tt ?_|refine br_ff ?_|refine vP ?_|refine vQ ?_|refine vT ?_|refine vF ?_|refine br_and ?_|refine br_or ?_|refine br_d (fun _=>?_) fun _=>?_|refine vM (fun _=>?_) fun _=>?_)
  rw [hj]
  refine Lp.mk ⟨Nat,fun i=>[(1,.ptr 0 0),(3,.str (joinB (num p :: listT bs :: rs.take i) space)),(4,.int .i64 i)],fun _=>[.box (plC ⟨p,bs,rs⟩)],fun i=>i≤rs.length,fun i=>rs.length-i,⟨0,Nat.zero_le _,⟨⟨[some 0],[],rfl,rfl,?_,?_⟩⟩⟩,?_⟩
  ·exact wq
  ·exact wq
  intro i i1
  have hsi:=hsz i
  have hr:(rs.getD (i:Int).toNat ⟨#[]⟩).size≤80:=by
   rcases Nat.lt_or_ge i rs.length with g|g
   ·exact k4 _ (getD_mem' g)
   ·rw [Int.toNat_natCast,List.getD_eq_getElem?_getD,List.getElem?_eq_none g]
    exact Nat.zero_le _
  dsimp only [plC]
  repeat' ((conv=>whnf); first|refine ⟨Chk.mk (by (try dsimp only); (repeat rw [ByteArray.size_append]); omega),?_⟩|refine vA ?_|with_reducible first|refine v8 ?_|refine Ch.l ?_|refine Sp.mk ?_ ?_|refine vS ?_|refine vR ?_|refine vB ?_|refine br_nt ?_|refine br_tt ?_|refine br_ff ?_|refine vP ?_|refine vQ ?_|refine vT ?_|refine vF ?_|refine br_and ?_|refine br_or ?_|refine br_d (fun _=>?_) fun _=>?_|refine vM (fun _=>?_) fun _=>?_)
  ·rename_i hi
   have hi:i<rs.length:=by omega
   have hn':=hn i hi
   refine ⟨i+1,by omega,by omega,⟨⟨[some 0],[],rfl,rfl,?_,?_⟩⟩⟩
   ·exact wq
   ·exact wq
  ·rename_i hi
   rw [List.take_of_length_le (by omega)]
   exact h
 ·rename_i hO
  rw [if_neg hO] at h
  exact h
end Go.Proofs.YtgdbhjmpkkbnnaaGreatDoor.Vc
end
section
/- Part ZF0: the laws' copies and comparisons of numbers and houses. -/
namespace Go.Proofs.YtgdbhjmpkkbnnaaGreatDoor.Vc
open Go.Proofs
set_option maxRecDepth 10000
set_option maxHeartbeats 4000000
def C9:List AV→(AV→Prop)→Prop:=con (X:=House × Int) (fun x=>[enH x.1,.int .i64 x.2]) (fun x=>x.1.bs.length<9223372036854775808∧0≤x.2∧x.2≤9223372036854775807) fun x K=>K (.int .i64 (if x.2-x.1.bs.length<0 then -1 else x.2-x.1.bs.length))
theorem F9:FF 69 C9:=by
 refine fitE [(107,C34)] (by simp only [List.mem_cons,List.not_mem_nil,or_false]; rintro _ rfl <;> first|exact F34) Tryz.f69 ⟨rfl,by decide +kernel,by decide +kernel⟩ (fun _ _ _ hk h=>hk _ h) ?_
 rintro ⟨⟨p,l⟩,n⟩ K ⟨h1,h2,h3⟩ h
 refine ⟨Nat.le_of_ble_eq_true rfl,?_⟩
 dsimp only at h1 h2 h3 h ⊢
 repeat' (first|refine vz ?_|(conv=>whnf); first|with_reducible first|refine Sp.mk ?_ ?_|refine br_d (fun _=>?_) fun _=>?_|refine vM (fun _=>?_) fun _=>?_)
 refine ⟨(l,n),?_,⟨h1,h2,h3⟩,?_⟩
 ·exact wq
 dsimp only
 by_cases hn:n-l.length<0
 ·rw [if_pos hn] at h ⊢
  repeat' (first|refine vz ?_|(conv=>whnf); first|with_reducible first|refine Sp.mk ?_ ?_|refine br_d (fun _=>?_) fun _=>?_|refine vM (fun _=>?_) fun _=>?_)
  exact h
 ·rw [if_neg hn] at h ⊢
  repeat' (first|refine vz ?_|(conv=>whnf); first|with_reducible first|refine Sp.mk ?_ ?_|refine br_d (fun _=>?_) fun _=>?_|refine vM (fun _=>?_) fun _=>?_)
  exact h
def cpI (l:List Int) (i:Nat):Nat→List AV:=fun j=>if j<i then encI (l.getD j 0) else [.int .i64 0]
theorem cpI_step {l:List Int} {i j:Nat}:cpI l (i+1) j=setF (cpI l i) i (encI (l.getD i 0)) j:=by
 unfold cpI setF
 cases h:Nat.beq j i with
 |true =>
  obtain rfl:=Nat.eq_of_beq_eq_true h
  rw [if_pos (by omega)]; rfl
 |false =>
  have:=Nat.ne_of_beq_eq_false h
  simp only [cond_false]
  by_cases hj:j<i
  ·rw [if_pos hj,if_pos (by omega)]
  ·rw [if_neg hj,if_neg (by omega)]
theorem cpI_at {l:List Int} {i:Nat}:cpI l i i=[.int .i64 0]:=if_neg (Nat.lt_irrefl _)
theorem cpI_end {l:List Int} {i:Nat} (h:¬ i<l.length):(fun j=>cpI l i (0+j))=fun j=>encI (l.getD j 0):=by
 funext j
 unfold cpI
 rw [Nat.zero_add]
 by_cases hj:j<i
 ·rw [if_pos hj]
 ·rw [if_neg hj,List.getD_eq_getElem?_getD,List.getElem?_eq_none (by omega)]
  rfl
def C14:List AV→(AV→Prop)→Prop:=con (X:=List Int) (fun l=>[slI l]) (fun l=>l.length≤1048576) fun l K=>K (slI l)
theorem F14:FF 117 C14:=by
 refine fitE [] (by simp) Tryz.f117 ⟨rfl,by decide +kernel,by decide +kernel⟩ (fun _ _ _ hk h=>hk _ h) ?_
 rintro l K h1 h
 refine ⟨Nat.le_of_ble_eq_true rfl,?_⟩
 repeat' ((conv=>whnf); first|((with_reducible refine And.intro (Chk.mk ?_) ?_); (focus (refine ⟨rfl,?_,?_,?_⟩; (focus omega); (focus omega); (focus (show (8:Int)*_≤_; omega)))))|refine vA ?_|with_reducible first|refine v8 ?_|refine Ch.l ?_|refine Sp.mk ?_ ?_|refine vS ?_|refine vR ?_|refine vB ?_|refine br_nt ?_|refine br_tt ?_|refine br_ff ?_|refine vP ?_|refine vQ ?_|refine vT ?_|refine vF ?_|refine br_and ?_|refine br_or ?_|refine br_d (fun _=>?_) fun _=>?_|refine vM (fun _=>?_) fun _=>?_)
 refine Lp.mk ⟨Nat,fun i=>[(0,slI l),(2,.nils),(3,.row 0 1 0 l.length),(4,.int .i64 i)],fun i=>[.row 1 l.length (cpI l i)],fun i=>i≤l.length,fun i=>l.length-i,⟨0,Nat.zero_le _,⟨⟨[some 0],[],rfl,rfl,?_,?_⟩⟩⟩,?_⟩
 ·exact wq
 ·exact wq
 intro i i1
 dsimp only
 repeat' (first|refine vz ?_|(conv=>whnf); first|with_reducible first|refine Sp.mk ?_ ?_|refine br_d (fun _=>?_) fun _=>?_|refine vM (fun _=>?_) fun _=>?_)
 ·refine ⟨i+1,by show i+1≤l.length; omega,by show l.length-(i+1)<l.length-i; omega,⟨⟨[some 0],[],rfl,rfl,?_,?_⟩⟩⟩
  ·exact wq
  ·repeat' ((conv=>whnf); first|with_reducible exact True.intro|exact vW|with_reducible refine And.intro ?_ ?_)
   exact Chk.mk ⟨rfl,fun j _=>by rw [cpI_step,Nat.zero_add,Int.toNat_natCast,cpI_at]; rfl⟩
 ·rw [cpI_end (by omega)]
  exact h
def C12:List AV→(AV→Prop)→Prop:=con (X:=House) (fun h=>[enH h]) (fun h=>h.bs.length≤1048576) fun h K=>K (enH h)
theorem F12:FF 88 C12:=by
 refine fitE [(117,C14)] (by simp only [List.mem_cons,List.not_mem_nil,or_false]; rintro _ rfl <;> first|exact F14) Tryz.f88 ⟨rfl,by decide +kernel,by decide +kernel⟩ (fun _ _ _ hk h=>hk _ h) ?_
 rintro ⟨p,bs⟩ K h1 h
 refine ⟨Nat.le_of_ble_eq_true rfl,?_⟩
 dsimp only at h1 h ⊢
 repeat' (first|refine vz ?_|(conv=>whnf); first|with_reducible first|refine Sp.mk ?_ ?_|refine br_d (fun _=>?_) fun _=>?_|refine vM (fun _=>?_) fun _=>?_)
 refine ⟨bs,?_,⟨h1⟩,?_⟩
 ·exact wq
 repeat' (first|refine vz ?_|(conv=>whnf); first|with_reducible first|refine Sp.mk ?_ ?_|refine br_d (fun _=>?_) fun _=>?_|refine vM (fun _=>?_) fun _=>?_)
 exact h
def C18:List AV→(AV→Prop)→Prop:=con (X:=List Int) (fun l=>[slI l,slI l]) (fun l=>l.length≤1048576) fun _ K=>K (.bool true)
theorem F18:FF 131 C18:=by
 refine fitE [] (by simp) Tryz.f131 ⟨rfl,by decide +kernel,by decide +kernel⟩ (fun _ _ _ hk h=>hk _ h) ?_
 rintro l K h1 h
 refine ⟨Nat.le_of_ble_eq_true rfl,?_⟩
 repeat' (first|refine vz ?_|(conv=>whnf); first|with_reducible first|refine Sp.mk ?_ ?_|refine br_d (fun _=>?_) fun _=>?_|refine vM (fun _=>?_) fun _=>?_)
 refine Lp.mk ⟨Nat,fun i=>[(0,slI l),(1,slI l),(5,.int .i64 i)],fun i=>[],fun i=>i≤l.length,fun i=>l.length-i,⟨0,Nat.zero_le _,⟨⟨[],[],rfl,rfl,?_,?_⟩⟩⟩,?_⟩
 ·exact wq
 ·exact wq
 intro i i1
 dsimp only
 repeat' (first|refine vz ?_|(conv=>whnf); first|with_reducible first|refine Sp.mk ?_ ?_|refine br_d (fun _=>?_) fun _=>?_|refine vM (fun _=>?_) fun _=>?_)
 ·refine Dr.mk ⟨(.rd 0 (.rd 1 (.rd 2 (.rd 3 (.rd 4 (.rd 5 (.rd 6 (.rd 7 (.rd 8 .dn))))))))),by decide +kernel,?_⟩
  repeat' (first|refine vz ?_|(conv=>whnf); first|with_reducible first|refine Sp.mk ?_ ?_|refine br_d (fun _=>?_) fun _=>?_|refine vM (fun _=>?_) fun _=>?_)
  refine ⟨i+1,by show i+1≤l.length; omega,by show l.length-(i+1)<l.length-i; omega,⟨⟨[],[],rfl,rfl,?_,?_⟩⟩⟩
  ·exact wq
  ·exact wq
 ·exact h
def C16:List AV→(AV→Prop)→Prop:=con (X:=House) (fun h=>[enH h,enH h]) (fun h=>h.bs.length≤1048576) fun _ K=>K (.bool true)
theorem F16:FF 94 C16:=by
 refine fitE [(131,C18)] (by simp only [List.mem_cons,List.not_mem_nil,or_false]; rintro _ rfl <;> first|exact F18) Tryz.f94 ⟨rfl,by decide +kernel,by decide +kernel⟩ (fun _ _ _ hk h=>hk _ h) ?_
 rintro ⟨p,bs⟩ K h1 h
 refine ⟨Nat.le_of_ble_eq_true rfl,?_⟩
 dsimp only at h1 h ⊢
 repeat' (first|refine vz ?_|(conv=>whnf); first|with_reducible first|refine Sp.mk ?_ ?_|refine br_d (fun _=>?_) fun _=>?_|refine vM (fun _=>?_) fun _=>?_)
 refine ⟨bs,?_,⟨h1⟩,?_⟩
 ·exact wq
 repeat' (first|refine vz ?_|(conv=>whnf); first|with_reducible first|refine Sp.mk ?_ ?_|refine br_d (fun _=>?_) fun _=>?_|refine vM (fun _=>?_) fun _=>?_)
 exact h
end Go.Proofs.YtgdbhjmpkkbnnaaGreatDoor.Vc
end
section
/- Part TH: desks; the laws' copies and comparisons of places and desks. -/
namespace Go.Proofs.YtgdbhjmpkkbnnaaGreatDoor.Vc
open Go.Proofs
set_option maxRecDepth 10000
set_option maxHeartbeats 4000000
structure Desk where
 now:Place
 past:List Place
 deriving Inhabited
abbrev slP (l:List Place):AV:=.sl 3 l.length fun i=>plC (l.getD i default)
def deC (d:Desk):List AV:=[.int .i64 d.now.p,slI d.now.bs,slS d.now.rules,slP d.past]
def enDe (d:Desk):AV:=.agg (deC d)
def deskI (d:Desk):Prop:=placeI d.now∧d.past.length<9223372036854775808∧∀ p∈d.past,placeI p
abbrev deskOk (d:Desk):Prop:=placeOk d.now∧d.past.length≤8∧∀ p∈d.past,placeOk p
def C180:List AV→(AV→Prop)→Prop:=con (X:=Place) (fun x=>[enPl x]) placeI fun x K=>K (.bool (!decide (placeOk x)))
theorem F180:FF 91 C180:=by
 refine fitE [(89,C152)] (by simp only [List.mem_cons,List.not_mem_nil,or_false]; rintro _ rfl <;> first|exact F152) Tryz.f91 ⟨rfl,by decide +kernel,by decide +kernel⟩ (fun _ _ _ hk h=>hk _ h) ?_
 rintro ⟨p,bs,rs⟩ K hI h
 refine ⟨Nat.le_of_ble_eq_true rfl,?_⟩
 dsimp only [enPl,plC] at h ⊢
 repeat' (first|refine vz ?_|(conv=>whnf); first|with_reducible first|refine Sp.mk ?_ ?_|refine br_d (fun _=>?_) fun _=>?_|refine vM (fun _=>?_) fun _=>?_)
 refine ⟨⟨p,bs,rs⟩,?_,⟨hI⟩,?_⟩
 ·exact wq
 repeat' (first|refine vz ?_|(conv=>whnf); first|with_reducible first|refine Sp.mk ?_ ?_|refine br_d (fun _=>?_) fun _=>?_|refine vM (fun _=>?_) fun _=>?_)
 exact h
def placesI (l:List Place):Prop:=l.length<9223372036854775808∧∀ p∈l,placeI p
def C194:List AV→(AV→Prop)→Prop:=con (X:=List Place) (fun l=>[slP l,.fn 91 [] []]) placesI fun l K=>ixpost l.length (fun i=>¬ placeOk (l.getD i default)) K
theorem F194:FF 122 C194:=by
 refine fitE [(91,C180)] (by simp only [List.mem_cons,List.not_mem_nil,or_false]; rintro _ rfl; exact F180) Tryz.f122 ⟨rfl,by decide +kernel,by decide +kernel⟩ (fun _ _ _ hk h i h1 h2 h3 h4=>hk _ (h i h1 h2 h3 h4)) ?_
 rintro l K ⟨h1,h2⟩ h
 refine ⟨Nat.le_of_ble_eq_true rfl,?_⟩
 repeat' (first|refine vz ?_|(conv=>whnf); first|with_reducible first|refine Sp.mk ?_ ?_|refine br_d (fun _=>?_) fun _=>?_|refine vM (fun _=>?_) fun _=>?_)
 refine Lp.mk ⟨Nat,fun i=>[(0,slP l),(1,.fn 91 [] []),(7,.int .i64 l.length),(8,.int .i64 i)],fun _=>[],fun i=>i≤l.length∧∀ j,j<i→placeOk (l.getD j default),fun i=>l.length-i,⟨0,⟨Nat.zero_le _,fun j hj=>absurd hj (Nat.not_lt_zero _)⟩,⟨⟨[],[],rfl,rfl,?_,?_⟩⟩⟩,?_⟩
 ·exact wq
 ·exact wq
 rintro i ⟨i1,i2⟩
 dsimp only
 repeat' (first|refine vz ?_|(conv=>whnf); first|with_reducible first|refine Sp.mk ?_ ?_|refine br_d (fun _=>?_) fun _=>?_|refine vM (fun _=>?_) fun _=>?_)
 ·rename_i hi
  have hi:i<l.length:=by omega
  refine ⟨l.getD i default,?_,⟨h2 _ (getD_mem' hi)⟩,?_⟩
  ·exact wq
  repeat' (first|refine vz ?_|(conv=>whnf); first|with_reducible first|refine Sp.mk ?_ ?_|refine br_d (fun _=>?_) fun _=>?_|refine vM (fun _=>?_) fun _=>?_)
  ·rename_i hb
   refine ⟨i+1,⟨by omega,fun j hj=>?_⟩,by omega,⟨⟨[],[],rfl,rfl,?_,?_⟩⟩⟩
   ·by_cases e:j=i
    ·subst e; exact hb
    ·exact i2 j (by omega)
   ·exact wq
   ·exact wq
  ·rename_i hb
   exact h i (by omega) (by omega) (fun e=>by omega) (fun _=>hb)
 ·rename_i hi
  exact h (-1) (by omega) (by omega) (fun _ j hj=>Classical.not_not.2 (i2 j (by omega))) (fun e=>absurd e (by decide))
def C179:List AV→(AV→Prop)→Prop:=con (X:=List Place) (fun l=>[slP l,.fn 91 [] []]) placesI fun l K=>K (.bool (decide (¬ ∀ p∈l,placeOk p)))
theorem F179:FF 90 C179:=by
 refine fitE [(122,C194)] (by simp only [List.mem_cons,List.not_mem_nil,or_false]; rintro _ rfl <;> first|exact F194) Tryz.f90 ⟨rfl,by decide +kernel,by decide +kernel⟩ (fun _ _ _ hk h=>hk _ h) ?_
 rintro l K hI h
 refine ⟨Nat.le_of_ble_eq_true rfl,?_⟩
 repeat' (first|refine vz ?_|(conv=>whnf); first|with_reducible first|refine Sp.mk ?_ ?_|refine br_d (fun _=>?_) fun _=>?_|refine vM (fun _=>?_) fun _=>?_)
 refine ⟨l,?_,⟨hI⟩,?_⟩
 ·exact wq
 intro i g1 g2 g3 g4
 have e:decide (i≥0)=decide (¬ ∀ p∈l,placeOk p):=by
  refine decide_eq_decide.2 ⟨fun hi q=>?_,fun q=>?_⟩
  ·exact g4 hi (q _ (getD_mem' (by omega)))
  ·by_cases hi:i≥0
   ·exact hi
   ·exfalso
    exact q (all_of_getD (d:=default) fun j hj=>Classical.not_not.1 (g3 (by omega) j hj))
 rw [← e] at h
 repeat' (first|refine vz ?_|(conv=>whnf); first|with_reducible first|refine Sp.mk ?_ ?_|refine br_d (fun _=>?_) fun _=>?_|refine vM (fun _=>?_) fun _=>?_)
 exact h
def C159:List AV→(AV→Prop)→Prop:=con (X:=Desk) (fun d=>[enDe d]) deskI fun d K=>K (.bool (decide (deskOk d)))
theorem F159:FF 48 C159:=by
 refine fitE [(89,C152),(90,C179)] (by simp only [List.mem_cons,List.not_mem_nil,or_false]; rintro _ (rfl|rfl) <;> first|exact F152|exact F179) Tryz.f48 ⟨rfl,by decide +kernel,by decide +kernel⟩ (fun _ _ _ hk h=>hk _ h) ?_
 rintro ⟨⟨p,bs,rs⟩,l⟩ K hI h
 refine ⟨Nat.le_of_ble_eq_true rfl,?_⟩
 have hI1:=hI.1
 have hI2:=hI.2
 have hI3:=hI.2.1
 dsimp only [enDe,deC] at h hI1 hI2 hI3 ⊢
 repeat' (first|refine vz ?_|(conv=>whnf); first|with_reducible first|refine Sp.mk ?_ ?_|refine br_d (fun _=>?_) fun _=>?_|refine vM (fun _=>?_) fun _=>?_)
 refine ⟨⟨p,bs,rs⟩,?_,⟨hI1⟩,?_⟩
 ·exact wq
 repeat' (first|refine vz ?_|(conv=>whnf); first|with_reducible first|refine Sp.mk ?_ ?_|refine br_d (fun _=>?_) fun _=>?_|refine vM (fun _=>?_) fun _=>?_)
 ·rename_i hO h8
  refine ⟨l,?_,⟨hI2⟩,?_⟩
  ·exact wq
  have e:(!decide (¬ ∀ p∈l,placeOk p))=decide (deskOk ⟨⟨p,bs,rs⟩,l⟩):=by
   rw [← decide_not]
   exact decide_eq_decide.2 ⟨fun q=>⟨hO,by dsimp only; omega,Classical.not_not.1 q⟩,fun q=>Classical.not_not.2 q.2.2⟩
  rw [← e] at h
  repeat' (first|refine vz ?_|(conv=>whnf); first|with_reducible first|refine Sp.mk ?_ ?_|refine br_d (fun _=>?_) fun _=>?_|refine vM (fun _=>?_) fun _=>?_)
  exact h
 ·rename_i hO h8
  exact yesF h fun q=>by have:=q.2.1; dsimp only at this; omega
 ·rename_i hO
  exact yesF h fun q=>hO q.1
def C139:=C159
theorem F139:FF 38 C139:=by
 refine fitE [(59,C127)] (by simp only [List.mem_cons,List.not_mem_nil,or_false]; rintro _ rfl <;> first|exact F127) Tryz.f38 ⟨rfl,by decide +kernel,by decide +kernel⟩ (fun _ _ _ hk h=>hk _ h) ?_
 rintro ⟨⟨p,bs,rs⟩,l⟩ K hI h
 refine ⟨Nat.le_of_ble_eq_true rfl,?_⟩
 have hI1:=hI.1
 have hI2:=hI.2.2
 have hI3:=hI.2.1
 dsimp only [enDe,deC] at h hI1 hI2 hI3 ⊢
 repeat' (first|refine vz ?_|(conv=>whnf); first|with_reducible first|refine Sp.mk ?_ ?_|refine br_d (fun _=>?_) fun _=>?_|refine vM (fun _=>?_) fun _=>?_)
 refine Lp.mk ⟨Nat,fun i=>[(1,.ptr 0 0),(3,.int .i64 i)],fun _=>[.box (deC ⟨⟨p,bs,rs⟩,l⟩)],fun i=>i≤l.length∧∀ j,j<i→placeOk (l.getD j default),fun i=>l.length-i,⟨0,⟨Nat.zero_le _,fun j hj=>absurd hj (Nat.not_lt_zero _)⟩,⟨⟨[some 0],[],rfl,rfl,?_,?_⟩⟩⟩,?_⟩
 ·exact wq
 ·exact wq
 rintro i ⟨i1,i2⟩
 dsimp only [deC]
 repeat' (first|refine vz ?_|(conv=>whnf); first|with_reducible first|refine Sp.mk ?_ ?_|refine br_d (fun _=>?_) fun _=>?_|refine vM (fun _=>?_) fun _=>?_)
 ·rename_i hi
  have hi:i<l.length:=by omega
  refine ⟨l.getD i default,?_,⟨hI2 _ (getD_mem' hi)⟩,?_⟩
  ·exact wq
  repeat' (first|refine vz ?_|(conv=>whnf); first|with_reducible first|refine Sp.mk ?_ ?_|refine br_d (fun _=>?_) fun _=>?_|refine vM (fun _=>?_) fun _=>?_)
  ·rename_i hb
   refine ⟨i+1,⟨by omega,fun j hj=>?_⟩,by omega,⟨⟨[some 0],[],rfl,rfl,?_,?_⟩⟩⟩
   ·by_cases e:j=i
    ·subst e; exact hb
    ·exact i2 j (by omega)
   ·exact wq
   ·exact wq
  ·rename_i hb
   exact yesF h fun q=>hb (q.2.2 _ (getD_mem' hi))
 ·rename_i hi
  have hall:∀ p∈l,placeOk p:=all_of_getD (d:=default) fun j hj=>i2 j (by omega)
  refine ⟨⟨p,bs,rs⟩,?_,⟨hI1⟩,?_⟩
  ·exact wq
  repeat' (first|refine vz ?_|(conv=>whnf); first|with_reducible first|refine Sp.mk ?_ ?_|refine br_d (fun _=>?_) fun _=>?_|refine vM (fun _=>?_) fun _=>?_)
  ·rename_i hO
   exact yesD h ⟨fun q=>by have:=q.2.1; dsimp only at this; omega,fun q=>⟨hO,by dsimp only; omega,hall⟩⟩
  ·rename_i hO
   exact yesF h fun q=>hO q.1
end Go.Proofs.YtgdbhjmpkkbnnaaGreatDoor.Vc
end
section
/- Part OP: places and desks that come in, opened. -/
namespace Go.Proofs.YtgdbhjmpkkbnnaaGreatDoor.Vc
open Go.Proofs Go.ChangeShapes Go.WideShapes Go.ChangeAt Go.RowKit
theorem i64_wf {n:Int} (h:(Lit.int .i64 n).wf=true):i64r n:=by
 simp only [Lit.wf,Bool.and_eq_true,decide_eq_true_eq] at h
 exact h
def Rw0 (w:World):Nat→Prop:=fun b=>b<w.heap.size
theorem cell_lt {w:World} {a:Addr} {v:Value} (h:w.cell? a=some v):a.block<w.heap.size:=by
 unfold World.cell? at h
 rcases Nat.lt_or_ge a.block w.heap.size with h1|h1
 ·exact h1
 ·rw [Array.getElem?_eq_none h1] at h; cases h
theorem choose_lt' {α:Type} [Inhabited α] {n:Nat} {p:Nat→α→Prop} (h:∀ i,i<n→∃ y,p i y):∃ l:List α,l.length=n∧∀ i,i<n→p i (l.getD i default):=by
 induction n with
 |zero=>exact ⟨[],rfl,fun i hi=>absurd hi (Nat.not_lt_zero _)⟩
 |succ n ih =>
  obtain ⟨l,h1,h2⟩:=ih fun i hi=>h i (by omega)
  obtain ⟨y,hy⟩:=h n (by omega)
  refine ⟨l ++ [y],by simp [h1],fun i hi=>?_⟩
  by_cases hin:i<n
  ·have:=h2 i hin
   rwa [List.getD_eq_getElem?_getD,List.getElem?_append_left (by omega),← List.getD_eq_getElem?_getD]
  ·have:i=n:=by omega
   subst this
   rw [List.getD_eq_getElem?_getD,List.getElem?_append_right (by omega),h1]
   simpa using hy
section
variable (P:Program)
def IsInts (t:TypeId):Prop:=P.cellsOf t=1∧∃ e,P.underlying t=some (.slice e)∧P.underlying e=some (.int .i64)∧P.cellsOf e=1
def IsStrs (t:TypeId):Prop:=P.cellsOf t=1∧∃ e,P.underlying t=some (.slice e)∧P.underlying e=some .string∧P.cellsOf e=1
def IsHouse (t:TypeId):Prop:=P.cellsOf t=2∧∃ f0 f1,P.underlying t=some (.struct #[f0,f1])∧f0.offset=0∧f1.offset=1∧P.underlying f0.type=some (.int .i64)∧P.cellsOf f0.type=1∧IsInts P f1.type
def IsPlace (t:TypeId):Prop:=P.cellsOf t=3∧∃ f0 f1,P.underlying t=some (.struct #[f0,f1])∧f0.offset=0∧f1.offset=2∧IsHouse P f0.type∧IsStrs P f1.type
def IsPlaces (t:TypeId):Prop:=P.cellsOf t=1∧∃ e,P.underlying t=some (.slice e)∧IsPlace P e
def IsDesk (t:TypeId):Prop:=P.cellsOf t=4∧∃ f0 f1,P.underlying t=some (.struct #[f0,f1])∧f0.offset=0∧f1.offset=3∧IsPlace P f0.type∧IsPlaces P f1.type
end
def DRL (w:World) (l:List AV) (cs:List Value):Prop:=cs.length=l.length∧∀ j,j<l.length→DR (Rw0 w) w (l.getD j .undef) (cs.getD j Go.undef)
section
variable {H:Type} {enc:TypeId × Value→H} {P:Program} {w:World} {spare:Nat→Bool} {held:Bool}
theorem take_len {α:Type} {l:List α} {n:Nat} (h:n≤l.length):(l.take n).length=n:=by rw [List.length_take]; omega
theorem op_ints {t:TypeId} {fuel:Nat} {v:Value} {x:DataW H × List MemPlace} (hT:IsInts P t) (h:DataW.trod enc P w 0 spare held fuel t [v]=some x) :
  ∃ l:List Int,DR (Rw0 w) w (slI l) v∧(∀ n∈l,i64r n)∧l.length<9223372036854775808:=by
 obtain ⟨_,e,ht,he,hc⟩:=hT
 rcases open_ints ht he hc h with ⟨hcs,_⟩|⟨a,len,cap,zs,hcs,_,hl,hm,hz,_,hcell,hw⟩
 ·simp only [List.cons.injEq,and_true] at hcs
  subst hcs
  exact ⟨[],.sl0 _ _ _ _,fun n hn=>(by cases hn),by decide⟩
 ·simp only [List.cons.injEq,and_true] at hcs
  subst hcs
  have hlz:len≤zs.length:=by rw [hz]; split <;> omega
  have hln:=take_len hlz
  refine ⟨zs.take len,?_,fun n hn=>i64_wf (hw n (List.mem_of_mem_take hn)),by rw [hln]; have:maxLen=9223372036854775807:=rfl; omega⟩
  show DR (Rw0 w) w (.sl 1 (zs.take len).length fun i=>encI ((zs.take len).getD i 0)) _
  rw [hln]
  rcases Nat.eq_zero_or_pos len with rfl|hpos
  ·exact .sl0 _ _ _ _
  have h0:=hcell 0 (by omega)
  have hb:=cell_lt h0
  rw [add_block] at hb
  refine .sl 1 len _ a cap (fun i _=>.int .i64 (zs.getD i 0)) hl hb (fun i hi=>rfl) (fun i hi j hj=>?_) (fun i hi j hj=>?_)
  ·have:j=0:=by omega
   subst this
   rw [Nat.mul_one,Nat.add_zero]
   exact hcell i (by omega)
  ·have:j=0:=by omega
   subst this
   have e:(zs.take len).getD i 0=zs.getD i 0:=by
    simp only [List.getD_eq_getElem?_getD]
    rw [List.getElem?_take_of_lt hi]
   show DR _ _ (.int .i64 ((zs.take len).getD i 0)) _
   rw [e]
   exact .int _ _
theorem op_strs {t:TypeId} {fuel:Nat} {v:Value} {x:DataW H × List MemPlace} (hT:IsStrs P t) (h:DataW.trod enc P w 0 spare held fuel t [v]=some x) :
  ∃ l:List ByteArray,DR (Rw0 w) w (slS l) v∧(∀ r∈l,r.size<9223372036854775808)∧l.length<9223372036854775808:=by
 obtain ⟨_,e,ht,he,hc⟩:=hT
 rcases open_strings ht he hc h with ⟨hcs,_⟩|⟨a,len,cap,zs,hcs,_,hl,hm,hz,_,hcell,hw⟩
 ·simp only [List.cons.injEq,and_true] at hcs
  subst hcs
  exact ⟨[],.sl0 _ _ _ _,fun n hn=>(by cases hn),by decide⟩
 ·simp only [List.cons.injEq,and_true] at hcs
  subst hcs
  have hmx:maxLen=9223372036854775807:=rfl
  have hlz:len≤zs.length:=by rw [hz]; split <;> omega
  have hln:=take_len hlz
  refine ⟨zs.take len,?_,fun n hn=>by have:=hw n (List.mem_of_mem_take hn); omega,by rw [hln]; omega⟩
  show DR (Rw0 w) w (.sl 1 (zs.take len).length fun i=>encS ((zs.take len).getD i ⟨#[]⟩)) _
  rw [hln]
  rcases Nat.eq_zero_or_pos len with rfl|hpos
  ·exact .sl0 _ _ _ _
  have h0:=hcell 0 (by omega)
  have hb:=cell_lt h0
  rw [add_block] at hb
  refine .sl 1 len _ a cap (fun i _=>.string (zs.getD i ByteArray.empty)) hl hb (fun i hi=>rfl) (fun i hi j hj=>?_) (fun i hi j hj=>?_)
  ·have:j=0:=by omega
   subst this
   rw [Nat.mul_one,Nat.add_zero]
   exact hcell i (by omega)
  ·have:j=0:=by omega
   subst this
   have e:(zs.take len).getD i ⟨#[]⟩=zs.getD i ByteArray.empty:=by
    simp only [List.getD_eq_getElem?_getD]
    rw [List.getElem?_take_of_lt hi,List.getElem?_eq_getElem (by omega)]
    rfl
   show DR _ _ (.str ((zs.take len).getD i ⟨#[]⟩)) _
   rw [e]
   exact .str _
theorem op_houseC {t:TypeId} {fuel:Nat} {cs:List Value} {x:DataW H × List MemPlace} (hT:IsHouse P t) (h:DataW.trod enc P w 0 spare held fuel t cs=some x):∃ h:House,DRL w [.int .i64 h.p,slI h.bs] cs∧houI h:=by
 obtain ⟨ce,f0,f1,ht,o0,o1,k0,c0,k1⟩:=hT
 obtain ⟨y0,y1,n,_,hl,g0,g1⟩:=trod_struct2 ht h
 rw [ce] at hl
 match cs,hl with
 |[v0,v1],_ =>
  simp [o0,o1,c0,k1.1] at g0 g1
  obtain ⟨p,e1,_,w0⟩:=DataW.trod_int k0 g0
  simp only [List.cons.injEq,and_true] at e1
  subst e1
  obtain ⟨l,q1,q2,q3⟩:=op_ints k1 g1
  refine ⟨⟨p,l⟩,⟨rfl,fun j hj=>?_⟩,⟨i64_wf w0,q2⟩,q3⟩
  match j,hj with
  |0,_=>exact .int _ _
  |1,_=>exact q1
theorem op_placeC {t:TypeId} {fuel:Nat} {cs:List Value} {x:DataW H × List MemPlace} (hT:IsPlace P t) (h:DataW.trod enc P w 0 spare held fuel t cs=some x):∃ x:Place,DRL w (plC x) cs∧placeI x:=by
 obtain ⟨ce,f0,f1,ht,o0,o1,k0,k1⟩:=hT
 obtain ⟨y0,y1,n,_,hl,g0,g1⟩:=trod_struct2 ht h
 rw [ce] at hl
 match cs,hl with
 |[v0,v1,v2],_ =>
  simp [o0,o1,k0.1,k1.1] at g0 g1
  obtain ⟨hh,q1,q2⟩:=op_houseC k0 g0
  obtain ⟨l,r1,r2,r3⟩:=op_strs k1 g1
  refine ⟨⟨hh.p,hh.bs,l⟩,⟨rfl,fun j hj=>?_⟩,q2,r3,r2⟩
  match j,hj with
  |0,_=>exact q1.2 0 (by simp)
  |1,_=>exact q1.2 1 (by simp)
  |2,_=>exact r1
theorem op_places {t:TypeId} {fuel:Nat} {v:Value} {x:DataW H × List MemPlace} (hT:IsPlaces P t) (h:DataW.trod enc P w 0 spare held fuel t [v]=some x):∃ l:List Place,DR (Rw0 w) w (slP l) v∧placesI l:=by
 obtain ⟨_,e,ht,hE⟩:=hT
 rcases DataW.trod_slice ht h with ⟨hcs,_⟩|⟨a,len,cap,elems,rest,n,_,hcs,_,_,hl,hm,hel,hx,_,_⟩
 ·simp only [List.cons.injEq,and_true] at hcs
  subst hcs
  exact ⟨[],.sl0 _ _ _ _,by decide,fun n hn=>(by cases hn)⟩
 ·simp only [List.cons.injEq,and_true] at hcs
  subst hcs
  rw [hE.1] at hx
  have each:∀ i,i<len→∃ m:Place,placeI m∧∃ cs:List Value,DRL w (plC m) cs∧∀ j,j<3→w.cell? (a.add (i*3+j))=some (cs.getD j Go.undef):=by
   intro i hi
   have h1:=hx i hi
   rw [List.getElem?_eq_getElem (by omega),Option.bind_eq_some_iff] at h1
   obtain ⟨cs,h2,h3⟩:=h1
   obtain ⟨_,hlen,hcell⟩:=World.cells?_some h2
   obtain ⟨m,q,hmi⟩:=op_placeC hE h3
   refine ⟨m,hmi,cs,q,fun j hj=>?_⟩
   have:=hcell j hj
   rw [add_add] at this
   have hj':j<cs.length:=by rw [q.1]; exact hj
   rw [this,List.getD_eq_getElem?_getD,List.getElem?_eq_getElem hj']
   rfl
  obtain ⟨l,h1,h2⟩:=choose_lt' each
  subst h1
  refine ⟨l,?_,by have:maxLen=9223372036854775807:=rfl; omega,all_of_getD (d:=default) fun i hi=>(h2 i hi).1⟩
  rcases Nat.eq_zero_or_pos l.length with h0|hpos
  ·show DR _ _ (.sl 3 l.length _) (.slice _ l.length _)
   rw [h0]
   exact .sl0 _ _ _ _
  obtain ⟨cs0,_,hc0⟩:=(h2 0 hpos).2
  have hb:=cell_lt (hc0 0 (by decide))
  rw [add_block] at hb
  have h3:∀ i,i<l.length→∃ cs:List Value,DRL w (plC (l.getD i default)) cs∧∀ j,j<3→w.cell? (a.add (i*3+j))=some (cs.getD j Go.undef):=fun i hi=>(h2 i hi).2
  refine .sl 3 l.length _ a cap (fun i j=>(w.cell? (a.add (i*3+j))).getD Go.undef) hl hb (fun i hi=>rfl) (fun i hi j hj=>?_) (fun i hi j hj=>?_)
  ·obtain ⟨cs,_,hc⟩:=h3 i hi
   rw [hc j hj]; rfl
  ·obtain ⟨cs,hd,hc⟩:=h3 i hi
   rw [hc j hj]
   exact hd.2 j hj
theorem op_deskC {t:TypeId} {fuel:Nat} {cs:List Value} {x:DataW H × List MemPlace} (hT:IsDesk P t) (h:DataW.trod enc P w 0 spare held fuel t cs=some x):∃ d:Desk,DRL w (deC d) cs∧deskI d:=by
 obtain ⟨ce,f0,f1,ht,o0,o1,k0,k1⟩:=hT
 obtain ⟨y0,y1,n,_,hl,g0,g1⟩:=trod_struct2 ht h
 rw [ce] at hl
 match cs,hl with
 |[v0,v1,v2,v3],_ =>
  simp [o0,o1,k0.1,k1.1] at g0 g1
  obtain ⟨p,q1,q2⟩:=op_placeC k0 g0
  obtain ⟨l,r1,r2⟩:=op_places k1 g1
  refine ⟨⟨p,l⟩,⟨rfl,fun j hj=>?_⟩,q2,r2⟩
  match j,hj with
  |0,_=>exact q1.2 0 (by simp [plC])
  |1,_=>exact q1.2 1 (by simp [plC])
  |2,_=>exact q1.2 2 (by simp [plC])
  |3,_=>exact r1
theorem DRL.pv {l:List AV} {cs:Array Value} (h:DRL w l cs.toList):PV (Rw0 w) w (.agg l) (.agg cs):=.agg _ _ (by simpa using h.1) fun j hj=>by
 have:=h.2 j hj
 rw [List.getD_eq_getElem?_getD (l:=cs.toList),Array.getElem?_toList,← Array.getD_eq_getD_getElem?] at this
 exact .data this
theorem op_desk {t:TypeId} {v:Value} {d:DataW H} {ps:List MemPlace} {r:Reach} {b0:Nat} (hT:IsDesk P t) (hv:Value.okWide P w r b0 t v) (h:DataW.Trod enc P w 0 spare held t v d ps):∃ x:Desk,PV (Rw0 w) w (enDe x) v∧deskI x:=by
 obtain ⟨_,f0,f1,ht,_⟩:=id hT
 obtain ⟨cs,rfl,hcs⟩:=okWide_struct ht hv
 obtain ⟨fuel,hf⟩:=h
 obtain ⟨x,h1,h2⟩:=op_deskC hT hf
 exact ⟨x,DRL.pv h1,h2⟩
end
end Go.Proofs.YtgdbhjmpkkbnnaaGreatDoor.Vc
end
section
/- Part RK: rows of a door seat: what the listed tables give. -/
namespace Go.Proofs.YtgdbhjmpkkbnnaaGreatDoor.Vc
open Go.Proofs Go.ChangeShapes Go.WideShapes Go.ChangeAt Go.RowKit Go.Proofs.YtgdbhjmpkkbnnaaGreatDoor
theorem own:ownKnob Tryz.prog.godebug=none:=by kernel_rfl
theorem laidOut:laidOutB Tryz.prog=true:=by kernel_rfl
theorem FF.below {f:FuncId} {C:List AV→(AV→Prop)→Prop} (hF:FF f C) {us:List AV} {b:Bool} (h:C us fun r=>r=.bool b) {w:World} (hw:Good w) {xs:Array Value} (ha:ArgsV (Rw0 w) w us xs) :
  Calls Tryz.prog f xs w fun e w'=>e=.returned (.bool b)∧Below w.heap.size w w':=by
 let Gl:List (Nat × Go.Obj):=(List.range w.heap.size).filterMap fun g=>(w.heap[g]?).map fun ob=>(g,ob)
 have hin:∀ (g:Nat) (ob:Go.Obj),w.heap[g]?=some ob→(g,ob)∈Gl:=fun g ob ho=>List.mem_filterMap.2 ⟨g,List.mem_range.2 (Array.getElem?_eq_some_iff.1 ho).1,by rw [ho]; rfl⟩
 have hG:GOk Gl:=fun w' h'=>hw.ext fun g ob ho=>h' _ (hin g ob ho)
 have hb:∀ p,p∈Gl→w.heap[p.1]?=some p.2:=fun p hp=>by
  obtain ⟨g,_,hg⟩:=List.mem_filterMap.1 hp
  obtain ⟨ob,ho,rfl⟩:=Option.map_eq_some_iff.1 hg
  exact ho
 exact ((hF _ hG).ok us _ h (Rw0 w) w xs ⟨fun _ h=>h,fun p hp=>⟨(Array.getElem?_eq_some_iff.1 (hb p hp)).1,hb p hp⟩⟩ ha).mono fun e w' he=>by
  obtain ⟨r,x,R',rfl,rfl,hv,hA⟩:=he
  cases hv with
  |data hd=>cases hd; exact ⟨rfl,hA.os,hA.tape,hA.output,hA.size,hA.same⟩
section
variable {H:Type} {enc:TypeId × Value→H} {P:Program} {w:World} {spare:Nat→Bool} {held:Bool} {R:Nat→Prop}
end
end Go.Proofs.YtgdbhjmpkkbnnaaGreatDoor.Vc
end
section
/- Part RL: rows of a door seat: what the world's shape and the listed variables give. -/
namespace Go.Proofs.YtgdbhjmpkkbnnaaGreatDoor.Vc
open Go.Proofs Go.ChangeShapes Go.WideShapes Go.ChangeAt Go.RowKit
set_option maxRecDepth 100000
end Go.Proofs.YtgdbhjmpkkbnnaaGreatDoor.Vc
end
section
/- Part TI: the laws' sizes, copies and comparisons of places and desks. -/
namespace Go.Proofs.YtgdbhjmpkkbnnaaGreatDoor.Vc
open Go.Proofs
set_option maxRecDepth 10000
set_option maxHeartbeats 4000000
/-! ### Sizes -/
def szpost (n:Int) (B:Prop) (K:AV→Prop):Prop:=∀ v:Int,-1≤v→v≤n→(0≤v→B)→K (.int .i64 v)
def rng (n:Int):Prop:=0≤n∧n≤9223372036854775807
def fitS (n:Int) (l:List ByteArray):Prop:=l.length≤n∧∀ r∈l,r.size≤n
def C154:List AV→(AV→Prop)→Prop:=con (X:=List ByteArray × Int) (fun x=>[slS x.1,.int .i64 x.2]) (fun x=>(x.1.length<9223372036854775808∧∀ r∈x.1,r.size<9223372036854775808)∧rng x.2) fun x K=>szpost x.2 (fitS x.2 x.1) K
theorem F154:FF 15 C154:=by
 refine fitXE [] (by simp) [] (by simp) Tryz.f15 ⟨rfl,by decide +kernel,by decide +kernel⟩ (fun _ _ _ hk h v h1 h2 h3=>hk _ (h v h1 h2 h3)) ?_
 rintro ⟨l,n⟩ K ⟨⟨h1,h2⟩,h3,h4⟩ h
 refine ⟨Nat.le_of_ble_eq_true rfl,?_⟩
 dsimp only at h1 h2 h3 h4 h ⊢
 repeat' (first|refine vz ?_|(conv=>whnf); first|with_reducible first|refine Sp.mk ?_ ?_|refine br_d (fun _=>?_) fun _=>?_|refine vM (fun _=>?_) fun _=>?_)
 ·refine ⟨_,?_,h (-1) (by omega) (by omega) (fun e=>absurd e (by decide))⟩
  repeat' ((conv=>whnf); first|with_reducible exact True.intro|exact vW|with_reducible refine And.intro ?_ ?_)
 ·rename_i hn
  refine Lp.mk ⟨Nat × Int,fun x=>[(0,slS l),(1,.int .i64 x.2),(5,.int .i64 x.1)],fun _=>[],fun x=>x.1≤l.length∧0≤x.2∧x.2≤n-l.length∧∀ j,j<x.1→((l.getD j ⟨#[]⟩).size:Int)≤n,fun x=>l.length-x.1,⟨(0,n-l.length),⟨Nat.zero_le _,by dsimp only; omega,by dsimp only; omega,fun j hj=>absurd hj (Nat.not_lt_zero _)⟩,⟨⟨[],[],rfl,rfl,?_,?_⟩⟩⟩,?_⟩
  ·exact wq
  ·exact wq
  rintro ⟨i,m⟩ ⟨i1,i2,i3,i4⟩
  dsimp only at i1 i2 i3 i4 ⊢
  have hsz:i<l.length→(l.getD (i:Int).toNat ⟨#[]⟩).size<9223372036854775808:=fun hi=>h2 _ (getD_mem' hi)
  by_cases hi:i<l.length
  ·have hsz:=hsz hi
   repeat' (first|refine vz ?_|(conv=>whnf); first|with_reducible first|refine Sp.mk ?_ ?_|refine br_d (fun _=>?_) fun _=>?_|refine vM (fun _=>?_) fun _=>?_)
   ·refine ⟨_,?_,h (-1) (by omega) (by omega) (fun e=>absurd e (by decide))⟩
    repeat' ((conv=>whnf); first|with_reducible exact True.intro|exact vW|with_reducible refine And.intro ?_ ?_)
   ·rename_i hm
    refine ⟨(i+1,m-(l.getD (i:Int).toNat ⟨#[]⟩).size),⟨by dsimp only; omega,by dsimp only; omega,by dsimp only; omega,fun j hj=>?_⟩,by dsimp only; omega,⟨⟨[],[],rfl,rfl,?_,?_⟩⟩⟩
    ·by_cases e:j=i
     ·subst e
      replace hm:¬ m-((l.getD j ⟨#[]⟩).size:Int)<0:=hm
      omega
     ·exact i4 j (by dsimp only at hj; omega)
    ·exact wq
    ·exact wq
  ·repeat' (first|refine vz ?_|(conv=>whnf); first|with_reducible first|refine Sp.mk ?_ ?_|refine br_d (fun _=>?_) fun _=>?_|refine vM (fun _=>?_) fun _=>?_)
   refine ⟨_,?_,h m (by omega) (by omega) (fun _=>⟨by omega,all_of_getD (d:=⟨#[]⟩) fun j hj=>i4 j (by omega)⟩)⟩
   repeat' ((conv=>whnf); first|with_reducible exact True.intro|exact vW|with_reducible refine And.intro ?_ ?_)
def fitPl (n:Int) (x:Place):Prop:=x.bs.length≤n∧fitS n x.rules
def C128:List AV→(AV→Prop)→Prop:=con (X:=Place × Int) (fun x=>[enPl x.1,.int .i64 x.2]) (fun x=>placeI x.1∧rng x.2) fun x K=>szpost x.2 (fitPl x.2 x.1) K
theorem fitS_mono {n m:Int} (h:n≤m) {l:List ByteArray} (hl:fitS n l):fitS m l:=⟨Int.le_trans hl.1 h,fun r hr=>Int.le_trans (hl.2 r hr) h⟩
theorem fitPl_mono {n m:Int} (h:n≤m) {x:Place} (hl:fitPl n x):fitPl m x:=⟨Int.le_trans hl.1 h,fitS_mono h hl.2⟩
theorem F128:FF 36 C128:=by
 refine fitXE [(69,C9),(15,C154)] (by simp only [List.mem_cons,List.not_mem_nil,or_false]; rintro _ (rfl|rfl) <;> first|exact F9|exact F154) [] (by simp) Tryz.f36 ⟨rfl,by decide +kernel,by decide +kernel⟩ (fun _ _ _ hk h v h1 h2 h3=>hk _ (h v h1 h2 h3)) ?_
 rintro ⟨⟨p,bs,rs⟩,n⟩ K ⟨hI,h3,h4⟩ h
 refine ⟨Nat.le_of_ble_eq_true rfl,?_⟩
 have hI1:=hI.1.2
 have hI2:=hI.2
 dsimp only [enPl,plC] at h3 h4 h hI1 hI2 ⊢
 repeat' (first|refine vz ?_|(conv=>whnf); first|with_reducible first|refine Sp.mk ?_ ?_|refine br_d (fun _=>?_) fun _=>?_|refine vM (fun _=>?_) fun _=>?_)
 refine ⟨(⟨p,bs⟩,n),?_,⟨hI1,h3,h4⟩,?_⟩
 ·exact wq
 dsimp only
 have hl:(bs.length:Int)<9223372036854775808:=by have:bs.length<9223372036854775808:=hI1; omega
 by_cases hn:n-bs.length<0
 ·rw [if_pos hn]
  repeat' (first|refine vz ?_|(conv=>whnf); first|with_reducible first|refine Sp.mk ?_ ?_|refine br_d (fun _=>?_) fun _=>?_|refine vM (fun _=>?_) fun _=>?_)
  refine ⟨_,?_,h (-1) (by omega) (by omega) (fun e=>absurd e (by decide))⟩
  repeat' ((conv=>whnf); first|with_reducible exact True.intro|exact vW|with_reducible refine And.intro ?_ ?_)
 ·rw [if_neg hn]
  repeat' (first|refine vz ?_|(conv=>whnf); first|with_reducible first|refine Sp.mk ?_ ?_|refine br_d (fun _=>?_) fun _=>?_|refine vM (fun _=>?_) fun _=>?_)
  refine ⟨(rs,n-bs.length),?_,⟨hI2,by dsimp only; omega,by dsimp only; omega⟩,?_⟩
  ·exact wq
  intro v v1 v2 v3
  dsimp only at v2 v3
  by_cases hv:v<0
  ·repeat' (first|refine vz ?_|(conv=>whnf); first|with_reducible first|refine Sp.mk ?_ ?_|refine br_d (fun _=>?_) fun _=>?_|refine vM (fun _=>?_) fun _=>?_)
   refine ⟨_,?_,h (-1) (by omega) (by omega) (fun e=>absurd e (by decide))⟩
   repeat' ((conv=>whnf); first|with_reducible exact True.intro|exact vW|with_reducible refine And.intro ?_ ?_)
  ·repeat' (first|refine vz ?_|(conv=>whnf); first|with_reducible first|refine Sp.mk ?_ ?_|refine br_d (fun _=>?_) fun _=>?_|refine vM (fun _=>?_) fun _=>?_)
   refine ⟨_,?_,h v (by omega) (by omega) (fun e=>⟨by dsimp only; omega,fitS_mono (by omega) (v3 e)⟩)⟩
   repeat' ((conv=>whnf); first|with_reducible exact True.intro|exact vW|with_reducible refine And.intro ?_ ?_)
def fitPs (n:Int) (l:List Place):Prop:=l.length≤n∧∀ x∈l,fitPl n x
def C162:List AV→(AV→Prop)→Prop:=con (X:=List Place × Int) (fun x=>[slP x.1,.int .i64 x.2]) (fun x=>placesI x.1∧rng x.2) fun x K=>szpost x.2 (fitPs x.2 x.1) K
theorem F162:FF 37 C162:=by
 refine fitXE [(36,C128)] (by simp only [List.mem_cons,List.not_mem_nil,or_false]; rintro _ rfl <;> first|exact F128) [] (by simp) Tryz.f37 ⟨rfl,by decide +kernel,by decide +kernel⟩ (fun _ _ _ hk h v h1 h2 h3=>hk _ (h v h1 h2 h3)) ?_
 rintro ⟨l,n⟩ K ⟨⟨h1,h2⟩,h3,h4⟩ h
 refine ⟨Nat.le_of_ble_eq_true rfl,?_⟩
 dsimp only at h1 h2 h3 h4 h ⊢
 repeat' (first|refine vz ?_|(conv=>whnf); first|with_reducible first|refine Sp.mk ?_ ?_|refine br_d (fun _=>?_) fun _=>?_|refine vM (fun _=>?_) fun _=>?_)
 ·refine ⟨_,?_,h (-1) (by omega) (by omega) (fun e=>absurd e (by decide))⟩
  repeat' ((conv=>whnf); first|with_reducible exact True.intro|exact vW|with_reducible refine And.intro ?_ ?_)
 ·rename_i hn
  refine Lp.mk ⟨Nat × Int,fun x=>[(0,slP l),(1,.int .i64 x.2),(5,.int .i64 x.1)],fun _=>[],fun x=>x.1≤l.length∧0≤x.2∧x.2≤n-l.length∧∀ j,j<x.1→fitPl n (l.getD j default),fun x=>l.length-x.1,⟨(0,n-l.length),⟨Nat.zero_le _,by dsimp only; omega,by dsimp only; omega,fun j hj=>absurd hj (Nat.not_lt_zero _)⟩,⟨⟨[],[],rfl,rfl,?_,?_⟩⟩⟩,?_⟩
  ·exact wq
  ·exact wq
  rintro ⟨i,m⟩ ⟨i1,i2,i3,i4⟩
  dsimp only at i1 i2 i3 i4 ⊢
  repeat' (first|refine vz ?_|(conv=>whnf); first|with_reducible first|refine Sp.mk ?_ ?_|refine br_d (fun _=>?_) fun _=>?_|refine vM (fun _=>?_) fun _=>?_)
  ·rename_i hi
   have hi:i<l.length:=by omega
   refine ⟨(l.getD i default,m),?_,⟨h2 _ (getD_mem' hi),by dsimp only; omega,by dsimp only; omega⟩,?_⟩
   ·exact wq
   intro v v1 v2 v3
   dsimp only at v2 v3
   by_cases hv:v<0
   ·repeat' (first|refine vz ?_|(conv=>whnf); first|with_reducible first|refine Sp.mk ?_ ?_|refine br_d (fun _=>?_) fun _=>?_|refine vM (fun _=>?_) fun _=>?_)
    refine ⟨_,?_,h (-1) (by omega) (by omega) (fun e=>absurd e (by decide))⟩
    repeat' ((conv=>whnf); first|with_reducible exact True.intro|exact vW|with_reducible refine And.intro ?_ ?_)
   ·repeat' (first|refine vz ?_|(conv=>whnf); first|with_reducible first|refine Sp.mk ?_ ?_|refine br_d (fun _=>?_) fun _=>?_|refine vM (fun _=>?_) fun _=>?_)
    refine ⟨(i+1,v),⟨by dsimp only; omega,by dsimp only; omega,by dsimp only; omega,fun j hj=>?_⟩,by dsimp only; omega,⟨⟨[],[],rfl,rfl,?_,?_⟩⟩⟩
    ·by_cases e:j=i
     ·subst e
      exact fitPl_mono (by omega) (v3 (by omega))
     ·exact i4 j (by dsimp only at hj; omega)
    ·exact wq
    ·exact wq
  ·rename_i hi
   refine ⟨_,?_,h m (by omega) (by omega) (fun _=>⟨by omega,all_of_getD (d:=default) fun j hj=>i4 j (by omega)⟩)⟩
   repeat' ((conv=>whnf); first|with_reducible exact True.intro|exact vW|with_reducible refine And.intro ?_ ?_)
def fitDe (n:Int) (d:Desk):Prop:=fitPl n d.now∧fitPs n d.past
def C138:List AV→(AV→Prop)→Prop:=con (X:=Desk × Int) (fun x=>[enDe x.1,.int .i64 x.2]) (fun x=>deskI x.1∧rng x.2) fun x K=>szpost x.2 (fitDe x.2 x.1) K
theorem F138:FF 8 C138:=by
 refine fitXE [(36,C128),(37,C162)] (by simp only [List.mem_cons,List.not_mem_nil,or_false]; rintro _ (rfl|rfl) <;> first|exact F128|exact F162) [] (by simp) Tryz.f8 ⟨rfl,by decide +kernel,by decide +kernel⟩ (fun _ _ _ hk h v h1 h2 h3=>hk _ (h v h1 h2 h3)) ?_
 rintro ⟨⟨⟨p,bs,rs⟩,l⟩,n⟩ K ⟨hI,h3,h4⟩ h
 refine ⟨Nat.le_of_ble_eq_true rfl,?_⟩
 have hI1:=hI.1
 have hI2:=hI.2
 dsimp only [enDe,deC] at h3 h4 h hI1 hI2 ⊢
 repeat' (first|refine vz ?_|(conv=>whnf); first|with_reducible first|refine Sp.mk ?_ ?_|refine br_d (fun _=>?_) fun _=>?_|refine vM (fun _=>?_) fun _=>?_)
 refine ⟨(⟨p,bs,rs⟩,n),?_,⟨hI1,h3,h4⟩,?_⟩
 ·exact wq
 intro v v1 v2 v3
 dsimp only at v2 v3
 by_cases hv:v<0
 ·repeat' (first|refine vz ?_|(conv=>whnf); first|with_reducible first|refine Sp.mk ?_ ?_|refine br_d (fun _=>?_) fun _=>?_|refine vM (fun _=>?_) fun _=>?_)
  refine ⟨_,?_,h (-1) (by omega) (by omega) (fun e=>absurd e (by decide))⟩
  repeat' ((conv=>whnf); first|with_reducible exact True.intro|exact vW|with_reducible refine And.intro ?_ ?_)
 ·repeat' (first|refine vz ?_|(conv=>whnf); first|with_reducible first|refine Sp.mk ?_ ?_|refine br_d (fun _=>?_) fun _=>?_|refine vM (fun _=>?_) fun _=>?_)
  refine ⟨(l,v),?_,⟨hI2,by dsimp only; omega,by dsimp only; omega⟩,?_⟩
  ·exact wq
  intro v' w1 w2 w3
  dsimp only at w2 w3
  have mono:fitPs v l→fitPs n l:=fun q=>⟨Int.le_trans q.1 v2,fun x hx=>fitPl_mono v2 (q.2 x hx)⟩
  by_cases hv':v'<0
  ·repeat' (first|refine vz ?_|(conv=>whnf); first|with_reducible first|refine Sp.mk ?_ ?_|refine br_d (fun _=>?_) fun _=>?_|refine vM (fun _=>?_) fun _=>?_)
   refine ⟨_,?_,h (-1) (by omega) (by omega) (fun e=>absurd e (by decide))⟩
   repeat' ((conv=>whnf); first|with_reducible exact True.intro|exact vW|with_reducible refine And.intro ?_ ?_)
  ·repeat' (first|refine vz ?_|(conv=>whnf); first|with_reducible first|refine Sp.mk ?_ ?_|refine br_d (fun _=>?_) fun _=>?_|refine vM (fun _=>?_) fun _=>?_)
   refine ⟨_,?_,h v' (by omega) (by omega) (fun e=>⟨v3 (by omega),mono (w3 e)⟩)⟩
   repeat' ((conv=>whnf); first|with_reducible exact True.intro|exact vW|with_reducible refine And.intro ?_ ?_)
/-! ### Copies -/
def cpG {α:Type} (enc:α→List AV) (d:α) (z:List AV) (l:List α) (i:Nat):Nat→List AV:=fun j=>if j<i then enc (l.getD j d) else z
section
variable {α:Type} {enc:α→List AV} {d:α} {z:List AV} {l:List α}
theorem cpG_step {i j:Nat}:cpG enc d z l (i+1) j=setF (cpG enc d z l i) i (enc (l.getD i d)) j:=by
 unfold cpG setF
 cases h:Nat.beq j i with
 |true =>
  obtain rfl:=Nat.eq_of_beq_eq_true h
  rw [if_pos (by omega)]; rfl
 |false =>
  have:=Nat.ne_of_beq_eq_false h
  simp only [cond_false]
  by_cases hj:j<i
  ·rw [if_pos hj,if_pos (by omega)]
  ·rw [if_neg hj,if_neg (by omega)]
theorem cpG_at {i:Nat}:cpG enc d z l i i=z:=if_neg (Nat.lt_irrefl _)
theorem cpG_end {i:Nat} (h:l.length≤i):∀ j,j<l.length→cpG enc d z l i (0+j)=enc (l.getD j d):=fun j hj=>by
 rw [Nat.zero_add]
 exact if_pos (by omega)
end
def C155:List AV→(AV→Prop)→Prop:=con (X:=List ByteArray) (fun l=>[slS l]) (fun l=>l.length≤1048576) fun l K=>K (slS l)
theorem F155:FF 17 C155:=by
 refine fitXE [] (by simp) [] (by simp) Tryz.f17 ⟨rfl,by decide +kernel,by decide +kernel⟩ (by intro x K K2 hk h; (try dsimp only at h ⊢); intros; apply hk; first|exact h|(apply h <;> assumption)) ?_
 rintro l K h1 h
 refine ⟨Nat.le_of_ble_eq_true rfl,?_⟩
 repeat' ((conv=>whnf); first|((with_reducible refine And.intro (Chk.mk ?_) ?_); (focus (refine ⟨rfl,?_,?_,?_⟩; (focus omega); (focus omega); (focus (show (16:Int)*_≤_; omega)))))|refine vA ?_|with_reducible first|refine v8 ?_|refine Ch.l ?_|refine Sp.mk ?_ ?_|refine vS ?_|refine vR ?_|refine vB ?_|refine br_nt ?_|refine br_tt ?_|refine br_ff ?_|refine vP ?_|refine vQ ?_|refine vT ?_|refine vF ?_|refine br_and ?_|refine br_or ?_|refine br_d (fun _=>?_) fun _=>?_|refine vM (fun _=>?_) fun _=>?_)
 refine Lp.mk ⟨Nat,fun i=>[(0,slS l),(3,.row 0 1 0 l.length),(4,.int .i64 i)],fun i=>[.row 1 l.length (cpG encS ⟨#[]⟩ [.str ⟨#[]⟩] l i)],fun i=>i≤l.length,fun i=>l.length-i,⟨0,Nat.zero_le _,⟨⟨[some 0],[],rfl,rfl,?_,?_⟩⟩⟩,?_⟩
 ·exact wq
 ·exact wq
 intro i i1
 dsimp only
 repeat' (first|refine vz ?_|(conv=>whnf); first|with_reducible first|refine Sp.mk ?_ ?_|refine br_d (fun _=>?_) fun _=>?_|refine vM (fun _=>?_) fun _=>?_)
 ·refine ⟨i+1,by omega,by omega,⟨⟨[some 0],[],rfl,rfl,?_,?_⟩⟩⟩
  ·exact wq
  ·repeat' ((conv=>whnf); first|with_reducible exact True.intro|exact vW|with_reducible refine And.intro ?_ ?_)
   exact Chk.mk ⟨rfl,fun j _=>by rw [cpG_step,Nat.zero_add,Int.toNat_natCast,cpG_at]; rfl⟩
 ·have he:=cpG_end (enc:=encS) (d:=⟨#[]⟩) (z:=[.str ⟨#[]⟩]) (l:=l) (i:=i) (by omega)
  refine ⟨_,?_,h⟩
  repeat' ((conv=>whnf); first|with_reducible exact True.intro|exact vW|with_reducible refine And.intro ?_ ?_)
def okPl (x:Place):Prop:=x.bs.length≤1048576∧x.rules.length≤1048576
def C129:List AV→(AV→Prop)→Prop:=con (X:=Place) (fun x=>[enPl x]) okPl fun x K=>K (enPl x)
theorem F129:FF 46 C129:=by
 refine fitE [(88,C12),(17,C155)] (by simp only [List.mem_cons,List.not_mem_nil,or_false]; rintro _ (rfl|rfl) <;> first|exact F12|exact F155) Tryz.f46 ⟨rfl,by decide +kernel,by decide +kernel⟩ (fun _ _ _ hk h=>hk _ h) ?_
 rintro ⟨p,bs,rs⟩ K ⟨h1,h2⟩ h
 refine ⟨Nat.le_of_ble_eq_true rfl,?_⟩
 dsimp only [enPl,plC] at h1 h2 h ⊢
 repeat' (first|refine vz ?_|(conv=>whnf); first|with_reducible first|refine Sp.mk ?_ ?_|refine br_d (fun _=>?_) fun _=>?_|refine vM (fun _=>?_) fun _=>?_)
 refine ⟨⟨p,bs⟩,?_,⟨h1⟩,?_⟩
 ·exact wq
 dsimp only [enH]
 repeat' (first|refine vz ?_|(conv=>whnf); first|with_reducible first|refine Sp.mk ?_ ?_|refine br_d (fun _=>?_) fun _=>?_|refine vM (fun _=>?_) fun _=>?_)
 refine ⟨rs,?_,⟨h2⟩,?_⟩
 ·exact wq
 repeat' (first|refine vz ?_|(conv=>whnf); first|with_reducible first|refine Sp.mk ?_ ?_|refine br_d (fun _=>?_) fun _=>?_|refine vM (fun _=>?_) fun _=>?_)
 exact h
def okPs (l:List Place):Prop:=l.length≤1048576∧∀ x∈l,okPl x
def C163:List AV→(AV→Prop)→Prop:=con (X:=List Place) (fun l=>[slP l]) okPs fun l K=>K (slP l)
theorem F163:FF 47 C163:=by
 refine fitXE [(46,C129)] (by simp only [List.mem_cons,List.not_mem_nil,or_false]; rintro _ rfl <;> first|exact F129) [] (by simp) Tryz.f47 ⟨rfl,by decide +kernel,by decide +kernel⟩ (by intro x K K2 hk h; (try dsimp only at h ⊢); intros; apply hk; first|exact h|(apply h <;> assumption)) ?_
 rintro l K ⟨h1,h2⟩ h
 refine ⟨Nat.le_of_ble_eq_true rfl,?_⟩
 repeat' ((conv=>whnf); first|((with_reducible refine And.intro (Chk.mk ?_) ?_); (focus (refine ⟨rfl,?_,?_,?_⟩; (focus omega); (focus omega); (focus (show (56:Int)*_≤_; omega)))))|refine vA ?_|with_reducible first|refine v8 ?_|refine Ch.l ?_|refine Sp.mk ?_ ?_|refine vS ?_|refine vR ?_|refine vB ?_|refine br_nt ?_|refine br_tt ?_|refine br_ff ?_|refine vP ?_|refine vQ ?_|refine vT ?_|refine vF ?_|refine br_and ?_|refine br_or ?_|refine br_d (fun _=>?_) fun _=>?_|refine vM (fun _=>?_) fun _=>?_)
 refine Lp.mk ⟨Nat,fun i=>[(0,slP l),(3,.row 0 3 0 l.length),(4,.int .i64 i)],fun i=>[.row 3 l.length (cpG plC default [.int .i64 0,.nils,.nils] l i)],fun i=>i≤l.length,fun i=>l.length-i,⟨0,Nat.zero_le _,⟨⟨[some 0],[],rfl,rfl,?_,?_⟩⟩⟩,?_⟩
 ·exact wq
 ·exact wq
 intro i i1
 dsimp only
 repeat' (first|refine vz ?_|(conv=>whnf); first|with_reducible first|refine Sp.mk ?_ ?_|refine br_d (fun _=>?_) fun _=>?_|refine vM (fun _=>?_) fun _=>?_)
 ·rename_i hi
  have hi:i<l.length:=by omega
  refine ⟨l.getD i default,?_,⟨h2 _ (getD_mem' hi)⟩,?_⟩
  ·exact wq
  dsimp only [enPl,plC]
  repeat' (first|refine vz ?_|(conv=>whnf); first|with_reducible first|refine Sp.mk ?_ ?_|refine br_d (fun _=>?_) fun _=>?_|refine vM (fun _=>?_) fun _=>?_)
  refine ⟨i+1,by omega,by omega,⟨⟨[some 0],[],rfl,rfl,?_,?_⟩⟩⟩
  ·exact wq
  ·repeat' ((conv=>whnf); first|with_reducible exact True.intro|exact vW|with_reducible refine And.intro ?_ ?_)
   exact Chk.mk ⟨rfl,fun j _=>by rw [cpG_step,Nat.zero_add,Int.toNat_natCast,cpG_at]; rfl⟩
 ·have he:=cpG_end (enc:=plC) (d:=default) (z:=[.int .i64 0,.nils,.nils]) (l:=l) (i:=i) (by omega)
  refine ⟨_,?_,h⟩
  repeat' ((conv=>whnf); first|with_reducible exact True.intro|exact vW|with_reducible refine And.intro ?_ ?_)
def okDe (d:Desk):Prop:=okPl d.now∧okPs d.past
/-! ### Comparisons: what is the same is found to be the same -/
def C156:List AV→(AV→Prop)→Prop:=con (X:=List ByteArray) (fun l=>[slS l,slS l]) (fun l=>l.length<9223372036854775808) fun _ K=>K (.bool true)
theorem F156:FF 19 C156:=by
 refine fitE [] (by simp) Tryz.f19 ⟨rfl,by decide +kernel,by decide +kernel⟩ (fun _ _ _ hk h=>hk _ h) ?_
 rintro l K h1 h
 refine ⟨Nat.le_of_ble_eq_true rfl,?_⟩
 repeat' (first|refine vz ?_|(conv=>whnf); first|with_reducible first|refine Sp.mk ?_ ?_|refine br_d (fun _=>?_) fun _=>?_|refine vM (fun _=>?_) fun _=>?_)
 refine Lp.mk ⟨Nat,fun i=>[(0,slS l),(1,slS l),(5,.int .i64 i)],fun i=>[],fun i=>i≤l.length,fun i=>l.length-i,⟨0,Nat.zero_le _,⟨⟨[],[],rfl,rfl,?_,?_⟩⟩⟩,?_⟩
 ·exact wq
 ·exact wq
 intro i i1
 dsimp only
 repeat' (first|refine vz ?_|(conv=>whnf); first|with_reducible first|refine Sp.mk ?_ ?_|refine br_d (fun _=>?_) fun _=>?_|refine vM (fun _=>?_) fun _=>?_)
 ·refine Dr.mk ⟨(.rd 0 (.rd 1 (.rd 2 (.rd 3 (.rd 4 (.rd 5 (.rd 6 (.rd 7 (.rd 8 .dn))))))))),by decide +kernel,?_⟩
  repeat' (first|refine vz ?_|(conv=>whnf); first|with_reducible first|refine Sp.mk ?_ ?_|refine br_d (fun _=>?_) fun _=>?_|refine vM (fun _=>?_) fun _=>?_)
  ·refine ⟨i+1,by omega,by omega,⟨⟨[],[],rfl,rfl,?_,?_⟩⟩⟩
   ·exact wq
   ·exact wq
  ·rename_i hne
   exact absurd rfl hne
 ·exact h
def lenI (x:Place):Prop:=x.bs.length≤1048576∧x.rules.length<9223372036854775808
def C130:List AV→(AV→Prop)→Prop:=con (X:=Place) (fun x=>[enPl x,enPl x]) lenI fun _ K=>K (.bool true)
theorem F130:FF 50 C130:=by
 refine fitE [(94,C16),(19,C156)] (by simp only [List.mem_cons,List.not_mem_nil,or_false]; rintro _ (rfl|rfl) <;> first|exact F16|exact F156) Tryz.f50 ⟨rfl,by decide +kernel,by decide +kernel⟩ (fun _ _ _ hk h=>hk _ h) ?_
 rintro ⟨p,bs,rs⟩ K ⟨h1,h2⟩ h
 refine ⟨Nat.le_of_ble_eq_true rfl,?_⟩
 dsimp only [enPl,plC] at h1 h2 h ⊢
 repeat' (first|refine vz ?_|(conv=>whnf); first|with_reducible first|refine Sp.mk ?_ ?_|refine br_d (fun _=>?_) fun _=>?_|refine vM (fun _=>?_) fun _=>?_)
 refine ⟨⟨p,bs⟩,?_,⟨h1⟩,?_⟩
 ·exact wq
 repeat' (first|refine vz ?_|(conv=>whnf); first|with_reducible first|refine Sp.mk ?_ ?_|refine br_d (fun _=>?_) fun _=>?_|refine vM (fun _=>?_) fun _=>?_)
 refine ⟨rs,?_,⟨h2⟩,?_⟩
 ·exact wq
 repeat' (first|refine vz ?_|(conv=>whnf); first|with_reducible first|refine Sp.mk ?_ ?_|refine br_d (fun _=>?_) fun _=>?_|refine vM (fun _=>?_) fun _=>?_)
 exact h
def lensI (l:List Place):Prop:=l.length<9223372036854775808∧∀ x∈l,lenI x
def C164:List AV→(AV→Prop)→Prop:=con (X:=List Place) (fun l=>[slP l,slP l]) lensI fun _ K=>K (.bool true)
theorem F164:FF 51 C164:=by
 refine fitE [(50,C130)] (by simp only [List.mem_cons,List.not_mem_nil,or_false]; rintro _ rfl <;> first|exact F130) Tryz.f51 ⟨rfl,by decide +kernel,by decide +kernel⟩ (fun _ _ _ hk h=>hk _ h) ?_
 rintro l K ⟨h1,h2⟩ h
 refine ⟨Nat.le_of_ble_eq_true rfl,?_⟩
 repeat' (first|refine vz ?_|(conv=>whnf); first|with_reducible first|refine Sp.mk ?_ ?_|refine br_d (fun _=>?_) fun _=>?_|refine vM (fun _=>?_) fun _=>?_)
 refine Lp.mk ⟨Nat,fun i=>[(0,slP l),(1,slP l),(5,.int .i64 i)],fun i=>[],fun i=>i≤l.length,fun i=>l.length-i,⟨0,Nat.zero_le _,⟨⟨[],[],rfl,rfl,?_,?_⟩⟩⟩,?_⟩
 ·exact wq
 ·exact wq
 intro i i1
 dsimp only
 repeat' (first|refine vz ?_|(conv=>whnf); first|with_reducible first|refine Sp.mk ?_ ?_|refine br_d (fun _=>?_) fun _=>?_|refine vM (fun _=>?_) fun _=>?_)
 ·rename_i hi
  have hi:i<l.length:=by omega
  refine Dr.mk ⟨(.rd 0 (.rd 1 (.rd 2 (.rd 3 (.rd 4 (.rd 5 (.rd 6 (.rd 7 (.ef 8 (.rd 9 .dn) .no))))))))),by decide +kernel,?_⟩
  repeat' (first|refine vz ?_|(conv=>whnf); first|with_reducible first|refine Sp.mk ?_ ?_|refine br_d (fun _=>?_) fun _=>?_|refine vM (fun _=>?_) fun _=>?_)
  refine ⟨l.getD i default,?_,⟨h2 _ (getD_mem' hi)⟩,?_⟩
  ·exact wq
  repeat' (first|refine vz ?_|(conv=>whnf); first|with_reducible first|refine Sp.mk ?_ ?_|refine br_d (fun _=>?_) fun _=>?_|refine vM (fun _=>?_) fun _=>?_)
  refine ⟨i+1,by omega,by omega,⟨⟨[],[],rfl,rfl,?_,?_⟩⟩⟩
  ·exact wq
  ·exact wq
 ·exact h
def lenD (d:Desk):Prop:=lenI d.now∧lensI d.past
def C141:List AV→(AV→Prop)→Prop:=con (X:=Desk) (fun d=>[enDe d,enDe d]) lenD fun _ K=>K (.bool true)
theorem F141:FF 12 C141:=by
 refine fitE [(50,C130),(51,C164)] (by simp only [List.mem_cons,List.not_mem_nil,or_false]; rintro _ (rfl|rfl) <;> first|exact F130|exact F164) Tryz.f12 ⟨rfl,by decide +kernel,by decide +kernel⟩ (fun _ _ _ hk h=>hk _ h) ?_
 rintro ⟨⟨p,bs,rs⟩,l⟩ K ⟨h1,h2⟩ h
 refine ⟨Nat.le_of_ble_eq_true rfl,?_⟩
 dsimp only [enDe,deC] at h1 h2 h ⊢
 repeat' (first|refine vz ?_|(conv=>whnf); first|with_reducible first|refine Sp.mk ?_ ?_|refine br_d (fun _=>?_) fun _=>?_|refine vM (fun _=>?_) fun _=>?_)
 refine ⟨⟨p,bs,rs⟩,?_,⟨h1⟩,?_⟩
 ·exact wq
 repeat' (first|refine vz ?_|(conv=>whnf); first|with_reducible first|refine Sp.mk ?_ ?_|refine br_d (fun _=>?_) fun _=>?_|refine vM (fun _=>?_) fun _=>?_)
 refine ⟨l,?_,⟨h2⟩,?_⟩
 ·exact wq
 repeat' (first|refine vz ?_|(conv=>whnf); first|with_reducible first|refine Sp.mk ?_ ?_|refine br_d (fun _=>?_) fun _=>?_|refine vM (fun _=>?_) fun _=>?_)
 exact h
end Go.Proofs.YtgdbhjmpkkbnnaaGreatDoor.Vc
end
section
/- Part TJ: laws on places, desks and new stores. -/
namespace Go.Proofs.YtgdbhjmpkkbnnaaGreatDoor.Vc
open Go.Proofs
set_option maxRecDepth 10000
set_option maxHeartbeats 4000000
/-! ### Stores -/
end Go.Proofs.YtgdbhjmpkkbnnaaGreatDoor.Vc
end
section
/- Part OQ: stores, deeds and texts that come in, opened. -/
namespace Go.Proofs.YtgdbhjmpkkbnnaaGreatDoor.Vc
open Go.Proofs Go.ChangeShapes Go.WideShapes Go.ChangeAt Go.RowKit
section
variable (P:Program)
end
section
variable {H:Type} {enc:TypeId × Value→H} {P:Program} {w:World} {spare:Nat→Bool} {held:Bool}
end
end Go.Proofs.YtgdbhjmpkkbnnaaGreatDoor.Vc
end
section
/- Part RP: what the rows of this seat ask of the program as a whole. -/
namespace Go.Proofs.YtgdbhjmpkkbnnaaGreatDoor.Vc
open Go.Proofs Go.ChangeShapes Go.WideShapes Go.ChangeAt Go.RowKit
open Go.Proofs.YtgdbhjmpkkbnnaaGreatDoor
set_option maxRecDepth 100000
theorem andT {a b:Bool} (ha:a=true) (hb:b=true):(a && b)=true:=by rw [ha,hb]; rfl
theorem pw2:laidOutB Tryz.checked.prog=true:=by kernel_rfl
theorem pw3:mapsRowed Tryz.checked.prog=true:=by kernel_rfl
theorem pw7:(Tryz.checked.prog.stops == [])=true:=by kernel_rfl
theorem pw9:(Tryz.checked.prog.stopKnobs == [])=true:=by kernel_rfl
theorem pw23:(Rows.fnExactDeskDoRow.plainKeys == Tryz.checked.prog.plainKeys)=true:=by kernel_rfl
theorem pw25:Tryz.checked.prog.stopsHeard=true:=by kernel_rfl
theorem pw26:Tryz.checked.prog.mayEnter=true:=by kernel_rfl
theorem pw27:(Rows.fnExactDeskDoRow.lifted == Tryz.checked.prog.liftsFinal)=true:=by kernel_rfl
theorem pw28:(Tryz.checked.prog.make == some Rows.fnExactDeskDoRow.make)=true:=by kernel_rfl
theorem pwL:Rows.fnExactDeskDoCard.stood.looks=Tryz.checked.prog.looks []:=by kernel_rfl
end Go.Proofs.YtgdbhjmpkkbnnaaGreatDoor.Vc
end
section
/- Part DB: the texts of deeds. -/
namespace Go.Proofs.YtgdbhjmpkkbnnaaGreatDoor.Vc
open Go.Proofs
set_option maxRecDepth 20000
structure Dd where
 kind:Int
 a:Int
 b:Int
 words:ByteArray
 deriving Inhabited,DecidableEq
def encD (d:Dd):List AV:=[.int .i64 d.kind,.int .i64 d.a,.int .i64 d.b,.str d.words]
abbrev ded (d:Dd):AV:=.agg (encD d)
def tx (l:List UInt8):ByteArray:=⟨l.toArray⟩
def plainW (s:ByteArray):Bool:=decide (¬ s=⟨#[]⟩) && !spc s
def deedT (d:Dd):ByteArray :=
 if d.a<0∨99<d.a∨d.b<0∨99<d.b then ⟨#[]⟩
 else if d.kind=0∧d.b=0∧d.words=⟨#[]⟩ then ⟨#[98,111,100,121,32]⟩ ++ num d.a
 else if d.kind=1∧d.a=0∧d.b=0∧plainW d.words=true then ⟨#[114,117,108,101,32]⟩ ++ d.words
 else if d.kind=2∧plainW d.words=true then ⟨#[97,109,101,110,100,32]⟩ ++ num d.a ++ ⟨#[32]⟩ ++ num d.b ++ ⟨#[32]⟩ ++ d.words
 else if d.kind=3∧d.words=⟨#[]⟩ then ⟨#[100,114,111,112,32]⟩ ++ num d.a ++ ⟨#[32]⟩ ++ num d.b
 else if d.kind=4∧d.a=0∧d.b=0∧d.words=⟨#[]⟩ then ⟨#[98,97,99,107]⟩
 else ⟨#[]⟩
def C108:List AV→(AV→Prop)→Prop:=con (X:=Dd) (fun d=>[ded d]) (fun _=>True) fun d K=>K (ded d)
theorem F108:FF 24 C108:=by
 refine fitE [] (by simp) Tryz.f24 ⟨rfl,by decide +kernel,by decide +kernel⟩ (fun _ _ _ hk h=>hk _ h) ?_
 rintro ⟨k,a,b,w⟩ K _ h
 refine ⟨Nat.le_of_ble_eq_true rfl,?_⟩
 dsimp only [ded,encD] at h ⊢
 repeat' (first|refine vz ?_|(conv=>whnf); first|with_reducible first|refine Sp.mk ?_ ?_|refine br_d (fun _=>?_) fun _=>?_|refine vM (fun _=>?_) fun _=>?_)
 exact h
def C107:List AV→(AV→Prop)→Prop:=con (X:=Dd × Int) (fun x=>[ded x.1,.int .i64 x.2]) (fun x=>x.1.words.size<9223372036854775808∧0≤x.2∧x.2≤9223372036854775807) fun x K=>K (.int .i64 (if x.2-x.1.words.size<0 then -1 else x.2-x.1.words.size))
theorem F107:FF 22 C107:=by
 refine fitE [] (by simp) Tryz.f22 ⟨rfl,by decide +kernel,by decide +kernel⟩ (fun _ _ _ hk h=>hk _ h) ?_
 rintro ⟨⟨k,a,b,w⟩,n⟩ K ⟨h1,h2,h3⟩ h
 refine ⟨Nat.le_of_ble_eq_true rfl,?_⟩
 dsimp only [ded,encD] at h1 h2 h3 h ⊢
 repeat' (first|refine vz ?_|(conv=>whnf); first|with_reducible first|refine Sp.mk ?_ ?_|refine br_d (fun _=>?_) fun _=>?_|refine vM (fun _=>?_) fun _=>?_)
 ·rw [if_pos (by omega)] at h
  exact h
 ·rw [if_neg (by omega)] at h
  exact h
end Go.Proofs.YtgdbhjmpkkbnnaaGreatDoor.Vc
end
