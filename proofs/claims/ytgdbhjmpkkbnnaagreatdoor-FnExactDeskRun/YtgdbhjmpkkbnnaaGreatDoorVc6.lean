/- Part XI: slices.Equal, slices.Delete, and what an amendment asks. -/
import Derived.Test.YtgdbhjmpkkbnnaaGreatDoorVc5
section
namespace Go.Proofs.YtgdbhjmpkkbnnaaGreatDoor.Vc
open Go.Proofs Go.RowKit Go.Lib Go.Sort
set_option maxRecDepth 10000
set_option maxHeartbeats 4000000
/-! ### slices.Equal -/
theorem eq_of_getD {α:Type} [Inhabited α] {d:α} {l m:List α} (hl:l.length=m.length) (h:∀ i,i<l.length→l.getD i d=m.getD i d):l=m:=by
 apply List.ext_getElem hl
 intro i h1 h2
 have:=h i h1
 rwa [List.getD_eq_getElem?_getD,List.getD_eq_getElem?_getD,List.getElem?_eq_getElem h1,List.getElem?_eq_getElem h2] at this
def C268:List AV→(AV→Prop)→Prop:=con (X:=List Int × List Int) (fun x=>[slI x.1,slI x.2]) (fun x=>x.1.length<9223372036854775808) fun x K=>K (.bool (decide (x.1=x.2)))
theorem F268:FF 135 C268:=by
 refine fitE [] (by simp) Tryz.f135 ⟨rfl,by decide +kernel,by decide +kernel⟩ (fun _ _ _ hk h=>hk _ h) ?_
 rintro ⟨l,m⟩ K h1 h
 refine ⟨Nat.le_of_ble_eq_true rfl,?_⟩
 dsimp only at h h1 ⊢
 by_cases hlen:l.length=m.length
 ·repeat' (first|refine vz ?_|(conv=>whnf); first|with_reducible first|refine Sp.mk ?_ ?_|refine br_d (fun _=>?_) fun _=>?_|refine vM (fun _=>?_) fun _=>?_)
  refine Lp.mk ⟨Nat,fun i=>[(0,slI l),(1,slI m),(12,.int .i64 l.length),(13,.int .i64 i)],fun _=>[],fun i=>i≤l.length∧∀ j,j<i→l.getD j 0=m.getD j 0,fun i=>l.length-i,⟨0,⟨Nat.zero_le _,fun j hj=>absurd hj (Nat.not_lt_zero _)⟩,⟨⟨[],[],rfl,rfl,?_,?_⟩⟩⟩,?_⟩
  ·exact wq
  ·exact wq
  rintro i ⟨i1,i2⟩
  dsimp only
  repeat' (first|refine vz ?_|(conv=>whnf); first|with_reducible first|refine Sp.mk ?_ ?_|refine br_d (fun _=>?_) fun _=>?_|refine vM (fun _=>?_) fun _=>?_)
  ·rename_i hi
   refine Dr.mk ⟨(.rd 0 (.rd 1 (.rd 2 (.rd 3 (.rd 4 (.rd 5 (.rd 6 (.rd 7 (.rd 8 .dn))))))))),by decide +kernel,?_⟩
   repeat' (first|refine vz ?_|(conv=>whnf); first|with_reducible first|refine Sp.mk ?_ ?_|refine br_d (fun _=>?_) fun _=>?_|refine vM (fun _=>?_) fun _=>?_)
   ·rename_i he
    replace he:l.getD i 0=m.getD i 0:=he
    refine ⟨i+1,⟨by omega,fun j hj=>?_⟩,by omega,⟨⟨[],[],rfl,rfl,?_,?_⟩⟩⟩
    ·by_cases e:j=i
     ·subst e; exact he
     ·exact i2 j (by omega)
    ·exact wq
    ·exact wq
   ·rename_i he
    replace he:¬ l.getD i 0=m.getD i 0:=he
    exact yesF h fun q=>he (by rw [q])
  ·rename_i hi
   exact yesT h (eq_of_getD (d:=0) hlen fun j hj=>i2 j (by omega))
 ·repeat' (first|refine vz ?_|(conv=>whnf); first|with_reducible first|refine Sp.mk ?_ ?_|refine br_d (fun _=>?_) fun _=>?_|refine vM (fun _=>?_) fun _=>?_)
  exact yesF h fun q=>hlen (by rw [q])
def C269:List AV→(AV→Prop)→Prop:=con (X:=List ByteArray × List ByteArray) (fun x=>[slS x.1,slS x.2]) (fun x=>x.1.length<9223372036854775808) fun x K=>K (.bool (decide (x.1=x.2)))
theorem F269:FF 136 C269:=by
 refine fitE [] (by simp) Tryz.f136 ⟨rfl,by decide +kernel,by decide +kernel⟩ (fun _ _ _ hk h=>hk _ h) ?_
 rintro ⟨l,m⟩ K h1 h
 refine ⟨Nat.le_of_ble_eq_true rfl,?_⟩
 dsimp only at h h1 ⊢
 by_cases hlen:l.length=m.length
 ·repeat' (first|refine vz ?_|(conv=>whnf); first|with_reducible first|refine Sp.mk ?_ ?_|refine br_d (fun _=>?_) fun _=>?_|refine vM (fun _=>?_) fun _=>?_)
  refine Lp.mk ⟨Nat,fun i=>[(0,slS l),(1,slS m),(12,.int .i64 l.length),(13,.int .i64 i)],fun _=>[],fun i=>i≤l.length∧∀ j,j<i→l.getD j ⟨#[]⟩=m.getD j ⟨#[]⟩,fun i=>l.length-i,⟨0,⟨Nat.zero_le _,fun j hj=>absurd hj (Nat.not_lt_zero _)⟩,⟨⟨[],[],rfl,rfl,?_,?_⟩⟩⟩,?_⟩
  ·exact wq
  ·exact wq
  rintro i ⟨i1,i2⟩
  dsimp only
  repeat' (first|refine vz ?_|(conv=>whnf); first|with_reducible first|refine Sp.mk ?_ ?_|refine br_d (fun _=>?_) fun _=>?_|refine vM (fun _=>?_) fun _=>?_)
  ·rename_i hi
   refine Dr.mk ⟨(.rd 0 (.rd 1 (.rd 2 (.rd 3 (.rd 4 (.rd 5 (.rd 6 (.rd 7 (.rd 8 .dn))))))))),by decide +kernel,?_⟩
   repeat' (first|refine vz ?_|(conv=>whnf); first|with_reducible first|refine Sp.mk ?_ ?_|refine br_d (fun _=>?_) fun _=>?_|refine vM (fun _=>?_) fun _=>?_)
   ·rename_i he
    replace he:l.getD i ⟨#[]⟩=m.getD i ⟨#[]⟩:=he
    refine ⟨i+1,⟨by omega,fun j hj=>?_⟩,by omega,⟨⟨[],[],rfl,rfl,?_,?_⟩⟩⟩
    ·by_cases e:j=i
     ·subst e; exact he
     ·exact i2 j (by omega)
    ·exact wq
    ·exact wq
   ·rename_i he
    replace he:¬ l.getD i ⟨#[]⟩=m.getD i ⟨#[]⟩:=he
    exact yesF h fun q=>he (by rw [q])
  ·rename_i hi
   exact yesT h (eq_of_getD (d:=⟨#[]⟩) hlen fun j hj=>i2 j (by omega))
 ·repeat' (first|refine vz ?_|(conv=>whnf); first|with_reducible first|refine Sp.mk ?_ ?_|refine br_d (fun _=>?_) fun _=>?_|refine vM (fun _=>?_) fun _=>?_)
  exact yesF h fun q=>hlen (by rw [q])
theorem place_eq {p q:Int} {a b:List Int} {r s:List ByteArray}:(⟨p,a,r⟩:Place)=⟨q,b,s⟩ ↔ p=q∧a=b∧r=s:=by
 constructor
 ·intro h; injection h with h1 h2 h3; exact ⟨h1,h2,h3⟩
 ·rintro ⟨rfl,rfl,rfl⟩; rfl
structure Pp where
 x:Place
 y:Place
def C263:List AV→(AV→Prop)→Prop:=con (X:=Pp) (fun x=>[enPl x.x,enPl x.y]) (fun x=>x.x.bs.length<9223372036854775808∧x.x.rules.length<9223372036854775808) fun x K=>∀ b:Bool,(b=true ↔ x.x=x.y)→K (.bool b)
theorem F263:FF 104 C263:=by
 refine fitX [(135,C268),(136,C269)] (by simp only [List.mem_cons,List.not_mem_nil,or_false]; rintro _ (rfl|rfl) <;> first|exact F268|exact F269) [] (by simp) Tryz.f104 ⟨rfl,by decide +kernel,by decide +kernel⟩ (fun _ _ _ hk h b q=>hk _ (h b q)) ?_
 rintro ⟨⟨p,bs,rs⟩,⟨q,cs,ss⟩⟩ K ⟨h1,h2⟩ h
 refine ⟨Nat.le_of_ble_eq_true rfl,?_⟩
 dsimp only [enPl,plC] at h h1 h2 ⊢
 repeat' (first|refine vz ?_|(conv=>whnf); first|with_reducible first|refine Sp.mk ?_ ?_|refine br_d (fun _=>?_) fun _=>?_|refine vM (fun _=>?_) fun _=>?_)
 ·refine ⟨(bs,cs),?_,⟨h1⟩,?_⟩
  ·exact wq
  dsimp only
  by_cases hb:bs=cs
  ·rw [decide_eq_true hb]
   repeat' (first|refine vz ?_|(conv=>whnf); first|with_reducible first|refine Sp.mk ?_ ?_|refine br_d (fun _=>?_) fun _=>?_|refine vM (fun _=>?_) fun _=>?_)
   refine ⟨(rs,ss),?_,⟨h2⟩,?_⟩
   ·exact wq
   repeat' (first|refine vz ?_|(conv=>whnf); first|with_reducible first|refine Sp.mk ?_ ?_|refine br_d (fun _=>?_) fun _=>?_|refine vM (fun _=>?_) fun _=>?_)
   exact h _ ⟨fun g=>place_eq.2 ⟨by assumption,hb,of_decide_eq_true g⟩,fun g=>decide_eq_true (place_eq.1 g).2.2⟩
  ·rw [decide_eq_false hb]
   repeat' (first|refine vz ?_|(conv=>whnf); first|with_reducible first|refine Sp.mk ?_ ?_|refine br_d (fun _=>?_) fun _=>?_|refine vM (fun _=>?_) fun _=>?_)
   exact h _ ⟨fun g=>(by cases g),fun g=>absurd (place_eq.1 g).2.1 hb⟩
 ·exact h _ ⟨fun g=>(by cases g),fun g=>absurd (place_eq.1 g).1 (by assumption)⟩
/-! ### slices.Delete -/
theorem strs_map {l:List ByteArray}:Lib.strsOf (fun i=>l.getD i ⟨#[]⟩) l.length=l.map (fun (x:ByteArray)=>x.data.toList):=by
 unfold Lib.strsOf
 apply List.ext_getElem (by simp)
 intro i h1 h2
 have hi:i<l.length:=by simpa using h2
 simp only [List.getElem_map,List.getElem_range]
 rw [List.getD_eq_getElem?_getD,List.getElem?_eq_getElem hi]
 rfl
structure Dl where
 l:List ByteArray
 n:Nat
def C267:GC:=conG (X:=Dl) (fun x=>[.row 0 1 0 x.l.length,.int .i64 x.n,.int .i64 ((x.n:Int)+1)]) (fun x=>[.row 1 x.l.length fun i=>encS (x.l.getD i ⟨#[]⟩)]) (fun x=>x.n<x.l.length) fun x K=>K (.row 0 1 0 (x.l.length-1)) [.row 1 (x.l.length-1) fun i=>encS ((x.l.take x.n ++ x.l.drop (x.n+1)).getD i ⟨#[]⟩)]
theorem F267:GG 134 C267:=fun Gl hG=>by
 refine ⟨FnOk.has ⟨rfl,by decide +kernel,by decide +kernel⟩ (fn:=Tryz.f134),fun us og K K' hk ⟨x,h1,h2,h3,h4⟩=>⟨x,h1,h2,h3,hk _ _ h4⟩,?_⟩
 rintro us og K ⟨⟨l,n⟩,rfl,rfl,⟨hn⟩,hK⟩ ρ R w xs hh ha
 dsimp only at hn hK
 obtain ⟨hsz,hx⟩:=ha
 replace hsz:xs.size=3:=hsz
 have a0:=(hx 0 (by show 0<3; omega)).vr rfl
 have a1:=(hx 1 (by show 1<3; omega)).vr rfl
 have a2:=(hx 2 (by show 2<3; omega)).vr rfl
 have ex:xs=#[xs.getD 0 Go.undef,xs.getD 1 Go.undef,xs.getD 2 Go.undef]:=by
  apply Array.ext
  ·simpa using hsz
  ·intro i h1 h2
   have:i=0∨i=1∨i=2:=by omega
   rcases this with rfl|rfl|rfl <;> simp [h1]
 rw [ex]
 generalize xs.getD 0 Go.undef=x0 at a0
 generalize xs.getD 1 Go.undef=x1 at a1
 generalize xs.getD 2 Go.undef=x2 at a2
 replace a0:VR ρ R w (.row 0 1 0 l.length) x0:=a0
 replace a1:VR ρ R w (.int .i64 n) x1:=a1
 replace a2:VR ρ R w (.int .i64 ((n:Int)+1)) x2:=a2
 obtain rfl:x1=.int .i64 n:=by cases a1 with|data a1=>cases a1; rfl
 obtain rfl:x2=.int .i64 ((n:Int)+1):=by cases a2 with|data a2=>cases a2; rfl
 obtain ⟨b,cs,ty,g1,g2,g3,g4,g5⟩:∃ b xs ty,ρ ((0:Nat):Ix)=some b∧w.heap[b]?=some (.cells xs ty (0,0))∧l.length*1≤xs.size∧(∀ i,i<l.length→(encS (l.getD i ⟨#[]⟩)).length=1)∧∀ i,i<l.length→∀ j,j<1→DR R w ((encS (l.getD i ⟨#[]⟩)).getD j .undef) (xs.getD (i*1+j) Go.undef):=by
  rcases hh.obj 0 _ rfl with ⟨q,_⟩|q
  ·have q':l.length=0:=q
   omega
  ·exact q
 obtain ⟨cap,rfl,hcap⟩:∃ cap,x0=.slice (some ⟨b,0,none⟩) l.length cap∧l.length≤cap∧cap≤cs.size∧cap≤9223372036854775807:=by
  generalize hl:l.length=len at a0
  cases a0 with
  |data a0=>cases a0
  |row h1 h2 h3 h4 h5 =>
   rw [g1] at h1
   cases h1
   rw [g2] at h2
   cases h2
   exact ⟨_,by rw [Nat.zero_mul],h3,by omega,h5⟩
  |row0=>rw [hl] at hn; exact absurd hn (Nat.not_lt_zero _)
 have hc:∀ i,i<l.length→w.cell? ⟨b,0+i,none⟩=some (.string (l.getD i ⟨#[]⟩)):=fun i hi=>by
  have h6:=g5 i hi 0 (by decide)
  rw [Nat.mul_one,Nat.add_zero] at h6
  have h7:DR R w (.str (l.getD i ⟨#[]⟩)) (cs.getD i Go.undef):=h6
  have hics:i<cs.size:=by omega
  rw [Array.getD_eq_getD_getElem?,Array.getElem?_eq_getElem hics] at h7
  unfold World.cell?
  rw [Nat.zero_add]
  show (match w.heap[b]? with|some (.cells c _ _)=>if (none:Option Nat).isSome then none else c[i]?|_=>none)=_
  rw [g2]
  show cs[i]?=_
  rw [Array.getElem?_eq_getElem hics]
  simp only [Option.getD_some] at h7
  generalize cs[i]=v at h7 ⊢
  cases h7
  rfl
 have hf:∀ j,j<l.length→w.frozen? ⟨b,0+j,none⟩=false:=fun j _=>by
  unfold World.frozen?
  rw [show w.heap[(⟨b,0+j,none⟩:Addr).block]?=some (.cells cs ty (0,0)) from g2]
  simp
 have hcm:cap≤9223372036854775807:=hcap.2.2
 refine (Tryz.slices_Delete_string_cells b 0 l.length cap n (n+1) (fun i=>l.getD i ⟨#[]⟩) w hcap.1 hcm (Nat.le_succ n) hn hc hf).mono fun e w' he=>?_
 obtain ⟨rfl,q,rfl⟩:=he
 rw [strs_map,show n+1-n=1 by omega,← List.map_take,← List.map_drop,← List.map_append]
 obtain ⟨m,hm⟩:∃ m,l.take n ++ l.drop (n+1)=m:=⟨_,rfl⟩
 have hml:m.length=l.length-1:=by rw [← hm,List.length_append,List.length_take,List.length_drop]; omega
 rw [hm] at hK ⊢
 obtain ⟨vs,hvs⟩:∃ vs,(m.map (fun (x:ByteArray)=>x.data.toList) ++ List.replicate 1 []).map encStr=vs:=⟨_,rfl⟩
 have hvl:vs.length=l.length:=by rw [← hvs,List.length_map,List.length_append,List.length_map,List.length_replicate]; omega
 have hvg:∀ j,j<l.length-1→vs.getD j Go.undef=.string (m.getD j ⟨#[]⟩):=fun j hj=>by
  rw [← hvs,List.getD_eq_getElem?_getD,List.getElem?_map,List.getElem?_append_left (by rw [List.length_map]; omega),List.getElem?_map,List.getD_eq_getElem?_getD,List.getElem?_eq_getElem (by omega)]
  rfl
 obtain ⟨ys,f1,f2,f3,f4,f5,f6,f7,f8⟩:=setCells_facts vs 0 (w:=w.drewN q) (b:=b) (xs:=cs) (ty:=ty) g2 (by omega)
 rw [hvs]
 have hsame:∀ c,c≠b→((w.drewN q).setCells b 0 vs).heap[c]?=w.heap[c]?:=f4
 have hobj:OB ρ [.row 1 (l.length-1) fun i=>encS (m.getD i ⟨#[]⟩)] R ((w.drewN q).setCells b 0 vs) 0 (.row 1 (l.length-1) fun i=>encS (m.getD i ⟨#[]⟩)):=.inr ⟨b,ys,ty,g1,f1,by omega,fun _ _=>rfl,fun i hi j hj=>by
  obtain rfl:j=0:=by omega
  rw [Nat.mul_one,Nat.add_zero,f3 i,if_pos (by omega),Nat.sub_zero,hvg i hi]
  exact .str _⟩
 have nid:∀ id q' b',ρ (.inn id q')=some b'→False:=fun id q' b' h=>by
  obtain ⟨_,_,_,_,e⟩:=hh.din id q' b' h
  match id,e with
  |0,e=>cases e
  |k+1,e=>cases e
 refine ⟨_,_,_,ρ,R,rfl,hK,⟨fun id b' h=>by have:=hh.dom id b' h; exact this,fun id q' b' h=>(nid id q' b' h).elim,fun id b' h=>by rw [f5]; exact hh.lt id b' h,hh.inj,fun b' h=>⟨by rw [f5]; exact (hh.ro b' h).1,(hh.ro b' h).2⟩,fun id ob h=>?_,fun p hp=>⟨(hh.gl p hp).1,?_⟩⟩,⟨rfl,fun _=>?_⟩,Nat.le_refl _,?_⟩
 ·match id,h with
  |0,h=>cases h; exact hobj
  |k+1,h=>cases h
 ·rw [hsame p.1 fun e=>(hh.ro _ (hh.gl p hp).1).2 ((0:Nat):Ix) (by rw [g1,e])]
  exact (hh.gl p hp).2
 ·have h4:(0+cap)*1≤ys.size:=by omega
  have:=VR.row (ρ:=ρ) (R:=R) (w:=(w.drewN q).setCells b 0 vs) (id:=0) (sz:=1) (off:=0) (len:=l.length-1) (b:=b) (cs:=ys) (ty:=ty) (cap:=cap) g1 f1 (by omega) h4 hcm
  rwa [Nat.zero_mul] at this
 ·refine ⟨fun id hid=>?_,fun _ h=>h,fun _ h=>.inl h,fun id _ h=>.inr ⟨id,h⟩,Nat.le_of_eq f5.symm,fun c _ hne=>hsame c fun e=>hne ((0:Nat):Ix) (e ▸ g1),fun c xs' ty' h=>?_,f6,f7,f8⟩
  ·match id,hid with
   |0,_=>exact ⟨⟨_,_,rfl⟩,rfl⟩
  ·by_cases e:c=b
   ·subst e
    rw [g2] at h
    cases h
    exact ⟨ys,f1,f2⟩
   ·exact ⟨xs',by rw [hsame c e]; exact h,rfl⟩
end Go.Proofs.YtgdbhjmpkkbnnaaGreatDoor.Vc
end
section
/- Part XJ: what a deed makes of a place, by the implementation. -/
namespace Go.Proofs.YtgdbhjmpkkbnnaaGreatDoor.Vc
open Go.Proofs
set_option maxRecDepth 10000
set_option maxHeartbeats 4000000
def C266:List AV→(AV→Prop)→Prop:=con (X:=Pc) (fun x=>[enPl x.x,.int .i64 x.r,.int .i64 x.c]) (fun x=>placeI x.x∧placeOk x.x∧i64r x.r∧i64r x.c) fun x K=>K (.bool (consR x.x x.r x.c))
theorem F266:FF 133 C266:=by
 refine fitE [(139,C54),(121,C176),(163,C39)] (by simp only [List.mem_cons,List.not_mem_nil,or_false]; rintro _ (rfl|rfl|rfl) <;> first|exact F54|exact F176|exact F39) Tryz.f133 ⟨rfl,by decide +kernel,by decide +kernel⟩ (fun _ _ _ hk h=>hk _ h) ?_
 rintro ⟨⟨p,bs,rs⟩,r,c⟩ K ⟨hI,hO,hr,hc⟩ h
 refine ⟨Nat.le_of_ble_eq_true rfl,?_⟩
 have hI1:=hI.1
 have hI2:=hI.2.1
 have hI3:=hI.2.2
 have hp:=hI.1.1.1
 unfold consR at h
 dsimp only [enPl,plC] at h hr hc hI2 hI3 hp ⊢
 by_cases hin:0≤r∧r<rs.length
 ·rw [if_pos hin] at h
  have hr2:r.toNat<rs.length:=by omega
  obtain ⟨t,e'⟩:=bad_term (hO.2.2 _ (getD_mem' (l:=rs) (i:=r.toNat) (d:=⟨#[]⟩) hr2))
  rw [e'] at h
  dsimp only at h
  obtain ⟨ht,hOt⟩:=rdT_termI hI1 e'
  repeat' (first|refine vz ?_|(conv=>whnf); first|with_reducible first|refine Sp.mk ?_ ?_|refine br_d (fun _=>?_) fun _=>?_|refine vM (fun _=>?_) fun _=>?_)
  refine ⟨(p,c),?_,⟨hp,hc⟩,?_⟩
  ·exact wq
  by_cases hcr:crowd p c
  ·rw [decide_eq_true hcr,Bool.true_and] at h
   dsimp only
   rw [decide_eq_true hcr]
   repeat' (first|refine vz ?_|(conv=>whnf); first|with_reducible first|refine Sp.mk ?_ ?_|refine br_d (fun _=>?_) fun _=>?_|refine vM (fun _=>?_) fun _=>?_)
   refine Dr.mk ⟨(.rd 0 (.rd 1 (.rd 2 (.rd 3 (.rd 4 (.rd 5 (.rd 6 (.ef 7 (.rd 8 (.rd 9 (.rd 10 (.rd 11 (.rd 12 .dn))))) .no)))))))),by decide +kernel,?_⟩
   repeat' (first|refine vz ?_|(conv=>whnf); first|with_reducible first|refine Sp.mk ?_ ?_|refine br_d (fun _=>?_) fun _=>?_|refine vM (fun _=>?_) fun _=>?_)
   refine ⟨⟨⟨p,bs⟩,rs.getD r.toNat ⟨#[]⟩⟩,?_,⟨hI1,getD_len hI3 hr2⟩,?_⟩
   ·exact wq
   refine And.intro (fun e=>?_) (fun u e=>?_)
   ·rw [show rdT 49 (Place.h ⟨p,bs,rs⟩) (rs.getD r.toNat ⟨#[]⟩)=none from e] at e'
    cases e'
   ·rw [show rdT 49 (Place.h ⟨p,bs,rs⟩) (rs.getD r.toNat ⟨#[]⟩)=some u from e] at e'
    cases e'
    repeat' (first|refine vz ?_|(conv=>whnf); first|with_reducible first|refine Sp.mk ?_ ?_|refine br_d (fun _=>?_) fun _=>?_|refine vM (fun _=>?_) fun _=>?_)
    refine ⟨⟨p,bs,t,c⟩,?_,⟨sayOk_of' hOt hcr,hOt.2.1⟩,?_⟩
    ·exact wq
    repeat' (first|refine vz ?_|(conv=>whnf); first|with_reducible first|refine Sp.mk ?_ ?_|refine br_d (fun _=>?_) fun _=>?_|refine vM (fun _=>?_) fun _=>?_)
    exact h
  ·rw [decide_eq_false hcr,Bool.false_and] at h
   dsimp only
   rw [decide_eq_false hcr]
   repeat' (first|refine vz ?_|(conv=>whnf); first|with_reducible first|refine Sp.mk ?_ ?_|refine br_d (fun _=>?_) fun _=>?_|refine vM (fun _=>?_) fun _=>?_)
   exact h
 ·rw [if_neg hin] at h
  repeat' (first|refine vz ?_|(conv=>whnf); first|with_reducible first|refine Sp.mk ?_ ?_|refine br_d (fun _=>?_) fun _=>?_|refine vM (fun _=>?_) fun _=>?_)
  all_goals exact h
def npPost (x:Pd) (K:AV→Prop):Prop:=∀ (y:Place) (ok:Bool),(ok=true→y=madeP x.x x.a)→(ok=false→madeP x.x x.a=default)→K (.tup [enPl y,.bool ok])
def C262:List AV→(AV→Prop)→Prop:=con (X:=Pd) (fun x=>[enPl x.x,ded x.a]) (fun x=>placeI x.x∧placeOk x.x∧dedI x.a) npPost
theorem F262:FF 103 C262:=by
 refine fitXE [(133,C266)] (by simp only [List.mem_cons,List.not_mem_nil,or_false]; rintro _ rfl; exact F266) [(99,C157g),(134,C267)] (by simp only [List.mem_cons,List.not_mem_nil,or_false]; rintro _ (rfl|rfl) <;> first|exact F157g|exact F267) Tryz.f103 ⟨rfl,by decide +kernel,by decide +kernel⟩ (fun _ _ _ hk h y ok h1 h2=>hk _ (h y ok h1 h2)) ?_
 rintro ⟨⟨p,bs,rs⟩,⟨k,a,b,w⟩⟩ K ⟨hI,hO,h1,h2,h3,h4⟩ h
 refine ⟨Nat.le_of_ble_eq_true rfl,?_⟩
 have hs1:rs.length≤4:=hO.2.1.2
 have hs2:bs.length≤4:=hO.1.2.1
 unfold npPost at h
 dsimp only [ded,encD,enPl,plC] at h h1 h2 h3 h4 ⊢
 repeat' (first|refine vz ?_|(conv=>whnf); first|with_reducible first|refine Sp.mk ?_ ?_|refine br_d (fun _=>?_) fun _=>?_|refine vM (fun _=>?_) fun _=>?_)
 refine ⟨_,_,[],[],rfl,?_,?_,⟨p,bs,rs⟩,rfl,rfl,⟨by dsimp only; omega,by dsimp only; omega⟩,?_⟩
 ·exact wq
 ·exact wq
 dsimp only [plG,plO]
 have y1:=ext_sym (ext_push (enc:=encI) (d:=0) (l:=bs) (x:=a) (g:=fun i=>(fun i=>[[AV.int .i64 a]].getD i [.int .i64 0]) (0+i)) rfl)
 have y2:=ext_sym (ext_push (enc:=encS) (d:=⟨#[]⟩) (l:=rs) (x:=w) (g:=fun i=>(fun i=>[[AV.str w]].getD i [.str ⟨#[]⟩]) (0+i)) rfl)
 repeat' (first|refine vz ?_|(conv=>whnf); first|with_reducible first|refine Sp.mk ?_ ?_|refine br_d (fun _=>?_) fun _=>?_|refine vM (fun _=>?_) fun _=>?_)
 ·rename_i q1
  refine Dr.mk ⟨(.rd 0 (.rd 1 (.rd 2 (.rd 3 (.rd 4 (.rd 5 (.rd 6 (.rd 7 (.rd 8 (.ef 9 (.rd 10 .dn) .no)))))))))),by decide +kernel,?_⟩
  repeat' (first|refine vz ?_|(conv=>whnf); first|with_reducible first|refine Sp.mk ?_ ?_|refine br_d (fun _=>?_) fun _=>?_|refine vM (fun _=>?_) fun _=>?_)
  ·rename_i q2
   by_cases hw:w=⟨#[]⟩
   ·rw [decide_eq_true hw]
    refine ⟨_,?_,h ⟨p,bs++[a],rs⟩ true (fun q=>(made_0 (x:=⟨p,bs,rs⟩) q1 q2 hw).symm) (fun q=>(by cases q))⟩
    repeat' ((conv=>whnf); first|with_reducible exact True.intro|exact vW|with_reducible refine And.intro ?_ ?_)
    all_goals first|exact Chk.mk ⟨rfl,fun i _=>by dsimp only; rw [Nat.zero_add]⟩|exact Chk.mk y1
   ·rw [decide_eq_false hw]
    refine ⟨_,?_,h ⟨p,bs++[a],rs⟩ false (fun q=>(by cases q)) (fun q=>(made_0n q1 fun g=>hw g.2))⟩
    repeat' ((conv=>whnf); first|with_reducible exact True.intro|exact vW|with_reducible refine And.intro ?_ ?_)
    all_goals first|exact Chk.mk ⟨rfl,fun i _=>by dsimp only; rw [Nat.zero_add]⟩|exact Chk.mk y1
  ·rename_i q2
   refine ⟨_,?_,h ⟨p,bs++[a],rs⟩ false (fun q=>(by cases q)) (fun q=>(made_0n q1 fun g=>q2 g.1))⟩
   repeat' ((conv=>whnf); first|with_reducible exact True.intro|exact vW|with_reducible refine And.intro ?_ ?_)
   all_goals first|exact Chk.mk ⟨rfl,fun i _=>by dsimp only; rw [Nat.zero_add]⟩|exact Chk.mk y1
 ·rename_i q0 q1
  refine Dr.mk ⟨(.rd 0 (.rd 1 (.rd 2 (.rd 3 (.rd 4 (.rd 5 (.rd 6 (.rd 7 (.rd 8 (.ef 9 (.rd 10 .dn) .no)))))))))),by decide +kernel,?_⟩
  repeat' (first|refine vz ?_|(conv=>whnf); first|with_reducible first|refine Sp.mk ?_ ?_|refine br_d (fun _=>?_) fun _=>?_|refine vM (fun _=>?_) fun _=>?_)
  ·rename_i q2
   by_cases hb:b=0
   ·rw [decide_eq_true hb]
    refine ⟨_,?_,h ⟨p,bs,rs++[w]⟩ true (fun q=>(made_1 (x:=⟨p,bs,rs⟩) q1 q2 hb).symm) (fun q=>(by cases q))⟩
    repeat' ((conv=>whnf); first|with_reducible exact True.intro|exact vW|with_reducible refine And.intro ?_ ?_)
    all_goals first|exact Chk.mk ⟨rfl,fun i _=>by dsimp only; rw [Nat.zero_add]⟩|exact Chk.mk y2
   ·rw [decide_eq_false hb]
    refine ⟨_,?_,h ⟨p,bs,rs++[w]⟩ false (fun q=>(by cases q)) (fun q=>(made_1n q1 fun g=>hb g.2))⟩
    repeat' ((conv=>whnf); first|with_reducible exact True.intro|exact vW|with_reducible refine And.intro ?_ ?_)
    all_goals first|exact Chk.mk ⟨rfl,fun i _=>by dsimp only; rw [Nat.zero_add]⟩|exact Chk.mk y2
  ·rename_i q2
   refine ⟨_,?_,h ⟨p,bs,rs++[w]⟩ false (fun q=>(by cases q)) (fun q=>(made_1n q1 fun g=>q2 g.1))⟩
   repeat' ((conv=>whnf); first|with_reducible exact True.intro|exact vW|with_reducible refine And.intro ?_ ?_)
   all_goals first|exact Chk.mk ⟨rfl,fun i _=>by dsimp only; rw [Nat.zero_add]⟩|exact Chk.mk y2
 ·rename_i q0 q1 q2
  refine ⟨⟨⟨p,bs,rs⟩,a,b⟩,?_,⟨hI,hO,h2,h3⟩,?_⟩
  ·repeat' ((conv=>whnf); first|with_reducible exact True.intro|exact vW|with_reducible refine And.intro ?_ ?_)
   all_goals exact Chk.mk ⟨rfl,fun i _=>by dsimp only; rw [Nat.zero_add]⟩
  dsimp only
  cases hc:consR ⟨p,bs,rs⟩ a b
  ·repeat' (first|refine vz ?_|(conv=>whnf); first|with_reducible first|refine Sp.mk ?_ ?_|refine br_d (fun _=>?_) fun _=>?_|refine vM (fun _=>?_) fun _=>?_)
   refine ⟨_,?_,h ⟨p,bs,rs⟩ false (fun q=>(by cases q)) (fun q=>(made_2n q2 hc))⟩
   repeat' ((conv=>whnf); first|with_reducible exact True.intro|exact vW|with_reducible refine And.intro ?_ ?_)
   all_goals first|exact Chk.mk ⟨rfl,fun i _=>by dsimp only; rw [Nat.zero_add]⟩|exact Chk.mk y2
  ·have hr:=consR_in hc
   dsimp only at hr
   have y3:=ext_set (x:=w) hr.2
   repeat' (first|refine vz ?_|(conv=>whnf); first|with_reducible first|refine Sp.mk ?_ ?_|refine br_d (fun _=>?_) fun _=>?_|refine vM (fun _=>?_) fun _=>?_)
   refine ⟨_,?_,h ⟨p,bs,rs.set a.toNat w⟩ true (fun q=>(made_2 (x:=⟨p,bs,rs⟩) q2 hc).symm) (fun q=>(by cases q))⟩
   repeat' ((conv=>whnf); first|with_reducible exact True.intro|exact vW|with_reducible refine And.intro ?_ ?_)
   all_goals first|exact Chk.mk ⟨rfl,fun i _=>by dsimp only; rw [Nat.zero_add]⟩|exact Chk.mk y3
 ·rename_i q0 q1 q2 q3
  refine ⟨⟨⟨p,bs,rs⟩,a,b⟩,?_,⟨hI,hO,h2,h3⟩,?_⟩
  ·repeat' ((conv=>whnf); first|with_reducible exact True.intro|exact vW|with_reducible refine And.intro ?_ ?_)
   all_goals exact Chk.mk ⟨rfl,fun i _=>by dsimp only; rw [Nat.zero_add]⟩
  dsimp only
  cases hc:consR ⟨p,bs,rs⟩ a b
  ·repeat' (first|refine vz ?_|(conv=>whnf); first|with_reducible first|refine Sp.mk ?_ ?_|refine br_d (fun _=>?_) fun _=>?_|refine vM (fun _=>?_) fun _=>?_)
   refine ⟨_,?_,h ⟨p,bs,rs⟩ false (fun q=>(by cases q)) (fun q=>(made_3n q3 fun g=>by rw [hc] at g; cases g.2))⟩
   repeat' ((conv=>whnf); first|with_reducible exact True.intro|exact vW|with_reducible refine And.intro ?_ ?_)
   all_goals first|exact Chk.mk ⟨rfl,fun i _=>by dsimp only; rw [Nat.zero_add]⟩|exact Chk.mk y2
  ·have hr:=consR_in hc
   dsimp only at hr
   repeat' (first|refine vz ?_|(conv=>whnf); first|with_reducible first|refine Sp.mk ?_ ?_|refine br_d (fun _=>?_) fun _=>?_|refine vM (fun _=>?_) fun _=>?_)
   refine ⟨_,_,[4],[],rfl,?_,?_,⟨rs,a.toNat⟩,rfl,rfl,⟨hr.2⟩,?_⟩
   ·repeat' ((conv=>whnf); first|with_reducible exact True.intro|exact vW|with_reducible refine And.intro ?_ ?_)
    all_goals exact Chk.mk (by dsimp only; omega)
   ·exact wq
   dsimp only
   have y4:rs.length-1=(rs.take a.toNat ++ rs.drop (a.toNat+1)).length∧∀ i,i<rs.length-1→(fun i=>encS ((rs.take a.toNat ++ rs.drop (a.toNat+1)).getD i ⟨#[]⟩)) (0+i)=encS ((rs.take a.toNat ++ rs.drop (a.toNat+1)).getD i ⟨#[]⟩):=⟨by rw [List.length_append,List.length_take,List.length_drop]; omega,fun i _=>by dsimp only; rw [Nat.zero_add]⟩
   repeat' (first|refine vz ?_|(conv=>whnf); first|with_reducible first|refine Sp.mk ?_ ?_|refine br_d (fun _=>?_) fun _=>?_|refine vM (fun _=>?_) fun _=>?_)
   refine Dr.mk ⟨(.rd 0 (.rd 1 (.rd 2 (.rd 3 (.ef 4 (.rd 5 .dn) .no))))),by decide +kernel,?_⟩
   repeat' (first|refine vz ?_|(conv=>whnf); first|with_reducible first|refine Sp.mk ?_ ?_|refine br_d (fun _=>?_) fun _=>?_|refine vM (fun _=>?_) fun _=>?_)
   by_cases hw:w=⟨#[]⟩
   ·rw [decide_eq_true hw]
    refine ⟨_,?_,h ⟨p,bs,rs.take a.toNat ++ rs.drop (a.toNat+1)⟩ true (fun q=>(made_3 (x:=⟨p,bs,rs⟩) q3 hw hc).symm) (fun q=>(by cases q))⟩
    repeat' ((conv=>whnf); first|with_reducible exact True.intro|exact vW|with_reducible refine And.intro ?_ ?_)
    all_goals first|exact Chk.mk ⟨rfl,fun i _=>by dsimp only; rw [Nat.zero_add]⟩|exact Chk.mk y4
   ·rw [decide_eq_false hw]
    refine ⟨_,?_,h ⟨p,bs,rs.take a.toNat ++ rs.drop (a.toNat+1)⟩ false (fun q=>(by cases q)) (fun q=>(made_3n (x:=⟨p,bs,rs⟩) q3 fun g=>hw g.1))⟩
    repeat' ((conv=>whnf); first|with_reducible exact True.intro|exact vW|with_reducible refine And.intro ?_ ?_)
    all_goals first|exact Chk.mk ⟨rfl,fun i _=>by dsimp only; rw [Nat.zero_add]⟩|exact Chk.mk y4
 ·rename_i q0 q1 q2 q3
  refine ⟨_,?_,h ⟨p,bs,rs⟩ false (fun q=>(by cases q)) (fun q=>(made_n q0 q1 q2 q3))⟩
  repeat' ((conv=>whnf); first|with_reducible exact True.intro|exact vW|with_reducible refine And.intro ?_ ?_)
  all_goals first|exact Chk.mk ⟨rfl,fun i _=>by dsimp only; rw [Nat.zero_add]⟩|exact Chk.mk y1
end Go.Proofs.YtgdbhjmpkkbnnaaGreatDoor.Vc
end
section
/- Part XK: a deed at a desk, by the implementation. -/
namespace Go.Proofs.YtgdbhjmpkkbnnaaGreatDoor.Vc
open Go.Proofs
set_option maxRecDepth 10000
set_option maxHeartbeats 4000000
def C261:GC:=conG (X:=Desk) (fun d=>[enDe d]) (fun _=>[]) shortD fun d K=>K (deG d) [psO d.past]
theorem F261:GG 56 C261:=by
 refine fitG [(99,C157)] (by simp only [List.mem_cons,List.not_mem_nil,or_false]; rintro _ rfl <;> first|exact F157) [] (by simp) Tryz.f56 ⟨rfl,by decide +kernel,by decide +kernel⟩ (by intro x K K2 hk h; (try dsimp only at h ⊢); intros; apply hk; first|exact h|(apply h <;> assumption)) ?_
 rintro ⟨⟨p,bs,rs⟩,l⟩ K ⟨h1,h2,h3⟩ h
 refine ⟨Nat.le_of_ble_eq_true rfl,?_⟩
 unfold deG psO at h
 dsimp only [enDe,deC] at h h1 h2 h3 ⊢
 repeat' (first|refine vz ?_|(conv=>whnf); first|with_reducible first|refine Sp.mk ?_ ?_|refine br_d (fun _=>?_) fun _=>?_|refine vM (fun _=>?_) fun _=>?_)
 refine ⟨⟨p,bs,rs⟩,?_,⟨h1⟩,?_⟩
 ·exact wq
 dsimp only [enPl,plC]
 repeat' (first|refine vz ?_|(conv=>whnf); first|with_reducible first|refine Sp.mk ?_ ?_|refine br_d (fun _=>?_) fun _=>?_|refine vM (fun _=>?_) fun _=>?_)
 refine Lp.mk ⟨Nat,fun i=>[(1,.ptr 0 0),(2,.ptr 1 0),(3,.ptr 2 0),(11,slP l),(12,.int .i64 l.length),(13,.int .i64 i)],fun i=>[.box (deC ⟨⟨p,bs,rs⟩,l⟩),.box [.int .i64 0,.nils,.nils,.nils],.box [.int .i64 p,slI bs,slS rs,.row 3 3 0 (l.take i).length],psO (l.take i)],fun i=>i≤l.length,fun i=>l.length-i,⟨0,Nat.zero_le _,⟨⟨[some 0,some 1,some 2,none],[],rfl,rfl,?_,?_⟩⟩⟩,?_⟩
 ·exact wq
 ·exact wq
 intro i i1
 dsimp only [deC,psO]
 have hti:(l.take i).length≤100000:=by rw [List.length_take]; omega
 repeat' (first|refine vz ?_|(conv=>whnf); first|with_reducible first|refine Sp.mk ?_ ?_|refine br_d (fun _=>?_) fun _=>?_|refine vM (fun _=>?_) fun _=>?_)
 ·rename_i hi
  have hi:i<l.length:=by omega
  have hsn:l.take (i+1)=l.take i ++ [l.getD i default]:=take_succ' default hi
  refine Dr.mk ⟨(.rd 0 (.rd 1 (.rd 2 (.ef 3 (.ef 4 (.ef 5 (.rd 6 (.ef 7 .dn .no)) .no) .no) .no)))),by decide +kernel,?_⟩
  repeat' (first|refine vz ?_|(conv=>whnf); first|with_reducible first|refine Sp.mk ?_ ?_|refine br_d (fun _=>?_) fun _=>?_|refine vM (fun _=>?_) fun _=>?_)
  all_goals
   refine ⟨l.getD i default,?_,⟨h3 _ (getD_mem' hi)⟩,?_⟩
   ·exact wq
   dsimp only [enPl,plC]
   repeat' (first|refine vz ?_|(conv=>whnf); first|with_reducible first|refine Sp.mk ?_ ?_|refine br_d (fun _=>?_) fun _=>?_|refine vM (fun _=>?_) fun _=>?_)
  all_goals
   refine ⟨i+1,by omega,by omega,?_⟩
   first|(refine ⟨⟨[some 0,some 1,some 2,some 6],[],rfl,rfl,?_,?_⟩⟩ <;> (repeat' ((conv=>whnf); first|with_reducible exact True.intro|exact vW|with_reducible refine And.intro ?_ ?_|exact Chk.mk ⟨rfl,by rw [hsn,List.length_append]; rfl⟩|exact Chk.mk (by rw [hsn]; exact ext_push (enc:=plC) (d:=default) (l:=l.take i) (x:=l.getD i default) rfl))) <;> fail)|(refine ⟨⟨[some 0,some 1,some 2,some 5],[],rfl,rfl,?_,?_⟩⟩ <;> (repeat' ((conv=>whnf); first|with_reducible exact True.intro|exact vW|with_reducible refine And.intro ?_ ?_|exact Chk.mk ⟨rfl,by rw [hsn,List.length_append]; rfl⟩|exact Chk.mk (by rw [hsn]; exact ext_push (enc:=plC) (d:=default) (l:=l.take i) (x:=l.getD i default) rfl))) <;> fail)|(refine ⟨⟨[some 0,some 1,some 2,some 4],[],rfl,rfl,?_,?_⟩⟩ <;> (repeat' ((conv=>whnf); first|with_reducible exact True.intro|exact vW|with_reducible refine And.intro ?_ ?_|exact Chk.mk ⟨rfl,by rw [hsn,List.length_append]; rfl⟩|exact Chk.mk (by rw [hsn]; exact ext_push (enc:=plC) (d:=default) (l:=l.take i) (x:=l.getD i default) rfl))) <;> fail)
 ·rename_i hi
  rw [List.take_of_length_le (by omega)]
  repeat' (first|refine vz ?_|(conv=>whnf); first|with_reducible first|refine Sp.mk ?_ ?_|refine br_d (fun _=>?_) fun _=>?_|refine vM (fun _=>?_) fun _=>?_)
  refine ⟨_,_,[some 3],[],rfl,rfl,?_,?_,h⟩
  ·exact wq
  ·exact wq
theorem doD_back0 {d:Desk} (h:d.past.length=0):doD d backD=none:=by
 unfold doD
 rw [if_neg (by omega),show madeP d.now backD=default from made_n (by decide) (by decide) (by decide) (by decide),if_neg fun q=>no_place q.1]
theorem doD_back1 {d:Desk} (h:0<d.past.length):doD d backD=some ⟨d.past.getD (d.past.length-1) default,d.past.take (d.past.length-1)⟩:=if_pos ⟨rfl,h⟩
theorem doD_bad {d:Desk} {a:Dd} (ha:a≠backD) (h:¬ placeOk (madeP d.now a)):doD d a=none:=by
 unfold doD
 rw [if_neg fun q=>ha q.1,if_neg fun q=>h q.1]
theorem doD_same {d:Desk} {a:Dd} (ha:a≠backD) (h:madeP d.now a=d.now):doD d a=none:=by
 unfold doD
 rw [if_neg fun q=>ha q.1,h,if_neg fun q=>q.2 rfl]
theorem doD_new {d:Desk} {a:Dd} (ha:a≠backD) (hO:placeOk d.now) (h:placeOk (madeP d.now a)) (hn:madeP d.now a≠d.now):doD d a=some ⟨madeP d.now a,pushP d.past d.now⟩:=by
 unfold doD
 rw [if_neg fun q=>ha q.1,if_pos ⟨h,fun e=>hn (plT_inj h hO (by unfold ptext at e; rwa [if_pos h,if_pos hO] at e))⟩]
theorem takeP_get {L:List Place} {n i:Nat} (h:i<n):(L.take n).getD i default=L.getD i default:=by
 rw [List.getD_eq_getElem?_getD,List.getD_eq_getElem?_getD,List.getElem?_take_of_lt h]
theorem takeP_ext {l:List Place} {n:Nat} (hn:n≤l.length):(l.take n).length=n-Int.toNat 0∧∀ i,i<(l.take n).length→plC ((l.take n).getD i default)=plC (l.getD (Int.toNat 0+i) default):=⟨by rw [List.length_take]; show _=n-0; omega,fun i hi=>by
 rw [List.length_take] at hi
 rw [takeP_get (by omega)]
 show _=plC (l.getD (0+i) default)
 rw [Nat.zero_add]⟩
theorem pushP_ext {l:List Place} {x:Place} {g:Nat→List AV} (hg:g 0=plC x) (h:l.length+1 > 8):(pushP l x).length=((l.length+1:Nat):Int).toNat-Int.toNat 1∧∀ i,i<(pushP l x).length→plC ((pushP l x).getD i default)=appF l.length (fun i=>plC (l.getD i default)) g (0+Int.toNat 1+i):=by
 have e:pushP l x=(l ++ [x]).drop 1:=if_pos (by rw [List.length_append]; exact h)
 have:=ext_dropV (enc:=plC) (d:=default) (l:=l) (x:=x) (g:=g) hg
 rw [e]
 exact ⟨this.1.symm,fun i hi=>(this.2 i (by rw [this.1]; exact hi)).symm⟩
theorem pushP_ext' {l:List Place} {x:Place} {g:Nat→List AV} (hg:g 0=plC x) (h:¬ l.length+1 > 8):(pushP l x).length=l.length+1∧∀ i,i<(pushP l x).length→plC ((pushP l x).getD i default)=appF l.length (fun i=>plC (l.getD i default)) g (0+i):=by
 have e:pushP l x=l ++ [x]:=if_neg (by rw [List.length_append]; exact h)
 have:=ext_push (enc:=plC) (d:=default) (l:=l) (x:=x) (g:=g) hg
 rw [e]
 exact ⟨this.1,fun i hi=>by rw [Nat.zero_add]; exact this.2 i hi⟩
end Go.Proofs.YtgdbhjmpkkbnnaaGreatDoor.Vc
end
section
/- Part XC: deeds that are read, by both sides. -/
namespace Go.Proofs.YtgdbhjmpkkbnnaaGreatDoor.Vc
open Go.Proofs
set_option maxRecDepth 10000
set_option maxHeartbeats 4000000
/-! ### slices.Index -/
/-! ### The implementation's -/
end Go.Proofs.YtgdbhjmpkkbnnaaGreatDoor.Vc
end
section
/- Part XD: deeds that are read, by the reference. -/
namespace Go.Proofs.YtgdbhjmpkkbnnaaGreatDoor.Vc
open Go.Proofs
set_option maxRecDepth 10000
set_option maxHeartbeats 4000000
section
variable {x:Dd} {L:List ByteArray} (hL:L=kindB x.kind :: ((numsOf x).map num ++ wordsOf x)) (h:okDd x)
include hL h
end
end Go.Proofs.YtgdbhjmpkkbnnaaGreatDoor.Vc
end
section
/- Part XF: journals that are read, by both sides. -/
namespace Go.Proofs.YtgdbhjmpkkbnnaaGreatDoor.Vc
open Go.Proofs
set_option maxRecDepth 10000
set_option maxHeartbeats 4000000
/-! ### strings.Cut -/
/-! ### What has been read -/
structure jrI (s:ByteArray) (l:List Dd) (n:Nat):Prop where
 ok:∀ x∈l,okDd x
 nn:n=(jl l).length
 le:n≤s.size
 eq:s.data.toList=jl l ++ s.data.toList.drop n
theorem jrI.end {s:ByteArray} {l:List Dd} {n:Nat} (h:jrI s l n) (hs:∀ x t,okDd x→s.data.toList.drop n≠lineL x ++ t):jr s=l∧jn s=n:=by
 obtain ⟨e1,e2⟩:=jr_of ⟨h.ok,h.eq,hs⟩
 exact ⟨e1,e2.trans h.nn.symm⟩
theorem jrI.step {s:ByteArray} {l:List Dd} {n:Nat} {p:ByteArray} {x:Dd} {r:List UInt8} (h:jrI s l n) (hp:s.data.toList.drop n=p.data.toList ++ 10 :: r) (hx:isDd p x):jrI s (l ++ [x]) (n+(p.size+1)):=by
 have hl:lineL x=p.data.toList ++ [10]:=by unfold lineL; rw [hx.2]
 have hn:(lineL x).length=p.size+1:=by rw [line_len,hx.2]
 have hlen:(s.data.toList.drop n).length=s.size-n:=by rw [List.length_drop,Array.length_toList]; rfl
 refine ⟨fun y hy=>(List.mem_append.1 hy).elim (h.ok y) fun q=>by rw [List.mem_singleton.1 q]; exact hx.1,?_,?_,?_⟩
 ·rw [jl_app,jl_one,List.length_append,← h.nn,hn]
 ·have:=congrArg List.length hp
  rw [hlen,List.length_append,Array.length_toList] at this
  simp only [List.length_cons] at this
  have hps:p.size=p.data.size:=rfl
  have:=h.le
  omega
 ·have e2:s.data.toList.drop (n+(p.size+1))=r:=by
   rw [← List.drop_drop,hp,show p.data.toList ++ 10 :: r=(p.data.toList ++ [10]) ++ r by simp]
   exact List.drop_left' (by rw [List.length_append,Array.length_toList]; rfl)
  rw [e2,jl_app,jl_one,hl]
  have:=h.eq
  rw [hp] at this
  rw [this]
  simp
/-! ### The implementation's -/
end Go.Proofs.YtgdbhjmpkkbnnaaGreatDoor.Vc
end
section
/- Part XG: journals, by the reference; marks of deeds. -/
namespace Go.Proofs.YtgdbhjmpkkbnnaaGreatDoor.Vc
open Go.Proofs
set_option maxRecDepth 10000
set_option maxHeartbeats 4000000
/-! ### Marks -/
def mkDd (n:Int):Dd:=⟨n,n+1,n+1+1,mkT (n+1+1+1)⟩
def mkDs (n:Int) (k:Nat):List Dd:=(List.range k).map fun (i:Nat)=>mkDd (n+4*(i:Int))
theorem mkDs_get {n:Int} {k i:Nat} (h:i<k):(mkDs n k).getD i default=mkDd (n+4*(i:Int)):=by
 unfold mkDs
 rw [List.getD_eq_getElem?_getD,List.getElem?_map,List.getElem?_range h]
 rfl
theorem setF_self {X:Nat→List AV} {i:Nat} {v:List AV}:setF X i v i=v:=by
 unfold setF
 rw [Nat.beq_refl]
 rfl
theorem setF_setF {X:Nat→List AV} {i:Nat} {u v:List AV}:setF (setF X i u) i v=setF X i v:=by
 funext j
 unfold setF
 cases Nat.beq j i <;> rfl
theorem four_set {F G:Nat→List AV} {i N:Nat} {a b c d x y z u:AV} (hF:F i=[a,b,c,d]) (hG:G i=[x,y,z,u]):N=N∧∀ j,j<N→mixF (i+1) F G j=setF (setF (setF (setF (mixF i F G) (0+i) (setCells (mixF i F G (0+i)) 0 [a])) (0+i) (setCells (setF (mixF i F G) (0+i) (setCells (mixF i F G (0+i)) 0 [a]) (0+i)) 1 [b])) (0+i) (setCells (setF (setF (mixF i F G) (0+i) (setCells (mixF i F G (0+i)) 0 [a])) (0+i) (setCells (setF (mixF i F G) (0+i) (setCells (mixF i F G (0+i)) 0 [a]) (0+i)) 1 [b]) (0+i)) 2 [c])) (0+i) (setCells (setF (setF (setF (mixF i F G) (0+i) (setCells (mixF i F G (0+i)) 0 [a])) (0+i) (setCells (setF (mixF i F G) (0+i) (setCells (mixF i F G (0+i)) 0 [a]) (0+i)) 1 [b])) (0+i) (setCells (setF (setF (mixF i F G) (0+i) (setCells (mixF i F G (0+i)) 0 [a])) (0+i) (setCells (setF (mixF i F G) (0+i) (setCells (mixF i F G (0+i)) 0 [a]) (0+i)) 1 [b]) (0+i)) 2 [c]) (0+i)) 3 [d]) j:=by
 refine ⟨rfl,fun j _=>?_⟩
 simp only [Nat.zero_add,setF_self,setF_setF,mix_at,hG]
 exact mix_set hF.symm j
structure Md where
 l:List Dd
 n:Int
def C248:GC:=conG (X:=Md) (fun x=>[.row 0 4 0 x.l.length,.int .i64 x.n]) (fun x=>[.row 4 x.l.length fun i=>encD (x.l.getD i default)]) (fun x=>0≤x.n∧x.n≤100000000000000∧x.l.length≤100000000000) fun x K=>K (.int .i64 (x.n+4*x.l.length)) [.row 4 x.l.length fun i=>encD ((mkDs x.n x.l.length).getD i default)]
theorem F248:GG 31 C248:=by
 refine fitG [(57,C186)] (by simp only [List.mem_cons,List.not_mem_nil,or_false]; rintro _ rfl <;> first|exact F186) [] (by simp) Tryz.f31 ⟨rfl,by decide +kernel,by decide +kernel⟩ (by intro x K K2 hk h; (try dsimp only at h ⊢); intros; apply hk; first|exact h|(apply h <;> assumption)) ?_
 rintro ⟨l,n⟩ K ⟨h1,h2,h3⟩ h
 refine ⟨Nat.le_of_ble_eq_true rfl,?_⟩
 dsimp only at h h1 h2 h3 ⊢
 repeat' (first|refine vz ?_|(conv=>whnf); first|with_reducible first|refine Sp.mk ?_ ?_|refine br_d (fun _=>?_) fun _=>?_|refine vM (fun _=>?_) fun _=>?_)
 refine Lp.mk ⟨Nat,fun i=>[(0,.row 0 4 0 l.length),(1,.int .i64 (n+4*i)),(5,.int .i64 i)],fun i=>[.row 4 l.length (mixF i (fun j=>encD (mkDd (n+4*(j:Int)))) fun j=>encD (l.getD j default))],fun i=>i≤l.length,fun i=>l.length-i,⟨0,Nat.zero_le _,⟨⟨[some 0],[],rfl,rfl,?_,?_⟩⟩⟩,?_⟩
 ·exact wq
 ·exact wq
 intro i i1
 dsimp only
 repeat' (first|refine vz ?_|(conv=>whnf); first|with_reducible first|refine Sp.mk ?_ ?_|refine br_d (fun _=>?_) fun _=>?_|refine vM (fun _=>?_) fun _=>?_)
 ·rename_i hi
  refine ⟨n+4*i+1+1+1,?_,⟨by omega,by omega⟩,?_⟩
  ·exact wq
  repeat' (first|refine vz ?_|(conv=>whnf); first|with_reducible first|refine Sp.mk ?_ ?_|refine br_d (fun _=>?_) fun _=>?_|refine vM (fun _=>?_) fun _=>?_)
  refine ⟨i+1,by omega,by omega,⟨⟨[some 0],[],rfl,rfl,?_,?_⟩⟩⟩
  ·exact wq
  ·repeat' ((conv=>whnf); first|with_reducible exact True.intro|exact vW|with_reducible refine And.intro ?_ ?_)
   all_goals exact Chk.mk (four_set rfl rfl)
 ·obtain rfl:i=l.length:=by omega
  refine ⟨_,_,[some 0],[],rfl,rfl,?_,?_,h⟩
  ·exact wq
  ·repeat' ((conv=>whnf); first|with_reducible exact True.intro|exact vW|with_reducible refine And.intro ?_ ?_)
   all_goals exact Chk.mk ⟨rfl,fun j hj=>by show encD _=_; rw [mkDs_get hj,mix_lt hj]⟩
end Go.Proofs.YtgdbhjmpkkbnnaaGreatDoor.Vc
end
section
/- Part UE: places that are read, by the reference. -/
namespace Go.Proofs.YtgdbhjmpkkbnnaaGreatDoor.Vc
open Go.Proofs
set_option maxRecDepth 10000
set_option maxHeartbeats 4000000
def isPt (s:ByteArray) (x:Place):Prop:=placeOk x∧plT x=s
def rpPost (s:ByteArray) (K:AV→Prop):Prop:=(∀ x,isPt s x→K (.tup [enPl x,.bool true]))∧((¬ ∃ x,isPt s x)→K (.tup [enPl default,.bool false]))
theorem rpPost.mono {s:ByteArray} {K K2:AV→Prop} (hk:∀ r,K r→K2 r) (h:rpPost s K):rpPost s K2:=⟨fun x q=>hk _ (h.1 x q),fun q=>hk _ (h.2 q)⟩
end Go.Proofs.YtgdbhjmpkkbnnaaGreatDoor.Vc
end
section
/- Part UF: places that are read, by the implementation. -/
namespace Go.Proofs.YtgdbhjmpkkbnnaaGreatDoor.Vc
open Go.Proofs
set_option maxRecDepth 10000
set_option maxHeartbeats 4000000
end Go.Proofs.YtgdbhjmpkkbnnaaGreatDoor.Vc
end
section
/- Part UG: texts of places are read: the law. -/
namespace Go.Proofs.YtgdbhjmpkkbnnaaGreatDoor.Vc
open Go.Proofs
set_option maxRecDepth 10000
set_option maxHeartbeats 4000000
end Go.Proofs.YtgdbhjmpkkbnnaaGreatDoor.Vc
end
section
/- Part UH: read texts are canonical: the law. -/
namespace Go.Proofs.YtgdbhjmpkkbnnaaGreatDoor.Vc
open Go.Proofs
set_option maxRecDepth 10000
set_option maxHeartbeats 4000000
theorem I_of {x:Place} (h:placeOk x):placeI x:=by
 have hb:=placeOk_small h
 exact ⟨⟨⟨⟨by have:=hb.2.1; show -9223372036854775808≤x.p; omega,by have:=hb.2.2.1; show x.p≤9223372036854775807; omega⟩,fun b q=>by have:=hb.1.2 b q; exact ⟨by omega,by omega⟩⟩,by have:=hb.1.1; show x.bs.length<_; omega⟩,by have:=h.2.1.2; omega,fun r q=>by have:=hb.2.2.2 r q; omega⟩
end Go.Proofs.YtgdbhjmpkkbnnaaGreatDoor.Vc
end
section
/- Part XE: the laws on texts of deeds that are read. -/
namespace Go.Proofs.YtgdbhjmpkkbnnaaGreatDoor.Vc
open Go.Proofs
set_option maxRecDepth 10000
set_option maxHeartbeats 4000000
theorem drawnP.S {x:Place} (h:drawnP x):placeS x:=⟨h.I,h.bl,Nat.le_trans h.rl (by decide)⟩
end Go.Proofs.YtgdbhjmpkkbnnaaGreatDoor.Vc
end
section
/- Part XH: deeds that are drawn; the laws on journals. -/
namespace Go.Proofs.YtgdbhjmpkkbnnaaGreatDoor.Vc
open Go.Proofs
set_option maxRecDepth 10000
set_option maxHeartbeats 4000000
def drawnL (l:List Dd):Prop:=l.length≤6∧∀ a∈l,drawnA a
theorem wsum_le {l:List Dd} {M:Nat} (h:∀ a∈l,a.words.size≤M):∀ i,i≤l.length→wsum l i≤M*i
 |0,_=>Nat.le_refl _
 |i+1,hi=>by
  have h1:=wsum_le h i (by omega)
  have h2:=h _ (getD_mem' (d:=default) hi)
  show wsum l i+_≤_
  rw [Nat.mul_add,Nat.mul_one]
  omega
theorem drawnL.j {l:List Dd} (h:drawnL l):jOk l:=by
 have:=wsum_le (M:=10000) (fun a ha=>(h.2 a ha).w0) _ (Nat.le_refl l.length)
 have:=h.1
 unfold jOk
 omega
end Go.Proofs.YtgdbhjmpkkbnnaaGreatDoor.Vc
end
section
/- Part TP: desks whose past is a row of one's own. -/
namespace Go.Proofs.YtgdbhjmpkkbnnaaGreatDoor.Vc
open Go.Proofs
set_option maxRecDepth 10000
set_option maxHeartbeats 4000000
structure Dk where
 x:Place
 L:List Place
 n:Nat
def Dk.d (k:Dk):Desk:=⟨k.x,k.L.take k.n⟩
end Go.Proofs.YtgdbhjmpkkbnnaaGreatDoor.Vc
end
section
/- Part TQ: desks that are drawn. -/
namespace Go.Proofs.YtgdbhjmpkkbnnaaGreatDoor.Vc
open Go.Proofs
set_option maxRecDepth 10000
set_option maxHeartbeats 4000000
end Go.Proofs.YtgdbhjmpkkbnnaaGreatDoor.Vc
end
section
/- Part TR: the law of desks. -/
namespace Go.Proofs.YtgdbhjmpkkbnnaaGreatDoor.Vc
open Go.Proofs
set_option maxRecDepth 10000
set_option maxHeartbeats 4000000
end Go.Proofs.YtgdbhjmpkkbnnaaGreatDoor.Vc
end
section
/- Part XL: deeds at desks, one and many, by both sides; drawn ones. -/
namespace Go.Proofs.YtgdbhjmpkkbnnaaGreatDoor.Vc
open Go.Proofs
set_option maxRecDepth 10000
set_option maxHeartbeats 4000000
theorem deskOk_I {d:Desk} (h:deskOk d):deskI d:=⟨I_of h.1,by have:=h.2.1; omega,fun p hp=>I_of (h.2.2 p hp)⟩
structure Rn where
 d:Desk
 l:List Dd
structure Ri where
 i:Nat
 e:Desk
 n:Nat
def rnPre (x:Rn):Prop:=deskOk x.d∧(∀ a∈x.l,dedI a)∧x.l.length≤1048576
def C257:List AV→(AV→Prop)→Prop:=con (X:=Rn) (fun x=>[enDe x.d,slD x.l]) rnPre fun x K=>K (.tup [enDe (runD x.d x.l).1,.int .i64 ((runD x.d x.l).2:Nat)])
theorem F257:FF 61 C257:=by
 refine fitXE [(23,C183)] (by simp only [List.mem_cons,List.not_mem_nil,or_false]; rintro _ rfl; exact F183) [(39,C198)] (by simp only [List.mem_cons,List.not_mem_nil,or_false]; rintro _ rfl; exact F198) Tryz.f61 ⟨rfl,by decide +kernel,by decide +kernel⟩ (fun _ _ _ hk h=>hk _ h) ?_
 rintro ⟨⟨⟨p,bs,rs⟩,past⟩,l⟩ K ⟨hO,hl,hll⟩ h
 refine ⟨Nat.le_of_ble_eq_true rfl,?_⟩
 dsimp only at hO hl hll h
 have hs:=deskOk_short hO
 dsimp only [enDe,deC] at h ⊢
 repeat' (first|refine vz ?_|(conv=>whnf); first|with_reducible first|refine Sp.mk ?_ ?_|refine br_d (fun _=>?_) fun _=>?_|refine vM (fun _=>?_) fun _=>?_)
 refine ⟨_,_,[],[],rfl,?_,?_,⟨⟨p,bs,rs⟩,past⟩,rfl,rfl,⟨hs⟩,?_⟩
 ·exact wq
 ·exact wq
 dsimp only [deG,psO]
 repeat' (first|refine vz ?_|(conv=>whnf); first|with_reducible first|refine Sp.mk ?_ ?_|refine br_d (fun _=>?_) fun _=>?_|refine vM (fun _=>?_) fun _=>?_)
 refine Lp.mk ⟨Ri,fun x=>[(1,slD l),(4,.ptr 0 0),(6,.ptr 1 0),(7,.int .i64 x.n),(8,.int .i64 x.i)],fun x=>[.box [.int .i64 0,.nils,.nils,.nils],.box [.int .i64 x.e.now.p,slI x.e.now.bs,slS x.e.now.rules,slP x.e.past]],fun x=>x.i≤l.length∧runD ⟨⟨p,bs,rs⟩,past⟩ (l.take x.i)=(x.e,x.n),fun x=>l.length-x.i,⟨⟨0,⟨⟨p,bs,rs⟩,past⟩,0⟩,⟨Nat.zero_le _,rfl⟩,?_⟩,?_⟩
 ·first|(refine ⟨⟨[some 1,some 3],[2],rfl,rfl,?_,?_⟩⟩ <;> (repeat' ((conv=>whnf); first|with_reducible exact True.intro|exact vW|with_reducible refine And.intro ?_ ?_|exact Chk.mk ⟨rfl,by dsimp only; omega,fun i _=>by dsimp only; (try rw [Nat.zero_add]); try rfl⟩)) <;> fail)|(refine ⟨⟨[some 1,some 2],[3],rfl,rfl,?_,?_⟩⟩ <;> (repeat' ((conv=>whnf); first|with_reducible exact True.intro|exact vW|with_reducible refine And.intro ?_ ?_|exact Chk.mk ⟨rfl,by dsimp only; omega,fun i _=>by dsimp only; (try rw [Nat.zero_add]); try rfl⟩)) <;> fail)
 rintro ⟨i,⟨⟨ep,eb,er⟩,el⟩,n⟩ ⟨i1,i2⟩
 dsimp only at i1 i2 ⊢
 have hOe:deskOk ⟨⟨ep,eb,er⟩,el⟩:=by have:=runD_ok hO (l.take i); rw [i2] at this; exact this
 have hn:=runD_le ⟨⟨p,bs,rs⟩,past⟩ (l.take i)
 rw [i2,List.length_take] at hn
 dsimp only at hn
 by_cases hi:i<l.length
 ·have hst:=take_step hi
  have ha:=hl _ (getD_mem' (d:=default) hi)
  generalize hA:l.getD i default=A at ha hst
  have hA':l.getD (i:Int).toNat default=A:=hA
  repeat' (first|refine vz ?_|(conv=>whnf); first|with_reducible first|refine Sp.mk ?_ ?_|refine br_d (fun _=>?_) fun _=>?_|refine vM (fun _=>?_) fun _=>?_)
  refine Dr.mk ⟨(.rd 0 (.rd 1 (.rd 2 (.rd 3 (.rd 4 (.ef 5 (.rd 6 (.rd 7 (.rd 8 (.ef 9 (.ef 10 (.rd 11 .dn) .no) .no)))) (.ef 9 (.ef 5 (.rd 6 (.rd 7 (.rd 8 (.ef 10 (.rd 11 .dn) .no)))) .no) .no))))))),by decide +kernel,?_⟩
  repeat' (first|refine vz ?_|(conv=>whnf); first|with_reducible first|refine Sp.mk ?_ ?_|refine br_d (fun _=>?_) fun _=>?_|refine vM (fun _=>?_) fun _=>?_)
  all_goals
   refine ⟨⟨⟨⟨ep,eb,er⟩,el⟩,A⟩,?_,⟨deskOk_I hOe,ha⟩,?_⟩
   ·repeat' ((conv=>whnf); first|with_reducible exact True.intro|exact vW|with_reducible refine And.intro ?_ ?_)
    all_goals first|exact Chk.mk (by rw [hA'])
   dsimp only
   cases hd:doD ⟨⟨ep,eb,er⟩,el⟩ A with
   |none =>
    have hr:runD ⟨⟨p,bs,rs⟩,past⟩ (l.take (i+1))=(⟨⟨ep,eb,er⟩,el⟩,n):=by rw [hst,runD_none (by rw [i2]; exact hd),i2]
    rw [afterD_none hOe hd,canD_none hd]
    dsimp only [enDe,deC]
    repeat' (first|refine vz ?_|(conv=>whnf); first|with_reducible first|refine Sp.mk ?_ ?_|refine br_d (fun _=>?_) fun _=>?_|refine vM (fun _=>?_) fun _=>?_)
    refine ⟨⟨i+1,⟨⟨ep,eb,er⟩,el⟩,n⟩,⟨by dsimp only; omega,hr⟩,by dsimp only; omega,?_⟩
    first|(refine ⟨⟨[some 0,some 1],[],rfl,rfl,?_,?_⟩⟩ <;> (repeat' ((conv=>whnf); first|with_reducible exact True.intro|exact vW|with_reducible refine And.intro ?_ ?_)) <;> fail)
   |some e =>
    have hr:runD ⟨⟨p,bs,rs⟩,past⟩ (l.take (i+1))=(e,n+1):=by rw [hst,runD_some (by rw [i2]; exact hd),i2]
    rw [afterD_some hOe hd,canD_some hOe hd]
    obtain ⟨⟨fp,fb,fr⟩,fl⟩:=e
    dsimp only [enDe,deC]
    repeat' (first|refine vz ?_|(conv=>whnf); first|with_reducible first|refine Sp.mk ?_ ?_|refine br_d (fun _=>?_) fun _=>?_|refine vM (fun _=>?_) fun _=>?_)
    refine ⟨⟨i+1,⟨⟨fp,fb,fr⟩,fl⟩,n+1⟩,⟨by dsimp only; omega,hr⟩,by dsimp only; omega,?_⟩
    first|(refine ⟨⟨[some 0,some 1],[],rfl,rfl,?_,?_⟩⟩ <;> (repeat' ((conv=>whnf); first|with_reducible exact True.intro|exact vW|with_reducible refine And.intro ?_ ?_)) <;> fail)
 ·obtain rfl:i=l.length:=by omega
  rw [List.take_length] at i2
  rw [i2] at h
  repeat' (first|refine vz ?_|(conv=>whnf); first|with_reducible first|refine Sp.mk ?_ ?_|refine br_d (fun _=>?_) fun _=>?_|refine vM (fun _=>?_) fun _=>?_)
  refine ⟨_,?_,h⟩
  repeat' ((conv=>whnf); first|with_reducible exact True.intro|exact vW|with_reducible refine And.intro ?_ ?_)
open Classical in
noncomputable def runX (d:Desk) (l:List Dd):Desk × Nat:=if deskOk d∧l.length≤40 then runD d l else (default,0)
def C242:List AV→(AV→Prop)→Prop:=con (X:=Rn) (fun x=>[enDe x.d,slD x.l]) (fun x=>deskI x.d∧(∀ a∈x.l,dedI a)∧x.l.length≤1048576) fun x K=>K (.tup [enDe (runX x.d x.l).1,.int .i64 ((runX x.d x.l).2:Nat)])
def C243:=C242
theorem F243:FF 27 C243:=by
 refine fitXE [(38,C139),(61,C257)] (by simp only [List.mem_cons,List.not_mem_nil,or_false]; rintro _ (rfl|rfl) <;> first|exact F139|exact F257) [] (by simp) Tryz.f27 ⟨rfl,by decide +kernel,by decide +kernel⟩ (by intro x K K2 hk h; (try dsimp only at h ⊢); intros; apply hk; first|exact h|(apply h <;> assumption)) ?_
 rintro ⟨⟨⟨p,bs,rs⟩,past⟩,l⟩ K ⟨hI,hl,hll⟩ h
 refine ⟨Nat.le_of_ble_eq_true rfl,?_⟩
 dsimp only at hI hl hll h
 unfold runX at h
 dsimp only [enDe,deC] at h ⊢
 repeat' (first|refine vz ?_|(conv=>whnf); first|with_reducible first|refine Sp.mk ?_ ?_|refine br_d (fun _=>?_) fun _=>?_|refine vM (fun _=>?_) fun _=>?_)
 refine ⟨⟨⟨p,bs,rs⟩,past⟩,?_,⟨hI⟩,?_⟩
 ·exact wq
 by_cases hO:deskOk ⟨⟨p,bs,rs⟩,past⟩
 ·by_cases h40:l.length≤40
  ·rw [if_pos ⟨hO,h40⟩] at h
   repeat' (first|refine vz ?_|(conv=>whnf); first|with_reducible first|refine Sp.mk ?_ ?_|refine br_d (fun _=>?_) fun _=>?_|refine vM (fun _=>?_) fun _=>?_)
   refine ⟨⟨⟨⟨p,bs,rs⟩,past⟩,l⟩,?_,⟨hO,hl,hll⟩,?_⟩
   ·exact wq
   dsimp only
   generalize runD ⟨⟨p,bs,rs⟩,past⟩ l=r at h ⊢
   obtain ⟨⟨⟨ep,eb,er⟩,el⟩,n⟩:=r
   dsimp only [enDe,deC]
   repeat' (first|refine vz ?_|(conv=>whnf); first|with_reducible first|refine Sp.mk ?_ ?_|refine br_d (fun _=>?_) fun _=>?_|refine vM (fun _=>?_) fun _=>?_)
   refine ⟨_,?_,h⟩
   repeat' ((conv=>whnf); first|with_reducible exact True.intro|exact vW|with_reducible refine And.intro ?_ ?_)
  ·rw [if_neg fun q=>h40 q.2] at h
   repeat' (first|refine vz ?_|(conv=>whnf); first|with_reducible first|refine Sp.mk ?_ ?_|refine br_d (fun _=>?_) fun _=>?_|refine vM (fun _=>?_) fun _=>?_)
   refine ⟨_,?_,h⟩
   repeat' ((conv=>whnf); first|with_reducible exact True.intro|exact vW|with_reducible refine And.intro ?_ ?_)
 ·rw [if_neg fun q=>hO q.1] at h
  repeat' (first|refine vz ?_|(conv=>whnf); first|with_reducible first|refine Sp.mk ?_ ?_|refine br_d (fun _=>?_) fun _=>?_|refine vM (fun _=>?_) fun _=>?_)
  refine ⟨_,?_,h⟩
  repeat' ((conv=>whnf); first|with_reducible exact True.intro|exact vW|with_reducible refine And.intro ?_ ?_)
end Go.Proofs.YtgdbhjmpkkbnnaaGreatDoor.Vc
end
section
/- Part NB: a deed at a desk, with nested memory of its own. -/
namespace Go.Proofs.YtgdbhjmpkkbnnaaGreatDoor.Vc
open Go.Proofs
set_option maxRecDepth 10000
set_option maxHeartbeats 4000000
def C261o:GC:=fun us og K=>C261 us og K∨C261n us og K
theorem F261o:GG 56 C261o:=fun w hw=>orG (F261 w hw) (F261n w hw)
def C254n:GC:=conG (X:=De) (fun x=>[enDe x.d,ded x.a]) (fun _=>[]) (fun x=>deskI x.d∧deskOk x.d∧dedI x.a) fun x K=>K (.tup [deN ((doD x.d x.a).getD x.d),.bool (doD x.d x.a).isSome]) (deO ((doD x.d x.a).getD x.d))
theorem F254n:GG 60 C254n:=by
 refine fitG [(103,C262),(89,C152),(104,C263)] (by simp only [List.mem_cons,List.not_mem_nil,or_false]; rintro _ (rfl|rfl|rfl) <;> first|exact F262|exact F152|exact F263) [(56,C261o)] (by simp only [List.mem_cons,List.not_mem_nil,or_false]; rintro _ rfl <;> first|exact F261o) Tryz.f60 ⟨rfl,by decide +kernel,by decide +kernel⟩ (by intro x K K2 hk h; (try dsimp only at h ⊢); intros; apply hk; first|exact h|(apply h <;> assumption)) ?_
 rintro ⟨⟨⟨p,bs,rs⟩,l⟩,⟨k,a,b,w⟩⟩ K ⟨hI,hO,ha⟩ h
 refine ⟨Nat.le_of_ble_eq_true rfl,?_⟩
 have hs:=deskOk_short hO
 have hs2:=hO.2.1
 dsimp only [enDe,deC,ded,encD] at hI ha hs2 h ⊢
 cases hd:doD ⟨⟨p,bs,rs⟩,l⟩ ⟨k,a,b,w⟩ with
 |none =>
  rw [hd] at h
  dsimp only [Option.getD_none,Option.isSome_none,deN,deO,npO] at h
  repeat' (first|refine vz ?_|(conv=>whnf); first|with_reducible first|refine Sp.mk ?_ ?_|refine br_d (fun _=>?_) fun _=>?_|refine vM (fun _=>?_) fun _=>?_)
  refine ⟨_,_,[],[],rfl,?_,?_,.inr ⟨⟨⟨p,bs,rs⟩,l⟩,rfl,rfl,⟨hs⟩,?_⟩⟩
  ·exact wq
  ·exact wq
  dsimp only [deN,deO,npO]
  repeat' (first|refine vz ?_|(conv=>whnf); first|with_reducible first|refine Sp.mk ?_ ?_|refine br_d (fun _=>?_) fun _=>?_|refine vM (fun _=>?_) fun _=>?_)
  ·refine ⟨_,_,[some 3,some 4,some 5],[],rfl,rfl,?_,?_,h⟩
   ·exact wq
   ·exact wq
  ·rename_i q1 q2 q3 q4 q5
   obtain rfl:k=4:=q1
   obtain rfl:a=0:=q2
   obtain rfl:b=0:=q3
   obtain rfl:w=⟨#[]⟩:=q4
   have e:doD ⟨⟨p,bs,rs⟩,l⟩ ⟨4,0,0,⟨#[]⟩⟩=some _:=doD_back1 (show 0<l.length by omega)
   rw [e] at hd
   cases hd
  all_goals
   have hnb:(⟨k,a,b,w⟩:Dd)≠backD:=by
    intro e
    have e3:=congrArg Dd.kind e
    have e4:=congrArg Dd.a e
    have e5:=congrArg Dd.b e
    have e6:=congrArg Dd.words e
    dsimp only [backD] at e3 e4 e5 e6
    first|omega|exact absurd e6 (by assumption)
   have hMI:=madeP_I (a:=⟨k,a,b,w⟩) hI.1 hs.1 ha
   refine ⟨⟨⟨p,bs,rs⟩,⟨k,a,b,w⟩⟩,?_,⟨hI.1,hO.1,ha⟩,?_⟩
   ·exact wq
   intro y ok hy1 hy2
   dsimp only at hy1 hy2
   cases ok
   ·obtain ⟨yp,yb,yr⟩:=y
    dsimp only [enPl,plC]
    repeat' (first|refine vz ?_|(conv=>whnf); first|with_reducible first|refine Sp.mk ?_ ?_|refine br_d (fun _=>?_) fun _=>?_|refine vM (fun _=>?_) fun _=>?_)
    refine ⟨_,_,[some 3,some 4,some 5],[],rfl,rfl,?_,?_,h⟩
    ·exact wq
    ·exact wq
   ·have hy:=hy1 rfl
    rw [← hy] at hMI
    have eN:=@doD_new ⟨⟨p,bs,rs⟩,l⟩ ⟨k,a,b,w⟩ hnb hO.1
    dsimp only at eN
    rw [← hy] at eN
    obtain ⟨yp,yb,yr⟩:=y
    clear hy hy1 hy2
    dsimp only [enPl,plC]
    by_cases hp:placeOk ⟨yp,yb,yr⟩
    ·repeat' (first|refine vz ?_|(conv=>whnf); first|with_reducible first|refine Sp.mk ?_ ?_|refine br_d (fun _=>?_) fun _=>?_|refine vM (fun _=>?_) fun _=>?_)
     refine ⟨⟨yp,yb,yr⟩,?_,⟨hMI⟩,?_⟩
     ·exact wq
     repeat' (first|refine vz ?_|(conv=>whnf); first|with_reducible first|refine Sp.mk ?_ ?_|refine br_d (fun _=>?_) fun _=>?_|refine vM (fun _=>?_) fun _=>?_)
     refine ⟨⟨⟨yp,yb,yr⟩,⟨p,bs,rs⟩⟩,?_,⟨hMI.1.2,hMI.2.1⟩,?_⟩
     ·exact wq
     intro same hsame
     dsimp only at hsame
     cases same
     ·have hne:(⟨yp,yb,yr⟩:Place)≠⟨p,bs,rs⟩:=fun e=>by have:=hsame.2 e; cases this
      rw [eN hp hne] at hd
      cases hd
     ·repeat' (first|refine vz ?_|(conv=>whnf); first|with_reducible first|refine Sp.mk ?_ ?_|refine br_d (fun _=>?_) fun _=>?_|refine vM (fun _=>?_) fun _=>?_)
      refine ⟨_,_,[some 3,some 4,some 5],[],rfl,rfl,?_,?_,h⟩
      ·exact wq
      ·exact wq
    ·repeat' (first|refine vz ?_|(conv=>whnf); first|with_reducible first|refine Sp.mk ?_ ?_|refine br_d (fun _=>?_) fun _=>?_|refine vM (fun _=>?_) fun _=>?_)
     refine ⟨⟨yp,yb,yr⟩,?_,⟨hMI⟩,?_⟩
     ·exact wq
     repeat' (first|refine vz ?_|(conv=>whnf); first|with_reducible first|refine Sp.mk ?_ ?_|refine br_d (fun _=>?_) fun _=>?_|refine vM (fun _=>?_) fun _=>?_)
     refine ⟨_,_,[some 3,some 4,some 5],[],rfl,rfl,?_,?_,h⟩
     ·exact wq
     ·exact wq
 |some e =>
  rw [hd] at h
  dsimp only [Option.getD_some,Option.isSome_some] at h
  repeat' (first|refine vz ?_|(conv=>whnf); first|with_reducible first|refine Sp.mk ?_ ?_|refine br_d (fun _=>?_) fun _=>?_|refine vM (fun _=>?_) fun _=>?_)
  refine ⟨_,_,[],[],rfl,?_,?_,.inl ⟨⟨⟨p,bs,rs⟩,l⟩,rfl,rfl,⟨hs⟩,?_⟩⟩
  ·exact wq
  ·exact wq
  dsimp only [deG,psO]
  repeat' ((conv=>whnf); first|with_reducible refine wk_at 4 ?_|with_reducible refine wk_at1 4 ?_|with_reducible refine wk_at2 4 ?_|refine vA ?_|with_reducible first|refine v8 ?_|refine Ch.l ?_|refine Sp.mk ?_ ?_|refine vS ?_|refine vR ?_|refine vB ?_|refine br_nt ?_|refine br_tt ?_|refine br_ff ?_|refine vP ?_|refine vQ ?_|refine vT ?_|refine vF ?_|refine br_and ?_|refine br_or ?_|refine br_d (fun _=>?_) fun _=>?_|refine vM (fun _=>?_) fun _=>?_)
  ·rename_i q1 q2 q3 q4
   obtain rfl:k=4:=q1
   obtain rfl:a=0:=q2
   obtain rfl:b=0:=q3
   obtain rfl:w=⟨#[]⟩:=q4
   refine ⟨Wk.go [(4,.ptr 0 0),(6,.ptr 1 0),(7,.int .i64 ((l.length:Int)-1))] [.box [.int .i64 0,.nils,.nils,.nils],.box (deC ⟨⟨p,bs,rs⟩,l⟩)] ⟨⟨[some 2,some 4],[3],rfl,rfl,?_,?_⟩⟩ ?_⟩
   ·exact wq
   ·repeat' ((conv=>whnf); first|with_reducible exact True.intro|exact vW|with_reducible refine And.intro ?_ ?_)
    all_goals exact Chk.mk ⟨rfl,by omega,fun i _=>by dsimp only; (try rw [Nat.zero_add]); try rfl⟩
   dsimp only [deC]
   by_cases hl:l.length=0
   ·rw [show doD ⟨⟨p,bs,rs⟩,l⟩ ⟨4,0,0,⟨#[]⟩⟩=none from doD_back0 hl] at hd
    cases hd
   ·have hlp:0<l.length:=by omega
    have hm:l.getD (l.length-1) default∈l:=getD_mem' (by omega)
    rw [show doD ⟨⟨p,bs,rs⟩,l⟩ ⟨4,0,0,⟨#[]⟩⟩=some _ from doD_back1 hlp] at hd
    cases hd
    have e1:((l.length:Int)-1).toNat=l.length-1:=by omega
    repeat' (first|refine vz ?_|(conv=>whnf); first|with_reducible first|refine Sp.mk ?_ ?_|refine br_d (fun _=>?_) fun _=>?_|refine vM (fun _=>?_) fun _=>?_)
    refine Dr.mk ⟨(.rd 0 (.rd 1 (.rd 2 (.rd 3 (.rd 4 (.rd 5 (.rd 6 (.rd 7 (.rd 8 (.rd 9 (.ef 10 (.ef 11 (.rd 12 .dn) .no) .no))))))))))),by decide +kernel,?_⟩
    repeat' (first|refine vz ?_|(conv=>whnf); first|with_reducible first|refine Sp.mk ?_ ?_|refine br_d (fun _=>?_) fun _=>?_|refine vM (fun _=>?_) fun _=>?_)
    refine ⟨_,_,[],[],rfl,?_,?_,.inr ⟨⟨l.getD (l.length-1) default,l.take (l.length-1)⟩,rfl,rfl,⟨⟨hs.2.2 _ hm,by dsimp only; rw [List.length_take]; omega,fun x hx=>hs.2.2 x (List.mem_of_mem_take hx)⟩⟩,?_⟩⟩
    ·rw [e1]
     repeat' ((conv=>whnf); first|with_reducible exact True.intro|exact vW|with_reducible refine And.intro ?_ ?_)
     all_goals exact Chk.mk (takeP_ext (by omega))
    ·exact wq
    dsimp only [deN,deO,npO] at h ⊢
    repeat' (first|refine vz ?_|(conv=>whnf); first|with_reducible first|refine Sp.mk ?_ ?_|refine br_d (fun _=>?_) fun _=>?_|refine vM (fun _=>?_) fun _=>?_)
    refine ⟨_,_,[some 2,some 3,some 4],[],rfl,rfl,?_,?_,h⟩
    ·exact wq
    ·exact wq
  all_goals
   have hnb:(⟨k,a,b,w⟩:Dd)≠backD:=by
    intro e
    have e3:=congrArg Dd.kind e
    have e4:=congrArg Dd.a e
    have e5:=congrArg Dd.b e
    have e6:=congrArg Dd.words e
    dsimp only [backD] at e3 e4 e5 e6
    first|omega|exact absurd e6 (by assumption)
   have hMI:=madeP_I (a:=⟨k,a,b,w⟩) hI.1 hs.1 ha
   refine ⟨⟨⟨p,bs,rs⟩,⟨k,a,b,w⟩⟩,?_,⟨hI.1,hO.1,ha⟩,?_⟩
   ·exact wq
   intro y ok hy1 hy2
   dsimp only at hy1 hy2
   cases ok
   ·have hno:doD ⟨⟨p,bs,rs⟩,l⟩ ⟨k,a,b,w⟩=none:=doD_bad hnb (by dsimp only; rw [hy2 rfl]; exact no_place)
    rw [hno] at hd
    cases hd
   ·have hy:=hy1 rfl
    rw [← hy] at hMI
    have eB:=@doD_bad ⟨⟨p,bs,rs⟩,l⟩ ⟨k,a,b,w⟩ hnb
    have eS:=@doD_same ⟨⟨p,bs,rs⟩,l⟩ ⟨k,a,b,w⟩ hnb
    have eN:=@doD_new ⟨⟨p,bs,rs⟩,l⟩ ⟨k,a,b,w⟩ hnb hO.1
    dsimp only at eB eS eN
    rw [← hy] at eB eS eN
    obtain ⟨yp,yb,yr⟩:=y
    clear hy hy1 hy2
    dsimp only [enPl,plC]
    by_cases hp:placeOk ⟨yp,yb,yr⟩
    ·repeat' (first|refine vz ?_|(conv=>whnf); first|with_reducible first|refine Sp.mk ?_ ?_|refine br_d (fun _=>?_) fun _=>?_|refine vM (fun _=>?_) fun _=>?_)
     refine ⟨⟨yp,yb,yr⟩,?_,⟨hMI⟩,?_⟩
     ·exact wq
     repeat' (first|refine vz ?_|(conv=>whnf); first|with_reducible first|refine Sp.mk ?_ ?_|refine br_d (fun _=>?_) fun _=>?_|refine vM (fun _=>?_) fun _=>?_)
     refine ⟨⟨⟨yp,yb,yr⟩,⟨p,bs,rs⟩⟩,?_,⟨hMI.1.2,hMI.2.1⟩,?_⟩
     ·exact wq
     intro same hsame
     dsimp only at hsame
     cases same
     ·have hne:(⟨yp,yb,yr⟩:Place)≠⟨p,bs,rs⟩:=fun e=>by have:=hsame.2 e; cases this
      rw [eN hp hne] at hd
      cases hd
      dsimp only [deN,deO,npO] at h
      have hpl:(pushP l ⟨p,bs,rs⟩).length≤8:=pushP_len hs2
      have hpm:=@pushP_mem l ⟨p,bs,rs⟩
      repeat' ((conv=>whnf); first|with_reducible refine wk_at 13 ?_|with_reducible refine wk_at1 13 ?_|with_reducible refine wk_at2 13 ?_|refine vA ?_|with_reducible first|refine v8 ?_|refine Ch.l ?_|refine Sp.mk ?_ ?_|refine vS ?_|refine vR ?_|refine vB ?_|refine br_nt ?_|refine br_tt ?_|refine br_ff ?_|refine vP ?_|refine vQ ?_|refine vT ?_|refine vF ?_|refine br_and ?_|refine br_or ?_|refine br_d (fun _=>?_) fun _=>?_|refine vM (fun _=>?_) fun _=>?_)
      ·rename_i h8
       have hx:=pushP_ext (l:=l) (x:=⟨p,bs,rs⟩) (g:=fun i=>(fun i=>[plC ⟨p,bs,rs⟩].getD i (lookT TT 34).z) (0+i)) rfl (by omega)
       generalize pushP l ⟨p,bs,rs⟩=M at hpl hpm hx h ⊢
       refine ⟨Wk.go [(4,.ptr 0 0),(8,.ptr 1 0),(10,slP M)] [.box [.int .i64 0,.nils,.nils,.nils],.box [.int .i64 yp,slI yb,slS yr]] ⟨⟨[some 2,some 5],[7],rfl,rfl,?_,?_⟩⟩ ?_⟩
       ·repeat' ((conv=>whnf); first|with_reducible exact True.intro|exact vW|with_reducible refine And.intro ?_ ?_)
        all_goals exact Chk.mk ⟨hx.1,by omega,hx.2⟩
       ·exact wq
       repeat' (first|refine vz ?_|(conv=>whnf); first|with_reducible first|refine Sp.mk ?_ ?_|refine br_d (fun _=>?_) fun _=>?_|refine vM (fun _=>?_) fun _=>?_)
       refine ⟨_,_,[],[],rfl,?_,?_,.inr ⟨⟨⟨yp,yb,yr⟩,M⟩,rfl,rfl,⟨⟨placeOk_short hp,by dsimp only; omega,fun x hx=>(hpm x hx).elim (hs.2.2 x) fun e=>e ▸ hs.1⟩⟩,?_⟩⟩
       ·exact wq
       ·exact wq
       dsimp only [deN,deO,npO]
       repeat' (first|refine vz ?_|(conv=>whnf); first|with_reducible first|refine Sp.mk ?_ ?_|refine br_d (fun _=>?_) fun _=>?_|refine vM (fun _=>?_) fun _=>?_)
       refine ⟨_,_,[some 2,some 3,some 4],[],rfl,rfl,?_,?_,h⟩
       ·exact wq
       ·exact wq
      ·rename_i h8
       have hx:=pushP_ext' (l:=l) (x:=⟨p,bs,rs⟩) (g:=fun i=>(fun i=>[plC ⟨p,bs,rs⟩].getD i (lookT TT 34).z) (0+i)) rfl (by omega)
       generalize pushP l ⟨p,bs,rs⟩=M at hpl hpm hx h ⊢
       refine ⟨Wk.go [(4,.ptr 0 0),(8,.ptr 1 0),(10,slP M)] [.box [.int .i64 0,.nils,.nils,.nils],.box [.int .i64 yp,slI yb,slS yr]] ⟨⟨[some 2,some 5],[7],rfl,rfl,?_,?_⟩⟩ ?_⟩
       ·repeat' ((conv=>whnf); first|with_reducible exact True.intro|exact vW|with_reducible refine And.intro ?_ ?_)
        all_goals exact Chk.mk ⟨hx.1,by omega,hx.2⟩
       ·exact wq
       repeat' (first|refine vz ?_|(conv=>whnf); first|with_reducible first|refine Sp.mk ?_ ?_|refine br_d (fun _=>?_) fun _=>?_|refine vM (fun _=>?_) fun _=>?_)
       refine ⟨_,_,[],[],rfl,?_,?_,.inr ⟨⟨⟨yp,yb,yr⟩,M⟩,rfl,rfl,⟨⟨placeOk_short hp,by dsimp only; omega,fun x hx=>(hpm x hx).elim (hs.2.2 x) fun e=>e ▸ hs.1⟩⟩,?_⟩⟩
       ·exact wq
       ·exact wq
       dsimp only [deN,deO,npO]
       repeat' (first|refine vz ?_|(conv=>whnf); first|with_reducible first|refine Sp.mk ?_ ?_|refine br_d (fun _=>?_) fun _=>?_|refine vM (fun _=>?_) fun _=>?_)
       refine ⟨_,_,[some 2,some 3,some 4],[],rfl,rfl,?_,?_,h⟩
       ·exact wq
       ·exact wq
     ·rw [eS (hsame.1 rfl)] at hd
      cases hd
    ·rw [eB hp] at hd
     cases hd
end Go.Proofs.YtgdbhjmpkkbnnaaGreatDoor.Vc
end
section
/- Part NC: deeds at desks, one and many, with nested memory of their own. -/
namespace Go.Proofs.YtgdbhjmpkkbnnaaGreatDoor.Vc
open Go.Proofs
set_option maxRecDepth 10000
set_option maxHeartbeats 4000000
theorem sca_pl (x:Place):∀ v,v∈plC x→sca2 v:=by
 intro v hv
 simp only [plC,List.mem_cons,List.not_mem_nil,or_false] at hv
 rcases hv with rfl|rfl|rfl
 ·exact rfl
 ·exact fun _ _=>rfl
 ·exact fun _ _=>rfl
theorem sca_de (d:Desk):scaO (deO d):=⟨fun _ _=>rfl,fun _ _=>rfl,fun _ _ v hv=>sca_pl _ v hv,trivial⟩
def C239n:GC:=conG (X:=De) (fun x=>[enDe x.d,ded x.a]) (fun _=>[]) (fun x=>deskI x.d∧dedI x.a) fun x K=>K (.tup [deN (afterD x.d x.a),.bool (canD x.d x.a)]) (deO (afterD x.d x.a))
theorem F239n:GG 25 C239n:=by
 refine fitG [(48,C159)] (by simp only [List.mem_cons,List.not_mem_nil,or_false]; rintro _ rfl <;> first|exact F159) [(60,C254n)] (by simp only [List.mem_cons,List.not_mem_nil,or_false]; rintro _ rfl <;> first|exact F254n) Tryz.f25 ⟨rfl,by decide +kernel,by decide +kernel⟩ (by intro x K K2 hk h; (try dsimp only at h ⊢); intros; apply hk; first|exact h|(apply h <;> assumption)) ?_
 rintro ⟨⟨⟨p,bs,rs⟩,l⟩,⟨k,a,b,w⟩⟩ K ⟨hI,ha⟩ h
 refine ⟨Nat.le_of_ble_eq_true rfl,?_⟩
 replace h:K (.tup [deN (afterD ⟨⟨p,bs,rs⟩,l⟩ ⟨k,a,b,w⟩),.bool (canD ⟨⟨p,bs,rs⟩,l⟩ ⟨k,a,b,w⟩)]) (deO (afterD ⟨⟨p,bs,rs⟩,l⟩ ⟨k,a,b,w⟩)):=h
 unfold afterD canD at h
 dsimp only [enDe,deC,ded,encD] at hI ha ⊢
 repeat' (first|refine vz ?_|(conv=>whnf); first|with_reducible first|refine Sp.mk ?_ ?_|refine br_d (fun _=>?_) fun _=>?_|refine vM (fun _=>?_) fun _=>?_)
 refine ⟨⟨⟨p,bs,rs⟩,l⟩,?_,⟨hI⟩,?_⟩
 ·exact wq
 by_cases hO:deskOk ⟨⟨p,bs,rs⟩,l⟩
 ·rw [if_pos hO,decide_eq_true hO,Bool.true_and] at h
  repeat' (first|refine vz ?_|(conv=>whnf); first|with_reducible first|refine Sp.mk ?_ ?_|refine br_d (fun _=>?_) fun _=>?_|refine vM (fun _=>?_) fun _=>?_)
  refine ⟨_,_,[],[],rfl,?_,?_,⟨⟨⟨p,bs,rs⟩,l⟩,⟨k,a,b,w⟩⟩,rfl,rfl,⟨hI,hO,ha⟩,?_⟩
  ·exact wq
  ·exact wq
  dsimp only
  generalize (doD ⟨⟨p,bs,rs⟩,l⟩ ⟨k,a,b,w⟩).isSome=ok at h ⊢
  generalize (doD ⟨⟨p,bs,rs⟩,l⟩ ⟨k,a,b,w⟩).getD ⟨⟨p,bs,rs⟩,l⟩=e at h ⊢
  obtain ⟨⟨ep,eb,er⟩,el⟩:=e
  dsimp only [deN,deO,npO] at h ⊢
  repeat' (first|refine vz ?_|(conv=>whnf); first|with_reducible first|refine Sp.mk ?_ ?_|refine br_d (fun _=>?_) fun _=>?_|refine vM (fun _=>?_) fun _=>?_)
  refine ⟨_,_,[some 3,some 4,some 5],[],rfl,rfl,?_,?_,h⟩
  ·exact wq
  ·exact wq
 ·rw [if_neg hO,decide_eq_false hO,Bool.false_and] at h
  repeat' (first|refine vz ?_|(conv=>whnf); first|with_reducible first|refine Sp.mk ?_ ?_|refine br_d (fun _=>?_) fun _=>?_|refine vM (fun _=>?_) fun _=>?_)
  refine ⟨_,_,[none,none,none],[],rfl,rfl,?_,?_,h⟩
  ·exact wq
  ·exact wq
def C256n:GC:=conG (X:=Rn) (fun x=>[enDe x.d,slD x.l]) (fun _=>[]) rnPre fun x K=>K (.tup [deN (runD x.d x.l).1,.int .i64 ((runD x.d x.l).2:Nat)]) (deO (runD x.d x.l).1)
theorem F256n:GG 62 C256n:=by
 refine fitG [] (by simp) [(60,C254n),(56,C261n)] (by simp only [List.mem_cons,List.not_mem_nil,or_false]; rintro _ (rfl|rfl) <;> first|exact F254n|exact F261n) Tryz.f62 ⟨rfl,by decide +kernel,by decide +kernel⟩ (by intro x K K2 hk h; (try dsimp only at h ⊢); intros; apply hk; first|exact h|(apply h <;> assumption)) ?_
 rintro ⟨⟨⟨p,bs,rs⟩,past⟩,l⟩ K ⟨hO,hl,hll⟩ h
 refine ⟨Nat.le_of_ble_eq_true rfl,?_⟩
 dsimp only at hO hl hll h
 have hs:=deskOk_short hO
 dsimp only [enDe,deC] at h ⊢
 repeat' (first|refine vz ?_|(conv=>whnf); first|with_reducible first|refine Sp.mk ?_ ?_|refine br_d (fun _=>?_) fun _=>?_|refine vM (fun _=>?_) fun _=>?_)
 refine ⟨_,_,[],[],rfl,?_,?_,⟨⟨p,bs,rs⟩,past⟩,rfl,rfl,⟨hs⟩,?_⟩
 ·exact wq
 ·exact wq
 dsimp only [deN,deO,npO]
 repeat' (first|refine vz ?_|(conv=>whnf); first|with_reducible first|refine Sp.mk ?_ ?_|refine br_d (fun _=>?_) fun _=>?_|refine vM (fun _=>?_) fun _=>?_)
 refine Lp.mk ⟨Ri,fun x=>[(2,.ptr 1 0),(4,.ptr 0 0),(6,.int .i64 x.n),(13,slD l),(14,.int .i64 l.length),(15,.int .i64 x.i)],fun x=>[.box [.int .i64 0,.nils,.nils,.nils],.box [.int .i64 x.e.now.p,.row 2 1 0 x.e.now.bs.length,.row 3 1 0 x.e.now.rules.length,.row 4 3 0 x.e.past.length],.row 1 x.e.now.bs.length fun i=>encI (x.e.now.bs.getD i 0),.row 1 x.e.now.rules.length fun i=>encS (x.e.now.rules.getD i ⟨#[]⟩),npO x.e.past],fun x=>x.i≤l.length∧runD ⟨⟨p,bs,rs⟩,past⟩ (l.take x.i)=(x.e,x.n),fun x=>l.length-x.i,⟨⟨0,⟨⟨p,bs,rs⟩,past⟩,0⟩,⟨Nat.zero_le _,rfl⟩,?_⟩,?_⟩
 ·first|(refine ⟨⟨[some 1,some 0,some 2,some 3,some 4],[],rfl,rfl,?_,?_⟩⟩ <;> (repeat' ((conv=>whnf); first|with_reducible exact True.intro|exact vW|with_reducible refine And.intro ?_ ?_)) <;> fail)
 rintro ⟨i,⟨⟨ep,eb,er⟩,el⟩,n⟩ ⟨i1,i2⟩
 dsimp only [npO] at i1 i2 ⊢
 have hOe:deskOk ⟨⟨ep,eb,er⟩,el⟩:=by have:=runD_ok hO (l.take i); rw [i2] at this; exact this
 have hn:=runD_le ⟨⟨p,bs,rs⟩,past⟩ (l.take i)
 rw [i2,List.length_take] at hn
 dsimp only at hn
 by_cases hi:i<l.length
 ·have hst:=take_step hi
  have ha:=hl _ (getD_mem' (d:=default) hi)
  generalize hA:l.getD i default=A at ha hst
  have hA':l.getD (i:Int).toNat default=A:=hA
  repeat' (first|refine vz ?_|(conv=>whnf); first|with_reducible first|refine Sp.mk ?_ ?_|refine br_d (fun _=>?_) fun _=>?_|refine vM (fun _=>?_) fun _=>?_)
  refine ⟨_,_,[],[2,3,4],rfl,?_,?_,⟨⟨⟨ep,eb,er⟩,el⟩,A⟩,rfl,rfl,⟨deskOk_I hOe,hOe,ha⟩,⟨rfl,sca_de _⟩,?_⟩
  ·repeat' ((conv=>whnf); first|with_reducible exact True.intro|exact vW|with_reducible refine And.intro ?_ ?_)
   all_goals first|exact Chk.mk (by rw [hA'])|exact Chk.mk ⟨rfl,by omega,fun i _=>by dsimp only; (try rw [Nat.zero_add]); try rfl⟩
  ·exact wq
  dsimp only
  cases hd:doD ⟨⟨ep,eb,er⟩,el⟩ A with
  |none =>
   have hr:runD ⟨⟨p,bs,rs⟩,past⟩ (l.take (i+1))=(⟨⟨ep,eb,er⟩,el⟩,n):=by rw [hst,runD_none (by rw [i2]; exact hd),i2]
   dsimp only [deN,deO,npO,Option.getD_none,Option.isSome_none]
   repeat' (first|refine vz ?_|(conv=>whnf); first|with_reducible first|refine Sp.mk ?_ ?_|refine br_d (fun _=>?_) fun _=>?_|refine vM (fun _=>?_) fun _=>?_)
   refine ⟨⟨i+1,⟨⟨ep,eb,er⟩,el⟩,n⟩,⟨by dsimp only; omega,hr⟩,by dsimp only; omega,?_⟩
   first|(refine ⟨⟨[some 0,some 1,some 2,some 3,some 4],[],rfl,rfl,?_,?_⟩⟩ <;> (repeat' ((conv=>whnf); first|with_reducible exact True.intro|exact vW|with_reducible refine And.intro ?_ ?_)) <;> fail)
  |some e =>
   have hr:runD ⟨⟨p,bs,rs⟩,past⟩ (l.take (i+1))=(e,n+1):=by rw [hst,runD_some (by rw [i2]; exact hd),i2]
   obtain ⟨⟨fp,fb,fr⟩,fl⟩:=e
   dsimp only [deN,deO,npO,Option.getD_some,Option.isSome_some]
   repeat' (first|refine vz ?_|(conv=>whnf); first|with_reducible first|refine Sp.mk ?_ ?_|refine br_d (fun _=>?_) fun _=>?_|refine vM (fun _=>?_) fun _=>?_)
   refine ⟨⟨i+1,⟨⟨fp,fb,fr⟩,fl⟩,n+1⟩,⟨by dsimp only; omega,hr⟩,by dsimp only; omega,?_⟩
   first|(refine ⟨⟨[some 0,some 1,some 6,some 7,some 8],[],rfl,rfl,?_,?_⟩⟩ <;> (repeat' ((conv=>whnf); first|with_reducible exact True.intro|exact vW|with_reducible refine And.intro ?_ ?_)) <;> fail)|(refine ⟨⟨[some 0,some 1,some 7,some 8,some 9],[],rfl,rfl,?_,?_⟩⟩ <;> (repeat' ((conv=>whnf); first|with_reducible exact True.intro|exact vW|with_reducible refine And.intro ?_ ?_)) <;> fail)
 ·obtain rfl:i=l.length:=by omega
  rw [List.take_length] at i2
  rw [i2] at h
  dsimp only [deN,deO,npO] at h
  repeat' (first|refine vz ?_|(conv=>whnf); first|with_reducible first|refine Sp.mk ?_ ?_|refine br_d (fun _=>?_) fun _=>?_|refine vM (fun _=>?_) fun _=>?_)
  refine ⟨_,_,[some 2,some 3,some 4],[],rfl,rfl,?_,?_,h⟩
  ·exact wq
  ·exact wq
def C242n:GC:=conG (X:=Rn) (fun x=>[enDe x.d,slD x.l]) (fun _=>[]) (fun x=>deskI x.d∧(∀ a∈x.l,dedI a)∧x.l.length≤1048576) fun x K=>K (.tup [deN (runX x.d x.l).1,.int .i64 ((runX x.d x.l).2:Nat)]) (deO (runX x.d x.l).1)
theorem F242n:GG 29 C242n:=by
 refine fitG [(48,C159)] (by simp only [List.mem_cons,List.not_mem_nil,or_false]; rintro _ rfl <;> first|exact F159) [(62,C256n)] (by simp only [List.mem_cons,List.not_mem_nil,or_false]; rintro _ rfl <;> first|exact F256n) Tryz.f29 ⟨rfl,by decide +kernel,by decide +kernel⟩ (by intro x K K2 hk h; (try dsimp only at h ⊢); intros; apply hk; first|exact h|(apply h <;> assumption)) ?_
 rintro ⟨⟨⟨p,bs,rs⟩,past⟩,l⟩ K ⟨hI,hl,hll⟩ h
 refine ⟨Nat.le_of_ble_eq_true rfl,?_⟩
 dsimp only at hI hl hll h
 unfold runX at h
 dsimp only [enDe,deC] at ⊢
 repeat' (first|refine vz ?_|(conv=>whnf); first|with_reducible first|refine Sp.mk ?_ ?_|refine br_d (fun _=>?_) fun _=>?_|refine vM (fun _=>?_) fun _=>?_)
 refine ⟨⟨⟨p,bs,rs⟩,past⟩,?_,⟨hI⟩,?_⟩
 ·exact wq
 by_cases hO:deskOk ⟨⟨p,bs,rs⟩,past⟩
 ·by_cases h40:l.length≤40
  ·rw [if_pos ⟨hO,h40⟩] at h
   repeat' (first|refine vz ?_|(conv=>whnf); first|with_reducible first|refine Sp.mk ?_ ?_|refine br_d (fun _=>?_) fun _=>?_|refine vM (fun _=>?_) fun _=>?_)
   refine ⟨_,_,[],[],rfl,?_,?_,⟨⟨⟨p,bs,rs⟩,past⟩,l⟩,rfl,rfl,⟨hO,hl,hll⟩,?_⟩
   ·exact wq
   ·exact wq
   dsimp only
   generalize runD ⟨⟨p,bs,rs⟩,past⟩ l=r at h ⊢
   obtain ⟨⟨⟨ep,eb,er⟩,el⟩,n⟩:=r
   dsimp only [deN,deO,npO] at h ⊢
   repeat' (first|refine vz ?_|(conv=>whnf); first|with_reducible first|refine Sp.mk ?_ ?_|refine br_d (fun _=>?_) fun _=>?_|refine vM (fun _=>?_) fun _=>?_)
   refine ⟨_,_,[some 2,some 3,some 4],[],rfl,rfl,?_,?_,h⟩
   ·exact wq
   ·exact wq
  ·rw [if_neg fun q=>h40 q.2] at h
   repeat' (first|refine vz ?_|(conv=>whnf); first|with_reducible first|refine Sp.mk ?_ ?_|refine br_d (fun _=>?_) fun _=>?_|refine vM (fun _=>?_) fun _=>?_)
   refine ⟨_,_,[none,none,none],[],rfl,rfl,?_,?_,h⟩
   ·exact wq
   ·exact wq
 ·rw [if_neg fun q=>hO q.1] at h
  repeat' (first|refine vz ?_|(conv=>whnf); first|with_reducible first|refine Sp.mk ?_ ?_|refine br_d (fun _=>?_) fun _=>?_|refine vM (fun _=>?_) fun _=>?_)
  refine ⟨_,_,[none,none,none],[],rfl,rfl,?_,?_,h⟩
  ·exact wq
  ·exact wq
end Go.Proofs.YtgdbhjmpkkbnnaaGreatDoor.Vc
end
section
/- Part NI: facts and contracts that the exact laws on desks with a past share. -/
namespace Go.Proofs.YtgdbhjmpkkbnnaaGreatDoor.Vc
open Go.Proofs
set_option maxRecDepth 10000
set_option maxHeartbeats 4000000
theorem mkN_bd {B:Nat}:∀ {l:List Place},(∀ x∈l,x.bs.length≤B∧x.rules.length≤B)→mkN l≤l.length*(1+B+B)
 |[],_=>Nat.zero_le _
 |x :: l,h=>by
  have h1:=h x List.mem_cons_self
  have h2:=mkN_bd (l:=l) fun y hy=>h y (List.mem_cons_of_mem _ hy)
  rw [mkN,List.length_cons,Nat.succ_mul]
  omega
theorem placeOk_len {x:Place} (h:placeOk x):x.bs.length≤1000000∧x.rules.length≤1000000:=⟨Nat.le_trans h.1.2.1 (by omega),Nat.le_trans h.2.1.2 (by omega)⟩
theorem placeOk_lenI {x:Place} (h:placeOk x):lenI x:=⟨by have:=(placeOk_len h).1; omega,by have:=(placeOk_len h).2; omega⟩
def okAn (d:Desk):Prop:=deskOk d∨d=default
theorem okAn_len {d:Desk} (h:okAn d):lenD d:=by
 rcases h with h|rfl
 ·exact ⟨placeOk_lenI h.1,by have:=h.2.1; omega,fun x hx=>placeOk_lenI (h.2.2 x hx)⟩
 ·exact ⟨⟨by decide,by decide⟩,by decide,fun x hx=>by cases hx⟩
theorem okAn_mds {d:Desk} (h:okAn d):mdsPre ⟨d,1⟩:=by
 rcases h with h|rfl
 ·have h1:=placeOk_len h.1
  have h2:=mkN_bd (l:=d.past) fun x hx=>placeOk_len (h.2.2 x hx)
  have h3:=h.2.1
  exact ⟨by dsimp only; omega,by dsimp only; omega,by dsimp only; omega,by dsimp only; omega,by dsimp only; omega,by dsimp only; omega⟩
 ·exact ⟨by decide,by decide,by decide,by decide,by decide,by decide⟩
theorem okAn_mkM {d:Desk} (h:okAn d):mkM d≤100000000:=by
 rcases h with h|rfl
 ·have h1:=placeOk_len h.1
  have h2:=mkN_bd (l:=d.past) fun x hx=>placeOk_len (h.2.2 x hx)
  have h3:=h.2.1
  unfold mkM
  omega
 ·decide
theorem fitDe_ok {d:Desk} (h:fitDe 1048576 d):okDe d:=⟨⟨by have:=h.1.1; omega,by have:=h.1.2.1; omega⟩,by have:=h.2.1; omega,fun x hx=>⟨by have:=(h.2.2 x hx).1; omega,by have:=(h.2.2 x hx).2.1; omega⟩⟩
theorem okDe_len {d:Desk} (h:okDe d):lenD d:=⟨⟨h.1.1,by have:=h.1.2; omega⟩,by have:=h.2.1; omega,fun x hx=>⟨(h.2.2 x hx).1,by have:=(h.2.2 x hx).2; omega⟩⟩
theorem okDe_mkN {d:Desk} (h:okDe d):mkN d.past≤2199024304128:=by
 have h2:=mkN_bd (l:=d.past) h.2.2
 have h3:=h.2.1
 omega
theorem okDe_mds {d:Desk} (h:okDe d):mdsPre ⟨d,1⟩:=by
 have h1:=okDe_mkN h
 have h2:=h.1
 have h3:=h.2.1
 unfold okPl at h2
 exact ⟨by dsimp only; omega,by dsimp only; omega,by dsimp only; omega,by dsimp only; omega,by dsimp only; omega,by dsimp only; omega⟩
theorem okDe_mkM {d:Desk} (h:okDe d):mkM d≤2200000000000:=by
 have h1:=okDe_mkN h
 have h2:=h.1
 unfold okPl at h2
 unfold mkM
 omega
theorem afterD_R (d:Desk) (a:Dd):okAn (afterD d a):=by
 unfold afterD
 by_cases h:deskOk d
 ·rw [if_pos h]
  cases e:doD d a with
  |none=>exact .inl h
  |some x=>exact .inl (doD_ok h e)
 ·rw [if_neg h]
  exact .inr rfl
theorem runX_R (d:Desk) (l:List Dd):okAn (runX d l).1:=by
 unfold runX
 by_cases h:deskOk d∧l.length≤40
 ·rw [if_pos h]
  exact .inl (runD_ok h.1 l)
 ·rw [if_neg h]
  exact .inr rfl
def C140d:GC:=conG (X:=Desk) (fun x=>[enDe x]) (fun _=>[]) okDe fun x K=>K (enDe x) []
theorem F140d:GG 10 C140d:=by
 refine fitG [(46,C129),(47,C163)] (by simp only [List.mem_cons,List.not_mem_nil,or_false]; rintro _ (rfl|rfl) <;> first|exact F129|exact F163) [] (by simp) Tryz.f10 ⟨rfl,by decide +kernel,by decide +kernel⟩ (by intro x K K2 hk h; (try dsimp only at h ⊢); intros; apply hk; first|exact h|(apply h <;> assumption)) ?_
 rintro ⟨⟨p,bs,rs⟩,l⟩ K ⟨h1,h2⟩ h
 refine ⟨Nat.le_of_ble_eq_true rfl,?_⟩
 dsimp only [enDe,deC] at h1 h2 h ⊢
 repeat' (first|refine vz ?_|(conv=>whnf); first|with_reducible first|refine Sp.mk ?_ ?_|refine br_d (fun _=>?_) fun _=>?_|refine vM (fun _=>?_) fun _=>?_)
 refine ⟨⟨p,bs,rs⟩,?_,⟨h1⟩,?_⟩
 ·exact wq
 dsimp only [enPl,plC]
 repeat' (first|refine vz ?_|(conv=>whnf); first|with_reducible first|refine Sp.mk ?_ ?_|refine br_d (fun _=>?_) fun _=>?_|refine vM (fun _=>?_) fun _=>?_)
 refine ⟨l,?_,⟨h2⟩,?_⟩
 ·exact wq
 repeat' (first|refine vz ?_|(conv=>whnf); first|with_reducible first|refine Sp.mk ?_ ?_|refine br_d (fun _=>?_) fun _=>?_|refine vM (fun _=>?_) fun _=>?_)
 refine ⟨_,_,[],[],rfl,rfl,?_,?_,h⟩
 ·exact wq
 ·exact wq
def C140o:GC:=fun us og K=>C140n us og K∨C140d us og K
theorem F140o:GG 10 C140o:=fun w hw=>orG (F140n w hw) (F140d w hw)
end Go.Proofs.YtgdbhjmpkkbnnaaGreatDoor.Vc
end
section
/- Part NJ: the law that deeds at desks share no memory. -/
namespace Go.Proofs.YtgdbhjmpkkbnnaaGreatDoor.Vc
open Go.Proofs
set_option maxRecDepth 100000
set_option maxHeartbeats 8000000
def C270:List AV→(AV→Prop)→Prop:=con (X:=Desk × Dd) (fun x=>[enDe x.1,ded x.2]) (fun x=>deskI x.1∧dedI x.2) fun _ K=>K (.bool true)
theorem F270:FF 5 C270:=by
 refine fitX [(8,C138),(22,C107),(24,C108),(23,C183),(12,C141),(14,C150n)] (by simp only [List.mem_cons,List.not_mem_nil,or_false]; rintro _ (rfl|rfl|rfl|rfl|rfl|rfl) <;> first|exact F138|exact F107|exact F108|exact F183|exact F141|exact F150n) [(10,C140o),(25,C239n),(13,C149n)] (by simp only [List.mem_cons,List.not_mem_nil,or_false]; rintro _ (rfl|rfl|rfl) <;> first|exact F140o|exact F239n|exact F149n) Tryz.f5 ⟨rfl,by decide +kernel,by decide +kernel⟩ (fun _ _ _ hk h=>hk _ h) ?_
 rintro ⟨⟨⟨p,bs,rs⟩,l⟩,⟨k,a,b,w⟩⟩ K ⟨hI,hD⟩ h
 refine ⟨Nat.le_of_ble_eq_true rfl,?_⟩
 dsimp only [enDe,deC,ded,encD] at hI hD ⊢
 repeat' (first|refine vz ?_|(conv=>whnf); first|with_reducible first|refine Sp.mk ?_ ?_|refine br_d (fun _=>?_) fun _=>?_|refine vM (fun _=>?_) fun _=>?_)
 refine ⟨(⟨⟨p,bs,rs⟩,l⟩,1048576),?_,⟨hI,by dsimp only; omega,by dsimp only; omega⟩,?_⟩
 ·exact wq
 intro v v1 v2 v3
 dsimp only at v2 v3
 repeat' (first|refine vz ?_|(conv=>whnf); first|with_reducible first|refine Sp.mk ?_ ?_|refine br_d (fun _=>?_) fun _=>?_|refine vM (fun _=>?_) fun _=>?_)
 ·exact h
 rename_i hv
 have hok:=fitDe_ok (v3 (by omega))
 refine ⟨(⟨k,a,b,w⟩,v),?_,⟨hD.2.2.2,by dsimp only; omega,by dsimp only; omega⟩,?_⟩
 ·exact wq
 dsimp only
 by_cases hw:v-w.size<0
 ·rw [if_pos hw]
  repeat' (first|refine vz ?_|(conv=>whnf); first|with_reducible first|refine Sp.mk ?_ ?_|refine br_d (fun _=>?_) fun _=>?_|refine vM (fun _=>?_) fun _=>?_)
  exact h
 rw [if_neg hw]
 have hR:=afterD_R ⟨⟨p,bs,rs⟩,l⟩ ⟨k,a,b,w⟩
 obtain ⟨e,he⟩:∃ e,afterD ⟨⟨p,bs,rs⟩,l⟩ ⟨k,a,b,w⟩=e:=⟨_,rfl⟩
 obtain ⟨o,ho⟩:∃ o,canD ⟨⟨p,bs,rs⟩,l⟩ ⟨k,a,b,w⟩=o:=⟨_,rfl⟩
 rw [he] at hR
 have e1:=okAn_len hR
 have e2:=okAn_mds hR
 have e3:=okAn_mkM hR
 have d1:=okDe_len hok
 have d2:=okDe_mds hok
 have d3:=okDe_mkM hok
 obtain ⟨⟨ep,eb,er⟩,el⟩:=e
 have hbb:(o == o)=true:=beq_self_eq_true _
 apply later
 ·intro key
  repeat' (first|refine vz ?_|(conv=>whnf); first|with_reducible first|refine Sp.mk ?_ ?_|refine br_d (fun _=>?_) fun _=>?_|refine vM (fun _=>?_) fun _=>?_)
  refine Dr.mk ⟨(.rd 0 (.rd 2 (.ef 1 (.ef 3 (.ef 4 (.rd 5 (.rd 6 (.rd 7 (.ef 8 (.ef 9 (.rd 10 .dn) .no) .no)))) (.ef 8 (.ef 4 (.rd 5 (.rd 6 (.rd 7 (.ef 9 (.rd 10 .dn) .no)))) .no) .no)) (.ef 8 (.ef 3 (.ef 4 (.rd 5 (.rd 6 (.rd 7 (.ef 9 (.rd 10 .dn) .no)))) .no) .no) .no)) (.ef 8 (.ef 1 (.ef 3 (.ef 4 (.rd 5 (.rd 6 (.rd 7 (.ef 9 (.rd 10 .dn) .no)))) .no) .no) .no) .no)))),by decide +kernel,?_⟩
  repeat' (first|refine vz ?_|(conv=>whnf); first|with_reducible first|refine Sp.mk ?_ ?_|refine br_d (fun _=>?_) fun _=>?_|refine vM (fun _=>?_) fun _=>?_)
  all_goals
   refine ⟨_,_,[],[],rfl,?_,?_,.inr ⟨⟨⟨p,bs,rs⟩,l⟩,rfl,rfl,⟨hok⟩,?_⟩⟩
   ·exact wq
   ·exact wq
   dsimp only [enDe,deC,deN,deO,npO]
   repeat' (first|refine vz ?_|(conv=>whnf); first|with_reducible first|refine Sp.mk ?_ ?_|refine br_d (fun _=>?_) fun _=>?_|refine vM (fun _=>?_) fun _=>?_)
  all_goals
   refine ⟨⟨k,a,b,w⟩,?_,⟨trivial⟩,?_⟩
   ·exact wq
   dsimp only [ded,encD]
   repeat' (first|refine vz ?_|(conv=>whnf); first|with_reducible first|refine Sp.mk ?_ ?_|refine br_d (fun _=>?_) fun _=>?_|refine vM (fun _=>?_) fun _=>?_)
  all_goals
   refine ⟨⟨⟨⟨p,bs,rs⟩,l⟩,⟨k,a,b,w⟩⟩,?_,⟨hI,hD⟩,?_⟩
   ·exact wq
   dsimp only
   rw [he,ho]
   dsimp only [enDe,deC]
   repeat' ((conv=>whnf); first|with_reducible refine wk_at 9 ?_|with_reducible refine wk_at1 9 ?_|with_reducible refine wk_at2 9 ?_|refine vA ?_|with_reducible first|refine v8 ?_|refine Ch.l ?_|refine Sp.mk ?_ ?_|refine vS ?_|refine vR ?_|refine vB ?_|refine br_nt ?_|refine br_tt ?_|refine br_ff ?_|refine vP ?_|refine vQ ?_|refine vT ?_|refine vF ?_|refine br_and ?_|refine br_or ?_|refine br_d (fun _=>?_) fun _=>?_|refine vM (fun _=>?_) fun _=>?_)
  all_goals
   refine ⟨Wk.go [(2,.ptr 0 0),(3,.ptr 1 0),(6,.ptr 2 0),(7,.bool o)] [.box (deC ⟨⟨p,bs,rs⟩,l⟩),.box [.int .i64 k,.int .i64 a,.int .i64 b,.str w],.box (deC ⟨⟨ep,eb,er⟩,el⟩)] ⟨⟨[some 0,some 1,some 2],[],rfl,rfl,?_,?_⟩⟩ ?_⟩
   ·exact wq
   ·exact wq
   exact key.t
 dsimp only [deC]
 apply later
 ·intro key
  repeat' (first|refine vz ?_|(conv=>whnf); first|with_reducible first|refine Sp.mk ?_ ?_|refine br_d (fun _=>?_) fun _=>?_|refine vM (fun _=>?_) fun _=>?_)
  refine ⟨_,_,[],[],rfl,?_,?_,.inl ⟨⟨⟨p,bs,rs⟩,l⟩,rfl,rfl,⟨hok⟩,?_⟩⟩
  ·exact wq
  ·exact wq
  dsimp only [enDe,deC,deN,deO,npO]
  repeat' (first|refine vz ?_|(conv=>whnf); first|with_reducible first|refine Sp.mk ?_ ?_|refine br_d (fun _=>?_) fun _=>?_|refine vM (fun _=>?_) fun _=>?_)
  refine Dr.mk ⟨(.rd 0 (.rd 1 (.ef 2 (.ef 3 (.rd 4 (.rd 5 (.rd 6 (.ef 7 (.ef 8 (.rd 9 .dn) .no) .no)))) (.ef 7 (.ef 3 (.rd 4 (.rd 5 (.rd 6 (.ef 8 (.rd 9 .dn) .no)))) .no) .no)) (.ef 7 (.ef 2 (.ef 3 (.rd 4 (.rd 5 (.rd 6 (.ef 8 (.rd 9 .dn) .no)))) .no) .no) .no)))),by decide +kernel,?_⟩
  repeat' (first|refine vz ?_|(conv=>whnf); first|with_reducible first|refine Sp.mk ?_ ?_|refine br_d (fun _=>?_) fun _=>?_|refine vM (fun _=>?_) fun _=>?_)
  all_goals
   refine ⟨⟨k,a,b,w⟩,?_,⟨trivial⟩,?_⟩
   ·exact wq
   dsimp only [ded,encD]
   repeat' (first|refine vz ?_|(conv=>whnf); first|with_reducible first|refine Sp.mk ?_ ?_|refine br_d (fun _=>?_) fun _=>?_|refine vM (fun _=>?_) fun _=>?_)
  all_goals
   refine ⟨_,_,[],[3,4,5],rfl,?_,?_,⟨⟨⟨p,bs,rs⟩,l⟩,⟨k,a,b,w⟩⟩,rfl,rfl,⟨hI,hD⟩,⟨rfl,sca_de _⟩,?_⟩
   ·repeat' ((conv=>whnf); first|with_reducible exact True.intro|exact vW|with_reducible refine And.intro ?_ ?_)
    all_goals exact Chk.mk ⟨rfl,by omega,fun i _=>by dsimp only; rw [Nat.zero_add]⟩
   ·exact wq
   dsimp only
   rw [he,ho]
   dsimp only [deN,deO,npO]
   repeat' ((conv=>whnf); first|with_reducible refine wk_at 11 ?_|with_reducible refine wk_at1 11 ?_|with_reducible refine wk_at2 11 ?_|refine vA ?_|with_reducible first|refine v8 ?_|refine Ch.l ?_|refine Sp.mk ?_ ?_|refine vS ?_|refine vR ?_|refine vB ?_|refine br_nt ?_|refine br_tt ?_|refine br_ff ?_|refine vP ?_|refine vQ ?_|refine vT ?_|refine vF ?_|refine br_and ?_|refine br_or ?_|refine br_d (fun _=>?_) fun _=>?_|refine vM (fun _=>?_) fun _=>?_)
  all_goals
   first
    |(refine ⟨Wk.go [(2,.ptr 0 0),(3,.ptr 1 0),(6,.ptr 2 0),(7,.bool o),(8,.ptr 3 0),(9,.ptr 4 0),(10,.bool o)] [.box (deC ⟨⟨p,bs,rs⟩,l⟩),.box [.int .i64 k,.int .i64 a,.int .i64 b,.str w],.box (deC ⟨⟨ep,eb,er⟩,el⟩),.box [.int .i64 p,.row 5 1 0 bs.length,.row 6 1 0 rs.length,.row 7 3 0 l.length],.box [.int .i64 ep,.row 8 1 0 eb.length,.row 9 1 0 er.length,.row 10 3 0 el.length],.row 1 bs.length fun i=>encI (bs.getD i 0),.row 1 rs.length fun i=>encS (rs.getD i ⟨#[]⟩),npO l,.row 1 eb.length fun i=>encI (eb.getD i 0),.row 1 er.length fun i=>encS (er.getD i ⟨#[]⟩),npO el] ⟨⟨[some 0,some 1,some 2,some 6,some 10,some 3,some 4,some 5,some 7,some 8,some 9],[],rfl,rfl,?_,?_⟩⟩ (by exact key.t)⟩ <;> (repeat' ((conv=>whnf); first|with_reducible exact True.intro|exact vW|with_reducible refine And.intro ?_ ?_)) <;> fail)
    |(refine ⟨Wk.go [(2,.ptr 0 0),(3,.ptr 1 0),(6,.ptr 2 0),(7,.bool o),(8,.ptr 3 0),(9,.ptr 4 0),(10,.bool o)] [.box (deC ⟨⟨p,bs,rs⟩,l⟩),.box [.int .i64 k,.int .i64 a,.int .i64 b,.str w],.box (deC ⟨⟨ep,eb,er⟩,el⟩),.box [.int .i64 p,.row 5 1 0 bs.length,.row 6 1 0 rs.length,.row 7 3 0 l.length],.box [.int .i64 ep,.row 8 1 0 eb.length,.row 9 1 0 er.length,.row 10 3 0 el.length],.row 1 bs.length fun i=>encI (bs.getD i 0),.row 1 rs.length fun i=>encS (rs.getD i ⟨#[]⟩),npO l,.row 1 eb.length fun i=>encI (eb.getD i 0),.row 1 er.length fun i=>encS (er.getD i ⟨#[]⟩),npO el] ⟨⟨[some 0,some 1,some 2,some 6,some 7,some 3,some 4,some 5,some 8,some 9,some 10],[],rfl,rfl,?_,?_⟩⟩ (by exact key.t)⟩ <;> (repeat' ((conv=>whnf); first|with_reducible exact True.intro|exact vW|with_reducible refine And.intro ?_ ?_)) <;> fail)
 dsimp only [deC,npO]
 repeat' (first|refine vz ?_|(conv=>whnf); first|with_reducible first|refine Sp.mk ?_ ?_|refine br_d (fun _=>?_) fun _=>?_|refine vM (fun _=>?_) fun _=>?_)
 refine ⟨⟨⟨ep,eb,er⟩,el⟩,?_,⟨e1⟩,?_⟩
 ·repeat' ((conv=>whnf); first|with_reducible exact True.intro|exact vW|with_reducible refine And.intro ?_ ?_)
  all_goals exact Chk.mk ⟨rfl,fun i _=>by dsimp only; rw [Nat.zero_add]⟩
 repeat' (first|refine vz ?_|(conv=>whnf); first|with_reducible first|refine Sp.mk ?_ ?_|refine br_d (fun _=>?_) fun _=>?_|refine vM (fun _=>?_) fun _=>?_)
 refine Dr.mk ⟨(.rd 0 (.rd 1 (.ef 2 (.ef 3 (.rd 4 .dn) .no) .no))),by decide +kernel,?_⟩
 repeat' (first|refine vz ?_|(conv=>whnf); first|with_reducible first|refine Sp.mk ?_ ?_|refine br_d (fun _=>?_) fun _=>?_|refine vM (fun _=>?_) fun _=>?_)
 refine ⟨_,_,[],[],rfl,?_,?_,.inr ⟨⟨⟨p,bs,rs⟩,l⟩,rfl,rfl,⟨hok⟩,?_⟩⟩
 ·exact wq
 ·exact wq
 dsimp only [enDe,deC,deN,deO,npO]
 repeat' (first|refine vz ?_|(conv=>whnf); first|with_reducible first|refine Sp.mk ?_ ?_|refine br_d (fun _=>?_) fun _=>?_|refine vM (fun _=>?_) fun _=>?_)
 refine ⟨⟨⟨p,bs,rs⟩,l⟩,?_,⟨d1⟩,?_⟩
 ·repeat' ((conv=>whnf); first|with_reducible exact True.intro|exact vW|with_reducible refine And.intro ?_ ?_)
  all_goals exact Chk.mk ⟨rfl,fun i _=>by dsimp only; rw [Nat.zero_add]⟩
 repeat' (first|refine vz ?_|(conv=>whnf); first|with_reducible first|refine Sp.mk ?_ ?_|refine br_d (fun _=>?_) fun _=>?_|refine vM (fun _=>?_) fun _=>?_)
 refine ⟨_,_,[5,6,7],[],rfl,?_,?_,⟨⟨⟨p,bs,rs⟩,l⟩,1⟩,rfl,rfl,⟨d2⟩,?_⟩
 ·exact wq
 ·exact wq
 dsimp only
 rw [deM_eq]
 dsimp only [deM]
 repeat' (first|refine vz ?_|(conv=>whnf); first|with_reducible first|refine Sp.mk ?_ ?_|refine br_d (fun _=>?_) fun _=>?_|refine vM (fun _=>?_) fun _=>?_)
 refine ⟨⟨⟨ep,eb,er⟩,el⟩,?_,⟨e1⟩,?_⟩
 ·repeat' ((conv=>whnf); first|with_reducible exact True.intro|exact vW|with_reducible refine And.intro ?_ ?_)
  all_goals exact Chk.mk ⟨rfl,fun i _=>by dsimp only; rw [Nat.zero_add]⟩
 repeat' (first|refine vz ?_|(conv=>whnf); first|with_reducible first|refine Sp.mk ?_ ?_|refine br_d (fun _=>?_) fun _=>?_|refine vM (fun _=>?_) fun _=>?_)
 refine ⟨_,_,[8,9,10],[],rfl,?_,?_,⟨⟨⟨ep,eb,er⟩,el⟩,1⟩,rfl,rfl,⟨e2⟩,?_⟩
 ·exact wq
 ·exact wq
 dsimp only
 rw [deM_eq]
 dsimp only [deM]
 repeat' (first|refine vz ?_|(conv=>whnf); first|with_reducible first|refine Sp.mk ?_ ?_|refine br_d (fun _=>?_) fun _=>?_|refine vM (fun _=>?_) fun _=>?_)
 refine ⟨⟨⟨⟨ep,eb,er⟩,el⟩,1⟩,?_,⟨e2⟩,?_⟩
 ·repeat' ((conv=>whnf); first|with_reducible exact True.intro|exact vW|with_reducible refine And.intro ?_ ?_)
  all_goals first|exact Chk.mk ⟨(mksI_len _ _).symm,fun i _=>by dsimp only; rw [Nat.zero_add]; rfl⟩|exact Chk.mk ⟨(mksS_len _ _).symm,fun i _=>by dsimp only; rw [Nat.zero_add]; rfl⟩|exact Chk.mk ⟨(mkPs_len _ _).symm,fun i _=>by dsimp only; rw [Nat.zero_add]; rfl⟩
 dsimp only
 repeat' (first|refine vz ?_|(conv=>whnf); first|with_reducible first|refine Sp.mk ?_ ?_|refine br_d (fun _=>?_) fun _=>?_|refine vM (fun _=>?_) fun _=>?_)
 apply later
 ·intro key
  refine Dr.mk ⟨(.rd 0 (.rd 2 (.ef 1 (.ef 3 (.ef 4 (.rd 5 (.rd 6 (.rd 7 (.ef 8 (.ef 9 (.rd 10 .dn) .no) .no)))) (.ef 8 (.ef 4 (.rd 5 (.rd 6 (.rd 7 (.ef 9 (.rd 10 .dn) .no)))) .no) .no)) (.ef 8 (.ef 3 (.ef 4 (.rd 5 (.rd 6 (.rd 7 (.ef 9 (.rd 10 .dn) .no)))) .no) .no) .no)) (.ef 8 (.ef 1 (.ef 3 (.ef 4 (.rd 5 (.rd 6 (.rd 7 (.ef 9 (.rd 10 .dn) .no)))) .no) .no) .no) .no)))),by decide +kernel,?_⟩
  repeat' (first|refine vz ?_|(conv=>whnf); first|with_reducible first|refine Sp.mk ?_ ?_|refine br_d (fun _=>?_) fun _=>?_|refine vM (fun _=>?_) fun _=>?_)
  all_goals
   refine ⟨_,_,[],[],rfl,?_,?_,.inr ⟨⟨⟨p,bs,rs⟩,l⟩,rfl,rfl,⟨hok⟩,?_⟩⟩
   ·exact wq
   ·exact wq
   dsimp only [enDe,deC,deN,deO,npO]
   repeat' (first|refine vz ?_|(conv=>whnf); first|with_reducible first|refine Sp.mk ?_ ?_|refine br_d (fun _=>?_) fun _=>?_|refine vM (fun _=>?_) fun _=>?_)
  all_goals
   refine ⟨⟨k,a,b,w⟩,?_,⟨trivial⟩,?_⟩
   ·exact wq
   dsimp only [ded,encD]
   repeat' (first|refine vz ?_|(conv=>whnf); first|with_reducible first|refine Sp.mk ?_ ?_|refine br_d (fun _=>?_) fun _=>?_|refine vM (fun _=>?_) fun _=>?_)
  all_goals
   refine ⟨_,_,[],[],rfl,?_,?_,⟨⟨⟨p,bs,rs⟩,l⟩,⟨k,a,b,w⟩⟩,rfl,rfl,⟨hI,hD⟩,?_⟩
   ·exact wq
   ·exact wq
   dsimp only
   rw [he,ho]
   dsimp only [deN,deO,npO]
   repeat' ((conv=>whnf); first|with_reducible refine wk_at 28 ?_|with_reducible refine wk_at1 28 ?_|with_reducible refine wk_at2 28 ?_|refine vA ?_|with_reducible first|refine v8 ?_|refine Ch.l ?_|refine Sp.mk ?_ ?_|refine vS ?_|refine vR ?_|refine vB ?_|refine br_nt ?_|refine br_tt ?_|refine br_ff ?_|refine vP ?_|refine vQ ?_|refine vT ?_|refine vF ?_|refine br_and ?_|refine br_or ?_|refine br_d (fun _=>?_) fun _=>?_|refine vM (fun _=>?_) fun _=>?_)
  all_goals
   first
    |(refine ⟨Wk.go [(6,.ptr 0 0),(7,.bool o),(9,.ptr 1 0),(12,.int .i64 (1+(mkM ⟨⟨ep,eb,er⟩,el⟩:Nat))),(14,.ptr 2 0),(15,.bool o)] [.box (deC ⟨⟨ep,eb,er⟩,el⟩),.box [.int .i64 ep,.row 3 1 0 eb.length,.row 4 1 0 er.length,.row 5 3 0 el.length],.box [.int .i64 ep,.row 6 1 0 eb.length,.row 7 1 0 er.length,.row 8 3 0 el.length],.row 1 eb.length fun i=>encI ((mksI 1 eb.length).getD i 0),.row 1 er.length fun i=>encS ((mksS (1+eb.length) er.length).getD i ⟨#[]⟩),.nrow 3 el.length (fun i=>plC ((mkPs el (1+eb.length+er.length)).getD i default)) none,.row 1 eb.length fun i=>encI (eb.getD i 0),.row 1 er.length fun i=>encS (er.getD i ⟨#[]⟩),npO el] ⟨⟨[some 2,some 4,some 14,some 8,some 9,some 10,some 11,some 12,some 13],[],rfl,rfl,?_,?_⟩⟩ (by exact key.t)⟩ <;> (repeat' ((conv=>whnf); first|with_reducible exact True.intro|exact vW|with_reducible refine And.intro ?_ ?_)) <;> fail)
    |(refine ⟨Wk.go [(6,.ptr 0 0),(7,.bool o),(9,.ptr 1 0),(12,.int .i64 (1+(mkM ⟨⟨ep,eb,er⟩,el⟩:Nat))),(14,.ptr 2 0),(15,.bool o)] [.box (deC ⟨⟨ep,eb,er⟩,el⟩),.box [.int .i64 ep,.row 3 1 0 eb.length,.row 4 1 0 er.length,.row 5 3 0 el.length],.box [.int .i64 ep,.row 6 1 0 eb.length,.row 7 1 0 er.length,.row 8 3 0 el.length],.row 1 eb.length fun i=>encI ((mksI 1 eb.length).getD i 0),.row 1 er.length fun i=>encS ((mksS (1+eb.length) er.length).getD i ⟨#[]⟩),.nrow 3 el.length (fun i=>plC ((mkPs el (1+eb.length+er.length)).getD i default)) none,.row 1 eb.length fun i=>encI (eb.getD i 0),.row 1 er.length fun i=>encS (er.getD i ⟨#[]⟩),npO el] ⟨⟨[some 2,some 4,some 11,some 8,some 9,some 10,some 12,some 13,some 14],[],rfl,rfl,?_,?_⟩⟩ (by exact key.t)⟩ <;> (repeat' ((conv=>whnf); first|with_reducible exact True.intro|exact vW|with_reducible refine And.intro ?_ ?_)) <;> fail)
 dsimp only [deC,npO]
 repeat' (first|refine vz ?_|(conv=>whnf); first|with_reducible first|refine Sp.mk ?_ ?_|refine br_d (fun _=>?_) fun _=>?_|refine vM (fun _=>?_) fun _=>?_)
 refine ⟨⟨⟨ep,eb,er⟩,el⟩,?_,⟨e1⟩,?_⟩
 ·repeat' ((conv=>whnf); first|with_reducible exact True.intro|exact vW|with_reducible refine And.intro ?_ ?_)
  all_goals exact Chk.mk ⟨rfl,fun i _=>by dsimp only; rw [Nat.zero_add]⟩
 repeat' (first|refine vz ?_|(conv=>whnf); first|with_reducible first|refine Sp.mk ?_ ?_|refine br_d (fun _=>?_) fun _=>?_|refine vM (fun _=>?_) fun _=>?_)
 refine ⟨⟨⟨⟨ep,eb,er⟩,el⟩,1⟩,?_,⟨e2⟩,?_⟩
 ·repeat' ((conv=>whnf); first|with_reducible exact True.intro|exact vW|with_reducible refine And.intro ?_ ?_)
  all_goals first|exact Chk.mk ⟨(mksI_len _ _).symm,fun i _=>by dsimp only; rw [Nat.zero_add]; rfl⟩|exact Chk.mk ⟨(mksS_len _ _).symm,fun i _=>by dsimp only; rw [Nat.zero_add]; rfl⟩|exact Chk.mk ⟨(mkPs_len _ _).symm,fun i _=>by dsimp only; rw [Nat.zero_add]; rfl⟩
 dsimp only
 repeat' (first|refine vz ?_|(conv=>whnf); first|with_reducible first|refine Sp.mk ?_ ?_|refine br_d (fun _=>?_) fun _=>?_|refine vM (fun _=>?_) fun _=>?_)
 exact h
end Go.Proofs.YtgdbhjmpkkbnnaaGreatDoor.Vc
end
section
/- Part NK: lists of deeds and of texts as inputs, in memory of their own or as data. -/
namespace Go.Proofs.YtgdbhjmpkkbnnaaGreatDoor.Vc
open Go.Proofs
set_option maxRecDepth 10000
set_option maxHeartbeats 4000000
def C113g:GC:=conG (X:=List Dd) (fun l=>[slD l]) (fun _=>[]) (fun l=>l.length≤1048576) fun l K=>K (.row 0 4 0 l.length) [.row 4 l.length fun i=>encD (l.getD i default)]
def C113d:GC:=conG (X:=List Dd) (fun l=>[slD l]) (fun _=>[]) (fun l=>l.length≤1048576) fun l K=>K (slD l) []
theorem F113g:GG 28 C113g:=by
 refine fitG [(24,C108)] (by simp only [List.mem_cons,List.not_mem_nil,or_false]; rintro _ rfl <;> first|exact F108) [] (by simp) Tryz.f28 ⟨rfl,by decide +kernel,by decide +kernel⟩ (by intro x K K2 hk h; (try dsimp only at h ⊢); intros; apply hk; first|exact h|(apply h <;> assumption)) ?_
 rintro l K h1 h
 refine ⟨Nat.le_of_ble_eq_true rfl,?_⟩
 repeat' ((conv=>whnf); first|((with_reducible refine And.intro (Chk.mk ?_) ?_); (focus (refine ⟨rfl,?_,?_,?_⟩; (focus omega); (focus omega); (focus (show (40:Int)*_≤_; omega)))))|refine vA ?_|with_reducible first|refine v8 ?_|refine Ch.l ?_|refine Sp.mk ?_ ?_|refine vS ?_|refine vR ?_|refine vB ?_|refine br_nt ?_|refine br_tt ?_|refine br_ff ?_|refine vP ?_|refine vQ ?_|refine vT ?_|refine vF ?_|refine br_and ?_|refine br_or ?_|refine br_d (fun _=>?_) fun _=>?_|refine vM (fun _=>?_) fun _=>?_)
 refine Lp.mk ⟨Nat,fun i=>[(0,slD l),(3,.row 0 4 0 l.length),(4,.int .i64 i)],fun i=>[.row 4 l.length (cpD l i)],fun i=>i≤l.length,fun i=>l.length-i,⟨0,Nat.zero_le _,⟨⟨[some 0],[],rfl,rfl,?_,?_⟩⟩⟩,?_⟩
 ·exact wq
 ·exact wq
 intro i i1
 dsimp only
 repeat' (first|refine vz ?_|(conv=>whnf); first|with_reducible first|refine Sp.mk ?_ ?_|refine br_d (fun _=>?_) fun _=>?_|refine vM (fun _=>?_) fun _=>?_)
 ·refine ⟨l.getD i default,?_,⟨trivial⟩,?_⟩
  ·exact wq
  repeat' (first|refine vz ?_|(conv=>whnf); first|with_reducible first|refine Sp.mk ?_ ?_|refine br_d (fun _=>?_) fun _=>?_|refine vM (fun _=>?_) fun _=>?_)
  refine ⟨i+1,by show i+1≤l.length; omega,by show l.length-(i+1)<l.length-i; omega,⟨⟨[some 0],[],rfl,rfl,?_,?_⟩⟩⟩
  ·exact wq
  ·repeat' ((conv=>whnf); first|with_reducible exact True.intro|exact vW|with_reducible refine And.intro ?_ ?_)
   exact Chk.mk ⟨rfl,fun j _=>by rw [cpD_step,Nat.zero_add,Int.toNat_natCast,cpD_at]; rfl⟩
 ·have he:∀ j,j<l.length→cpD l i j=encD (l.getD j default):=fun j _=>by
   have:=congrFun (cpD_end (l:=l) (i:=i) (by omega)) j
   rwa [Nat.zero_add] at this
  refine ⟨_,_,[some 0],[],rfl,rfl,?_,?_,h⟩
  ·exact wq
  ·repeat' ((conv=>whnf); first|with_reducible exact True.intro|exact vW|with_reducible refine And.intro ?_ ?_)
   all_goals exact Chk.mk ⟨rfl,fun j hj=>(he j hj).symm⟩
theorem F113d:GG 28 C113d:=by
 refine fitG [(24,C108)] (by simp only [List.mem_cons,List.not_mem_nil,or_false]; rintro _ rfl <;> first|exact F108) [] (by simp) Tryz.f28 ⟨rfl,by decide +kernel,by decide +kernel⟩ (by intro x K K2 hk h; (try dsimp only at h ⊢); intros; apply hk; first|exact h|(apply h <;> assumption)) ?_
 rintro l K h1 h
 refine ⟨Nat.le_of_ble_eq_true rfl,?_⟩
 repeat' ((conv=>whnf); first|((with_reducible refine And.intro (Chk.mk ?_) ?_); (focus (refine ⟨rfl,?_,?_,?_⟩; (focus omega); (focus omega); (focus (show (40:Int)*_≤_; omega)))))|refine vA ?_|with_reducible first|refine v8 ?_|refine Ch.l ?_|refine Sp.mk ?_ ?_|refine vS ?_|refine vR ?_|refine vB ?_|refine br_nt ?_|refine br_tt ?_|refine br_ff ?_|refine vP ?_|refine vQ ?_|refine vT ?_|refine vF ?_|refine br_and ?_|refine br_or ?_|refine br_d (fun _=>?_) fun _=>?_|refine vM (fun _=>?_) fun _=>?_)
 refine Lp.mk ⟨Nat,fun i=>[(0,slD l),(3,.row 0 4 0 l.length),(4,.int .i64 i)],fun i=>[.row 4 l.length (cpD l i)],fun i=>i≤l.length,fun i=>l.length-i,⟨0,Nat.zero_le _,⟨⟨[some 0],[],rfl,rfl,?_,?_⟩⟩⟩,?_⟩
 ·exact wq
 ·exact wq
 intro i i1
 dsimp only
 repeat' (first|refine vz ?_|(conv=>whnf); first|with_reducible first|refine Sp.mk ?_ ?_|refine br_d (fun _=>?_) fun _=>?_|refine vM (fun _=>?_) fun _=>?_)
 ·refine ⟨l.getD i default,?_,⟨trivial⟩,?_⟩
  ·exact wq
  repeat' (first|refine vz ?_|(conv=>whnf); first|with_reducible first|refine Sp.mk ?_ ?_|refine br_d (fun _=>?_) fun _=>?_|refine vM (fun _=>?_) fun _=>?_)
  refine ⟨i+1,by show i+1≤l.length; omega,by show l.length-(i+1)<l.length-i; omega,⟨⟨[some 0],[],rfl,rfl,?_,?_⟩⟩⟩
  ·exact wq
  ·repeat' ((conv=>whnf); first|with_reducible exact True.intro|exact vW|with_reducible refine And.intro ?_ ?_)
   exact Chk.mk ⟨rfl,fun j _=>by rw [cpD_step,Nat.zero_add,Int.toNat_natCast,cpD_at]; rfl⟩
 ·have he:∀ j,j<l.length→cpD l i j=encD (l.getD j default):=fun j _=>by
   have:=congrFun (cpD_end (l:=l) (i:=i) (by omega)) j
   rwa [Nat.zero_add] at this
  refine ⟨_,_,[],[0],rfl,rfl,?_,?_,h⟩
  ·repeat' ((conv=>whnf); first|with_reducible exact True.intro|exact vW|with_reducible refine And.intro ?_ ?_)
   all_goals exact Chk.mk ⟨rfl,by omega,fun j hj=>by rw [Nat.zero_add]; exact (he j hj).symm⟩
  ·exact wq
def C113o:GC:=fun us og K=>C113g us og K∨C113d us og K
theorem F113o:GG 28 C113o:=fun w hw=>orG (F113g w hw) (F113d w hw)
end Go.Proofs.YtgdbhjmpkkbnnaaGreatDoor.Vc
end
section
/- Part NL: the law that runs of deeds at desks share no memory. -/
namespace Go.Proofs.YtgdbhjmpkkbnnaaGreatDoor.Vc
open Go.Proofs
set_option maxRecDepth 100000
set_option maxHeartbeats 8000000
def C271:List AV→(AV→Prop)→Prop:=con (X:=Desk × List Dd) (fun x=>[enDe x.1,slD x.2]) (fun x=>deskI x.1∧x.2.length<9223372036854775808∧∀ a∈x.2,dedI a) fun _ K=>K (.bool true)
theorem F271:FF 6 C271:=by
 refine fitX [(8,C138),(26,C111),(30,C115),(27,C243),(12,C141),(14,C150n)] (by simp only [List.mem_cons,List.not_mem_nil,or_false]; rintro _ (rfl|rfl|rfl|rfl|rfl|rfl) <;> first|exact F138|exact F111|exact F115|exact F243|exact F141|exact F150n) [(10,C140o),(28,C113o),(29,C242n),(13,C149n),(31,C248)] (by simp only [List.mem_cons,List.not_mem_nil,or_false]; rintro _ (rfl|rfl|rfl|rfl|rfl) <;> first|exact F140o|exact F113o|exact F242n|exact F149n|exact F248) Tryz.f6 ⟨rfl,by decide +kernel,by decide +kernel⟩ (fun _ _ _ hk h=>hk _ h) ?_
 rintro ⟨⟨⟨p,bs,rs⟩,l⟩,L⟩ K ⟨hI,hL,hD⟩ h
 refine ⟨Nat.le_of_ble_eq_true rfl,?_⟩
 dsimp only [enDe,deC] at hI hL hD ⊢
 repeat' (first|refine vz ?_|(conv=>whnf); first|with_reducible first|refine Sp.mk ?_ ?_|refine br_d (fun _=>?_) fun _=>?_|refine vM (fun _=>?_) fun _=>?_)
 refine ⟨(⟨⟨p,bs,rs⟩,l⟩,1048576),?_,⟨hI,by dsimp only; omega,by dsimp only; omega⟩,?_⟩
 ·exact wq
 intro v v1 v2 v3
 dsimp only at v2 v3
 repeat' (first|refine vz ?_|(conv=>whnf); first|with_reducible first|refine Sp.mk ?_ ?_|refine br_d (fun _=>?_) fun _=>?_|refine vM (fun _=>?_) fun _=>?_)
 ·exact h
 rename_i hv
 have hok:=fitDe_ok (v3 (by omega))
 refine ⟨(L,v),?_,⟨hL,fun d hd=>(hD d hd).2.2.2,by dsimp only; omega,by dsimp only; omega⟩,?_⟩
 ·exact wq
 intro r hr
 dsimp only at hr
 by_cases hr0:r<0
 ·repeat' (first|refine vz ?_|(conv=>whnf); first|with_reducible first|refine Sp.mk ?_ ?_|refine br_d (fun _=>?_) fun _=>?_|refine vM (fun _=>?_) fun _=>?_)
  exact h
 have hlen:L.length≤1048576:=by have:=hr (by omega); omega
 have hR:=runX_R ⟨⟨p,bs,rs⟩,l⟩ L
 obtain ⟨e,he⟩:∃ e,(runX ⟨⟨p,bs,rs⟩,l⟩ L).1=e:=⟨_,rfl⟩
 obtain ⟨o,ho⟩:∃ o,(runX ⟨⟨p,bs,rs⟩,l⟩ L).2=o:=⟨_,rfl⟩
 rw [he] at hR
 have e1:=okAn_len hR
 have e2:=okAn_mds hR
 have e3:=okAn_mkM hR
 have d1:=okDe_len hok
 have d2:=okDe_mds hok
 have d3:=okDe_mkM hok
 obtain ⟨⟨ep,eb,er⟩,el⟩:=e
 repeat' (first|refine vz ?_|(conv=>whnf); first|with_reducible first|refine Sp.mk ?_ ?_|refine br_d (fun _=>?_) fun _=>?_|refine vM (fun _=>?_) fun _=>?_)
 refine ⟨_,_,[],[],rfl,?_,?_,.inr ⟨⟨⟨p,bs,rs⟩,l⟩,rfl,rfl,⟨hok⟩,?_⟩⟩
 ·exact wq
 ·exact wq
 dsimp only [enDe,deC,deN,deO,npO]
 repeat' (first|refine vz ?_|(conv=>whnf); first|with_reducible first|refine Sp.mk ?_ ?_|refine br_d (fun _=>?_) fun _=>?_|refine vM (fun _=>?_) fun _=>?_)
 refine ⟨_,_,[],[],rfl,?_,?_,.inr ⟨L,rfl,rfl,⟨hlen⟩,?_⟩⟩
 ·exact wq
 ·exact wq
 dsimp only
 repeat' (first|refine vz ?_|(conv=>whnf); first|with_reducible first|refine Sp.mk ?_ ?_|refine br_d (fun _=>?_) fun _=>?_|refine vM (fun _=>?_) fun _=>?_)
 refine ⟨⟨⟨⟨p,bs,rs⟩,l⟩,L⟩,?_,⟨hI,hD,hlen⟩,?_⟩
 ·exact wq
 dsimp only
 rw [he,ho]
 dsimp only [enDe,deC,deN,deO,npO]
 repeat' (first|refine vz ?_|(conv=>whnf); first|with_reducible first|refine Sp.mk ?_ ?_|refine br_d (fun _=>?_) fun _=>?_|refine vM (fun _=>?_) fun _=>?_)
 refine ⟨_,_,[],[],rfl,?_,?_,.inl ⟨⟨⟨p,bs,rs⟩,l⟩,rfl,rfl,⟨hok⟩,?_⟩⟩
 ·exact wq
 ·exact wq
 dsimp only [enDe,deC,deN,deO,npO]
 repeat' (first|refine vz ?_|(conv=>whnf); first|with_reducible first|refine Sp.mk ?_ ?_|refine br_d (fun _=>?_) fun _=>?_|refine vM (fun _=>?_) fun _=>?_)
 refine ⟨_,_,[],[],rfl,?_,?_,.inl ⟨L,rfl,rfl,⟨hlen⟩,?_⟩⟩
 ·exact wq
 ·exact wq
 dsimp only
 repeat' (first|refine vz ?_|(conv=>whnf); first|with_reducible first|refine Sp.mk ?_ ?_|refine br_d (fun _=>?_) fun _=>?_|refine vM (fun _=>?_) fun _=>?_)
 refine ⟨_,_,[],[2,3,4,6],rfl,?_,?_,⟨⟨⟨p,bs,rs⟩,l⟩,L⟩,rfl,rfl,⟨hI,hD,hlen⟩,⟨rfl,sca_de _⟩,?_⟩
 ·repeat' ((conv=>whnf); first|with_reducible exact True.intro|exact vW|with_reducible refine And.intro ?_ ?_)
  all_goals exact Chk.mk ⟨rfl,by omega,fun i _=>by dsimp only; rw [Nat.zero_add]⟩
 ·exact wq
 dsimp only
 rw [he,ho]
 dsimp only [enDe,deC,deN,deO,npO]
 repeat' (first|refine vz ?_|(conv=>whnf); first|with_reducible first|refine Sp.mk ?_ ?_|refine br_d (fun _=>?_) fun _=>?_|refine vM (fun _=>?_) fun _=>?_)
 refine ⟨⟨⟨ep,eb,er⟩,el⟩,?_,⟨e1⟩,?_⟩
 ·repeat' ((conv=>whnf); first|with_reducible exact True.intro|exact vW|with_reducible refine And.intro ?_ ?_)
  all_goals exact Chk.mk ⟨rfl,fun i _=>by dsimp only; rw [Nat.zero_add]⟩
 repeat' (first|refine vz ?_|(conv=>whnf); first|with_reducible first|refine Sp.mk ?_ ?_|refine br_d (fun _=>?_) fun _=>?_|refine vM (fun _=>?_) fun _=>?_)
 refine Dr.mk ⟨(.rd 0 (.rd 1 (.ef 2 (.ef 3 (.rd 4 .dn) .no) .no))),by decide +kernel,?_⟩
 repeat' (first|refine vz ?_|(conv=>whnf); first|with_reducible first|refine Sp.mk ?_ ?_|refine br_d (fun _=>?_) fun _=>?_|refine vM (fun _=>?_) fun _=>?_)
 refine ⟨_,_,[],[],rfl,?_,?_,.inr ⟨⟨⟨p,bs,rs⟩,l⟩,rfl,rfl,⟨hok⟩,?_⟩⟩
 ·exact wq
 ·exact wq
 dsimp only [enDe,deC,deN,deO,npO]
 repeat' (first|refine vz ?_|(conv=>whnf); first|with_reducible first|refine Sp.mk ?_ ?_|refine br_d (fun _=>?_) fun _=>?_|refine vM (fun _=>?_) fun _=>?_)
 refine ⟨⟨⟨p,bs,rs⟩,l⟩,?_,⟨d1⟩,?_⟩
 ·repeat' ((conv=>whnf); first|with_reducible exact True.intro|exact vW|with_reducible refine And.intro ?_ ?_)
  all_goals exact Chk.mk ⟨rfl,fun i _=>by dsimp only; rw [Nat.zero_add]⟩
 repeat' (first|refine vz ?_|(conv=>whnf); first|with_reducible first|refine Sp.mk ?_ ?_|refine br_d (fun _=>?_) fun _=>?_|refine vM (fun _=>?_) fun _=>?_)
 refine ⟨_,_,[],[],rfl,?_,?_,.inr ⟨L,rfl,rfl,⟨hlen⟩,?_⟩⟩
 ·exact wq
 ·exact wq
 dsimp only
 repeat' (first|refine vz ?_|(conv=>whnf); first|with_reducible first|refine Sp.mk ?_ ?_|refine br_d (fun _=>?_) fun _=>?_|refine vM (fun _=>?_) fun _=>?_)
 refine ⟨L,?_,⟨hlen⟩,?_⟩
 ·repeat' ((conv=>whnf); first|with_reducible exact True.intro|exact vW|with_reducible refine And.intro ?_ ?_)
  all_goals exact Chk.mk ⟨rfl,fun i _=>by dsimp only; rw [Nat.zero_add]⟩
 repeat' (first|refine vz ?_|(conv=>whnf); first|with_reducible first|refine Sp.mk ?_ ?_|refine br_d (fun _=>?_) fun _=>?_|refine vM (fun _=>?_) fun _=>?_)
 refine ⟨_,_,[2,3,4],[],rfl,?_,?_,⟨⟨⟨p,bs,rs⟩,l⟩,1⟩,rfl,rfl,⟨d2⟩,?_⟩
 ·exact wq
 ·exact wq
 dsimp only
 rw [deM_eq]
 dsimp only [deM]
 repeat' (first|refine vz ?_|(conv=>whnf); first|with_reducible first|refine Sp.mk ?_ ?_|refine br_d (fun _=>?_) fun _=>?_|refine vM (fun _=>?_) fun _=>?_)
 refine ⟨_,_,[6],[],rfl,?_,?_,⟨L,1+(mkM ⟨⟨p,bs,rs⟩,l⟩:Nat)⟩,rfl,rfl,⟨by dsimp only; omega,by dsimp only; omega,by dsimp only; omega⟩,?_⟩
 ·exact wq
 ·exact wq
 dsimp only
 repeat' (first|refine vz ?_|(conv=>whnf); first|with_reducible first|refine Sp.mk ?_ ?_|refine br_d (fun _=>?_) fun _=>?_|refine vM (fun _=>?_) fun _=>?_)
 refine ⟨⟨⟨ep,eb,er⟩,el⟩,?_,⟨e1⟩,?_⟩
 ·repeat' ((conv=>whnf); first|with_reducible exact True.intro|exact vW|with_reducible refine And.intro ?_ ?_)
  all_goals exact Chk.mk ⟨rfl,fun i _=>by dsimp only; rw [Nat.zero_add]⟩
 repeat' (first|refine vz ?_|(conv=>whnf); first|with_reducible first|refine Sp.mk ?_ ?_|refine br_d (fun _=>?_) fun _=>?_|refine vM (fun _=>?_) fun _=>?_)
 refine ⟨_,_,[7,8,9],[],rfl,?_,?_,⟨⟨⟨ep,eb,er⟩,el⟩,1⟩,rfl,rfl,⟨e2⟩,?_⟩
 ·exact wq
 ·exact wq
 dsimp only
 rw [deM_eq]
 dsimp only [deM]
 repeat' (first|refine vz ?_|(conv=>whnf); first|with_reducible first|refine Sp.mk ?_ ?_|refine br_d (fun _=>?_) fun _=>?_|refine vM (fun _=>?_) fun _=>?_)
 refine ⟨⟨⟨⟨ep,eb,er⟩,el⟩,1⟩,?_,⟨e2⟩,?_⟩
 ·repeat' ((conv=>whnf); first|with_reducible exact True.intro|exact vW|with_reducible refine And.intro ?_ ?_)
  all_goals first|exact Chk.mk ⟨(mksI_len _ _).symm,fun i _=>by dsimp only; rw [Nat.zero_add]; rfl⟩|exact Chk.mk ⟨(mksS_len _ _).symm,fun i _=>by dsimp only; rw [Nat.zero_add]; rfl⟩|exact Chk.mk ⟨(mkPs_len _ _).symm,fun i _=>by dsimp only; rw [Nat.zero_add]; rfl⟩
 dsimp only
 repeat' (first|refine vz ?_|(conv=>whnf); first|with_reducible first|refine Sp.mk ?_ ?_|refine br_d (fun _=>?_) fun _=>?_|refine vM (fun _=>?_) fun _=>?_)
 refine ⟨_,_,[],[],rfl,?_,?_,.inr ⟨⟨⟨p,bs,rs⟩,l⟩,rfl,rfl,⟨hok⟩,?_⟩⟩
 ·exact wq
 ·exact wq
 dsimp only [enDe,deC,deN,deO,npO]
 repeat' (first|refine vz ?_|(conv=>whnf); first|with_reducible first|refine Sp.mk ?_ ?_|refine br_d (fun _=>?_) fun _=>?_|refine vM (fun _=>?_) fun _=>?_)
 refine ⟨_,_,[],[],rfl,?_,?_,.inr ⟨L,rfl,rfl,⟨hlen⟩,?_⟩⟩
 ·exact wq
 ·exact wq
 dsimp only
 repeat' (first|refine vz ?_|(conv=>whnf); first|with_reducible first|refine Sp.mk ?_ ?_|refine br_d (fun _=>?_) fun _=>?_|refine vM (fun _=>?_) fun _=>?_)
 refine ⟨_,_,[],[],rfl,?_,?_,⟨⟨⟨p,bs,rs⟩,l⟩,L⟩,rfl,rfl,⟨hI,hD,hlen⟩,?_⟩
 ·exact wq
 ·exact wq
 dsimp only
 rw [he,ho]
 dsimp only [enDe,deC,deN,deO,npO]
 repeat' (first|refine vz ?_|(conv=>whnf); first|with_reducible first|refine Sp.mk ?_ ?_|refine br_d (fun _=>?_) fun _=>?_|refine vM (fun _=>?_) fun _=>?_)
 refine ⟨⟨⟨ep,eb,er⟩,el⟩,?_,⟨e1⟩,?_⟩
 ·repeat' ((conv=>whnf); first|with_reducible exact True.intro|exact vW|with_reducible refine And.intro ?_ ?_)
  all_goals exact Chk.mk ⟨rfl,fun i _=>by dsimp only; rw [Nat.zero_add]⟩
 repeat' (first|refine vz ?_|(conv=>whnf); first|with_reducible first|refine Sp.mk ?_ ?_|refine br_d (fun _=>?_) fun _=>?_|refine vM (fun _=>?_) fun _=>?_)
 refine ⟨⟨⟨⟨ep,eb,er⟩,el⟩,1⟩,?_,⟨e2⟩,?_⟩
 ·repeat' ((conv=>whnf); first|with_reducible exact True.intro|exact vW|with_reducible refine And.intro ?_ ?_)
  all_goals first|exact Chk.mk ⟨(mksI_len _ _).symm,fun i _=>by dsimp only; rw [Nat.zero_add]; rfl⟩|exact Chk.mk ⟨(mksS_len _ _).symm,fun i _=>by dsimp only; rw [Nat.zero_add]; rfl⟩|exact Chk.mk ⟨(mkPs_len _ _).symm,fun i _=>by dsimp only; rw [Nat.zero_add]; rfl⟩
 dsimp only
 repeat' (first|refine vz ?_|(conv=>whnf); first|with_reducible first|refine Sp.mk ?_ ?_|refine br_d (fun _=>?_) fun _=>?_|refine vM (fun _=>?_) fun _=>?_)
 exact h
end Go.Proofs.YtgdbhjmpkkbnnaaGreatDoor.Vc
end
section
/- Part BASE: all that the rows of this seat lean on. -/
namespace Go.Proofs.YtgdbhjmpkkbnnaaGreatDoor.Vc
end Go.Proofs.YtgdbhjmpkkbnnaaGreatDoor.Vc
end
