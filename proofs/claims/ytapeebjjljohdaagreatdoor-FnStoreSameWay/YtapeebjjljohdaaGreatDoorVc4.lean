/- Part TH: desks; the laws' copies and comparisons of places and desks. -/
import Derived.WalkKit
import Derived.ProofKit
import Derived.OpenShut
import Derived.ShutString
import Derived.ChangeOld
import Derived.Below
import Derived.SizedLaws
import Derived.Carry
import Derived.Deep.Strs
import Derived.SliceStrings
import Derived.Handed
import Derived.JoinedOf
import Derived.LaidSub
import Derived.Lay
import Derived.Lib.LaidTab
import Derived.Lib.SmallJoins
import Derived.SevenTiedAt
import Derived.Test.YtapeebjjljohdaaGreatDoorRows
import Derived.Test.YtapeebjjljohdaaGreatDoorCards
import Derived.Test.YtapeebjjljohdaaGreatDoorTie
import Derived.Stop.LaidErr
import Derived.LaidLaws
import Derived.Shelf.Vars
import Derived.Test.YtapeebjjljohdaaGreatDoorVc3
section
namespace Go.Proofs.YtapeebjjljohdaaGreatDoor.Vc
open Go.Proofs
set_option maxRecDepth 10000
set_option maxHeartbeats 4000000
structure Desk where
 now:Place
 past:List Place
 deriving Inhabited
abbrev slP (l:List Place):AV:=.sl 3 l.length fun i=>plC (l.getD i default)
def deC (d:Desk):List AV:=[.int .i64 d.now.p,slI d.now.bs,slS d.now.rules,slP d.past]
def enDe (d:Desk):AV:=.agg (deC d)
def deskI (d:Desk):Prop:=placeI d.now∧d.past.length<9223372036854775808∧∀ p∈d.past,placeI p
abbrev deskOk (d:Desk):Prop:=placeOk d.now∧d.past.length≤8∧∀ p∈d.past,placeOk p
def C180:List AV→(AV→Prop)→Prop:=con (X:=Place) (fun x=>[enPl x]) placeI fun x K=>K (.bool (!decide (placeOk x)))
theorem F180:FF 76 C180:=by
 refine fitE [(74,C152)] (by simp only [List.mem_cons,List.not_mem_nil,or_false]; rintro _ rfl <;> first|exact F152) Tryz.f76 ⟨rfl,by decide +kernel,by decide +kernel⟩ (fun _ _ _ hk h=>hk _ h) ?_
 rintro ⟨p,bs,rs⟩ K hI h
 refine ⟨Nat.le_of_ble_eq_true rfl,?_⟩
 dsimp only [enPl,plC] at h ⊢
 repeat' (first|refine vz ?_|(conv=>whnf); first|with_reducible first|refine Sp.mk ?_ ?_|refine br_d (fun _=>?_) fun _=>?_|refine vM (fun _=>?_) fun _=>?_)
 refine ⟨⟨p,bs,rs⟩,?_,⟨hI⟩,?_⟩
 ·exact wq
 repeat' (first|refine vz ?_|(conv=>whnf); first|with_reducible first|refine Sp.mk ?_ ?_|refine br_d (fun _=>?_) fun _=>?_|refine vM (fun _=>?_) fun _=>?_)
 exact h
def placesI (l:List Place):Prop:=l.length<9223372036854775808∧∀ p∈l,placeI p
def C194:List AV→(AV→Prop)→Prop:=con (X:=List Place) (fun l=>[slP l,.fn 76 [] []]) placesI fun l K=>ixpost l.length (fun i=>¬ placeOk (l.getD i default)) K
theorem F194:FF 121 C194:=by
 refine fitE [(76,C180)] (by simp only [List.mem_cons,List.not_mem_nil,or_false]; rintro _ rfl; exact F180) Tryz.f121 ⟨rfl,by decide +kernel,by decide +kernel⟩ (fun _ _ _ hk h i h1 h2 h3 h4=>hk _ (h i h1 h2 h3 h4)) ?_
 rintro l K ⟨h1,h2⟩ h
 refine ⟨Nat.le_of_ble_eq_true rfl,?_⟩
 repeat' (first|refine vz ?_|(conv=>whnf); first|with_reducible first|refine Sp.mk ?_ ?_|refine br_d (fun _=>?_) fun _=>?_|refine vM (fun _=>?_) fun _=>?_)
 refine Lp.mk ⟨Nat,fun i=>[(0,slP l),(1,.fn 76 [] []),(7,.int .i64 l.length),(8,.int .i64 i)],fun _=>[],fun i=>i≤l.length∧∀ j,j<i→placeOk (l.getD j default),fun i=>l.length-i,⟨0,⟨Nat.zero_le _,fun j hj=>absurd hj (Nat.not_lt_zero _)⟩,⟨⟨[],[],rfl,rfl,?_,?_⟩⟩⟩,?_⟩
 ·exact wq
 ·exact wq
 rintro i ⟨i1,i2⟩
 dsimp only
 repeat' (first|refine vz ?_|(conv=>whnf); first|with_reducible first|refine Sp.mk ?_ ?_|refine br_d (fun _=>?_) fun _=>?_|refine vM (fun _=>?_) fun _=>?_)
 ·rename_i hi
  have hi:i<l.length:=by omega
  refine ⟨l.getD i default,?_,⟨h2 _ (getD_mem' hi)⟩,?_⟩
  ·exact wq
  repeat' (first|refine vz ?_|(conv=>whnf); first|with_reducible first|refine Sp.mk ?_ ?_|refine br_d (fun _=>?_) fun _=>?_|refine vM (fun _=>?_) fun _=>?_)
  ·rename_i hb
   refine ⟨i+1,⟨by omega,fun j hj=>?_⟩,by omega,⟨⟨[],[],rfl,rfl,?_,?_⟩⟩⟩
   ·by_cases e:j=i
    ·subst e; exact hb
    ·exact i2 j (by omega)
   ·exact wq
   ·exact wq
  ·rename_i hb
   exact h i (by omega) (by omega) (fun e=>by omega) (fun _=>hb)
 ·rename_i hi
  exact h (-1) (by omega) (by omega) (fun _ j hj=>Classical.not_not.2 (i2 j (by omega))) (fun e=>absurd e (by decide))
def C179:List AV→(AV→Prop)→Prop:=con (X:=List Place) (fun l=>[slP l,.fn 76 [] []]) placesI fun l K=>K (.bool (decide (¬ ∀ p∈l,placeOk p)))
theorem F179:FF 75 C179:=by
 refine fitE [(121,C194)] (by simp only [List.mem_cons,List.not_mem_nil,or_false]; rintro _ rfl <;> first|exact F194) Tryz.f75 ⟨rfl,by decide +kernel,by decide +kernel⟩ (fun _ _ _ hk h=>hk _ h) ?_
 rintro l K hI h
 refine ⟨Nat.le_of_ble_eq_true rfl,?_⟩
 repeat' (first|refine vz ?_|(conv=>whnf); first|with_reducible first|refine Sp.mk ?_ ?_|refine br_d (fun _=>?_) fun _=>?_|refine vM (fun _=>?_) fun _=>?_)
 refine ⟨l,?_,⟨hI⟩,?_⟩
 ·exact wq
 intro i g1 g2 g3 g4
 have e:decide (i≥0)=decide (¬ ∀ p∈l,placeOk p):=by
  refine decide_eq_decide.2 ⟨fun hi q=>?_,fun q=>?_⟩
  ·exact g4 hi (q _ (getD_mem' (by omega)))
  ·by_cases hi:i≥0
   ·exact hi
   ·exfalso
    exact q (all_of_getD (d:=default) fun j hj=>Classical.not_not.1 (g3 (by omega) j hj))
 rw [← e] at h
 repeat' (first|refine vz ?_|(conv=>whnf); first|with_reducible first|refine Sp.mk ?_ ?_|refine br_d (fun _=>?_) fun _=>?_|refine vM (fun _=>?_) fun _=>?_)
 exact h
def C159:List AV→(AV→Prop)→Prop:=con (X:=Desk) (fun d=>[enDe d]) deskI fun d K=>K (.bool (decide (deskOk d)))
theorem F159:FF 41 C159:=by
 refine fitE [(74,C152),(75,C179)] (by simp only [List.mem_cons,List.not_mem_nil,or_false]; rintro _ (rfl|rfl) <;> first|exact F152|exact F179) Tryz.f41 ⟨rfl,by decide +kernel,by decide +kernel⟩ (fun _ _ _ hk h=>hk _ h) ?_
 rintro ⟨⟨p,bs,rs⟩,l⟩ K hI h
 refine ⟨Nat.le_of_ble_eq_true rfl,?_⟩
 have hI1:=hI.1
 have hI2:=hI.2
 have hI3:=hI.2.1
 dsimp only [enDe,deC] at h hI1 hI2 hI3 ⊢
 repeat' (first|refine vz ?_|(conv=>whnf); first|with_reducible first|refine Sp.mk ?_ ?_|refine br_d (fun _=>?_) fun _=>?_|refine vM (fun _=>?_) fun _=>?_)
 refine ⟨⟨p,bs,rs⟩,?_,⟨hI1⟩,?_⟩
 ·exact wq
 repeat' (first|refine vz ?_|(conv=>whnf); first|with_reducible first|refine Sp.mk ?_ ?_|refine br_d (fun _=>?_) fun _=>?_|refine vM (fun _=>?_) fun _=>?_)
 ·rename_i hO h8
  refine ⟨l,?_,⟨hI2⟩,?_⟩
  ·exact wq
  have e:(!decide (¬ ∀ p∈l,placeOk p))=decide (deskOk ⟨⟨p,bs,rs⟩,l⟩):=by
   rw [← decide_not]
   exact decide_eq_decide.2 ⟨fun q=>⟨hO,by dsimp only; omega,Classical.not_not.1 q⟩,fun q=>Classical.not_not.2 q.2.2⟩
  rw [← e] at h
  repeat' (first|refine vz ?_|(conv=>whnf); first|with_reducible first|refine Sp.mk ?_ ?_|refine br_d (fun _=>?_) fun _=>?_|refine vM (fun _=>?_) fun _=>?_)
  exact h
 ·rename_i hO h8
  exact yesF h fun q=>by have:=q.2.1; dsimp only at this; omega
 ·rename_i hO
  exact yesF h fun q=>hO q.1
def C136:=C159
theorem F136:FF 35 C136:=by
 refine fitE [(41,C159)] (by simp only [List.mem_cons,List.not_mem_nil,or_false]; rintro _ rfl <;> first|exact F159) Tryz.f35 ⟨rfl,by decide +kernel,by decide +kernel⟩ (fun _ _ _ hk h=>hk _ h) ?_
 rintro ⟨⟨p,bs,rs⟩,l⟩ K hI h
 refine ⟨Nat.le_of_ble_eq_true rfl,?_⟩
 dsimp only [enDe,deC] at h ⊢
 repeat' (first|refine vz ?_|(conv=>whnf); first|with_reducible first|refine Sp.mk ?_ ?_|refine br_d (fun _=>?_) fun _=>?_|refine vM (fun _=>?_) fun _=>?_)
 refine ⟨⟨⟨p,bs,rs⟩,l⟩,?_,⟨hI⟩,?_⟩
 ·exact wq
 repeat' (first|refine vz ?_|(conv=>whnf); first|with_reducible first|refine Sp.mk ?_ ?_|refine br_d (fun _=>?_) fun _=>?_|refine vM (fun _=>?_) fun _=>?_)
 exact h
def C139:=C159
theorem F139:FF 12 C139:=by
 refine fitE [(45,C127)] (by simp only [List.mem_cons,List.not_mem_nil,or_false]; rintro _ rfl <;> first|exact F127) Tryz.f12 ⟨rfl,by decide +kernel,by decide +kernel⟩ (fun _ _ _ hk h=>hk _ h) ?_
 rintro ⟨⟨p,bs,rs⟩,l⟩ K hI h
 refine ⟨Nat.le_of_ble_eq_true rfl,?_⟩
 have hI1:=hI.1
 have hI2:=hI.2.2
 have hI3:=hI.2.1
 dsimp only [enDe,deC] at h hI1 hI2 hI3 ⊢
 repeat' (first|refine vz ?_|(conv=>whnf); first|with_reducible first|refine Sp.mk ?_ ?_|refine br_d (fun _=>?_) fun _=>?_|refine vM (fun _=>?_) fun _=>?_)
 refine Lp.mk ⟨Nat,fun i=>[(1,.ptr 0 0),(3,.int .i64 i)],fun _=>[.box (deC ⟨⟨p,bs,rs⟩,l⟩)],fun i=>i≤l.length∧∀ j,j<i→placeOk (l.getD j default),fun i=>l.length-i,⟨0,⟨Nat.zero_le _,fun j hj=>absurd hj (Nat.not_lt_zero _)⟩,⟨⟨[some 0],[],rfl,rfl,?_,?_⟩⟩⟩,?_⟩
 ·exact wq
 ·exact wq
 rintro i ⟨i1,i2⟩
 dsimp only [deC]
 repeat' (first|refine vz ?_|(conv=>whnf); first|with_reducible first|refine Sp.mk ?_ ?_|refine br_d (fun _=>?_) fun _=>?_|refine vM (fun _=>?_) fun _=>?_)
 ·rename_i hi
  have hi:i<l.length:=by omega
  refine ⟨l.getD i default,?_,⟨hI2 _ (getD_mem' hi)⟩,?_⟩
  ·exact wq
  repeat' (first|refine vz ?_|(conv=>whnf); first|with_reducible first|refine Sp.mk ?_ ?_|refine br_d (fun _=>?_) fun _=>?_|refine vM (fun _=>?_) fun _=>?_)
  ·rename_i hb
   refine ⟨i+1,⟨by omega,fun j hj=>?_⟩,by omega,⟨⟨[some 0],[],rfl,rfl,?_,?_⟩⟩⟩
   ·by_cases e:j=i
    ·subst e; exact hb
    ·exact i2 j (by omega)
   ·exact wq
   ·exact wq
  ·rename_i hb
   exact yesF h fun q=>hb (q.2.2 _ (getD_mem' hi))
 ·rename_i hi
  have hall:∀ p∈l,placeOk p:=all_of_getD (d:=default) fun j hj=>i2 j (by omega)
  refine ⟨⟨p,bs,rs⟩,?_,⟨hI1⟩,?_⟩
  ·exact wq
  repeat' (first|refine vz ?_|(conv=>whnf); first|with_reducible first|refine Sp.mk ?_ ?_|refine br_d (fun _=>?_) fun _=>?_|refine vM (fun _=>?_) fun _=>?_)
  ·rename_i hO
   exact yesD h ⟨fun q=>by have:=q.2.1; dsimp only at this; omega,fun q=>⟨hO,by dsimp only; omega,hall⟩⟩
  ·rename_i hO
   exact yesF h fun q=>hO q.1
end Go.Proofs.YtapeebjjljohdaaGreatDoor.Vc
end
section
/- Part OP: places and desks that come in, opened. -/
namespace Go.Proofs.YtapeebjjljohdaaGreatDoor.Vc
open Go.Proofs Go.ChangeShapes Go.WideShapes Go.ChangeAt Go.RowKit
def Rw0 (w:World):Nat→Prop:=fun b=>b<w.heap.size
theorem cell_lt {w:World} {a:Addr} {v:Value} (h:w.cell? a=some v):a.block<w.heap.size:=by
 unfold World.cell? at h
 rcases Nat.lt_or_ge a.block w.heap.size with h1|h1
 ·exact h1
 ·rw [Array.getElem?_eq_none h1] at h; cases h
section
variable (P:Program)
end
section
variable {H:Type} {enc:TypeId × Value→H} {P:Program} {w:World} {spare:Nat→Bool} {held:Bool}
theorem take_len {α:Type} {l:List α} {n:Nat} (h:n≤l.length):(l.take n).length=n:=by rw [List.length_take]; omega
end
end Go.Proofs.YtapeebjjljohdaaGreatDoor.Vc
end
section
/- Part RK: rows of a door seat: what the listed tables give. -/
namespace Go.Proofs.YtapeebjjljohdaaGreatDoor.Vc
open Go.Proofs Go.ChangeShapes Go.WideShapes Go.ChangeAt Go.RowKit Go.Proofs.YtapeebjjljohdaaGreatDoor
theorem own:ownKnob Tryz.prog.godebug=none:=by kernel_rfl
theorem laidOut:laidOutB Tryz.prog=true:=by kernel_rfl
theorem FF.below {f:FuncId} {C:List AV→(AV→Prop)→Prop} (hF:FF f C) {us:List AV} {b:Bool} (h:C us fun r=>r=.bool b) {w:World} (hw:Good w) {xs:Array Value} (ha:ArgsV (Rw0 w) w us xs) :
  Calls Tryz.prog f xs w fun e w'=>e=.returned (.bool b)∧Below w.heap.size w w':=by
 let Gl:List (Nat × Go.Obj):=(List.range w.heap.size).filterMap fun g=>(w.heap[g]?).map fun ob=>(g,ob)
 have hin:∀ (g:Nat) (ob:Go.Obj),w.heap[g]?=some ob→(g,ob)∈Gl:=fun g ob ho=>List.mem_filterMap.2 ⟨g,List.mem_range.2 (Array.getElem?_eq_some_iff.1 ho).1,by rw [ho]; rfl⟩
 have hG:GOk Gl:=fun w' h'=>hw.ext fun g ob ho=>h' _ (hin g ob ho)
 have hb:∀ p,p∈Gl→w.heap[p.1]?=some p.2:=fun p hp=>by
  obtain ⟨g,_,hg⟩:=List.mem_filterMap.1 hp
  obtain ⟨ob,ho,rfl⟩:=Option.map_eq_some_iff.1 hg
  exact ho
 exact ((hF _ hG).ok us _ h (Rw0 w) w xs ⟨fun _ h=>h,fun p hp=>⟨(Array.getElem?_eq_some_iff.1 (hb p hp)).1,hb p hp⟩⟩ ha).mono fun e w' he=>by
  obtain ⟨r,x,R',rfl,rfl,hv,hA⟩:=he
  cases hv with
  |data hd=>cases hd; exact ⟨rfl,hA.os,hA.tape,hA.output,hA.size,hA.same⟩
section
variable {H:Type} {enc:TypeId × Value→H} {P:Program} {w:World} {spare:Nat→Bool} {held:Bool} {R:Nat→Prop}
theorem u8_wf {n:Int} (h:(Lit.int .u8 n).wf=true):u8r n:=by
 simp only [Lit.wf,Bool.and_eq_true,decide_eq_true_eq] at h
 obtain ⟨h1,h2⟩:=h
 have e1:IntKind.u8.min=0:=by decide
 have e2:IntKind.u8.max=255:=by decide
 unfold u8r
 omega
theorem op_bytes {t e:TypeId} {fuel:Nat} {v:Value} {x:DataW H × List MemPlace} (ht:P.underlying t=some (.slice e)) (he:P.underlying e=some (.int .u8)) (hc:P.cellsOf e=1) (h:DataW.trod enc P w 0 spare held fuel t [v]=some x) :
  ∃ l:List Int,DR (Rw0 w) w (slB l) v∧(∀ n∈l,u8r n)∧l.length<9223372036854775808:=by
 rcases open_ints ht he hc h with ⟨hcs,_⟩|⟨a,len,cap,zs,hcs,_,hl,hm,hz,_,hcell,hw⟩
 ·simp only [List.cons.injEq,and_true] at hcs
  subst hcs
  exact ⟨[],.sl0 _ _ _ _,fun n hn=>(by cases hn),by decide⟩
 ·simp only [List.cons.injEq,and_true] at hcs
  subst hcs
  have hlz:len≤zs.length:=by rw [hz]; split <;> omega
  have hln:=take_len hlz
  refine ⟨zs.take len,?_,fun n hn=>u8_wf (hw n (List.mem_of_mem_take hn)),by rw [hln]; have:maxLen=9223372036854775807:=rfl; omega⟩
  show DR (Rw0 w) w (.sl 1 (zs.take len).length fun i=>[.int .u8 ((zs.take len).getD i 0)]) _
  rw [hln]
  rcases Nat.eq_zero_or_pos len with rfl|hpos
  ·exact .sl0 _ _ _ _
  have h0:=hcell 0 (by omega)
  have hb:=cell_lt h0
  rw [add_block] at hb
  refine .sl 1 len _ a cap (fun i _=>.int .u8 (zs.getD i 0)) hl hb (fun i hi=>rfl) (fun i hi j hj=>?_) (fun i hi j hj=>?_)
  ·have:j=0:=by omega
   subst this
   rw [Nat.mul_one,Nat.add_zero]
   exact hcell i (by omega)
  ·have:j=0:=by omega
   subst this
   have e:(zs.take len).getD i 0=zs.getD i 0:=by
    simp only [List.getD_eq_getElem?_getD]
    rw [List.getElem?_take_of_lt hi]
   show DR _ _ (.int .u8 ((zs.take len).getD i 0)) _
   rw [e]
   exact .int _ _
end
end Go.Proofs.YtapeebjjljohdaaGreatDoor.Vc
end
section
/- Part RL: rows of a door seat: what the world's shape and the listed variables give. -/
namespace Go.Proofs.YtapeebjjljohdaaGreatDoor.Vc
open Go.Proofs Go.ChangeShapes Go.WideShapes Go.ChangeAt Go.RowKit
set_option maxRecDepth 100000
theorem var_of {P:Program} {w:World} {n:String} {g:Nat} {cs:Array Value} {t:TypeId} {fr:Nat × Nat} (hg:P.globalNamed n=some g) (hh:w.heap[g]?=some (.cells cs t fr)):w.var? P n=some cs:=by
 unfold World.var?
 rw [hg]
 simp only [Option.bind_some]
 rw [hh]
theorem hold_len {w : World} {g : Nat} {t : TypeId} {zero : Array Value} (hs : w.ShapedOpen Tryz.prog) (hg : Tryz.prog.globalNamed "internal/bytealg.MaxLen" = some g) (hlt : g < Tryz.prog.globals.size)
  (h0 : ((begin Tryz.prog (fun _ _ => 0) default).world.heap[g]?).bind Go.Obj.row? = some (zero, t)) (hz : zero.size = 1) (hb : Tryz.prog.buildable t = true) (hc : Tryz.prog.cellTypes Tryz.prog.depth t = some [t]) (hu : Tryz.prog.underlying t = some (.int .i64)) : Hold "internal/bytealg.MaxLen" oneInt w := by
 obtain ⟨m,hm⟩:=cell_of_shapedOpen_int hs hlt h0 hz hb hc hu
 obtain ⟨cs,hh,hsz,_⟩:=hs.1 g zero t hlt h0
 have h1:0<cs.size:=by omega
 have hcell:w.cell? ⟨g,0,none⟩=some cs[0]:=by simp [World.cell?,hh,h1]
 rw [hcell] at hm
 have e:cs=#[.int .i64 m]:=by
  apply Array.ext
  ·simp; omega
  ·intro i h2 h3
   obtain rfl:i=0:=by omega
   exact Option.some.inj hm
 exact .inr ⟨cs,var_of hg hh,m,e⟩
theorem star : "*" ++ "errors.errorString" = "*errors.errorString" := by decide
theorem hold_err {W:World} {n:String} {g:Nat} {text:List UInt8} {r:List (String × DataW Unit)} {ti tp te ts:TypeId} {ms:Array (String × TypeId)} {f:Field}
  (h : laidMet Tryz.prog ((n, .iface "*errors.errorString" (.ptr (.agg [.lit (.string text)]))) :: r) W)
  (hg:Tryz.prog.globalNamed n=some g) (ht:(Tryz.prog.globals[g]?).map (·.type)=some ti) (hi:Tryz.prog.underlying ti=some (.interface ms))
  (hrows : ((List.range Tryz.prog.types.size).all fun u => Tryz.prog.typeName? 3 u != some ("*" ++ "errors.errorString") || u == tp) = true)
  (hnamed : ((List.range Tryz.prog.types.size).all fun e => Tryz.prog.typeName? 2 e != some "errors.errorString" || (match (Tryz.prog.info? e).map (·.desc) with | some (TypeDesc.named _ _) => true | _ => false)) = true)
  (hp:Tryz.prog.underlying tp=some (.pointer te)) (he:Tryz.prog.underlying te=some (.struct #[f])) (hft:f.type=ts) (hfo:f.offset=0) (hs:Tryz.prog.underlying ts=some .string) (hc:Tryz.prog.cellsOf te=1) (hcs:Tryz.prog.cellsOf ts=1):Hold n oneErr W:=by
 obtain ⟨a, s, hv, _⟩ := laid_sentinel h hg ht hi (fun u hu => typeName_ptr_named (nm := "errors.errorString") hrows hnamed (by decide) u (by rw [star]; exact hu)) hp he hft hfo hs hc hcs
 exact .inr ⟨_,hv,_,_,rfl⟩
theorem returns_and_shaped {H:Type} {enc:TypeId × Value→H} {a:Assume} {C:Checked} {os:Os} {f:FuncId} {fn:Func} {s:ChangeSpec} {conds:List PathCond} {apart fresh handsOn again:Bool} {X:World→Array Value→Prop}
  (hX:∀ (w w':World) (args:Array Value),w.heap=w'.heap→X w args→X w' args)
  (own:ownKnob C.prog.godebug=none) (started:os.Started) (noInit:C.prog.inits.idxOf? f=none) (hfn:C.prog.funcs[f]?=some fn)
  (witness:∃ (w:World) (tape:Tape) (i:Input),w.os=os∧(w.forCall tape i).Shaped C.prog∧i.vars=[]∧Input.okWide C.prog (w.forCall tape i) .any w.heap.size f i ∧
   ((s.pre enc C.prog fn conds apart (w.forCall tape i).memory i.args∧X (w.forCall tape i).memory i.args)∧sizedMet enc C.prog fn (OpenSpec.ofChange s) apart (w.forCall tape i).memory i.args)∧a.holds C.prog (lone (Frame.enter C.prog f i.args .normal) [] (w.forCall tape i)))
  (contract:∀ (W:World) (base:Nat) (args:Array Value) (ds gs:List (DataW H)) (before:List MemPlace),
   (∀ (j:Nat) t v,fn.params[j]?=some t→args[j]?=some v→Value.okWide C.prog W .any base t v) →
   DataW.Whole enc C.prog fn.params.toList s.vars apart W args.toList ds gs before →
   W.ShapedOpen C.prog→X W args →
   Calls C.prog f args W fun e W'=>∃ v,e=.returned v∧s.post enc C.prog fn apart fresh handsOn again W args v W') :
  ReturnsInHanded a C os f .any (fun w args=>(s.pre enc C.prog fn conds apart w args∧X w args)∧sizedMet enc C.prog fn (OpenSpec.ofChange s) apart w args) (s.post enc C.prog fn apart fresh handsOn again):=by
 refine returnsInHanded_of_calls own started noInit witness ?_
 intro w tape i _ hsh _ hok hpre _
 obtain ⟨_,_,_,fn',hfn',_,_,_,_,hval⟩:=hok
 have e:fn'=fn:=Option.some.inj (hfn'.symm.trans hfn)
 subst e
 obtain ⟨⟨⟨ds,gs,before,hw,hc⟩,hx⟩,hz⟩:=hpre
 have hw':=DataW.Whole.of_heap (w':=w.forCall tape i) (by rfl) hw
 refine (contract (w.forCall tape i) w.heap.size i.args ds gs before hval hw' hsh (hX _ _ _ (by rfl) hx)).mono fun e W' ⟨v,he,hp⟩=>?_
 subst he
 exact ChangeSpec.post_blind hp
end Go.Proofs.YtapeebjjljohdaaGreatDoor.Vc
end
section
/- Part TI: the laws' sizes, copies and comparisons of places and desks. -/
namespace Go.Proofs.YtapeebjjljohdaaGreatDoor.Vc
open Go.Proofs
set_option maxRecDepth 10000
set_option maxHeartbeats 4000000
/-! ### Sizes -/
def rng (n:Int):Prop:=0≤n∧n≤9223372036854775807
/-! ### Copies -/
section
variable {α:Type} {enc:α→List AV} {d:α} {z:List AV} {l:List α}
end
/-! ### Comparisons: what is the same is found to be the same -/
def C156:List AV→(AV→Prop)→Prop:=con (X:=List ByteArray) (fun l=>[slS l,slS l]) (fun l=>l.length<9223372036854775808) fun _ K=>K (.bool true)
def C161:=C156
theorem F161:FF 11 C161:=by
 refine fitE [] (by simp) Tryz.f11 ⟨rfl,by decide +kernel,by decide +kernel⟩ (fun _ _ _ hk h=>hk _ h) ?_
 rintro l K h1 h
 refine ⟨Nat.le_of_ble_eq_true rfl,?_⟩
 repeat' (first|refine vz ?_|(conv=>whnf); first|with_reducible first|refine Sp.mk ?_ ?_|refine br_d (fun _=>?_) fun _=>?_|refine vM (fun _=>?_) fun _=>?_)
 refine Lp.mk ⟨Nat,fun i=>[(0,slS l),(1,slS l),(5,.int .i64 i)],fun i=>[],fun i=>i≤l.length,fun i=>l.length-i,⟨0,Nat.zero_le _,⟨⟨[],[],rfl,rfl,?_,?_⟩⟩⟩,?_⟩
 ·exact wq
 ·exact wq
 intro i i1
 dsimp only
 repeat' (first|refine vz ?_|(conv=>whnf); first|with_reducible first|refine Sp.mk ?_ ?_|refine br_d (fun _=>?_) fun _=>?_|refine vM (fun _=>?_) fun _=>?_)
 ·refine Dr.mk ⟨(.rd 0 (.rd 1 (.rd 2 (.rd 3 (.rd 4 (.rd 5 (.rd 6 (.rd 7 (.rd 8 .dn))))))))),by decide +kernel,?_⟩
  repeat' (first|refine vz ?_|(conv=>whnf); first|with_reducible first|refine Sp.mk ?_ ?_|refine br_d (fun _=>?_) fun _=>?_|refine vM (fun _=>?_) fun _=>?_)
  ·refine ⟨i+1,by omega,by omega,⟨⟨[],[],rfl,rfl,?_,?_⟩⟩⟩
   ·exact wq
   ·exact wq
  ·rename_i hne
   exact absurd rfl hne
 ·exact h
def C160:List AV→(AV→Prop)→Prop:=con (X:=List Int) (fun l=>[slI l,slI l]) (fun l=>l.length<9223372036854775808) fun _ K=>K (.bool true)
theorem F160:FF 48 C160:=by
 refine fitE [] (by simp) Tryz.f48 ⟨rfl,by decide +kernel,by decide +kernel⟩ (fun _ _ _ hk h=>hk _ h) ?_
 rintro l K h1 h
 refine ⟨Nat.le_of_ble_eq_true rfl,?_⟩
 repeat' (first|refine vz ?_|(conv=>whnf); first|with_reducible first|refine Sp.mk ?_ ?_|refine br_d (fun _=>?_) fun _=>?_|refine vM (fun _=>?_) fun _=>?_)
 refine Lp.mk ⟨Nat,fun i=>[(0,slI l),(1,slI l),(5,.int .i64 i)],fun i=>[],fun i=>i≤l.length,fun i=>l.length-i,⟨0,Nat.zero_le _,⟨⟨[],[],rfl,rfl,?_,?_⟩⟩⟩,?_⟩
 ·exact wq
 ·exact wq
 intro i i1
 dsimp only
 repeat' (first|refine vz ?_|(conv=>whnf); first|with_reducible first|refine Sp.mk ?_ ?_|refine br_d (fun _=>?_) fun _=>?_|refine vM (fun _=>?_) fun _=>?_)
 ·refine Dr.mk ⟨(.rd 0 (.rd 1 (.rd 2 (.rd 3 (.rd 4 (.rd 5 (.rd 6 (.rd 7 (.rd 8 .dn))))))))),by decide +kernel,?_⟩
  repeat' (first|refine vz ?_|(conv=>whnf); first|with_reducible first|refine Sp.mk ?_ ?_|refine br_d (fun _=>?_) fun _=>?_|refine vM (fun _=>?_) fun _=>?_)
  ·refine ⟨i+1,by omega,by omega,⟨⟨[],[],rfl,rfl,?_,?_⟩⟩⟩
   ·exact wq
   ·exact wq
 ·exact h
def lenI (x:Place):Prop:=x.bs.length≤1048576∧x.rules.length<9223372036854775808
def C130:List AV→(AV→Prop)→Prop:=con (X:=Place) (fun x=>[enPl x,enPl x]) lenI fun _ K=>K (.bool true)
def C137:=C130
theorem F137:FF 17 C137:=by
 refine fitE [(48,C160),(11,C161)] (by simp only [List.mem_cons,List.not_mem_nil,or_false]; rintro _ (rfl|rfl) <;> first|exact F160|exact F161) Tryz.f17 ⟨rfl,by decide +kernel,by decide +kernel⟩ (fun _ _ _ hk h=>hk _ h) ?_
 rintro ⟨p,bs,rs⟩ K ⟨h1,h2⟩ h
 refine ⟨Nat.le_of_ble_eq_true rfl,?_⟩
 dsimp only [enPl,plC] at h1 h2 h ⊢
 repeat' (first|refine vz ?_|(conv=>whnf); first|with_reducible first|refine Sp.mk ?_ ?_|refine br_d (fun _=>?_) fun _=>?_|refine vM (fun _=>?_) fun _=>?_)
 refine ⟨bs,?_,⟨by omega⟩,?_⟩
 ·exact wq
 repeat' (first|refine vz ?_|(conv=>whnf); first|with_reducible first|refine Sp.mk ?_ ?_|refine br_d (fun _=>?_) fun _=>?_|refine vM (fun _=>?_) fun _=>?_)
 refine ⟨rs,?_,⟨h2⟩,?_⟩
 ·exact wq
 repeat' (first|refine vz ?_|(conv=>whnf); first|with_reducible first|refine Sp.mk ?_ ?_|refine br_d (fun _=>?_) fun _=>?_|refine vM (fun _=>?_) fun _=>?_)
 exact h
def lensI (l:List Place):Prop:=l.length<9223372036854775808∧∀ x∈l,lenI x
def lenD (d:Desk):Prop:=lenI d.now∧lensI d.past
def C141:List AV→(AV→Prop)→Prop:=con (X:=Desk) (fun d=>[enDe d,enDe d]) lenD fun _ K=>K (.bool true)
def C134:=C141
theorem F134:FF 10 C134:=by
 refine fitE [(17,C137)] (by simp only [List.mem_cons,List.not_mem_nil,or_false]; rintro _ rfl <;> first|exact F137) Tryz.f10 ⟨rfl,by decide +kernel,by decide +kernel⟩ (fun _ _ _ hk h=>hk _ h) ?_
 rintro ⟨⟨p,bs,rs⟩,l⟩ K ⟨h1,h2⟩ h
 refine ⟨Nat.le_of_ble_eq_true rfl,?_⟩
 have h3:=h2.1
 have h4:=h2.2
 dsimp only [enDe,deC] at h1 h3 h4 h ⊢
 repeat' (first|refine vz ?_|(conv=>whnf); first|with_reducible first|refine Sp.mk ?_ ?_|refine br_d (fun _=>?_) fun _=>?_|refine vM (fun _=>?_) fun _=>?_)
 refine ⟨⟨p,bs,rs⟩,?_,⟨h1⟩,?_⟩
 ·exact wq
 repeat' (first|refine vz ?_|(conv=>whnf); first|with_reducible first|refine Sp.mk ?_ ?_|refine br_d (fun _=>?_) fun _=>?_|refine vM (fun _=>?_) fun _=>?_)
 refine Lp.mk ⟨Nat,fun i=>[(2,.ptr 0 0),(3,.ptr 1 0),(5,.int .i64 i)],fun _=>[.box (deC ⟨⟨p,bs,rs⟩,l⟩),.box (deC ⟨⟨p,bs,rs⟩,l⟩)],fun i=>i≤l.length,fun i=>l.length-i,⟨0,Nat.zero_le _,⟨⟨[some 0,some 1],[],rfl,rfl,?_,?_⟩⟩⟩,?_⟩
 ·exact wq
 ·exact wq
 intro i i1
 dsimp only [deC]
 repeat' (first|refine vz ?_|(conv=>whnf); first|with_reducible first|refine Sp.mk ?_ ?_|refine br_d (fun _=>?_) fun _=>?_|refine vM (fun _=>?_) fun _=>?_)
 ·rename_i hi
  have hi:i<l.length:=by omega
  refine Dr.mk ⟨(.rd 0 (.rd 1 (.rd 2 (.rd 3 (.rd 4 (.rd 5 (.rd 6 (.rd 7 (.rd 8 (.rd 9 (.ef 10 (.rd 11 .dn) .no))))))))))),by decide +kernel,?_⟩
  repeat' (first|refine vz ?_|(conv=>whnf); first|with_reducible first|refine Sp.mk ?_ ?_|refine br_d (fun _=>?_) fun _=>?_|refine vM (fun _=>?_) fun _=>?_)
  refine ⟨l.getD i default,?_,⟨h4 _ (getD_mem' hi)⟩,?_⟩
  ·exact wq
  repeat' (first|refine vz ?_|(conv=>whnf); first|with_reducible first|refine Sp.mk ?_ ?_|refine br_d (fun _=>?_) fun _=>?_|refine vM (fun _=>?_) fun _=>?_)
  refine ⟨i+1,by omega,by omega,⟨⟨[some 0,some 1],[],rfl,rfl,?_,?_⟩⟩⟩
  ·exact wq
  ·exact wq
 ·exact h
def C135:List AV→(AV→Prop)→Prop:=con (X:=Unit) (fun _=>[enDe default]) (fun _=>True) fun _ K=>K (.bool true)
theorem F135:FF 13 C135:=by
 refine fitE [(10,C134)] (by simp only [List.mem_cons,List.not_mem_nil,or_false]; rintro _ rfl <;> first|exact F134) Tryz.f13 ⟨rfl,by decide +kernel,by decide +kernel⟩ (fun _ _ _ hk h=>hk _ h) ?_
 rintro - K - h
 refine ⟨Nat.le_of_ble_eq_true rfl,?_⟩
 dsimp only [enDe,deC]
 repeat' (first|refine vz ?_|(conv=>whnf); first|with_reducible first|refine Sp.mk ?_ ?_|refine br_d (fun _=>?_) fun _=>?_|refine vM (fun _=>?_) fun _=>?_)
 refine ⟨default,?_,⟨⟨Nat.zero_le _,by decide⟩,by decide,fun x hx=>by cases hx⟩,?_⟩
 ·exact wq
 repeat' (first|refine vz ?_|(conv=>whnf); first|with_reducible first|refine Sp.mk ?_ ?_|refine br_d (fun _=>?_) fun _=>?_|refine vM (fun _=>?_) fun _=>?_)
 exact h
end Go.Proofs.YtapeebjjljohdaaGreatDoor.Vc
end
section
/- Part TJ: laws on places, desks and new stores. -/
namespace Go.Proofs.YtapeebjjljohdaaGreatDoor.Vc
open Go.Proofs
set_option maxRecDepth 10000
set_option maxHeartbeats 4000000
/-! ### Stores -/
structure Store where
 saved:ByteArray
 log:ByteArray
 sure:Int
 deriving Inhabited,DecidableEq
def stC (s:Store):List AV:=[.str s.saved,.str s.log,.int .i64 s.sure]
def enSt (s:Store):AV:=.agg (stC s)
def newSt (x:Place):Store:=⟨ptext x,⟨#[]⟩,0⟩
def C145:List AV→(AV→Prop)→Prop:=con (X:=Place) (fun x=>[enPl x]) placeI fun x K=>K (.tup [enSt (newSt x),.bool (decide (placeOk x))])
def C144:=C145
theorem F144:FF 87 C144:=by
 refine fitE [(45,C127),(64,C142)] (by simp only [List.mem_cons,List.not_mem_nil,or_false]; rintro _ (rfl|rfl) <;> first|exact F127|exact F142) Tryz.f87 ⟨rfl,by decide +kernel,by decide +kernel⟩ (fun _ _ _ hk h=>hk _ h) ?_
 rintro ⟨p,bs,rs⟩ K hI h
 refine ⟨Nat.le_of_ble_eq_true rfl,?_⟩
 unfold newSt at h
 dsimp only [enPl,plC,enSt,stC] at h ⊢
 repeat' (first|refine vz ?_|(conv=>whnf); first|with_reducible first|refine Sp.mk ?_ ?_|refine br_d (fun _=>?_) fun _=>?_|refine vM (fun _=>?_) fun _=>?_)
 refine ⟨⟨p,bs,rs⟩,?_,⟨hI⟩,?_⟩
 ·exact wq
 repeat' (first|refine vz ?_|(conv=>whnf); first|with_reducible first|refine Sp.mk ?_ ?_|refine br_d (fun _=>?_) fun _=>?_|refine vM (fun _=>?_) fun _=>?_)
 ·rename_i hO
  replace hO:placeOk ⟨p,bs,rs⟩:=hO
  rw [decide_eq_true hO] at h
  refine ⟨⟨p,bs,rs⟩,?_,⟨hI⟩,?_⟩
  ·exact wq
  repeat' (first|refine vz ?_|(conv=>whnf); first|with_reducible first|refine Sp.mk ?_ ?_|refine br_d (fun _=>?_) fun _=>?_|refine vM (fun _=>?_) fun _=>?_)
  exact h
 ·rename_i hO
  replace hO:¬ placeOk ⟨p,bs,rs⟩:=hO
  unfold ptext at h
  rw [if_neg hO,decide_eq_false hO] at h
  exact h
end Go.Proofs.YtapeebjjljohdaaGreatDoor.Vc
end
section
/- Part OQ: stores, deeds and texts that come in, opened. -/
namespace Go.Proofs.YtapeebjjljohdaaGreatDoor.Vc
open Go.Proofs Go.ChangeShapes Go.WideShapes Go.ChangeAt Go.RowKit
section
variable (P:Program)
end
section
variable {H:Type} {enc:TypeId × Value→H} {P:Program} {w:World} {spare:Nat→Bool} {held:Bool}
end
end Go.Proofs.YtapeebjjljohdaaGreatDoor.Vc
end
section
/- Part RP: what the rows of this seat ask of the program as a whole. -/
namespace Go.Proofs.YtapeebjjljohdaaGreatDoor.Vc
open Go.Proofs Go.ChangeShapes Go.WideShapes Go.ChangeAt Go.RowKit
open Go.Proofs.YtapeebjjljohdaaGreatDoor
set_option maxRecDepth 100000
theorem andT {a b:Bool} (ha:a=true) (hb:b=true):(a && b)=true:=by rw [ha,hb]; rfl
theorem pw2:laidOutB Tryz.checked.prog=true:=by kernel_rfl
theorem pw3:mapsRowed Tryz.checked.prog=true:=by kernel_rfl
theorem pw7:(Tryz.checked.prog.stops == [])=true:=by kernel_rfl
theorem pw9:(Tryz.checked.prog.stopKnobs == [])=true:=by kernel_rfl
theorem pw23:(Rows.fnDeskLineRow.plainKeys == Tryz.checked.prog.plainKeys)=true:=by kernel_rfl
theorem pw25:Tryz.checked.prog.stopsHeard=true:=by kernel_rfl
theorem pw26:Tryz.checked.prog.mayEnter=true:=by kernel_rfl
theorem pw27:(Rows.fnDeskLineRow.lifted == Tryz.checked.prog.liftsFinal)=true:=by kernel_rfl
theorem pw28:(Tryz.checked.prog.make == some Rows.fnDeskLineRow.make)=true:=by kernel_rfl
theorem pwL:Rows.fnDeskLineCard.stood.looks=Tryz.checked.prog.looks []:=by kernel_rfl
end Go.Proofs.YtapeebjjljohdaaGreatDoor.Vc
end
section
/- Part ZC: what a term says, by the program. -/
namespace Go.Proofs.YtapeebjjljohdaaGreatDoor.Vc
open Go.Proofs
set_option maxRecDepth 10000
set_option maxHeartbeats 4000000
def bl (s:List Bool) (j:Nat):List AV:=[.bool (s.reverse.getD j false)]
theorem push_len {bs:List Int} {c:Int} {m:Mark} {s:List Bool} (hk:m.kind=0):(stepS bs c m s).length=s.length+1:=by
 unfold stepS
 rw [if_pos hk]
 rfl
theorem push_ext {bs:List Int} {c:Int} {m:Mark} {s:List Bool} {g:Nat→List AV} (hk:m.kind=0) (hg:g 0=[.bool (cnt bs c m)]):(stepS bs c m s).length=s.length+1∧∀ j,j<(stepS bs c m s).length→bl (stepS bs c m s) j=appF s.length (bl s) g j:=by
 unfold stepS
 rw [if_pos hk]
 refine ⟨rfl,fun j hj=>?_⟩
 simp only [List.length_cons] at hj
 unfold appF bl
 rw [List.reverse_cons,List.getD_eq_getElem?_getD,List.getElem?_append]
 cases hb:Nat.blt j s.length with
 |true =>
  have:j<s.length:=Nat.le_of_ble_eq_true hb
  rw [if_pos (by simpa using this),← List.getD_eq_getElem?_getD]
  rfl
 |false =>
  have:¬ j<s.length:=fun h=>by
   have:Nat.blt j s.length=true:=Nat.ble_eq_true_of_le h
   rw [this] at hb; cases hb
  have:j=s.length:=by omega
  subst this
  rw [if_neg (by simp)]
  simp [hg]
theorem rev_a {b a:Bool} {r:List Bool}:(b :: a :: r).reverse.getD r.length false=a:=by
 simp [List.getD_eq_getElem?_getD]
theorem rev_b {b a:Bool} {r:List Bool}:(b :: a :: r).reverse.getD (r.length+1) false=b:=by
 simp [List.getD_eq_getElem?_getD]
theorem conn_len {bs:List Int} {c:Int} {m:Mark} {b a:Bool} {r:List Bool} {n:Nat} (hk:m.kind≠0) (hn:n=r.length):(stepS bs c m (b :: a :: r)).length=n+1:=by
 subst hn
 unfold stepS
 rw [if_neg hk]
 rfl
theorem conn_ext {bs:List Int} {c:Int} {m:Mark} {b a v:Bool} {r:List Bool} {g:Nat→List AV} {n:Nat} (hk:m.kind≠0) (hv:v=if m.kind=2 then a || b else a && b) (hn:n=r.length) (hg:g 0=[.bool v]):(stepS bs c m (b :: a :: r)).length=n+1∧(∀ j,j<(stepS bs c m (b :: a :: r)).length→bl (stepS bs c m (b :: a :: r)) j=appF n (bl (b :: a :: r)) g j):=by
 subst hn
 unfold stepS
 rw [if_neg hk]
 dsimp only
 rw [← hv]
 refine ⟨rfl,fun j hj=>?_⟩
 simp only [List.length_cons] at hj
 unfold appF bl
 rw [List.reverse_cons,List.getD_eq_getElem?_getD,List.getElem?_append]
 cases hb:Nat.blt j r.length with
 |true =>
  have h1:j<r.length:=Nat.le_of_ble_eq_true hb
  rw [if_pos (by simpa using h1)]
  simp [List.getD_eq_getElem?_getD,List.getElem?_append,h1]
  try rw [if_pos (by omega)]
 |false =>
  have:¬ j<r.length:=fun h=>by
   have:Nat.blt j r.length=true:=Nat.ble_eq_true_of_le h
   rw [this] at hb; cases hb
  have:j=r.length:=by omega
  subst this
  rw [if_neg (by simp)]
  simp [hg]
def C39:List AV→(AV→Prop)→Prop:=con (X:=Sy) (fun x=>[house x.p x.bs,slM x.t,.int .i64 x.c]) (fun x=>sayOk x∧x.t.length≤9) fun x K=>K (.bool (says x.bs x.c x.t))
theorem F39:FF 181 C39:=by
 refine fitE [(184,C50)] (by simp only [List.mem_cons,List.not_mem_nil,or_false]; rintro _ rfl <;> first|exact F50) Tryz.f181 ⟨rfl,by decide +kernel,by decide +kernel⟩ (fun _ _ _ hk h=>hk _ h) ?_
 rintro ⟨p,bs,t,c⟩ K ⟨⟨h1,h2,h3,h4,h5⟩,h6⟩ h
 refine ⟨Nat.le_of_ble_eq_true rfl,?_⟩
 dsimp only at h h1 h2 h3 h4 h5 h6 ⊢
 repeat' (first|refine vz ?_|(conv=>whnf); first|with_reducible first|refine Sp.mk ?_ ?_|refine br_d (fun _=>?_) fun _=>?_|refine vM (fun _=>?_) fun _=>?_)
 refine Lp.mk ⟨Nat,fun i=>[(2,.int .i64 c),(3,.ptr 0 0),(6,.bool false),(7,.row 1 1 0 (runS bs c (t.take i) []).length),(14,slM t),(15,.int .i64 t.length),(16,.int .i64 i)],
  fun i=>[.box [.int .i64 p,slI bs],.row 1 (runS bs c (t.take i) []).length (bl (runS bs c (t.take i) []))],fun i=>i≤t.length,fun i=>t.length-i,⟨0,Nat.zero_le _,⟨⟨[some 0,none],[],rfl,rfl,?_,?_⟩⟩⟩,?_⟩
 ·exact wq
 ·exact wq
 intro i i1
 obtain ⟨q,hq⟩:=walk_prefix h2 i
 have hl:=(runS_frame (bs:=bs) (c:=c) (t.take i) [] [] q hq).2
 have hql:q≤i:=by
  have:=walkP_le bs _ _ _ hq
  simp only [List.length_take] at this
  omega
 have hst:i<t.length→∃ q',stepP bs (t.getD i default) q=some q':=fun hi=>by
  obtain ⟨q',hq'⟩:=walk_prefix h2 (i+1)
  rw [walkP_take hi hq] at hq'
  exact ⟨q',hq'⟩
 have hnx:i<t.length→runS bs c (t.take (i+1)) []=stepS bs c (t.getD i default) (runS bs c (t.take i) []):=fun hi=>by
  rw [take_succ' default hi,runS_app]
  rfl
 have hend:¬ i<t.length→runS bs c (t.take i) []=runS bs c t []:=fun hi=>by rw [List.take_of_length_le (by omega)]
 dsimp only
 generalize hs:runS bs c (t.take i) []=s at *
 have hat:i<t.length→(t.getD (i:Int).toNat default).kind=0→0≤(t.getD (i:Int).toNat default).at_∧(t.getD (i:Int).toNat default).at_<bs.length:=fun hi hk=>by
  obtain ⟨q',e⟩:=hst hi
  replace hk:(t.getD i default).kind=0:=hk
  show 0≤(t.getD i default).at_∧(t.getD i default).at_<bs.length
  unfold stepP at e
  split at e
  ·omega
  ·rw [if_neg (by omega)] at e; cases e
 have h2s:i<t.length→¬ (t.getD (i:Int).toNat default).kind=0→2≤s.length:=fun hi hk=>by
  obtain ⟨q',e⟩:=hst hi
  rcases stepP_kind e with ⟨g,_⟩|⟨_,_,g,_⟩
  ·exact absurd g hk
  ·omega
 repeat' (first|refine vz ?_|(conv=>whnf); first|with_reducible first|refine Sp.mk ?_ ?_|refine br_d (fun _=>?_) fun _=>?_|refine vM (fun _=>?_) fun _=>?_)
 ·rename_i hi hk
  have hi:i<t.length:=by omega
  have hb:=hat hi hk
  refine Dr.mk ⟨(.rd 0 (.rd 1 (.rd 2 (.rd 3 (.rd 4 (.rd 5 (.rd 6 (.rd 7 (.rd 8 (.rd 10 (.rd 11 (.ef 9 (.rd 12 (.ef 13 (.ef 14 (.rd 15 .dn) .no) .no)) .no)))))))))))),by decide +kernel,?_⟩
  repeat' (first|refine vz ?_|(conv=>whnf); first|with_reducible first|refine Sp.mk ?_ ?_|refine br_d (fun _=>?_) fun _=>?_|refine vM (fun _=>?_) fun _=>?_)
  have hb2:=h3 _ (getD_mem' (l:=bs) (i:=(t.getD (i:Int).toNat default).at_.toNat) (d:=0) (by omega))
  have hb3:=band_lt hb2.1 hb2.2 h4 h5
  refine ⟨band (bs.getD (t.getD (i:Int).toNat default).at_.toNat 0) c,?_,⟨hb3⟩,?_⟩
  ·exact wq
  repeat' (first|refine vz ?_|(conv=>whnf); first|with_reducible first|refine Sp.mk ?_ ?_|refine br_d (fun _=>?_) fun _=>?_|refine vM (fun _=>?_) fun _=>?_)
  refine ⟨i+1,by show i+1≤t.length; omega,by show t.length-(i+1)<t.length-i; omega,⟨⟨[some 0,some 4],[],rfl,rfl,?_,?_⟩⟩⟩
  ·repeat' ((conv=>whnf); first|with_reducible exact True.intro|exact vW|with_reducible refine And.intro ?_ ?_)
   (conv=>whnf)
   refine Chk.mk ⟨rfl,?_⟩
   rw [hnx hi]
   exact push_len hk
  ·repeat' ((conv=>whnf); first|with_reducible exact True.intro|exact vW|with_reducible refine And.intro ?_ ?_)
   (conv=>whnf)
   refine Chk.mk ?_
   rw [hnx hi]
   exact push_ext hk rfl
 ·rename_i hi hk
  have hi:i<t.length:=by omega
  have hb:=h2s hi hk
  replace hk:(t.getD i default).kind≠0:=hk
  match s,hb,hnx with
  |b :: a :: r,hb,hnx =>
   have n2:(((b :: a :: r).length:Int)-2).toNat=r.length:=by simp only [List.length_cons]; omega
   have n1:(((b :: a :: r).length:Int)-1).toNat=r.length+1:=by simp only [List.length_cons]; omega
   have ea:(b :: a :: r).reverse.getD (0+(((b :: a :: r).length:Int)-2).toNat) false=a:=by rw [n2,Nat.zero_add]; exact rev_a
   have eb:(b :: a :: r).reverse.getD (0+(((b :: a :: r).length:Int)-1).toNat) false=b:=by rw [n1,Nat.zero_add]; exact rev_b
   refine Dr.mk ⟨(.rd 0 (.rd 1 (.rd 2 (.rd 3 (.rd 4 (.rd 5 (.rd 6 (.rd 7 (.rd 8 (.rd 9 (.rd 10 (.rd 11 (.rd 12 (.rd 13 .dn)))))))))))))),by decide +kernel,?_⟩
   repeat' (first|refine vz ?_|(conv=>whnf); first|with_reducible first|refine Sp.mk ?_ ?_|refine br_d (fun _=>?_) fun _=>?_|refine vM (fun _=>?_) fun _=>?_)
   all_goals
    rename_i g1 g2
    replace g1:=ea.symm.trans g1
   all_goals
    refine ⟨i+1,by show i+1≤t.length; omega,by show t.length-(i+1)<t.length-i; omega,⟨⟨[some 0,some 4],[],rfl,rfl,?_,?_⟩⟩⟩
    ·repeat' ((conv=>whnf); first|with_reducible exact True.intro|exact vW|with_reducible refine And.intro ?_ ?_)
     all_goals
      (conv=>whnf)
      refine Chk.mk ⟨rfl,?_⟩
      rw [hnx hi]
      exact conn_len hk n2
    ·repeat' ((conv=>whnf); first|with_reducible exact True.intro|exact vW|with_reducible refine And.intro ?_ ?_)
     all_goals
      (conv=>whnf)
      refine Chk.mk ?_
      rw [hnx hi]
      refine conn_ext hk ?_ n2 rfl
      first
       |(rw [if_pos (show (t.getD i default).kind=2 from g2)]; first|(rw [g1]; rfl)|(refine eb.trans ?_; rw [g1]; rfl))
       |(rw [if_neg (show ¬ (t.getD i default).kind=2 from g2)]; first|(rw [g1]; rfl)|(refine eb.trans ?_; rw [g1]; rfl))
 have e:=hend (by omega)
 obtain ⟨v,hv⟩:=List.length_eq_one_iff.1 (runS_frame (bs:=bs) (c:=c) t [] [] 1 h2).2
 rw [hv] at e
 subst e
 have hsay:says bs c t=v:=by unfold says; rw [hv]; rfl
 rw [hsay] at h
 repeat' (first|refine vz ?_|(conv=>whnf); first|with_reducible first|refine Sp.mk ?_ ?_|refine br_d (fun _=>?_) fun _=>?_|refine vM (fun _=>?_) fun _=>?_)
 exact h
end Go.Proofs.YtapeebjjljohdaaGreatDoor.Vc
end
section
/- Part ZD: pivots in an order. -/
namespace Go.Proofs.YtapeebjjljohdaaGreatDoor.Vc
open Go.Proofs
set_option maxRecDepth 10000
set_option maxHeartbeats 4000000
def has (c w:Int):Bool:=decide ((shrv .i64 c w).tmod 2=1)
def add (c w:Int):Int:=bitop .i64 .or c (1*2 ^ min w.toNat IntKind.i64.bits)
theorem add_small:∀ c,c<64→∀ w,w<6→0≤add (c:Nat) (w:Nat)∧add (c:Nat) (w:Nat)<64:=by decide +kernel
theorem add_lt {c w:Int} (h1:0≤c) (h2:c<64) (h3:0≤w) (h4:w<6):0≤add c w∧add c w<64:=by
 have:=add_small c.toNat (by omega) w.toNat (by omega)
 rwa [Int.toNat_of_nonneg h1,Int.toNat_of_nonneg h3] at this
theorem wsh_small:∀ w,w<6→IntKind.i64.wrap (1*2 ^ min (w:Nat) IntKind.i64.bits)=1*2 ^ min (w:Nat) IntKind.i64.bits:=by decide +kernel
theorem wshw {w:Int} (h3:0≤w) (h4:w<6):IntKind.i64.wrap (1*2 ^ min w.toNat IntKind.i64.bits)=1*2 ^ min w.toNat IntKind.i64.bits:=wsh_small w.toNat (by omega)
section
variable {p c:Int} {l:List Int}
end
end Go.Proofs.YtapeebjjljohdaaGreatDoor.Vc
end
section
/- Part ZE: pivots in an order, by the reference. -/
namespace Go.Proofs.YtapeebjjljohdaaGreatDoor.Vc
open Go.Proofs
set_option maxRecDepth 10000
set_option maxHeartbeats 4000000
end Go.Proofs.YtapeebjjljohdaaGreatDoor.Vc
end
section
/- Part ZF: the laws' copies and comparisons. -/
namespace Go.Proofs.YtapeebjjljohdaaGreatDoor.Vc
open Go.Proofs
set_option maxRecDepth 10000
set_option maxHeartbeats 4000000
/-! ### Comparisons -/
end Go.Proofs.YtapeebjjljohdaaGreatDoor.Vc
end
section
/- Part ZJ: swings. -/
namespace Go.Proofs.YtapeebjjljohdaaGreatDoor.Vc
open Go.Proofs
set_option maxRecDepth 10000
set_option maxHeartbeats 4000000
def swing (bs:List Int) (t:List Mark) (c w:Int):Bool:=!has c w && !says bs c t && says bs (add c w) t
structure Sw where
 p:Int
 bs:List Int
 t:List Mark
 c:Int
 w:Int
def swOk (x:Sw):Prop:=sayOk ⟨x.p,x.bs,x.t,x.c⟩∧x.t.length≤9∧0≤x.w∧x.w<6
theorem tmod_has {c w:Int} (h1:0≤c) (h2:c<64) (h3:0≤w) (h4:w<6):(shrv .i64 c w).tmod 2=0 ↔ has c w=false:=by
 have key:∀ c,c<64→∀ w,w<6→((shrv .i64 (c:Nat) (w:Nat)).tmod 2=0 ↔ ¬ (shrv .i64 (c:Nat) (w:Nat)).tmod 2=1):=by decide +kernel
 have:=key c.toNat (by omega) w.toNat (by omega)
 rw [Int.toNat_of_nonneg h1,Int.toNat_of_nonneg h3] at this
 unfold has
 rw [decide_eq_false_iff_not]
 exact this
theorem and0_has {c w:Int} (h1:0≤c) (h2:c<64) (h3:0≤w) (h4:w<6):bitop .i64 .and (shrv .i64 c w) 1=0 ↔ has c w=false:=by
 have key:∀ c,c<64→∀ w,w<6→(bitop .i64 .and (shrv .i64 (c:Nat) (w:Nat)) 1=0 ↔ ¬ (shrv .i64 (c:Nat) (w:Nat)).tmod 2=1):=by decide +kernel
 have:=key c.toNat (by omega) w.toNat (by omega)
 rw [Int.toNat_of_nonneg h1,Int.toNat_of_nonneg h3] at this
 unfold has
 rw [decide_eq_false_iff_not]
 exact this
def C44:List AV→(AV→Prop)→Prop:=con (X:=Sw) (fun x=>[house x.p x.bs,slM x.t,.int .i64 x.c,.int .i64 x.w]) swOk fun x K=>K (.bool (swing x.bs x.t x.c x.w))
theorem F44:FF 149 C44:=by
 refine fitE [(147,C36)] (by simp only [List.mem_cons,List.not_mem_nil,or_false]; rintro _ rfl <;> first|exact F36) Tryz.f149 ⟨rfl,by decide +kernel,by decide +kernel⟩ (fun _ _ _ hk h=>hk _ h) ?_
 rintro ⟨p,bs,t,c,w⟩ K ⟨h1,h2,h3,h4⟩ h
 refine ⟨Nat.le_of_ble_eq_true rfl,?_⟩
 dsimp only at h h1 h2 h3 h4 ⊢
 have hc:=h1.2.2.2
 have ga:=add_lt hc.1 hc.2 h3 h4
 have h1':sayOk ⟨p,bs,t,add c w⟩:=⟨h1.1,h1.2.1,h1.2.2.1,ga⟩
 repeat' (first|refine vz ?_|(conv=>whnf); first|with_reducible first|refine Sp.mk ?_ ?_|refine br_d (fun _=>?_) fun _=>?_|refine vM (fun _=>?_) fun _=>?_)
 refine Dr.mk ⟨(.rd 0 (.rd 1 (.rd 2 (.rd 3 (.rd 4 (.rd 5 (.rd 6 (.rd 7 (.rd 8 (.ef 9 (.rd 10 (.rd 11 (.rd 12 (.rd 13 (.rd 14 (.rd 15 (.rd 16 (.rd 17 (.rd 18 (.ef 19 (.rd 20 (.rd 21 .dn)) .no)))))))))) .no)))))))))),by decide +kernel,?_⟩
 repeat' (first|refine vz ?_|(conv=>whnf); first|with_reducible refine Wr.ex (wshw (by omega) (by omega)) ?_|with_reducible first|refine Sp.mk ?_ ?_|refine br_d (fun _=>?_) fun _=>?_|refine vM (fun _=>?_) fun _=>?_)
 ·rename_i g
  have e:=(tmod_has hc.1 hc.2 h3 h4).1 g
  unfold swing at h
  rw [e,Bool.not_false,Bool.true_and] at h
  refine ⟨⟨p,bs,t,c⟩,?_,⟨h1⟩,?_⟩
  ·exact wq
  dsimp only
  repeat' (first|refine vz ?_|(conv=>whnf); first|with_reducible refine Wr.ex (wshw (by omega) (by omega)) ?_|with_reducible first|refine Sp.mk ?_ ?_|refine br_d (fun _=>?_) fun _=>?_|refine vM (fun _=>?_) fun _=>?_)
  ·rename_i hv
   rw [hv,Bool.not_true,Bool.false_and] at h
   exact h
  ·rename_i hv
   rw [hv,Bool.not_false,Bool.true_and] at h
   refine ⟨⟨p,bs,t,add c w⟩,?_,⟨h1'⟩,?_⟩
   ·exact wq
   dsimp only
   repeat' (first|refine vz ?_|(conv=>whnf); first|with_reducible first|refine Sp.mk ?_ ?_|refine br_d (fun _=>?_) fun _=>?_|refine vM (fun _=>?_) fun _=>?_)
   exact h
 ·rename_i g
  have e:has c w=true:=by
   cases e:has c w with
   |true=>rfl
   |false=>exact absurd ((tmod_has hc.1 hc.2 h3 h4).2 e) g
  unfold swing at h
  rw [e,Bool.not_true,Bool.false_and,Bool.false_and] at h
  exact h
def swl (bs:List Int) (t:List Mark) (w:Int):Nat→List Int
 |0=>[]
 |k+1=>if swing bs t k w then swl bs t w k ++ [(k:Int)] else swl bs t w k
theorem swl_le (bs:List Int) (t:List Mark) (w:Int):∀ k,(swl bs t w k).length≤k
 |0=>Nat.le_refl _
 |k+1=>by
  have:=swl_le bs t w k
  unfold swl
  split
  ·simp; omega
  ·omega
structure Sx where
 p:Int
 bs:List Int
 t:List Mark
 w:Int
def sxOk (x:Sx):Prop:=people x.p∧(∀ c,0≤c→c<64→sayOk ⟨x.p,x.bs,x.t,c⟩)∧x.t.length≤9∧0≤x.w∧x.w<6
def C43:List AV→(AV→Prop)→Prop:=con (X:=Sx) (fun x=>[house x.p x.bs,slM x.t,.int .i64 x.w]) sxOk fun x K=>K (slI (swl x.bs x.t x.w (pw x.p).toNat))
theorem app_ext {l:List Int} {c:Int} {g:Nat→List AV} (hg:g 0=encI c):(l ++ [c]).length=l.length+1∧∀ j,j<(l ++ [c]).length→encI ((l ++ [c]).getD j 0)=appF l.length (fun j=>encI (l.getD j 0)) g j:=by
 refine ⟨by simp,fun j hj=>?_⟩
 simp only [List.length_append,List.length_cons,List.length_nil] at hj
 unfold appF
 rw [List.getD_eq_getElem?_getD,List.getElem?_append]
 cases hb:Nat.blt j l.length with
 |true =>
  have h1:j<l.length:=Nat.le_of_ble_eq_true hb
  rw [if_pos h1,← List.getD_eq_getElem?_getD]
  rfl
 |false =>
  have:¬ j<l.length:=fun h=>by
   have:Nat.blt j l.length=true:=Nat.ble_eq_true_of_le h
   rw [this] at hb; cases hb
  have:j=l.length:=by omega
  subst this
  rw [if_neg (by omega)]
  simp [hg]
theorem F43:FF 186 C43:=by
 refine fitE [(181,C39)] (by simp only [List.mem_cons,List.not_mem_nil,or_false]; rintro _ rfl <;> first|exact F39) Tryz.f186 ⟨rfl,by decide +kernel,by decide +kernel⟩ (fun _ _ _ hk h=>hk _ h) ?_
 rintro ⟨p,bs,t,w⟩ K ⟨h1,h2,h3,h4,h5⟩ h
 refine ⟨Nat.le_of_ble_eq_true rfl,?_⟩
 dsimp only at h h1 h2 h3 h4 h5 ⊢
 have hp:=pw_le h1
 repeat' (first|refine vz ?_|(conv=>whnf); first|with_reducible refine Wr.ex (wsh h1) ?_|with_reducible first|refine Sp.mk ?_ ?_|refine br_d (fun _=>?_) fun _=>?_|refine vM (fun _=>?_) fun _=>?_)
 refine Lp.mk ⟨Nat,fun i=>[(1,slM t),(2,.int .i64 w),(3,.ptr 0 0),(6,.nils),(7,.row 1 1 0 (swl bs t w i).length),(12,.int .i64 (pw p)),(13,.int .i64 i)],
  fun i=>[.box [.int .i64 p,slI bs],.row 1 (swl bs t w i).length fun j=>encI ((swl bs t w i).getD j 0)],fun i=>i≤(pw p).toNat,fun i=>(pw p).toNat-i,⟨0,Nat.zero_le _,⟨⟨[some 0,none],[],rfl,rfl,?_,?_⟩⟩⟩,?_⟩
 ·repeat' ((conv=>whnf); first|with_reducible exact True.intro|exact vW|with_reducible refine And.intro ?_ ?_)
  all_goals exact Chk.mk (pw_sh h1).symm
 ·exact wq
 intro i i1
 dsimp only
 have hll:=swl_le bs t w i
 repeat' (first|refine vz ?_|(conv=>whnf); first|with_reducible first|refine Sp.mk ?_ ?_|refine br_d (fun _=>?_) fun _=>?_|refine vM (fun _=>?_) fun _=>?_)
 ·rename_i hi
  have hi6:(i:Int)<64:=by omega
  have hi0:(0:Int)≤i:=by omega
  have ga:=add_lt hi0 hi6 h4 h5
  refine Dr.mk ⟨(.rd 0 (.rd 1 (.rd 2 (.rd 3 (.rd 4 (.rd 5 (.rd 6 (.rd 7 (.rd 8 (.ef 9 (.rd 10 (.rd 11 (.rd 12 (.rd 13 (.rd 14 (.rd 15 (.rd 16 (.rd 17 (.rd 18 (.ef 19 (.rd 20 .dn) .no)))))))))) .no)))))))))),by decide +kernel,?_⟩
  repeat' (first|refine vz ?_|(conv=>whnf); first|with_reducible refine Wr.ex (wshw (by omega) (by omega)) ?_|with_reducible first|refine Sp.mk ?_ ?_|refine br_d (fun _=>?_) fun _=>?_|refine vM (fun _=>?_) fun _=>?_)
  ·rename_i g
   have e:=(and0_has hi0 hi6 h4 h5).1 g
   refine ⟨⟨p,bs,t,i⟩,?_,⟨h2 _ hi0 hi6,h3⟩,?_⟩
   ·exact wq
   dsimp only
   repeat' (first|refine vz ?_|(conv=>whnf); first|with_reducible refine Wr.ex (wshw (by omega) (by omega)) ?_|with_reducible first|refine Sp.mk ?_ ?_|refine br_d (fun _=>?_) fun _=>?_|refine vM (fun _=>?_) fun _=>?_)
   ·rename_i hv
    have hn:swing bs t i w=false:=by unfold swing; rw [e,hv]; rfl
    refine ⟨i+1,by show i+1≤(pw p).toNat; omega,by show (pw p).toNat-(i+1)<(pw p).toNat-i; omega,⟨⟨[some 0,some 1],[],rfl,rfl,?_,?_⟩⟩⟩
    ·repeat' ((conv=>whnf); first|with_reducible exact True.intro|exact vW|with_reducible refine And.intro ?_ ?_)
     all_goals exact Chk.mk ⟨rfl,by rw [swl,if_neg (by rw [hn]; exact Bool.false_ne_true)]⟩
    ·repeat' ((conv=>whnf); first|with_reducible exact True.intro|exact vW|with_reducible refine And.intro ?_ ?_)
     all_goals exact Chk.mk (by rw [swl,if_neg (by rw [hn]; exact Bool.false_ne_true)]; exact ⟨rfl,fun _ _=>rfl⟩)
   ·rename_i hv
    refine ⟨⟨p,bs,t,add i w⟩,?_,⟨h2 _ ga.1 ga.2,h3⟩,?_⟩
    ·exact wq
    dsimp only
    repeat' (first|refine vz ?_|(conv=>whnf); first|with_reducible first|refine Sp.mk ?_ ?_|refine br_d (fun _=>?_) fun _=>?_|refine vM (fun _=>?_) fun _=>?_)
    ·rename_i hv2
     have hn:swing bs t i w=true:=by unfold swing; rw [e,hv,hv2]; rfl
     refine ⟨i+1,by show i+1≤(pw p).toNat; omega,by show (pw p).toNat-(i+1)<(pw p).toNat-i; omega,⟨⟨[some 0,some 3],[],rfl,rfl,?_,?_⟩⟩⟩
     ·repeat' ((conv=>whnf); first|with_reducible exact True.intro|exact vW|with_reducible refine And.intro ?_ ?_)
      all_goals exact Chk.mk ⟨rfl,by rw [swl,if_pos hn]; simp⟩
     ·repeat' ((conv=>whnf); first|with_reducible exact True.intro|exact vW|with_reducible refine And.intro ?_ ?_)
      all_goals exact Chk.mk (by rw [swl,if_pos hn]; exact app_ext rfl)
    ·rename_i hv2
     have hn:swing bs t i w=false:=by unfold swing; rw [e,hv,hv2]; rfl
     refine ⟨i+1,by show i+1≤(pw p).toNat; omega,by show (pw p).toNat-(i+1)<(pw p).toNat-i; omega,⟨⟨[some 0,some 1],[],rfl,rfl,?_,?_⟩⟩⟩
     ·repeat' ((conv=>whnf); first|with_reducible exact True.intro|exact vW|with_reducible refine And.intro ?_ ?_)
      all_goals exact Chk.mk ⟨rfl,by rw [swl,if_neg (by rw [hn]; exact Bool.false_ne_true)]⟩
     ·repeat' ((conv=>whnf); first|with_reducible exact True.intro|exact vW|with_reducible refine And.intro ?_ ?_)
      all_goals exact Chk.mk (by rw [swl,if_neg (by rw [hn]; exact Bool.false_ne_true)]; exact ⟨rfl,fun _ _=>rfl⟩)
  ·rename_i g
   have e:has i w=true:=by
    cases e:has i w with
    |true=>rfl
    |false=>exact absurd ((and0_has hi0 hi6 h4 h5).2 e) g
   have hn:swing bs t i w=false:=by unfold swing; rw [e]; rfl
   refine ⟨i+1,by show i+1≤(pw p).toNat; omega,by show (pw p).toNat-(i+1)<(pw p).toNat-i; omega,⟨⟨[some 0,some 1],[],rfl,rfl,?_,?_⟩⟩⟩
   ·repeat' ((conv=>whnf); first|with_reducible exact True.intro|exact vW|with_reducible refine And.intro ?_ ?_)
    all_goals exact Chk.mk ⟨rfl,by rw [swl,if_neg (by rw [hn]; exact Bool.false_ne_true)]⟩
   ·repeat' ((conv=>whnf); first|with_reducible exact True.intro|exact vW|with_reducible refine And.intro ?_ ?_)
    all_goals exact Chk.mk (by rw [swl,if_neg (by rw [hn]; exact Bool.false_ne_true)]; exact ⟨rfl,fun _ _=>rfl⟩)
 ·have e:i=(pw p).toNat:=by omega
  subst e
  refine Eq.mp (congrArg (fun z=>K (AV.sl 1 _ z)) ?_) h
  funext j
  show _=encI ((swl bs t w (pw p).toNat).getD (0+j) 0)
  rw [Nat.zero_add]
end Go.Proofs.YtapeebjjljohdaaGreatDoor.Vc
end
section
/- Part ZK: orders. -/
namespace Go.Proofs.YtapeebjjljohdaaGreatDoor.Vc
open Go.Proofs
set_option maxRecDepth 10000
set_option maxHeartbeats 4000000
def fac:Nat→Int
 |0=>1
 |k+1=>fac k*(k+1)
theorem fac_le:∀ k,k<7→1≤fac k∧fac k≤720:=by decide +kernel
def C49:List AV→(AV→Prop)→Prop:=con (X:=Int) (fun n=>[.int .i64 n]) (fun n=>-64≤n∧n≤6) fun n K=>K (.int .i64 (fac n.toNat))
theorem F49:FF 187 C49:=by
 refine fitE [] (by simp) Tryz.f187 ⟨rfl,by decide +kernel,by decide +kernel⟩ (fun _ _ _ hk h=>hk _ h) ?_
 rintro n K ⟨h1,h2⟩ h
 refine ⟨Nat.le_of_ble_eq_true rfl,?_⟩
 repeat' (first|refine vz ?_|(conv=>whnf); first|with_reducible first|refine Sp.mk ?_ ?_|refine br_d (fun _=>?_) fun _=>?_|refine vM (fun _=>?_) fun _=>?_)
 refine Lp.mk ⟨Nat,fun i=>[(0,.int .i64 n),(3,.int .i64 (fac (i+1))),(4,.int .i64 (i+2))],fun _=>[],fun i=>i=0∨(i:Int)+1≤n,fun i=>7-i,⟨0,.inl rfl,⟨⟨[],[],rfl,rfl,?_,?_⟩⟩⟩,?_⟩
 ·exact wq
 ·exact wq
 intro i i1
 have hf:i+1<7:=by omega
 have hb:=fac_le (i+1) hf
 have hm:fac (i+1)*((i:Int)+2)=fac (i+2):=by
  rw [show ((i:Int)+2)=(((i+1:Nat):Int)+1) by omega]
  rfl
 dsimp only
 repeat' ((conv=>whnf); first|((with_reducible refine Wr.ex (wi64 ?_ ?_) ?_); (focus (have:=fac_le (i+2) (by omega); rw [hm]; omega)); (focus (have:=fac_le (i+2) (by omega); rw [hm]; omega)))|refine vA ?_|with_reducible first|refine v8 ?_|refine Sp.mk ?_ ?_|refine vS ?_|refine vR ?_|refine vB ?_|refine br_nt ?_|refine br_tt ?_|refine br_ff ?_|refine vP ?_|refine vQ ?_|refine vT ?_|refine vF ?_|refine br_and ?_|refine br_or ?_|refine br_d (fun _=>?_) fun _=>?_|refine vM (fun _=>?_) fun _=>?_)
 ·refine ⟨i+1,.inr (by omega),by show 7-(i+1)<7-i; omega,⟨⟨[],[],rfl,rfl,?_,?_⟩⟩⟩
  ·repeat' ((conv=>whnf); first|with_reducible exact True.intro|exact vW|with_reducible refine And.intro ?_ ?_)
   all_goals first|exact Chk.mk hm|exact Chk.mk hm.symm|exact Chk.mk (by omega)
  ·exact wq
 ·have e:fac (i+1)=fac n.toNat:=by
   rcases i1 with rfl|i1
   ·rcases Int.lt_or_le n 1 with hn|hn
    ·rw [show n.toNat=0 by omega]; rfl
    ·rw [show n.toNat=1 by omega]
   ·rw [show n.toNat=i+1 by omega]
  rw [e]
  exact h
def C47:=C49
theorem F47:FF 150 C47:=by
 refine fitE [] (by simp) Tryz.f150 ⟨rfl,by decide +kernel,by decide +kernel⟩ (fun _ _ _ hk h=>hk _ h) ?_
 rintro n K ⟨h1,h2⟩ h
 refine ⟨Nat.le_of_ble_eq_true rfl,?_⟩
 repeat' (first|refine vz ?_|(conv=>whnf); first|with_reducible first|refine Sp.mk ?_ ?_|refine br_d (fun _=>?_) fun _=>?_|refine vM (fun _=>?_) fun _=>?_)
 refine Lp.mk ⟨Nat,fun i=>[(0,.int .i64 n),(3,.int .i64 (fac (i+1))),(4,.int .i64 (i+2))],fun _=>[],fun i=>i=0∨(i:Int)+1≤n,fun i=>7-i,⟨0,.inl rfl,⟨⟨[],[],rfl,rfl,?_,?_⟩⟩⟩,?_⟩
 ·exact wq
 ·exact wq
 intro i i1
 have hf:i+1<7:=by omega
 have hb:=fac_le (i+1) hf
 have hm:fac (i+1)*((i:Int)+2)=fac (i+2):=by
  rw [show ((i:Int)+2)=(((i+1:Nat):Int)+1) by omega]
  rfl
 dsimp only
 repeat' ((conv=>whnf); first|((with_reducible refine Wr.ex (wi64 ?_ ?_) ?_); (focus (have:=fac_le (i+2) (by omega); rw [hm]; omega)); (focus (have:=fac_le (i+2) (by omega); rw [hm]; omega)))|refine vA ?_|with_reducible first|refine v8 ?_|refine Sp.mk ?_ ?_|refine vS ?_|refine vR ?_|refine vB ?_|refine br_nt ?_|refine br_tt ?_|refine br_ff ?_|refine vP ?_|refine vQ ?_|refine vT ?_|refine vF ?_|refine br_and ?_|refine br_or ?_|refine br_d (fun _=>?_) fun _=>?_|refine vM (fun _=>?_) fun _=>?_)
 ·refine ⟨i+1,.inr (by omega),by show 7-(i+1)<7-i; omega,⟨⟨[],[],rfl,rfl,?_,?_⟩⟩⟩
  ·repeat' ((conv=>whnf); first|with_reducible exact True.intro|exact vW|with_reducible refine And.intro ?_ ?_)
   all_goals first|exact Chk.mk hm|exact Chk.mk hm.symm|exact Chk.mk (by omega)
  ·exact wq
 ·have e:fac (i+1)=fac n.toNat:=by
   rcases i1 with rfl|i1
   ·rcases Int.lt_or_le n 1 with hn|hn
    ·rw [show n.toNat=0 by omega]; rfl
    ·rw [show n.toNat=1 by omega]
   ·rw [show n.toNat=i+1 by omega]
  rw [e]
  exact h
end Go.Proofs.YtapeebjjljohdaaGreatDoor.Vc
end
section
/- Part ZL: pivots over all orders. -/
namespace Go.Proofs.YtapeebjjljohdaaGreatDoor.Vc
open Go.Proofs
set_option maxRecDepth 10000
set_option maxHeartbeats 4000000
def ord (p c:Int):Int:=fac (heads c.toNat)*fac (p-1-heads c.toNat).toNat
def sumO (p:Int):List Int→Int
 |[]=>0
 |c :: l=>ord p c+sumO p l
theorem sumO_app (p:Int):∀ (l m:List Int),sumO p (l ++ m)=sumO p l+sumO p m
 |[],m=>by simp [sumO]
 |c :: l,m=>by simp only [List.cons_append,sumO,sumO_app p l m]; omega
theorem heads6:∀ c,c<64→heads c≤6:=by decide +kernel
theorem fac0 (k:Int) (h:k≤6):1≤fac k.toNat∧fac k.toNat≤720:=fac_le k.toNat (by omega)
theorem ord_le {p c:Int} (h1:p≤6) (h2:0≤c) (h3:c<64):0≤ord p c∧ord p c≤518400:=by
 have a:=fac_le (heads c.toNat) (by have:=heads6 c.toNat (by omega); omega)
 have b:=fac0 (p-1-heads c.toNat) (by omega)
 unfold ord
 refine ⟨Int.mul_nonneg (by omega) (by omega),?_⟩
 have:=Int.mul_le_mul a.2 b.2 (by omega) (by omega)
 omega
structure Ox where
 h:House
 t:List Mark
 who:Int
def pivotsOf (x:Ox):Int:=if termOk x.h x.t∧0≤x.who∧x.who<x.h.p then sumO x.h.p (swl x.h.bs x.t x.who (pw x.h.p).toNat) else -1
def C26:List AV→(AV→Prop)→Prop:=con (X:=Ox) (fun x=>[enH x.h,slM x.t,.int .i64 x.who]) (fun x=>termI x.h x.t∧i64r x.who) fun x K=>K (.int .i64 (pivotsOf x))
theorem swl_lt (bs:List Int) (t:List Mark) (w:Int):∀ k,∀ c∈swl bs t w k,0≤c∧c<k
 |0,c,h=>by cases h
 |k+1,c,h=>by
  unfold swl at h
  split at h
  ·rcases List.mem_append.1 h with h|h
   ·have:=swl_lt bs t w k c h; omega
   ·simp at h; omega
  ·have:=swl_lt bs t w k c h; omega
theorem sumO_le {p:Int} (hp:p≤6):∀ l:List Int,(∀ c∈l,0≤c∧c<64)→0≤sumO p l∧sumO p l≤518400*l.length
 |[],_=>by simp [sumO]
 |c :: l,h=>by
  have h1:=ord_le hp (h c List.mem_cons_self).1 (h c List.mem_cons_self).2
  have h2:=sumO_le hp l fun d hd=>h d (List.mem_cons_of_mem _ hd)
  simp only [sumO,List.length_cons]
  omega
theorem sumO_take {p:Int} {l:List Int} {i:Nat} (h:i<l.length):sumO p (l.take (i+1))=sumO p (l.take i)+ord p (l.getD i 0):=by
 rw [take_succ' 0 h,sumO_app]
 simp [sumO]
theorem sayOk_of {p:Int} {bs:List Int} {t:List Mark} (h:termOk ⟨p,bs⟩ t) (c:Int) (h1:0≤c) (h2:c<64):sayOk ⟨p,bs,t,c⟩:=by
 have pp:people p:=h.1.1
 have pw2:=(pw_le pp).2
 have:=h.2.1
 exact ⟨by show t.length<4611686018427387904; have:t.length≤9:=this; omega,h.2.2,fun b hb=>by have g:crowd p b:=(h.1.2.2 b hb).1; have:=g.2; omega,h1,h2⟩
theorem F26:FF 158 C26:=by
 refine fitE [(153,C38),(186,C43),(184,C50),(187,C49)] (by simp only [List.mem_cons,List.not_mem_nil,or_false]; rintro _ (rfl|rfl|rfl|rfl) <;> first|exact F38|exact F43|exact F50|exact F49) Tryz.f158 ⟨rfl,by decide +kernel,by decide +kernel⟩ (fun _ _ _ hk h=>hk _ h) ?_
 rintro ⟨⟨p,bs⟩,t,w⟩ K ⟨hI,hw⟩ h
 refine ⟨Nat.le_of_ble_eq_true rfl,?_⟩
 dsimp only at h hI hw ⊢
 unfold pivotsOf at h
 dsimp only at h
 repeat' (first|refine vz ?_|(conv=>whnf); first|with_reducible first|refine Sp.mk ?_ ?_|refine br_d (fun _=>?_) fun _=>?_|refine vM (fun _=>?_) fun _=>?_)
 refine ⟨(⟨p,bs⟩,t),?_,⟨hI⟩,?_⟩
 ·exact wq
 repeat' (first|refine vz ?_|(conv=>whnf); first|with_reducible first|refine Sp.mk ?_ ?_|refine br_d (fun _=>?_) fun _=>?_|refine vM (fun _=>?_) fun _=>?_)
 ·rename_i hO h1
  rw [if_neg (fun q=>by have:=q.2.1; omega)] at h
  exact h
 ·rename_i hO _ h2
  rw [if_neg (fun q=>by have:=q.2.2; have h2:p≤w:=h2; omega)] at h
  exact h
 ·rename_i hO h1 h2
  replace h2:¬ p≤w:=h2
  have hO':termOk ⟨p,bs⟩ t:=hO
  rw [if_pos ⟨hO',by omega,by omega⟩] at h
  have pp:people p:=hO'.1.1
  have pw2:=pw_le pp
  have hp:=pp.2
  have hl:=swl_lt bs t w (pw p).toNat
  have hll:=swl_le bs t w (pw p).toNat
  refine ⟨⟨p,bs,t,w⟩,?_,⟨pp,sayOk_of hO',hO'.2.1,by show 0≤w; omega,by show w<6; omega⟩,?_⟩
  ·exact wq
  dsimp only
  generalize hL:swl bs t w (pw p).toNat=L at h hl hll ⊢
  have hl2:∀ c∈L,0≤c∧c<64:=fun c hc=>by have:=hl c hc; omega
  repeat' (first|refine vz ?_|(conv=>whnf); first|with_reducible first|refine Sp.mk ?_ ?_|refine br_d (fun _=>?_) fun _=>?_|refine vM (fun _=>?_) fun _=>?_)
  refine Lp.mk ⟨Nat,fun i=>[(3,.ptr 0 0),(7,.int .i64 (sumO p (L.take i))),(27,slI L),(28,.int .i64 L.length),(29,.int .i64 i)],
   fun i=>[.box [.int .i64 p,slI bs]],fun i=>i≤L.length,fun i=>L.length-i,⟨0,Nat.zero_le _,⟨⟨[some 0],[],rfl,rfl,?_,?_⟩⟩⟩,?_⟩
  ·exact wq
  ·exact wq
  intro i i1
  dsimp only
  have hs:=sumO_le hp (L.take i) fun c hc=>hl2 c (List.mem_of_mem_take hc)
  have ht:(L.take i).length≤64:=by rw [List.length_take]; omega
  repeat' (first|refine vz ?_|(conv=>whnf); first|with_reducible first|refine Sp.mk ?_ ?_|refine br_d (fun _=>?_) fun _=>?_|refine vM (fun _=>?_) fun _=>?_)
  ·rename_i hi
   replace hi:i<L.length:=by omega
   have hc:=hl2 _ (getD_mem' (d:=0) hi)
   have ho:=ord_le hp hc.1 hc.2
   have hh:=heads6 (L.getD i 0).toNat (by omega)
   have hs2:=sumO_take (p:=p) hi
   have f1:=fac_le (heads (L.getD i 0).toNat) (by omega)
   have f2:=fac0 (p-1-heads (L.getD i 0).toNat) (by omega)
   refine Dr.mk ⟨(.rd 0 (.rd 1 (.rd 4 (.rd 5 (.rd 6 (.rd 7 (.ef 2 (.ef 3 (.ef 8 (.rd 9 (.ef 10 (.rd 11 (.rd 12 (.rd 13 .dn))) .no)) .no) .no) .no))))))),by decide +kernel,?_⟩
   repeat' (first|refine vz ?_|(conv=>whnf); first|with_reducible first|refine Sp.mk ?_ ?_|refine br_d (fun _=>?_) fun _=>?_|refine vM (fun _=>?_) fun _=>?_)
   refine ⟨L.getD i 0,?_,⟨hc⟩,?_⟩
   ·exact wq
   repeat' (first|refine vz ?_|(conv=>whnf); first|with_reducible first|refine Sp.mk ?_ ?_|refine br_d (fun _=>?_) fun _=>?_|refine vM (fun _=>?_) fun _=>?_)
   refine ⟨heads (L.getD i 0).toNat,?_,⟨by omega⟩,?_⟩
   ·exact wq
   have ho':0≤fac ((heads (L.getD i 0).toNat:Nat):Int).toNat*fac (p-1-heads (L.getD i 0).toNat).toNat∧fac ((heads (L.getD i 0).toNat:Nat):Int).toNat*fac (p-1-heads (L.getD i 0).toNat).toNat≤518400:=by rw [Int.toNat_natCast]; exact ho
   repeat' (first|refine vz ?_|(conv=>whnf); first|with_reducible first|refine Sp.mk ?_ ?_|refine br_d (fun _=>?_) fun _=>?_|refine vM (fun _=>?_) fun _=>?_)
   refine ⟨L.getD i 0,?_,⟨hc⟩,?_⟩
   ·exact wq
   repeat' (first|refine vz ?_|(conv=>whnf); first|with_reducible first|refine Sp.mk ?_ ?_|refine br_d (fun _=>?_) fun _=>?_|refine vM (fun _=>?_) fun _=>?_)
   refine ⟨p-1-heads (L.getD i 0).toNat,?_,⟨by have:=pp.1; omega⟩,?_⟩
   ·exact wq
   repeat' (first|refine vz ?_|(conv=>whnf); first|with_reducible refine Wr.ex (wi64 (by omega) (by omega)) ?_|with_reducible first|refine Sp.mk ?_ ?_|refine br_d (fun _=>?_) fun _=>?_|refine vM (fun _=>?_) fun _=>?_)
   refine ⟨i+1,by show i+1≤L.length; omega,by show L.length-(i+1)<L.length-i; omega,⟨⟨[some 0],[],rfl,rfl,?_,?_⟩⟩⟩
   ·repeat' ((conv=>whnf); first|with_reducible exact True.intro|exact vW|with_reducible refine And.intro ?_ ?_)
    all_goals exact Chk.mk hs2
   ·exact wq
  ·rw [List.take_of_length_le (by omega)]
   exact h
 ·rename_i hO
  rw [if_neg (fun q=>hO q.1)] at h
  exact h
end Go.Proofs.YtapeebjjljohdaaGreatDoor.Vc
end
section
/- Part ZT: duals, plain. -/
namespace Go.Proofs.YtapeebjjljohdaaGreatDoor.Vc
set_option maxRecDepth 10000
set_option maxHeartbeats 4000000
def pop (m:Nat):Nat:=m % 2+m / 2 % 2+m / 4 % 2+m / 8 % 2+m / 16 % 2+m / 32 % 2
theorem heads_pop:∀ m,m<64→heads m=pop m:=by decide +kernel
theorem pop_mono:∀ b,b<64→∀ c,c<64→∀ w,w<6→pop (band (b:Nat) (c:Nat)).toNat≤pop (band (b:Nat) (add (c:Nat) (w:Nat))).toNat:=by decide +kernel
theorem pop_full:∀ p,p<7→∀ b,b<2 ^ p→band (b:Nat) ((2 ^ p-1:Nat):Int)=b:=by decide +kernel
def full (p:Int):Int:=pw p-1
theorem pw_nat {p:Int} (h:people p):pw p=((2 ^ p.toNat:Nat):Int):=by
 rcases people_cases h with rfl|rfl|rfl|rfl|rfl|rfl <;> rfl
def dualM (bs:List Int) (m:Mark):Mark:=if m.kind=0 then ⟨0,m.at_,heads (bs.getD m.at_.toNat 0).toNat+1-m.need⟩ else if m.kind=1 then ⟨2,m.at_,m.need⟩ else ⟨1,m.at_,m.need⟩
def dualT (bs:List Int) (t:List Mark):List Mark:=t.map (dualM bs)
theorem stepP_dual {bs:List Int} {m:Mark} {k j:Nat} (h:stepP bs m k=some j):stepP bs (dualM bs m) k=some j:=by
 obtain ⟨kd,a,n⟩:=m
 unfold stepP dualM at *
 dsimp only at h ⊢
 split at h
 ·rename_i g
  injection h with h
  rw [if_pos g.1]
  dsimp only
  rw [if_pos (by omega),h]
 ·rename_i g
  split at h
  ·rename_i g2
   injection h with h
   rw [if_neg (show ¬ kd=0 by omega)]
   by_cases hk:kd=1
   ·rw [if_pos hk]; dsimp only; rw [if_neg (by omega),if_pos (by omega),h]
   ·rw [if_neg hk]; dsimp only; rw [if_neg (by omega),if_pos (by omega),h]
  ·cases h
theorem walkP_dual {bs:List Int}:∀ (t:List Mark) (k j:Nat),walkP bs t k=some j→walkP bs (dualT bs t) k=some j
 |[],k,j,h=>h
 |m :: t,k,j,h=>by
  simp only [walkP] at h
  cases e:stepP bs m k with
  |none=>rw [e] at h; cases h
  |some i =>
   rw [e] at h
   show walkP bs (dualM bs m :: dualT bs t) k=some j
   simp only [walkP]
   rw [stepP_dual e]
   exact walkP_dual t i j h
theorem termOk_dual {p:Int} {bs:List Int} {t:List Mark} (h:termOk ⟨p,bs⟩ t):termOk ⟨p,bs⟩ (dualT bs t) :=
 ⟨h.1,by show (dualT bs t).length≤9; rw [dualT,List.length_map]; exact h.2.1,walkP_dual t 0 1 h.2.2⟩
def goodM (bs:List Int) (m:Mark):Prop:=(m.kind=0∧0≤m.at_∧m.at_<bs.length∧1≤m.need∧m.need≤heads (bs.getD m.at_.toNat 0).toNat)∨m.kind=1∨m.kind=2
theorem walk_good {bs:List Int}:∀ (t:List Mark) (k j:Nat),walkP bs t k=some j→∀ m∈t,goodM bs m
 |[],_,_,_,m,hm=>by cases hm
 |x :: t,k,j,h,m,hm=>by
  simp only [walkP] at h
  cases e:stepP bs x k with
  |none=>rw [e] at h; cases h
  |some i =>
   rw [e] at h
   rcases List.mem_cons.1 hm with rfl|hm
   ·unfold stepP at e
    split at e
    ·rename_i g; exact .inl g
    ·split at e
     ·rename_i g; exact .inr g.1
     ·cases e
   ·exact walk_good t i j h m hm
section
variable {p:Int} {bs:List Int}
theorem body_ok (hb:∀ b∈bs,crowd p b∧b≠0) {m:Mark} (h1:0≤m.at_) (h2:m.at_<bs.length):crowd p (bs.getD m.at_.toNat 0):=(hb _ (getD_mem' (by omega))).1
theorem says_mono {t:List Mark} (ht:termOk ⟨p,bs⟩ t) {c w:Int} (h1:0≤c) (h2:c<pw p) (h3:0≤w) (h4:w<p) (h:says bs c t=true):says bs (add c w) t=true:=by
 have hp:people p:=ht.1.1
 have pl:=pw_le hp
 have hp6:p≤6:=hp.2
 have hb:=ht.1.2.2
 have hc:∀ m,goodM bs m→m.kind=0→cnt bs c m=true→cnt bs (add c w) m=true:=by
  intro m hm hk hx
  rcases hm with ⟨_,g1,g2,g3,g4⟩|g|g <;> try omega
  obtain ⟨_,k1,k2⟩:=body_ok hb g1 g2
  unfold cnt at hx ⊢
  generalize hB:bs.getD m.at_.toNat 0=B at hx g4 k1 k2
  have k3:B<pw p:=k2
  have:=pop_mono B.toNat (by omega) c.toNat (by omega) w.toNat (by omega)
  rw [Int.toNat_of_nonneg k1,Int.toNat_of_nonneg h1,Int.toNat_of_nonneg h3] at this
  have b1:=band_lt k1 (by omega) h1 (by omega)
  have b3:=add_lt h1 (by omega) h3 (by omega)
  have b2:=band_lt (a:=B) (b:=add c w) k1 (by omega) b3.1 b3.2
  rw [decide_eq_true_eq,heads_pop _ (by omega)] at hx
  rw [decide_eq_true_eq,heads_pop _ (by omega)]
  omega
 have key:∀ (t:List Mark) (s r:List Bool),(∀ m∈t,goodM bs m)→s.length=r.length→(∀ i,s.getD i false=true→r.getD i false=true) →
   (runS bs c t s).length=(runS bs (add c w) t r).length∧∀ i,(runS bs c t s).getD i false=true→(runS bs (add c w) t r).getD i false=true:=by
  intro t
  induction t with
  |nil=>exact fun s r _ hl hi=>⟨hl,hi⟩
  |cons m t ih =>
   intro s r hg hl hi
   have hm:=hg m List.mem_cons_self
   refine ih _ _ (fun x hx=>hg x (List.mem_cons_of_mem _ hx)) ?_ ?_
   ·unfold stepS
    by_cases hk:m.kind=0
    ·rw [if_pos hk,if_pos hk]; simp [hl]
    ·rw [if_neg hk,if_neg hk]
     match s,r,hl with
     |[],[],_=>rfl
     |[_],[_],_=>rfl
     |b :: a :: s,b' :: a' :: r,hl=>simpa using hl
   ·unfold stepS
    by_cases hk:m.kind=0
    ·rw [if_pos hk,if_pos hk]
     intro i
     cases i with
     |zero=>simpa using hc m hm hk
     |succ i=>simpa using hi i
    ·rw [if_neg hk,if_neg hk]
     match s,r,hl with
     |[],[],_=>exact hi
     |[_],[_],_=>exact hi
     |b :: a :: s,b' :: a' :: r,hl =>
      intro i
      have h0:=hi 0
      have h1:=hi 1
      simp only [List.getD_cons_zero,List.getD_cons_succ] at h0 h1
      cases i with
      |zero =>
       simp only [List.getD_cons_zero]
       by_cases h2:m.kind=2
       ·rw [if_pos h2,if_pos h2]
        cases a <;> cases b <;> cases a' <;> cases b' <;> simp_all
       ·rw [if_neg h2,if_neg h2]
        cases a <;> cases b <;> cases a' <;> cases b' <;> simp_all
      |succ i=>simpa using hi (i+2)
 have:=(key t [] [] (walk_good t 0 1 ht.2.2) rfl (fun i h=>h)).2 0
 unfold says at h ⊢
 revert this h
 cases runS bs c t [] <;> cases runS bs (add c w) t [] <;> simp
 exact fun h1 h2=>h2 h1
theorem says_const {t:List Mark} (ht:termOk ⟨p,bs⟩ t) {c:Int} {v:Bool} (hc:∀ m,goodM bs m→m.kind=0→cnt bs c m=v):says bs c t=v:=by
 have key:∀ (t:List Mark) (s:List Bool),(∀ m∈t,goodM bs m)→(∀ x∈s,x=v)→∀ x∈runS bs c t s,x=v:=by
  intro t
  induction t with
  |nil=>exact fun s _ h=>h
  |cons m t ih =>
   intro s hg hs
   refine ih _ (fun x hx=>hg x (List.mem_cons_of_mem _ hx)) ?_
   unfold stepS
   by_cases hk:m.kind=0
   ·rw [if_pos hk]
    intro x hx
    rcases List.mem_cons.1 hx with rfl|hx
    ·exact hc m (hg m List.mem_cons_self) hk
    ·exact hs x hx
   ·rw [if_neg hk]
    match s with
    |[]=>exact hs
    |[_]=>exact hs
    |b :: a :: r =>
     intro x hx
     have h1:=hs b List.mem_cons_self
     have h2:=hs a (List.mem_cons_of_mem _ List.mem_cons_self)
     rcases List.mem_cons.1 hx with rfl|hx
     ·rw [h1,h2]; split <;> cases v <;> rfl
     ·exact hs x (List.mem_cons_of_mem _ (List.mem_cons_of_mem _ hx))
 have f:=(runS_frame (bs:=bs) (c:=c) t [] [] 1 ht.2.2).2
 have k:=key t [] (walk_good t 0 1 ht.2.2) (fun x hx=>by cases hx)
 unfold says
 revert f k
 match runS bs c t [] with
 |[]=>intro f; cases f
 |x :: r=>intro f k; exact k x List.mem_cons_self
theorem says_full {t:List Mark} (ht:termOk ⟨p,bs⟩ t):says bs (full p) t=true:=says_const ht fun m hm hk=>by
 rcases hm with ⟨_,g1,g2,g3,g4⟩|g|g <;> try omega
 obtain ⟨hp,k1,k2⟩:=body_ok (p:=p) (bs:=bs) ht.1.2.2 g1 g2
 have pl:=pw_le hp
 have pn:=pw_nat hp
 have hp6:p.toNat<7:=by have:=hp.2; omega
 unfold cnt
 generalize hB:bs.getD m.at_.toNat 0=B at g4 k1 k2
 have:=pop_full p.toNat hp6 B.toNat (by omega)
 rw [Int.toNat_of_nonneg k1,show ((2 ^ p.toNat-1:Nat):Int)=full p by unfold full; omega] at this
 rw [this,decide_eq_true_eq]
 omega
end
end Go.Proofs.YtapeebjjljohdaaGreatDoor.Vc
end
section
/- Part ZU: swings and pivots, plain. -/
namespace Go.Proofs.YtapeebjjljohdaaGreatDoor.Vc
set_option maxRecDepth 10000
set_option maxHeartbeats 4000000
/-! ### Crowds, as numbers -/
end Go.Proofs.YtapeebjjljohdaaGreatDoor.Vc
end
section
/- Part ZV: swings and pivots of duals; all pivots together. -/
namespace Go.Proofs.YtapeebjjljohdaaGreatDoor.Vc
set_option maxRecDepth 10000
set_option maxHeartbeats 4000000
section
variable {p:Int} {bs:List Int} {t:List Mark}
structure Who (p:Int) (w:Nat):Prop where
 pp:people p
 lt:(w:Int)<p
theorem Who.n {w:Nat} (h:Who p w):p.toNat<7∧w<p.toNat∧((p.toNat:Nat):Int)=p∧(pw p).toNat=2 ^ p.toNat∧pw p=((2 ^ p.toNat:Nat):Int):=by
 have h1:=h.pp.1
 have h2:=h.pp.2
 have h3:=h.lt
 have h4:=pw_nat h.pp
 exact ⟨by omega,by omega,by omega,by rw [h4,Int.toNat_natCast],h4⟩
theorem full_nat (h:people p):full p=((2 ^ p.toNat-1:Nat):Int):=by
 have h4:=pw_nat h
 have h5:=pw_le h
 unfold full
 omega
end
end Go.Proofs.YtapeebjjljohdaaGreatDoor.Vc
end
section
/- Part QA: what is asked of a rule (plain). -/
namespace Go.Proofs.YtapeebjjljohdaaGreatDoor.Vc
set_option maxRecDepth 10000
set_option maxHeartbeats 4000000
def crw (n:Nat):List Int:=(List.range n).map fun (k:Nat)=>(k:Int)
theorem crw_succ (n:Nat):crw (n+1)=crw n ++ [(n:Int)]:=by unfold crw; rw [List.range_succ,List.map_append]; rfl
theorem mem_crw {c:Int} {n:Nat}:c∈crw n ↔ 0≤c∧c<n:=by
 unfold crw
 rw [List.mem_map]
 constructor
 ·rintro ⟨k,h,rfl⟩
  rw [List.mem_range] at h
  omega
 ·intro h
  exact ⟨c.toNat,List.mem_range.2 (by omega),by omega⟩
def cl (q:Int→Bool) (n:Nat):List Int:=(crw n).filter q
theorem cl_t {q:Int→Bool} {n:Nat} (h:q n=true):cl q (n+1)=cl q n ++ [(n:Int)]:=by
 unfold cl; rw [crw_succ,List.filter_append]; simp [h]
theorem cl_f {q:Int→Bool} {n:Nat} (h:q n=false):cl q (n+1)=cl q n:=by
 unfold cl; rw [crw_succ,List.filter_append]; simp [h]
theorem cl_le (q:Int→Bool) (n:Nat):(cl q n).length≤n:=by
 have:=List.length_filter_le q (crw n)
 unfold cl
 have e:(crw n).length=n:=by unfold crw; rw [List.length_map,List.length_range]
 omega
theorem mem_cl {q:Int→Bool} {n:Nat} {c:Int}:c∈cl q n ↔ (0≤c∧c<n)∧q c=true:=by
 unfold cl; rw [List.mem_filter,mem_crw]
def sayl (bs:List Int) (t:List Mark) (n:Nat):List Int:=cl (fun c=>says bs c t) n
def lsB (L:List Int) (c:Int):Bool:=L.all fun d=>decide (d=c) || decide (¬ band d c=d)
def memB (L:List Int) (c:Int):Bool:=L.any fun d=>decide (d=c)
theorem memB_iff {L:List Int} {c:Int}:memB L c=true ↔ c∈L:=by
 unfold memB
 rw [List.any_eq_true]
 constructor
 ·rintro ⟨d,h1,h2⟩; rw [← of_decide_eq_true h2]; exact h1
 ·intro h; exact ⟨c,h,decide_eq_true rfl⟩
def leastP (L:List Int) (c:Int):Bool:=memB L c && lsB L c
def leastF (L:List Int) (n:Nat):List Int:=cl (leastP L) n
theorem all_succ {q:Int→Bool} {L:List Int} {i:Nat} (h:i<L.length):(L.take (i+1)).all q=((L.take i).all q && q (L.getD i 0)):=by
 rw [take_succ' 0 h,List.all_append]; simp
theorem any_succ {q:Int→Bool} {L:List Int} {i:Nat} (h:i<L.length):(L.take (i+1)).any q=((L.take i).any q || q (L.getD i 0)):=by
 rw [take_succ' 0 h,List.any_append]; simp
theorem filt_t {q:Int→Bool} {L:List Int} {i:Nat} (h:i<L.length) (e:q (L.getD i 0)=true):(L.take (i+1)).filter q=(L.take i).filter q ++ [L.getD i 0]:=by
 rw [take_succ' 0 h,List.filter_append]
 simp only [List.filter_cons,List.filter_nil,e,if_true]
theorem filt_f {q:Int→Bool} {L:List Int} {i:Nat} (h:i<L.length) (e:q (L.getD i 0)=false):(L.take (i+1)).filter q=(L.take i).filter q:=by
 rw [take_succ' 0 h,List.filter_append]
 simp only [List.filter_cons,List.filter_nil,e,Bool.false_eq_true,if_false,List.append_nil]
theorem least_filter {q:Int→Bool} {n:Nat}:(cl q n).filter (lsB (cl q n))=leastF (cl q n) n:=by
 obtain ⟨L,hL⟩:∃ L,cl q n=L:=⟨_,rfl⟩
 unfold leastF
 rw [hL]
 show L.filter (lsB L)=(crw n).filter (leastP L)
 have e:L=(crw n).filter q:=by rw [← hL]; rfl
 conv=>lhs; arg 2; rw [e]
 rw [List.filter_filter]
 apply List.filter_congr
 intro c hc
 unfold leastP
 by_cases h:q c=true
 ·have:memB L c=true:=memB_iff.2 (by rw [e]; exact List.mem_filter.2 ⟨hc,h⟩)
  rw [h,this,Bool.and_true,Bool.true_and]
 ·have h':q c=false:=by simpa using h
  have:memB L c=false:=by
   cases hm:memB L c with
   |false=>rfl
   |true=>exact absurd (List.mem_filter.1 (e ▸ memB_iff.1 hm)).2 h
  rw [h',this,Bool.and_false,Bool.false_and]
theorem band_le:∀ d,d<64→∀ c,c<64→band (d:Nat) (c:Nat)≤(c:Nat):=by decide +kernel
theorem least_ne {q:Int→Bool} {n:Nat} (hn:n≤64) (h:∃ c,c∈cl q n):leastF (cl q n) n≠[]:=by
 have key:∀ k:Nat,∀ c,c∈cl q n→c<k→∃ c,c∈cl q n∧∀ d,d∈cl q n→c≤d:=by
  intro k
  induction k with
  |zero=>intro c hc h; have:=(mem_cl.1 hc).1; omega
  |succ k ih =>
   intro c hc h
   by_cases g:∀ d,d∈cl q n→c≤d
   ·exact ⟨c,hc,g⟩
   ·obtain ⟨d,hd⟩:=Classical.not_forall.1 g
    have h1:d∈cl q n:=Classical.byContradiction fun z=>hd fun z'=>absurd z' z
    have h2:¬ c≤d:=fun z=>hd fun _=>z
    exact ih d h1 (by omega)
 obtain ⟨c0,h0⟩:=h
 obtain ⟨c,hc,hm⟩:=key n c0 h0 (mem_cl.1 h0).1.2
 have h1:=mem_cl.1 hc
 have:c∈leastF (cl q n) n:=by
  refine mem_cl.2 ⟨h1.1,?_⟩
  unfold leastP
  rw [memB_iff.2 hc,Bool.true_and]
  unfold lsB
  rw [List.all_eq_true]
  intro d hd
  have h2:=mem_cl.1 hd
  have h3:=hm d hd
  by_cases e:d=c
  ·rw [decide_eq_true e,Bool.true_or]
  ·have hb:=band_le d.toNat (by omega) c.toNat (by omega)
   rw [Int.toNat_of_nonneg h2.1.1,Int.toNat_of_nonneg h1.1.1] at hb
   rw [decide_eq_true (show ¬ band d c=d by omega),Bool.or_true]
 intro e
 rw [e] at this
 cases this
theorem crw_sorted:∀ n,(crw n).Pairwise (·<·)
 |0=>List.Pairwise.nil
 |n+1=>by
  rw [crw_succ,List.pairwise_append]
  refine ⟨crw_sorted n,List.pairwise_singleton _ _,fun a ha b hb=>?_⟩
  rw [List.mem_singleton] at hb
  have:=(mem_crw.1 ha).2
  omega
theorem cl_sorted (q:Int→Bool) (n:Nat):(cl q n).Pairwise (·<·):=(crw_sorted n).filter q
section
variable {p:Int} {bs:List Int} {t:List Mark}
theorem least_some (ht:termOk ⟨p,bs⟩ t):leastF (sayl bs t (pw p).toNat) (pw p).toNat≠[]:=by
 have hp:people p:=ht.1.1
 have pl:=pw_le hp
 have h1:=says_full ht
 refine least_ne (by omega) ⟨full p,mem_cl.2 ⟨⟨by unfold full; omega,by unfold full; omega⟩,h1⟩⟩
def needF (p:Int) (bs:List Int) (t:List Mark):Nat→Int
 |0=>0
 |k+1=>if says bs (full p-((2 ^ k:Nat):Int)) t=true then needF p bs t k else add (needF p bs t k) k
def sameU (bs:List Int) (t:List Mark) (w:Int) (n:Nat):Bool:=(crw n).all fun c=>says bs c t == says bs (add c w) t
theorem rall_succ {q:Int→Bool} (n:Nat):(crw (n+1)).all q=((crw n).all q && q n):=by rw [crw_succ,List.all_append]; simp
theorem rany_succ {q:Int→Bool} (n:Nat):(crw (n+1)).any q=((crw n).any q || q n):=by rw [crw_succ,List.any_append]; simp
theorem swl_nil {w:Int}:∀ n:Nat,(swl bs t w n).length=0 ↔ ∀ c:Nat,c<n→swing bs t (c:Int) w=false
 |0=>⟨fun _ c h=>absurd h (Nat.not_lt_zero _),fun _=>rfl⟩
 |n+1=>by
  have ih:=swl_nil (w:=w) n
  unfold swl
  split
  ·rename_i h
   constructor
   ·intro e; rw [List.length_append] at e; simp at e
   ·intro e; rw [e n (Nat.lt_succ_self n)] at h; cases h
  ·rename_i h
   rw [ih]
   constructor
   ·intro e c hc
    by_cases hcn:c=n
    ·subst hcn; simpa using h
    ·exact e c (by omega)
   ·intro e c hc; exact e c (by omega)
theorem has_add_same:∀ w,w<6→∀ c,c<64→has (c:Nat) (w:Nat)=true→add (c:Nat) (w:Nat)=(c:Nat):=by decide +kernel
theorem same_idle (ht:termOk ⟨p,bs⟩ t) {w:Nat} (hw:(w:Int)<p):sameU bs t w (pw p).toNat=decide ((swl bs t w (pw p).toNat).length=0):=by
 have hp:people p:=ht.1.1
 have pl:=pw_le hp
 have hp6:=hp.2
 have e:sameU bs t w (pw p).toNat=true ↔ (swl bs t w (pw p).toNat).length=0:=by
  rw [swl_nil]
  unfold sameU
  rw [List.all_eq_true]
  constructor
  ·intro h c hc
   have:=h c (mem_crw.2 ⟨by omega,by omega⟩)
   rw [beq_iff_eq] at this
   unfold swing
   rw [this]
   cases says bs (add c w) t <;> simp
  ·intro h c hc
   have hc':=mem_crw.1 hc
   have h1:=h c.toNat (by omega)
   rw [Int.toNat_of_nonneg hc'.1] at h1
   unfold swing at h1
   rw [beq_iff_eq]
   cases hh:has c w with
   |true =>
    have:=has_add_same w (by omega) c.toNat (by omega)
    rw [Int.toNat_of_nonneg hc'.1] at this
    rw [this hh]
   |false =>
    have hm:=says_mono ht (c:=c) (w:=w) hc'.1 (by omega) (by omega) hw
    rw [hh] at h1
    cases hs:says bs c t with
    |true=>rw [hm hs]
    |false =>
     rw [hs] at h1
     simpa using h1.symm
 cases hb:sameU bs t w (pw p).toNat with
 |true=>exact (decide_eq_true (e.1 hb)).symm
 |false=>exact (decide_eq_false fun q=>by rw [e.2 q] at hb; cases hb).symm
theorem idle_small':∀ k,k<6→∀ c,c<2 ^ k→0≤add (c:Nat) (k:Nat)∧add (c:Nat) (k:Nat)<(2 ^ (k+1):Nat):=by decide +kernel
theorem need_lt:∀ k,k≤6→0≤needF p bs t k∧needF p bs t k<(2 ^ k:Nat)
 |0,_=>⟨Int.le_refl 0,by show (0:Int)<1; decide⟩
 |k+1,h=>by
  have:=need_lt k (by omega)
  unfold needF
  split
  ·rw [Nat.pow_succ]; omega
  ·have e:=idle_small' k (by omega) (needF p bs t k).toNat (by omega)
   rwa [Int.toNat_of_nonneg this.1] at e
end
def decB (p:Int) (bs:List Int) (t:List Mark) (n:Nat):Bool:=(crw n).all fun c=>!(says bs c t == says bs (full p-c) t)
def claB (p:Int) (bs:List Int) (t:List Mark) (n:Nat):Bool:=(crw n).any fun c=>says bs c t && says bs (full p-c) t
end Go.Proofs.YtapeebjjljohdaaGreatDoor.Vc
end
section
/- Part ZM: the law FnExactPivotsOf. -/
namespace Go.Proofs.YtapeebjjljohdaaGreatDoor.Vc
open Go.Proofs
set_option maxRecDepth 10000
set_option maxHeartbeats 4000000
def C25:=C26
theorem swOk_of {p:Int} {bs:List Int} {t:List Mark} {w:Int} (h:termOk ⟨p,bs⟩ t) (h3:0≤w) (h4:w<p) (c:Int) (h1:0≤c) (h2:c<64):swOk ⟨p,bs,t,c,w⟩ :=
 ⟨sayOk_of h c h1 h2,h.2.1,h3,by have:=h.1.1.2; show w<6; have:p≤6:=this; omega⟩
theorem F25:FF 114 C25:=by
 refine fitE [(127,C33),(83,C35),(149,C44),(148,C48),(150,C47)] (by simp only [List.mem_cons,List.not_mem_nil,or_false]; rintro _ (rfl|rfl|rfl|rfl|rfl) <;> first|exact F33|exact F35|exact F44|exact F48|exact F47) Tryz.f114 ⟨rfl,by decide +kernel,by decide +kernel⟩ (fun _ _ _ hk h=>hk _ h) ?_
 rintro ⟨⟨p,bs⟩,t,w⟩ K ⟨hI,hw⟩ h
 refine ⟨Nat.le_of_ble_eq_true rfl,?_⟩
 dsimp only [enH] at h hI hw ⊢
 unfold pivotsOf at h
 dsimp only at h
 repeat' (first|refine vz ?_|(conv=>whnf); first|with_reducible first|refine Sp.mk ?_ ?_|refine br_d (fun _=>?_) fun _=>?_|refine vM (fun _=>?_) fun _=>?_)
 refine ⟨(⟨p,bs⟩,t),?_,⟨hI⟩,?_⟩
 ·exact wq
 repeat' (first|refine vz ?_|(conv=>whnf); first|with_reducible first|refine Sp.mk ?_ ?_|refine br_d (fun _=>?_) fun _=>?_|refine vM (fun _=>?_) fun _=>?_)
 ·rename_i hO
  have hO':termOk ⟨p,bs⟩ t:=hO
  have pp:people p:=hO'.1.1
  have pw2:=pw_le pp
  have hp1:=pp.1
  have hp:=pp.2
  repeat' (first|refine vz ?_|(conv=>whnf); first|with_reducible first|refine Sp.mk ?_ ?_|refine br_d (fun _=>?_) fun _=>?_|refine vM (fun _=>?_) fun _=>?_)
  refine ⟨(w,0,p-1),?_,⟨trivial⟩,?_⟩
  ·exact wq
  repeat' (first|refine vz ?_|(conv=>whnf); first|with_reducible first|refine Sp.mk ?_ ?_|refine br_d (fun _=>?_) fun _=>?_|refine vM (fun _=>?_) fun _=>?_)
  ·rename_i hb
   replace hb:0≤w∧w≤p-1:=hb
   rw [if_pos ⟨hO',by omega,by omega⟩] at h
   refine Lp.mk ⟨Nat,fun i=>[(1,slM t),(2,.int .i64 w),(3,.ptr 0 0),(7,.int .i64 (sumO p (swl bs t w i))),(8,.int .i64 i)],
    fun i=>[.box [.int .i64 p,slI bs]],fun i=>i≤(pw p).toNat,fun i=>(pw p).toNat-i,⟨0,Nat.zero_le _,⟨⟨[some 0],[],rfl,rfl,?_,?_⟩⟩⟩,?_⟩
   ·exact wq
   ·exact wq
   intro i i1
   dsimp only
   have hl:=swl_lt bs t w i
   have hs:=sumO_le hp (swl bs t w i) fun c hc=>by have:=hl c hc; omega
   have hll:=swl_le bs t w i
   repeat' (first|refine vz ?_|(conv=>whnf); first|with_reducible refine Wr.ex (wsh pp) ?_|with_reducible first|refine Sp.mk ?_ ?_|refine br_d (fun _=>?_) fun _=>?_|refine vM (fun _=>?_) fun _=>?_)
   ·rename_i hi
    rw [pw_sh pp] at hi
    have hi6:(i:Int)<64:=by omega
    have hi0:(0:Int)≤i:=by omega
    have ho:=ord_le hp hi0 hi6
    have hh:heads (i:Int).toNat≤6:=heads6 i (by omega)
    have f1:=fac_le (heads (i:Int).toNat) (by omega)
    have f2:=fac0 (p-1-heads (i:Int).toNat) (by omega)
    refine ⟨⟨p,bs,t,i,w⟩,?_,⟨swOk_of hO' (by omega) (by omega) _ hi0 hi6⟩,?_⟩
    ·exact wq
    dsimp only
    repeat' (first|refine vz ?_|(conv=>whnf); first|with_reducible first|refine Sp.mk ?_ ?_|refine br_d (fun _=>?_) fun _=>?_|refine vM (fun _=>?_) fun _=>?_)
    ·rename_i hv
     have e:sumO p (swl bs t w (i+1))=sumO p (swl bs t w i)+ord p i:=by rw [swl,if_pos hv,sumO_app]; simp [sumO]
     refine Dr.mk ⟨(.rd 0 (.rd 1 (.rd 4 (.rd 5 (.rd 6 (.rd 7 (.ef 2 (.ef 3 (.ef 8 (.rd 9 (.ef 10 (.rd 11 (.rd 12 (.rd 13 .dn))) .no)) .no) .no) .no))))))),by decide +kernel,?_⟩
     repeat' (first|refine vz ?_|(conv=>whnf); first|with_reducible first|refine Sp.mk ?_ ?_|refine br_d (fun _=>?_) fun _=>?_|refine vM (fun _=>?_) fun _=>?_)
     refine ⟨i,?_,⟨by unfold i64r; omega⟩,?_⟩
     ·exact wq
     repeat' (first|refine vz ?_|(conv=>whnf); first|with_reducible first|refine Sp.mk ?_ ?_|refine br_d (fun _=>?_) fun _=>?_|refine vM (fun _=>?_) fun _=>?_)
     refine ⟨heads (i:Int).toNat,?_,⟨by omega⟩,?_⟩
     ·exact wq
     repeat' (first|refine vz ?_|(conv=>whnf); first|with_reducible first|refine Sp.mk ?_ ?_|refine br_d (fun _=>?_) fun _=>?_|refine vM (fun _=>?_) fun _=>?_)
     refine ⟨i,?_,⟨by unfold i64r; omega⟩,?_⟩
     ·exact wq
     repeat' (first|refine vz ?_|(conv=>whnf); first|with_reducible first|refine Sp.mk ?_ ?_|refine br_d (fun _=>?_) fun _=>?_|refine vM (fun _=>?_) fun _=>?_)
     refine ⟨p-1-heads (i:Int).toNat,?_,⟨by omega⟩,?_⟩
     ·exact wq
     have ho':0≤fac ((heads (i:Int).toNat:Nat):Int).toNat*fac (p-1-heads (i:Int).toNat).toNat∧fac ((heads (i:Int).toNat:Nat):Int).toNat*fac (p-1-heads (i:Int).toNat).toNat≤518400:=ho
     repeat' (first|refine vz ?_|(conv=>whnf); first|with_reducible refine Wr.ex (wi64 (by omega) (by omega)) ?_|with_reducible first|refine Sp.mk ?_ ?_|refine br_d (fun _=>?_) fun _=>?_|refine vM (fun _=>?_) fun _=>?_)
     refine ⟨i+1,by show i+1≤(pw p).toNat; omega,by show (pw p).toNat-(i+1)<(pw p).toNat-i; omega,⟨⟨[some 0],[],rfl,rfl,?_,?_⟩⟩⟩
     ·repeat' ((conv=>whnf); first|with_reducible exact True.intro|exact vW|with_reducible refine And.intro ?_ ?_)
      all_goals exact Chk.mk e
     ·exact wq
    ·rename_i hv
     have e:sumO p (swl bs t w (i+1))=sumO p (swl bs t w i):=by rw [swl,if_neg (by rw [hv]; exact Bool.false_ne_true)]
     refine ⟨i+1,by show i+1≤(pw p).toNat; omega,by show (pw p).toNat-(i+1)<(pw p).toNat-i; omega,⟨⟨[some 0],[],rfl,rfl,?_,?_⟩⟩⟩
     ·repeat' ((conv=>whnf); first|with_reducible exact True.intro|exact vW|with_reducible refine And.intro ?_ ?_)
      all_goals exact Chk.mk e
     ·exact wq
   ·rename_i hi
    rw [pw_sh pp] at hi
    rw [show (pw p).toNat=i by omega] at h
    exact h
  ·rename_i hb
   replace hb:¬ (0≤w∧w≤p-1):=hb
   rw [if_neg (fun q=>hb ⟨q.2.1,by have:=q.2.2; omega⟩)] at h
   exact h
 ·rename_i hO
  rw [if_neg (fun q=>hO q.1)] at h
  exact h
end Go.Proofs.YtapeebjjljohdaaGreatDoor.Vc
end
section
/- Part ZO: the readers of a code. -/
namespace Go.Proofs.YtapeebjjljohdaaGreatDoor.Vc
open Go.Proofs
set_option maxRecDepth 10000
set_option maxHeartbeats 4000000
structure Rd where
 b:List Int
 p:Int
def Rd.okn (r:Rd) (n:Int):Prop:=r.b.length≤2000∧(∀ n∈r.b,u8r n)∧0≤r.p∧r.p≤n
abbrev rdO (b:List Int) (p:Int):Obj:=.box [slB b,.int .i64 p]
def Rd.ok (r:Rd):Prop:=r.b.length≤2000∧(∀ n∈r.b,u8r n)∧0≤r.p∧r.p≤1000000000
theorem u8_getD {b:List Int} (h:∀ n∈b,u8r n) (i:Nat):0≤b.getD i 0∧b.getD i 0<256:=by
 rw [List.getD_eq_getElem?_getD]
 rcases Nat.lt_or_ge i b.length with hi|hi
 ·rw [List.getElem?_eq_getElem hi]; exact h _ (List.getElem_mem hi)
 ·rw [List.getElem?_eq_none hi]; exact ⟨by decide,by decide⟩
theorem tmod_in {a n:Int} (h1:0≤a) (h2:1≤n):0≤a.tmod n∧a.tmod n<n:=by
 rw [Int.tmod_eq_emod_of_nonneg h1]
 exact ⟨Int.emod_nonneg _ (by omega),Int.emod_lt_of_pos _ (by omega)⟩
theorem tdiv_in {a n:Int} (h1:0≤a) (h2:1≤n):0≤a.tdiv n∧a.tdiv n≤a:=by
 rw [Int.tdiv_eq_ediv_of_nonneg h1]
 exact ⟨Int.ediv_nonneg h1 (by omega),Int.ediv_le_self _ h1⟩
theorem xor_in {a b:Int} (h1:0≤a) (h2:a<4611686018427387904) (h3:0≤b) (h4:b<4611686018427387904):0≤bitop .i64 .xor a b:=by
 have e:∀ n:Int,0≤n→n<4611686018427387904→(BitVec.ofInt 64 n).toNat=n.toNat:=fun n g1 g2=>by
  rw [BitVec.toNat_ofInt]
  omega
 have hx:(BitVec.ofInt 64 a ^^^ BitVec.ofInt 64 b).toNat<2 ^ 62:=by
  rw [BitVec.toNat_xor,e a h1 h2,e b h3 h4]
  exact Nat.xor_lt_two_pow (by omega) (by omega)
 show 0≤IntKind.i64.wrap (((BitVec.ofInt 64 a ^^^ BitVec.ofInt 64 b).toNat:Nat):Int)
 rw [wi64 (by omega) (by omega)]
 omega
def C52:GC:=conG (X:=Rd × Int) (fun x=>[.ptr 0 0,.int .i64 x.2]) (fun x=>[.box [slB x.1.b,.int .i64 x.1.p]]) (fun x=>x.1.ok∧i64r x.2) fun x K=>∀ k p':Int,(x.2<1→k=0)→(1≤x.2→0≤k∧k<x.2)→p'=x.1.p+1→K (.int .i64 k) [.box [slB x.1.b,.int .i64 p']]
theorem F52:GG 38 C52:=by
 refine fitG [] (by simp) [] (by simp) Tryz.f38 ⟨rfl,by decide +kernel,by decide +kernel⟩ (by intro x K K2 hk h; (try dsimp only at h ⊢); intros; apply hk; first|exact h|(apply h <;> assumption)) ?_
 rintro ⟨⟨b,p⟩,n⟩ K ⟨⟨h1,h2,h3,h4⟩,h5⟩ h
 refine ⟨Nat.le_of_ble_eq_true rfl,?_⟩
 dsimp only at h h1 h2 h3 h4 h5 ⊢
 have hb:=u8_getD h2
 repeat' (first|refine vz ?_|(conv=>whnf); first|with_reducible first|refine Sp.mk ?_ ?_|refine br_d (fun _=>?_) fun _=>?_|refine vM (fun _=>?_) fun _=>?_)
 ·refine ⟨_,_,[some 0],[],rfl,rfl,?_,?_,h 0 _ (fun _=>rfl) (fun _=>by omega) rfl⟩
  ·exact wq
  ·exact wq
 ·refine ⟨_,_,[some 0],[],rfl,rfl,?_,?_,h 0 _ (fun _=>rfl) (fun _=>by omega) rfl⟩
  ·exact wq
  ·exact wq
 ·have hx:=hb (p+1-1).toNat
  have hm:=tmod_in hx.1 (show 1≤n by omega)
  repeat' (first|refine vz ?_|(conv=>whnf); first|with_reducible first|refine Sp.mk ?_ ?_|refine br_d (fun _=>?_) fun _=>?_|refine vM (fun _=>?_) fun _=>?_)
  refine ⟨_,_,[some 0],[],rfl,rfl,?_,?_,h _ _ (fun _=>by omega) (fun _=>hm) rfl⟩
  ·exact wq
  ·exact wq
 ·rename_i hn hl hk
  have hl0:(1:Int)≤b.length:=by omega
  have m1:=tmod_in (a:=p+1-1) (by omega) hl0
  have m2:=tmod_in (a:=(p+1-1)*7+3) (by omega) hl0
  have d1:=tdiv_in (a:=p+1-1) (by omega) hl0
  have x1:=hb ((p+1-1).tmod b.length).toNat
  have x2:=hb (((p+1-1)*7+3).tmod b.length).toNat
  refine Dr.mk ⟨(.rd 0 (.rd 1 (.rd 2 (.rd 3 (.rd 4 (.rd 5 (.rd 6 (.rd 7 (.rd 8 (.rd 9 (.rd 10 (.rd 11 (.rd 12 (.rd 13 (.rd 14 (.rd 15 (.rd 16 (.rd 17 (.rd 18 (.rd 19 (.rd 20 (.rd 21 (.rd 22 (.rd 23 (.rd 24 (.rd 25 (.rd 26 (.rd 27 (.rd 28 (.rd 29 (.rd 30 (.rd 31 (.rd 32 (.rd 33 (.rd 34 (.rd 35 (.rd 36 (.rd 37 (.rd 38 (.rd 39 (.rd 40 (.rd 41 (.rd 42 (.rd 43 (.rd 44 (.rd 45 .dn)))))))))))))))))))))))))))))))))))))))))))))),by decide +kernel,?_⟩
  repeat' (first|refine vz ?_|(conv=>whnf); first|with_reducible first|refine Sp.mk ?_ ?_|refine br_d (fun _=>?_) fun _=>?_|refine vM (fun _=>?_) fun _=>?_)
  obtain ⟨S,hS⟩:∃ S,b.getD ((p+1-1).tmod b.length).toNat 0*131+b.getD (((p+1-1)*7+3).tmod b.length).toNat 0*1117+(p+1-1)*29+(p+1-1).tdiv b.length*53=S:=⟨_,rfl⟩
  have hS2:0≤S∧S≤200000000000:=by omega
  have d2:=tdiv_in (a:=S) (n:=64) hS2.1 (by decide)
  have hx:=xor_in (a:=S) (b:=S.tdiv 64) hS2.1 (by omega) d2.1 (by omega)
  have hm:=tmod_in hx (show 1≤n by omega)
  rw [hS]
  repeat' (first|refine vz ?_|(conv=>whnf); first|with_reducible first|refine Sp.mk ?_ ?_|refine br_d (fun _=>?_) fun _=>?_|refine vM (fun _=>?_) fun _=>?_)
  refine ⟨_,_,[some 0],[],rfl,rfl,?_,?_,h _ _ (fun _=>by omega) (fun _=>hm) rfl⟩
  ·exact wq
  ·exact wq
def C53:GC:=conG (X:=Rd × Int) (fun x=>[.ptr 0 0,.int .i64 x.2]) (fun x=>[.box [slB x.1.b,.int .i64 x.1.p]]) (fun x=>x.1.ok∧i64r x.2) fun x K=>∀ (v:Bool) (p':Int),x.1.p≤p'→p'≤x.1.p+1→K (.bool v) [.box [slB x.1.b,.int .i64 p']]
theorem F53:GG 40 C53:=by
 refine fitG [] (by simp) [(38,C52)] (by simp only [List.mem_cons,List.not_mem_nil,or_false]; rintro _ rfl <;> first|exact F52) Tryz.f40 ⟨rfl,by decide +kernel,by decide +kernel⟩ (by intro x K K2 hk h; (try dsimp only at h ⊢); intros; apply hk; first|exact h|(apply h <;> assumption)) ?_
 rintro ⟨⟨b,p⟩,n⟩ K ⟨h1,h5⟩ h
 refine ⟨Nat.le_of_ble_eq_true rfl,?_⟩
 dsimp only at h h1 h5 ⊢
 repeat' (first|refine vz ?_|(conv=>whnf); first|with_reducible first|refine Sp.mk ?_ ?_|refine br_d (fun _=>?_) fun _=>?_|refine vM (fun _=>?_) fun _=>?_)
 ·refine ⟨_,_,[0],[],rfl,?_,?_,(⟨b,p⟩,n),rfl,rfl,⟨h1,h5⟩,?_⟩
  ·exact wq
  ·exact wq
  intro k p' k1 k2 k3
  dsimp only at k1 k2 k3
  have h6:=h5.1
  have h7:=h5.2
  repeat' (first|refine vz ?_|(conv=>whnf); first|with_reducible first|refine Sp.mk ?_ ?_|refine br_d (fun _=>?_) fun _=>?_|refine vM (fun _=>?_) fun _=>?_)
  refine ⟨_,_,[some 0],[],rfl,rfl,?_,?_,h (decide (k=n-1)) p' (by omega) (by omega)⟩
  ·exact wq
  ·exact wq
 ·refine ⟨_,_,[some 0],[],rfl,rfl,?_,?_,h false p (by omega) (by omega)⟩
  ·exact wq
  ·exact wq
theorem tk_ext {l:List Int} {n:Nat} (h:n≤l.length):(l.take n).length=n-0∧∀ i,i<(l.take n).length→[AV.int .u8 ((l.take n).getD i 0)]=[AV.int .u8 (l.getD (0+i) 0)]:=by
 have e:(l.take n).length=n:=by rw [List.length_take]; omega
 refine ⟨by rw [e]; rfl,fun i hi=>?_⟩
 rw [Nat.zero_add,List.getD_eq_getElem?_getD,List.getD_eq_getElem?_getD,List.getElem?_take_of_lt (by omega)]
def C42:GC:=conG (X:=List Int) (fun l=>[slB l]) (fun _=>[]) (fun l=>(∀ n∈l,u8r n)∧l.length<9223372036854775808) fun _ K=>∀ b,Rd.ok ⟨b,0⟩→K (.ptr 0 0) [.box [slB b,.int .i64 0]]
theorem F42:GG 36 C42:=by
 refine fitG [] (by simp) [] (by simp) Tryz.f36 ⟨rfl,by decide +kernel,by decide +kernel⟩ (by intro x K K2 hk h; (try dsimp only at h ⊢); intros; apply hk; first|exact h|(apply h <;> assumption)) ?_
 rintro l K ⟨h1,h5⟩ h
 refine ⟨Nat.le_of_ble_eq_true rfl,?_⟩
 repeat' ((conv=>whnf); first|refine vA ?_|with_reducible first|refine v8 ?_|refine Sp.mk ?_ ?_|refine vS ?_|refine vB ?_|refine br_nt ?_|refine br_tt ?_|refine br_ff ?_|refine vP ?_|refine vQ ?_|refine vT ?_|refine vF ?_|refine br_and ?_|refine br_or ?_|refine br_d (fun _=>?_) fun _=>?_|refine vM (fun _=>?_) fun _=>?_)
 refine Wk.rf ?_
 repeat' ((conv=>whnf); first|refine vA ?_|with_reducible first|refine v8 ?_|refine Sp.mk ?_ ?_|refine vS ?_|refine vB ?_|refine br_nt ?_|refine br_tt ?_|refine br_ff ?_|refine vP ?_|refine vQ ?_|refine vT ?_|refine vF ?_|refine br_and ?_|refine br_or ?_|refine br_d (fun _=>?_) fun _=>?_|refine vM (fun _=>?_) fun _=>?_)
 refine Wk.rf ?_
 repeat' ((conv=>whnf); first|refine vA ?_|with_reducible first|refine v8 ?_|refine Sp.mk ?_ ?_|refine vS ?_|refine vB ?_|refine br_nt ?_|refine br_tt ?_|refine br_ff ?_|refine vP ?_|refine vQ ?_|refine vT ?_|refine vF ?_|refine br_and ?_|refine br_or ?_|refine br_d (fun _=>?_) fun _=>?_|refine vM (fun _=>?_) fun _=>?_)
 ·refine Wk.go [(0,slB (l.take 2000))] [] ⟨⟨[],[],rfl,rfl,?_,?_⟩⟩ ?_
  ·repeat' ((conv=>whnf); first|with_reducible exact True.intro|exact vW|with_reducible refine And.intro ?_ ?_)
   exact Chk.mk (tk_ext (l:=l) (n:=2000) (by omega))
  ·exact wq
  repeat' (first|refine vz ?_|(conv=>whnf); first|with_reducible first|refine Sp.mk ?_ ?_|refine br_d (fun _=>?_) fun _=>?_|refine vM (fun _=>?_) fun _=>?_)
  refine ⟨_,_,[some 0],[],rfl,rfl,?_,?_,h (l.take 2000) ⟨?_,fun n hn=>h1 n (List.mem_of_mem_take hn),(by decide:(0:Int)≤0),(by decide:(0:Int)≤1000000000)⟩⟩
  ·exact wq
  ·exact wq
  show (l.take 2000).length≤2000
  rw [List.length_take]; omega
 ·repeat' (first|refine vz ?_|(conv=>whnf); first|with_reducible first|refine Sp.mk ?_ ?_|refine br_d (fun _=>?_) fun _=>?_|refine vM (fun _=>?_) fun _=>?_)
  refine ⟨_,_,[some 0],[],rfl,rfl,?_,?_,h l ⟨by show l.length≤2000; omega,h1,(by decide:(0:Int)≤0),(by decide:(0:Int)≤1000000000)⟩⟩
  ·exact wq
  ·exact wq
end Go.Proofs.YtapeebjjljohdaaGreatDoor.Vc
end
section
/- Part ZP: houses and terms that are drawn. -/
namespace Go.Proofs.YtapeebjjljohdaaGreatDoor.Vc
open Go.Proofs
set_option maxRecDepth 10000
set_option maxHeartbeats 4000000
theorem td8 {a:Int} (h:0≤a):a.tdiv 8=a / 8:=Int.tdiv_eq_ediv_of_nonneg h
def C59:GC:=conG (X:=Rd × Int) (fun x=>[.ptr 0 0,.int .i64 x.2]) (fun x=>[.box [slB x.1.b,.int .i64 x.1.p]]) (fun x=>x.1.okn 500000000∧i64r x.2) fun x K=>∀ (h:House) (p':Int),x.1.p≤p'→p'≤x.1.p+20→0≤h.p∧h.p≤7→h.bs.length≤4→(∀ b∈h.bs,0≤b∧b≤64)→K (enH h) [.box [slB x.1.b,.int .i64 p']]
theorem F59:GG 115 C59:=by
 refine fitG [] (by simp) [(38,C52),(40,C53)] (by simp only [List.mem_cons,List.not_mem_nil,or_false]; rintro _ (rfl|rfl) <;> first|exact F52|exact F53) Tryz.f115 ⟨rfl,by decide +kernel,by decide +kernel⟩ (by intro x K K2 hk h; (try dsimp only at h ⊢); intros; apply hk; first|exact h|(apply h <;> assumption)) ?_
 rintro ⟨⟨b,p⟩,n⟩ K ⟨⟨h1,h2,h3,h4⟩,h5⟩ h
 refine ⟨Nat.le_of_ble_eq_true rfl,?_⟩
 dsimp only at h h1 h2 h3 h4 h5 ⊢
 repeat' (first|refine vz ?_|(conv=>whnf); first|with_reducible first|refine Sp.mk ?_ ?_|refine br_d (fun _=>?_) fun _=>?_|refine vM (fun _=>?_) fun _=>?_)
 refine ⟨_,_,[0],[],rfl,?_,?_,(⟨b,p⟩,5),rfl,rfl,⟨⟨h1,h2,?_,?_⟩,?_⟩,?_⟩
 ·repeat' ((conv=>whnf); first|with_reducible exact True.intro|exact vW|with_reducible refine And.intro ?_ ?_)
  try exact Chk.mk (by rw [pw_sh (by assumption)])
 ·exact wq
 ·dsimp only; omega
 ·dsimp only; omega
 ·unfold i64r; dsimp only; omega
 intro k1 p1 a0 a1 a2
 dsimp only at a0 a1 a2
 repeat' (first|refine vz ?_|(conv=>whnf); first|with_reducible first|refine Sp.mk ?_ ?_|refine br_d (fun _=>?_) fun _=>?_|refine vM (fun _=>?_) fun _=>?_)
 refine ⟨_,_,[0],[],rfl,?_,?_,(⟨b,p1⟩,9),rfl,rfl,⟨⟨h1,h2,?_,?_⟩,?_⟩,?_⟩
 ·repeat' ((conv=>whnf); first|with_reducible exact True.intro|exact vW|with_reducible refine And.intro ?_ ?_)
  try exact Chk.mk (by rw [pw_sh (by assumption)])
 ·exact wq
 ·dsimp only; omega
 ·dsimp only; omega
 ·unfold i64r; dsimp only; omega
 intro k2 p2 b0 b1 b2
 dsimp only at b0 b1 b2
 have e8:=td8 (a:=k2) (by omega)
 obtain ⟨P,hP⟩:∃ P,1+k1+k2.tdiv 8=P:=⟨_,rfl⟩
 have pp:people P:=by unfold people; omega
 have pw2:=pw_le pp
 repeat' (first|refine vz ?_|(conv=>whnf); first|with_reducible first|refine Sp.mk ?_ ?_|refine br_d (fun _=>?_) fun _=>?_|refine vM (fun _=>?_) fun _=>?_)
 rw [hP]
 repeat' (first|refine vz ?_|(conv=>whnf); first|with_reducible first|refine Sp.mk ?_ ?_|refine br_d (fun _=>?_) fun _=>?_|refine vM (fun _=>?_) fun _=>?_)
 refine ⟨_,_,[0],[],rfl,?_,?_,(⟨b,p2⟩,3),rfl,rfl,⟨⟨h1,h2,?_,?_⟩,?_⟩,?_⟩
 ·repeat' ((conv=>whnf); first|with_reducible exact True.intro|exact vW|with_reducible refine And.intro ?_ ?_)
  try exact Chk.mk (by rw [pw_sh (by assumption)])
 ·exact wq
 ·dsimp only; omega
 ·dsimp only; omega
 ·unfold i64r; dsimp only; omega
 intro k3 p3 c0 c1 c2
 dsimp only at c0 c1 c2
 repeat' (first|refine vz ?_|(conv=>whnf); first|with_reducible first|refine Sp.mk ?_ ?_|refine br_d (fun _=>?_) fun _=>?_|refine vM (fun _=>?_) fun _=>?_)
 refine Lp.mk ⟨List Int × Int × Int,fun x=>[(0,.ptr 0 0),(1,.int .i64 n),(4,.ptr 1 0),(5,.ptr 2 0),(6,.int .i64 x.2.1)],
  fun x=>[rdO b x.2.2,.box [.int .i64 0,.nils],.box [.int .i64 P,.row 3 1 0 x.1.length],.row 1 x.1.length fun j=>encI (x.1.getD j 0)],
  fun x=>0≤x.2.1∧x.2.1+x.1.length=1+k3∧x.2.2=p3+x.1.length∧∀ b∈x.1,0≤b∧b≤64,fun x=>x.2.1.toNat,⟨([],1+k3,p3),⟨by show 0≤1+k3; omega,by simp,by simp,by simp⟩,⟨⟨[some 0,some 1,some 2,none],[],rfl,rfl,?_,?_⟩⟩⟩,?_⟩
 ·exact wq
 ·exact wq
 rintro ⟨l,j,q⟩ ⟨i1,i2,i3,i4⟩
 dsimp only at i1 i2 i3 i4 ⊢
 repeat' (first|refine vz ?_|(conv=>whnf); first|with_reducible first|refine Sp.mk ?_ ?_|refine br_d (fun _=>?_) fun _=>?_|refine vM (fun _=>?_) fun _=>?_)
 ·refine Dr.mk ⟨(.rd 0 (.rd 1 (.rd 2 (.rd 3 (.rd 4 (.rd 5 (.rd 6 (.ef 7 (.rd 8 (.ef 9 (.ef 10 (.rd 11 (.ef 12 .dn .no)) .no) .no)) .no)))))))),by decide +kernel,?_⟩
  repeat' (first|refine vz ?_|(conv=>whnf); first|with_reducible refine Wr.ex (wsh pp) ?_|with_reducible refine Wr.ex (wi64 (by rw [pw_sh pp]; omega) (by rw [pw_sh pp]; omega)) ?_|with_reducible first|refine Sp.mk ?_ ?_|refine br_d (fun _=>?_) fun _=>?_|refine vM (fun _=>?_) fun _=>?_)
  refine ⟨_,_,[0],[],rfl,?_,?_,(⟨b,q⟩,(pw P-1)),rfl,rfl,⟨⟨h1,h2,?_,?_⟩,?_⟩,?_⟩
  ·repeat' ((conv=>whnf); first|with_reducible exact True.intro|exact vW|with_reducible refine And.intro ?_ ?_)
   try exact Chk.mk (by rw [pw_sh (by assumption)])
  ·exact wq
  ·dsimp only; omega
  ·dsimp only; omega
  ·unfold i64r; dsimp only; omega
  intro k4 p4 d0 d1 d2
  dsimp only at d0 d1 d2
  repeat' (first|refine vz ?_|(conv=>whnf); first|with_reducible first|refine Sp.mk ?_ ?_|refine br_d (fun _=>?_) fun _=>?_|refine vM (fun _=>?_) fun _=>?_)
  refine ⟨(l ++ [1+k4],j-1,p4),⟨by show 0≤j-1; omega,by simp; omega,by simp; omega,?_⟩,by show (j-1).toNat<j.toNat; omega,⟨⟨[some 0,some 1,some 2,some 5],[],rfl,rfl,?_,?_⟩⟩⟩
  ·intro v hv
   rcases List.mem_append.1 hv with hv|hv
   ·exact i4 v hv
   ·simp at hv; omega
  ·exact wq
  ·repeat' ((conv=>whnf); first|with_reducible exact True.intro|exact vW|with_reducible refine And.intro ?_ ?_)
   all_goals exact Chk.mk (ext_push rfl)
 ·refine ⟨_,_,[0],[],rfl,?_,?_,(⟨b,q⟩,n),rfl,rfl,⟨⟨h1,h2,?_,?_⟩,h5⟩,?_⟩
  ·exact wq
  ·exact wq
  ·dsimp only; omega
  ·dsimp only; omega
  intro v p5 g1 g2
  dsimp only at g1 g2
  repeat' (first|refine vz ?_|(conv=>whnf); first|with_reducible first|refine Sp.mk ?_ ?_|refine br_d (fun _=>?_) fun _=>?_|refine vM (fun _=>?_) fun _=>?_)
  ·refine ⟨_,_,[0],[],rfl,?_,?_,(⟨b,p5⟩,3),rfl,rfl,⟨⟨h1,h2,?_,?_⟩,?_⟩,?_⟩
   ·repeat' ((conv=>whnf); first|with_reducible exact True.intro|exact vW|with_reducible refine And.intro ?_ ?_)
    try exact Chk.mk (by rw [pw_sh (by assumption)])
   ·exact wq
   ·dsimp only; omega
   ·dsimp only; omega
   ·unfold i64r; dsimp only; omega
   intro k6 p6 e0 e1 e2
   dsimp only at e0 e1 e2
   repeat' (first|refine vz ?_|(conv=>whnf); first|with_reducible first|refine Sp.mk ?_ ?_|refine br_d (fun _=>?_) fun _=>?_|refine vM (fun _=>?_) fun _=>?_)
   ·refine ⟨_,_,[0],[],rfl,?_,?_,(⟨b,p6⟩,2),rfl,rfl,⟨⟨h1,h2,?_,?_⟩,?_⟩,?_⟩
    ·repeat' ((conv=>whnf); first|with_reducible exact True.intro|exact vW|with_reducible refine And.intro ?_ ?_)
     try exact Chk.mk (by rw [pw_sh (by assumption)])
    ·exact wq
    ·dsimp only; omega
    ·dsimp only; omega
    ·unfold i64r; dsimp only; omega
    intro k7 p7 f0 f1 f2
    dsimp only at f0 f1 f2
    rcases (show k7=0∨k7=1 by omega) with rfl|rfl
    ·repeat' (first|refine vz ?_|(conv=>whnf); first|with_reducible first|refine Sp.mk ?_ ?_|refine br_d (fun _=>?_) fun _=>?_|refine vM (fun _=>?_) fun _=>?_)
     refine ⟨_,_,[some 0],[3],rfl,rfl,?_,?_,h ⟨0,l⟩ p7 (by omega) (by omega) (by show (0:Int)≤0∧(0:Int)≤7; decide) (by show l.length≤4; omega) i4⟩
     ·exact wq
     ·exact wq
    ·repeat' (first|refine vz ?_|(conv=>whnf); first|with_reducible first|refine Sp.mk ?_ ?_|refine br_d (fun _=>?_) fun _=>?_|refine vM (fun _=>?_) fun _=>?_)
     refine ⟨_,_,[some 0],[3],rfl,rfl,?_,?_,h ⟨7,l⟩ p7 (by omega) (by omega) (by show (0:Int)≤7∧(7:Int)≤7; decide) (by show l.length≤4; omega) i4⟩
     ·exact wq
     ·exact wq
   ·refine ⟨_,_,[some 0],[5],rfl,rfl,?_,?_,h ⟨P,l ++ [0]⟩ p6 (by omega) (by omega) ?_ ?_ ?_⟩
    ·repeat' ((conv=>whnf); first|with_reducible exact True.intro|exact vW|with_reducible refine And.intro ?_ ?_)
     all_goals exact Chk.mk ⟨by simp,by simp,fun i hi=>by rw [Nat.zero_add]; exact (ext_push (l:=l) (x:=(0:Int)) (enc:=encI) (d:=0) rfl).2 i hi⟩
    ·exact wq
    ·show 0≤P∧P≤7
     unfold people at pp; omega
    ·show (l ++ [0]).length≤4
     simp; omega
    ·intro v hv
     rcases List.mem_append.1 hv with hv|hv
     ·exact i4 v hv
     ·simp at hv; omega
   ·refine ⟨_,_,[some 0],[],rfl,rfl,?_,?_,h ⟨P,[]⟩ p6 (by omega) (by omega) ⟨by show 0≤P; unfold people at pp; omega,by show P≤7; unfold people at pp; omega⟩ (by show 0≤4; omega) (fun _ hb=>by cases hb)⟩
    ·exact wq
    ·exact wq
  ·refine ⟨_,_,[some 0],[3],rfl,rfl,?_,?_,h ⟨P,l⟩ p5 (by omega) (by omega) (by show 0≤P∧P≤7; unfold people at pp; omega) (by show l.length≤4; omega) i4⟩
   ·exact wq
   ·exact wq
end Go.Proofs.YtapeebjjljohdaaGreatDoor.Vc
end
section
/- Part ZQ: terms that are drawn. -/
namespace Go.Proofs.YtapeebjjljohdaaGreatDoor.Vc
open Go.Proofs
set_option maxRecDepth 10000
set_option maxHeartbeats 4000000
def encP (l:List Mark):List AV:=[slM l]
def sumL:List (List Mark)→Nat
 |[]=>0
 |l :: r=>l.length+sumL r
theorem sumL_app:∀ a b:List (List Mark),sumL (a ++ b)=sumL a+sumL b
 |[],b=>by simp [sumL]
 |x :: a,b=>by simp only [List.cons_append,sumL,sumL_app a b]; omega
theorem sumL_mem {l:List Mark}:∀ {P:List (List Mark)},l∈P→l.length≤sumL P
 |x :: P,h=>by
  rcases List.mem_cons.1 h with rfl|h
  ·simp only [sumL]; omega
  ·have:=sumL_mem h; simp only [sumL]; omega
structure Tx where
 r:Rd
 h:House
 n:Int
theorem app_extG {α:Type} (enc:α→List AV) (d:α) {l:List α} {c:α} {g:Nat→List AV} (hg:g 0=enc c):(l ++ [c]).length=l.length+1∧∀ j,j<(l ++ [c]).length→enc ((l ++ [c]).getD j d)=appF l.length (fun j=>enc (l.getD j d)) g j:=by
 refine ⟨by simp,fun j hj=>?_⟩
 simp only [List.length_append,List.length_cons,List.length_nil] at hj
 unfold appF
 rw [List.getD_eq_getElem?_getD,List.getElem?_append]
 cases hb:Nat.blt j l.length with
 |true =>
  have h1:j<l.length:=Nat.le_of_ble_eq_true hb
  rw [if_pos h1,← List.getD_eq_getElem?_getD]
  rfl
 |false =>
  have:¬ j<l.length:=fun h=>by
   have:Nat.blt j l.length=true:=Nat.ble_eq_true_of_le h
   rw [this] at hb; cases hb
  have:j=l.length:=by omega
  subst this
  rw [if_neg (by omega)]
  simp [hg]
theorem one_ext {l:List (List Mark)} {x y z:Int}:(l ++ [[(⟨x,y,z⟩:Mark)]]).length=l.length+1∧∀ j,j<(l ++ [[(⟨x,y,z⟩:Mark)]]).length→encP ((l ++ [[(⟨x,y,z⟩:Mark)]]).getD j [])=appF l.length (fun j=>encP (l.getD j []))
  (fun i=>(fun i=>[[AV.sl 3 1 fun i=>(fun i=>[[AV.int .i64 x,AV.int .i64 y,AV.int .i64 z]].getD i [AV.int .i64 0,AV.int .i64 0,AV.int .i64 0]) (0+i)]].getD i [AV.nils]) (0+i)) j:=by
 refine app_extG encP [] ?_
 have e:(fun i=>(fun i=>[[AV.int .i64 x,AV.int .i64 y,AV.int .i64 z]].getD i [AV.int .i64 0,AV.int .i64 0,AV.int .i64 0]) (0+i))=fun i=>encM (([⟨x,y,z⟩]:List Mark).getD i default):=by
  funext i
  simp only [Nat.zero_add]
  match i with
  |0=>rfl
  |i+1=>rfl
 rw [e]
 rfl
theorem appF_enc {α:Type} (enc:α→List AV) (d:α) (l r:List α):appF l.length (fun i=>enc (l.getD i d)) (fun i=>enc (r.getD i d))=fun i=>enc ((l ++ r).getD i d):=by
 funext i
 unfold appF
 rw [List.getD_eq_getElem?_getD (l:=l ++ r),List.getElem?_append]
 cases hb:Nat.blt i l.length with
 |true =>
  have h1:i<l.length:=Nat.le_of_ble_eq_true hb
  rw [if_pos h1,← List.getD_eq_getElem?_getD]
  rfl
 |false =>
  have:¬ i<l.length:=fun h=>by
   have:Nat.blt i l.length=true:=Nat.ble_eq_true_of_le h
   rw [this] at hb; cases hb
  rw [if_neg this,← List.getD_eq_getElem?_getD]
  rfl
theorem lit1 {x y z:Int}:(fun i=>(fun i=>[[AV.int .i64 x,AV.int .i64 y,AV.int .i64 z]].getD i [AV.int .i64 0,AV.int .i64 0,AV.int .i64 0]) (0+i))=fun i=>encM (([⟨x,y,z⟩]:List Mark).getD i default):=by
 funext i
 simp only [Nat.zero_add]
 match i with
 |0=>rfl
 |i+1=>rfl
theorem three_ext {A B:List Mark} {x y z:Int}:(A ++ B ++ [(⟨x,y,z⟩:Mark)]).length=A.length+B.length+1∧∀ j,j<(A ++ B ++ [(⟨x,y,z⟩:Mark)]).length→encM ((A ++ B ++ [(⟨x,y,z⟩:Mark)]).getD j default) =
  appF (A.length+B.length) (appF A.length (fun i=>encM (A.getD i default)) fun i=>encM (B.getD i default)) (fun i=>(fun i=>[[AV.int .i64 x,AV.int .i64 y,AV.int .i64 z]].getD i [AV.int .i64 0,AV.int .i64 0,AV.int .i64 0]) (0+i)) j:=by
 refine ⟨by simp; omega,fun j _=>?_⟩
 rw [lit1,appF_enc,show A.length+B.length=(A ++ B).length by simp,appF_enc]
theorem getD_take_app {α:Type} {l r:List α} {n i:Nat} {d:α} (hn:n≤l.length) (hi:i<n):(l.take n ++ r).getD i d=l.getD i d:=by
 rw [List.getD_eq_getElem?_getD,List.getElem?_append_left (by rw [List.length_take]; omega),List.getElem?_take_of_lt hi,← List.getD_eq_getElem?_getD]
theorem merge_ext {P:List (List Mark)} {a c:Nat} {T:List Mark} (h:c≤P.length) (ha:a≤P.length):(P.take a ++ [T] ++ P.drop c).length=a+1+(P.length-c)∧∀ j,j<(P.take a ++ [T] ++ P.drop c).length→encP ((P.take a ++ [T] ++ P.drop c).getD j []) =
  appF (a+1) (appF a (fun i=>(fun j=>encP (P.getD j [])) (0+0+i)) fun i=>(fun i=>[[AV.sl 3 T.length fun i=>(fun j=>encM (T.getD j default)) (0+i)]].getD i [AV.nils]) (0+i)) (fun i=>(fun j=>encP (P.getD j [])) (0+c+i)) j:=by
 have hl:(P.take a).length=a:=by rw [List.length_take]; omega
 refine ⟨by simp; omega,fun j hj=>?_⟩
 have e1:(fun i=>(fun j=>encM (T.getD j default)) (0+i))=fun j=>encM (T.getD j default):=by funext i; rw [Nat.zero_add]
 rw [e1]
 unfold appF
 cases hb:Nat.blt j (a+1) with
 |true =>
  have h1:j<a+1:=Nat.le_of_ble_eq_true hb
  cases hb2:Nat.blt j a with
  |true =>
   have h2:j<a:=Nat.le_of_ble_eq_true hb2
   rw [List.append_assoc,getD_take_app ha h2]
   show _=encP (P.getD (0+0+j) [])
   rw [show 0+0+j=j by omega]
  |false =>
   have h2:j=a:=by
    rcases Nat.lt_or_ge j a with h|h
    ·have:Nat.blt j a=true:=Nat.ble_eq_true_of_le h
     rw [this] at hb2; cases hb2
    ·omega
   subst h2
   rw [List.append_assoc,List.getD_eq_getElem?_getD,List.getElem?_append_right (by omega),hl]
   simp [encP]
 |false =>
  have h1:a+1≤j:=by
   rcases Nat.lt_or_ge j (a+1) with h|h
   ·have:Nat.blt j (a+1)=true:=Nat.ble_eq_true_of_le h
    rw [this] at hb; cases hb
   ·exact h
  show _=encP (P.getD (0+c+(j-(a+1))) [])
  rw [List.getD_eq_getElem?_getD,List.getElem?_append_right (by simp [hl]; omega),List.getElem?_drop,← List.getD_eq_getElem?_getD]
  congr 2
  simp [hl]
theorem sumL_take_drop:∀ (P:List (List Mark)) (a:Nat),a+1<P.length→sumL (P.take a)+sumL (P.drop (a+2))+(P.getD a []).length+(P.getD (a+1) []).length=sumL P
 |[],a,h=>by simp at h
 |[_],a,h=>by simp at h
 |x :: y :: P,0,_=>by simp [sumL]; omega
 |x :: P,a+1,h=>by
  have:=sumL_take_drop P a (by simpa using h)
  simp only [List.take_succ_cons,List.drop_succ_cons,sumL,List.getD_cons_succ]
  omega
def C60:GC:=conG (X:=Tx) (fun x=>[.ptr 0 0,enH x.h,.int .i64 x.n]) (fun x=>[.box [slB x.r.b,.int .i64 x.r.p]]) (fun x=>x.r.okn 600000000∧x.h.i64∧x.h.bs.length≤8∧i64r x.n) fun x K=>∀ (t:List Mark) (p':Int),x.r.p≤p'→p'≤x.r.p+40→t.length≤9→(∀ m∈t,m.i64)→K (slM t) [.box [slB x.r.b,.int .i64 p']]
theorem F60:GG 116 C60:=by
 refine fitG [(148,C48)] (by simp only [List.mem_cons,List.not_mem_nil,or_false]; rintro _ rfl <;> first|exact F48) [(38,C52),(40,C53)] (by simp only [List.mem_cons,List.not_mem_nil,or_false]; rintro _ (rfl|rfl) <;> first|exact F52|exact F53) Tryz.f116 ⟨rfl,by decide +kernel,by decide +kernel⟩ (by intro x K K2 hk h; (try dsimp only at h ⊢); intros; apply hk; first|exact h|(apply h <;> assumption)) ?_
 rintro ⟨⟨b,p⟩,⟨hp,bs⟩,n⟩ K ⟨⟨h1,h2,h3,h4⟩,h5,h6,h7⟩ h
 refine ⟨Nat.le_of_ble_eq_true rfl,?_⟩
 dsimp only [enH] at h h1 h2 h3 h4 h5 h6 h7 ⊢
 repeat' (first|refine vz ?_|(conv=>whnf); first|with_reducible first|refine Sp.mk ?_ ?_|refine br_d (fun _=>?_) fun _=>?_|refine vM (fun _=>?_) fun _=>?_)
 ·refine ⟨_,_,[0],[],rfl,?_,?_,(⟨b,p⟩,4),rfl,rfl,⟨⟨h1,h2,?_,?_⟩,?_⟩,?_⟩
  ·repeat' ((conv=>whnf); first|with_reducible exact True.intro|exact vW|with_reducible refine And.intro ?_ ?_)
   try exact Chk.mk (by rw [pw_sh (by assumption)])
  ·exact wq
  ·dsimp only; omega
  ·dsimp only; omega
  ·unfold i64r; dsimp only; omega
  intro k9 p9 z0 z1 z2
  dsimp only at z0 z1 z2
  rcases (show k9=0∨k9=1∨k9=2∨k9=3 by omega) with rfl|rfl|rfl|rfl
  ·repeat' (first|refine vz ?_|(conv=>whnf); first|with_reducible first|refine Sp.mk ?_ ?_|refine br_d (fun _=>?_) fun _=>?_|refine vM (fun _=>?_) fun _=>?_)
   refine ⟨_,_,[some 0],[],rfl,rfl,?_,?_,h [] p9 (by omega) (by omega) (by decide) (by simp)⟩
   ·exact wq
   ·exact wq
  ·repeat' (first|refine vz ?_|(conv=>whnf); first|with_reducible first|refine Sp.mk ?_ ?_|refine br_d (fun _=>?_) fun _=>?_|refine vM (fun _=>?_) fun _=>?_)
   refine ⟨_,_,[some 0],[],rfl,rfl,?_,?_,h [⟨1,0,0⟩] p9 (by omega) (by omega) (by decide) (by simp [Mark.i64,i64r])⟩
   ·repeat' ((conv=>whnf); first|with_reducible exact True.intro|exact vW|with_reducible refine And.intro ?_ ?_)
    all_goals exact Chk.mk ⟨rfl,fun i hi=>by match i,hi with|0,_=>rfl⟩
   ·exact wq
  ·repeat' (first|refine vz ?_|(conv=>whnf); first|with_reducible first|refine Sp.mk ?_ ?_|refine br_d (fun _=>?_) fun _=>?_|refine vM (fun _=>?_) fun _=>?_)
   refine ⟨_,_,[some 0],[],rfl,rfl,?_,?_,h [⟨0,3,7⟩] p9 (by omega) (by omega) (by decide) (by simp [Mark.i64,i64r])⟩
   ·repeat' ((conv=>whnf); first|with_reducible exact True.intro|exact vW|with_reducible refine And.intro ?_ ?_)
    all_goals exact Chk.mk ⟨rfl,fun i hi=>by match i,hi with|0,_=>rfl⟩
   ·exact wq
  ·repeat' (first|refine vz ?_|(conv=>whnf); first|with_reducible first|refine Sp.mk ?_ ?_|refine br_d (fun _=>?_) fun _=>?_|refine vM (fun _=>?_) fun _=>?_)
   refine ⟨_,_,[some 0],[],rfl,rfl,?_,?_,h [⟨0,0,1⟩,⟨0,0,1⟩] p9 (by omega) (by omega) (by decide) (by simp [Mark.i64,i64r])⟩
   ·repeat' ((conv=>whnf); first|with_reducible exact True.intro|exact vW|with_reducible refine And.intro ?_ ?_)
    all_goals exact Chk.mk ⟨rfl,fun i hi=>by match i,hi with|0,_=>rfl|1,_=>rfl⟩
   ·exact wq
 refine ⟨_,_,[0],[],rfl,?_,?_,(⟨b,p⟩,n),rfl,rfl,⟨⟨h1,h2,?_,?_⟩,h7⟩,?_⟩
 ·exact wq
 ·exact wq
 ·dsimp only; omega
 ·dsimp only; omega
 intro v p1 g1 g2
 dsimp only at g1 g2
 repeat' (first|refine vz ?_|(conv=>whnf); first|with_reducible first|refine Sp.mk ?_ ?_|refine br_d (fun _=>?_) fun _=>?_|refine vM (fun _=>?_) fun _=>?_)
 ·refine ⟨_,_,[0],[],rfl,?_,?_,(⟨b,p1⟩,4),rfl,rfl,⟨⟨h1,h2,?_,?_⟩,?_⟩,?_⟩
  ·repeat' ((conv=>whnf); first|with_reducible exact True.intro|exact vW|with_reducible refine And.intro ?_ ?_)
   try exact Chk.mk (by rw [pw_sh (by assumption)])
  ·exact wq
  ·dsimp only; omega
  ·dsimp only; omega
  ·unfold i64r; dsimp only; omega
  intro k9 p9 z0 z1 z2
  dsimp only at z0 z1 z2
  rcases (show k9=0∨k9=1∨k9=2∨k9=3 by omega) with rfl|rfl|rfl|rfl
  ·repeat' (first|refine vz ?_|(conv=>whnf); first|with_reducible first|refine Sp.mk ?_ ?_|refine br_d (fun _=>?_) fun _=>?_|refine vM (fun _=>?_) fun _=>?_)
   refine ⟨_,_,[some 0],[],rfl,rfl,?_,?_,h [] p9 (by omega) (by omega) (by decide) (by simp)⟩
   ·exact wq
   ·exact wq
  ·repeat' (first|refine vz ?_|(conv=>whnf); first|with_reducible first|refine Sp.mk ?_ ?_|refine br_d (fun _=>?_) fun _=>?_|refine vM (fun _=>?_) fun _=>?_)
   refine ⟨_,_,[some 0],[],rfl,rfl,?_,?_,h [⟨1,0,0⟩] p9 (by omega) (by omega) (by decide) (by simp [Mark.i64,i64r])⟩
   ·repeat' ((conv=>whnf); first|with_reducible exact True.intro|exact vW|with_reducible refine And.intro ?_ ?_)
    all_goals exact Chk.mk ⟨rfl,fun i hi=>by match i,hi with|0,_=>rfl⟩
   ·exact wq
  ·repeat' (first|refine vz ?_|(conv=>whnf); first|with_reducible first|refine Sp.mk ?_ ?_|refine br_d (fun _=>?_) fun _=>?_|refine vM (fun _=>?_) fun _=>?_)
   refine ⟨_,_,[some 0],[],rfl,rfl,?_,?_,h [⟨0,3,7⟩] p9 (by omega) (by omega) (by decide) (by simp [Mark.i64,i64r])⟩
   ·repeat' ((conv=>whnf); first|with_reducible exact True.intro|exact vW|with_reducible refine And.intro ?_ ?_)
    all_goals exact Chk.mk ⟨rfl,fun i hi=>by match i,hi with|0,_=>rfl⟩
   ·exact wq
  ·repeat' (first|refine vz ?_|(conv=>whnf); first|with_reducible first|refine Sp.mk ?_ ?_|refine br_d (fun _=>?_) fun _=>?_|refine vM (fun _=>?_) fun _=>?_)
   refine ⟨_,_,[some 0],[],rfl,rfl,?_,?_,h [⟨0,0,1⟩,⟨0,0,1⟩] p9 (by omega) (by omega) (by decide) (by simp [Mark.i64,i64r])⟩
   ·repeat' ((conv=>whnf); first|with_reducible exact True.intro|exact vW|with_reducible refine And.intro ?_ ?_)
    all_goals exact Chk.mk ⟨rfl,fun i hi=>by match i,hi with|0,_=>rfl|1,_=>rfl⟩
   ·exact wq
 refine ⟨_,_,[0],[],rfl,?_,?_,(⟨b,p1⟩,4),rfl,rfl,⟨⟨h1,h2,?_,?_⟩,?_⟩,?_⟩
 ·repeat' ((conv=>whnf); first|with_reducible exact True.intro|exact vW|with_reducible refine And.intro ?_ ?_)
  try exact Chk.mk (by rw [pw_sh (by assumption)])
 ·exact wq
 ·dsimp only; omega
 ·dsimp only; omega
 ·unfold i64r; dsimp only; omega
 intro k1 p2 a0 a1 a2
 dsimp only at a0 a1 a2
 repeat' (first|refine vz ?_|(conv=>whnf); first|with_reducible first|refine Sp.mk ?_ ?_|refine br_d (fun _=>?_) fun _=>?_|refine vM (fun _=>?_) fun _=>?_)
 refine Lp.mk ⟨List (List Mark) × Int × Int,fun x=>[(0,.ptr 0 0),(4,.ptr 1 0),(7,.row 2 1 0 x.1.length),(8,.int .i64 x.2.1)],
  fun x=>[rdO b x.2.2,.box [.int .i64 hp,slI bs],.row 1 x.1.length fun j=>encP (x.1.getD j [])],
  fun x=>0≤x.2.1∧x.2.1+x.1.length=1+k1∧x.2.2=p2+2*x.1.length∧sumL x.1=x.1.length∧∀ l∈x.1,∀ m∈l,m.i64,fun x=>x.2.1.toNat,⟨([],1+k1,p2),⟨by show 0≤1+k1; omega,by simp,by simp,rfl,by simp⟩,⟨⟨[some 0,some 1,none],[],rfl,rfl,?_,?_⟩⟩⟩,?_⟩
 ·exact wq
 ·exact wq
 rintro ⟨P,j,q⟩ ⟨i1,i2,i3,i4,i5⟩
 dsimp only at i1 i2 i3 i4 i5 ⊢
 repeat' (first|refine vz ?_|(conv=>whnf); first|with_reducible first|refine Sp.mk ?_ ?_|refine br_d (fun _=>?_) fun _=>?_|refine vM (fun _=>?_) fun _=>?_)
 ·refine ⟨_,_,[0],[],rfl,?_,?_,(⟨b,q⟩,bs.length),rfl,rfl,⟨⟨h1,h2,?_,?_⟩,?_⟩,?_⟩
  ·repeat' ((conv=>whnf); first|with_reducible exact True.intro|exact vW|with_reducible refine And.intro ?_ ?_)
   try exact Chk.mk (by rw [pw_sh (by assumption)])
  ·exact wq
  ·dsimp only; omega
  ·dsimp only; omega
  ·unfold i64r; dsimp only; omega
  intro k2 p3 c0 c1 c2
  dsimp only at c0 c1 c2
  repeat' (first|refine vz ?_|(conv=>whnf); first|with_reducible first|refine Sp.mk ?_ ?_|refine br_d (fun _=>?_) fun _=>?_|refine vM (fun _=>?_) fun _=>?_)
  have hbs:=h5.2 _ (getD_mem' (l:=bs) (i:=k2.toNat) (d:=0) (by omega))
  refine ⟨(if 0 > bs.getD k2.toNat 0 then 0 else bs.getD k2.toNat 0),?_,⟨by split <;> (first|exact hbs|exact ⟨by decide,by decide⟩)⟩,?_⟩
  ·exact wq
  obtain ⟨H,hH⟩:∃ H:Nat,heads ((if 0 > bs.getD k2.toNat 0 then 0 else bs.getD k2.toNat 0):Int).toNat=H:=⟨_,rfl⟩
  have hH2:H≤64:=by rw [← hH]; exact heads_le _
  rw [hH]
  obtain ⟨M,hM⟩:∃ M:Int,M=if (1:Int) > (H:Int) then (1:Int) else (H:Int):=⟨_,rfl⟩
  have hM2:1≤M∧M≤64:=by rw [hM]; split <;> omega
  repeat' (first|refine vz ?_|(conv=>whnf); first|with_reducible first|refine Sp.mk ?_ ?_|refine br_d (fun _=>?_) fun _=>?_|refine vM (fun _=>?_) fun _=>?_)
  refine ⟨_,_,[0],[],rfl,?_,?_,(⟨b,p3⟩,if (1:Int) > (H:Int) then (1:Int) else (H:Int)),rfl,rfl,⟨⟨h1,h2,?_,?_⟩,?_⟩,?_⟩
  ·repeat' ((conv=>whnf); first|with_reducible exact True.intro|exact vW|with_reducible refine And.intro ?_ ?_)
   try exact Chk.mk (by rw [pw_sh (by assumption)])
  ·exact wq
  ·dsimp only; omega
  ·dsimp only; omega
  ·unfold i64r; dsimp only; omega
  intro k3 p4 d0 d1 d2
  dsimp only at d0 d1 d2
  rw [← hM] at d0 d1
  repeat' (first|refine vz ?_|(conv=>whnf); first|with_reducible first|refine Sp.mk ?_ ?_|refine br_d (fun _=>?_) fun _=>?_|refine vM (fun _=>?_) fun _=>?_)
  refine ⟨(P ++ [[⟨0,k2,1+k3⟩]],j-1,p4),⟨by show 0≤j-1; omega,by simp; omega,by simp; omega,?_,?_⟩,by show (j-1).toNat<j.toNat; omega,⟨⟨[some 0,some 1,some 5],[],rfl,rfl,?_,?_⟩⟩⟩
  ·dsimp only
   rw [sumL_app,i4]
   simp [sumL]
  ·intro l hl m hm
   rcases List.mem_append.1 hl with hl|hl
   ·exact i5 l hl m hm
   ·simp at hl
    subst hl
    simp at hm
    subst hm
    unfold Mark.i64 i64r
    dsimp only
    omega
  ·exact wq
  ·repeat' ((conv=>whnf); first|with_reducible exact True.intro|exact vW|with_reducible refine And.intro ?_ ?_)
   all_goals exact Chk.mk one_ext
 ·have hP:1≤P.length:=by omega
  have hP2:sumL P+P.length≤8:=by omega
  have hq:q+2*P.length≤p2+16:=by omega
  have hq2:p2≤q:=by omega
  refine Lp.mk ⟨List (List Mark) × Int,fun x=>[(0,.ptr 0 0),(7,.row 1 1 0 x.1.length)],
   fun x=>[rdO b x.2,.row 1 x.1.length fun j=>encP (x.1.getD j [])],
   fun x=>1≤x.1.length∧sumL x.1+x.1.length≤8∧x.2+2*x.1.length≤p2+16∧p2≤x.2∧∀ l∈x.1,∀ m∈l,m.i64,fun x=>x.1.length,⟨(P,q),⟨hP,hP2,hq,hq2,i5⟩,⟨⟨[some 0,some 2],[],rfl,rfl,?_,?_⟩⟩⟩,?_⟩
  ·exact wq
  ·exact wq
  clear i1 i2 i3 i4 i5 hP hP2 hq hq2
  rintro ⟨P,q⟩ ⟨i1,i2,i3,i4,i5⟩
  dsimp only at i1 i2 i3 i4 i5 ⊢
  repeat' (first|refine vz ?_|(conv=>whnf); first|with_reducible first|refine Sp.mk ?_ ?_|refine br_d (fun _=>?_) fun _=>?_|refine vM (fun _=>?_) fun _=>?_)
  ·refine ⟨_,_,[0],[],rfl,?_,?_,(⟨b,q⟩,P.length-1),rfl,rfl,⟨⟨h1,h2,?_,?_⟩,?_⟩,?_⟩
   ·repeat' ((conv=>whnf); first|with_reducible exact True.intro|exact vW|with_reducible refine And.intro ?_ ?_)
    try exact Chk.mk (by rw [pw_sh (by assumption)])
   ·exact wq
   ·dsimp only; omega
   ·dsimp only; omega
   ·unfold i64r; dsimp only; omega
   intro a p3 c0 c1 c2
   dsimp only at c0 c1 c2
   obtain ⟨A,hA⟩:∃ A,P.getD (0+a.toNat) []=A:=⟨_,rfl⟩
   obtain ⟨B,hB⟩:∃ B,P.getD (0+(a+1).toNat) []=B:=⟨_,rfl⟩
   have mA:A∈P:=by rw [← hA]; exact getD_mem' (by omega)
   have mB:B∈P:=by rw [← hB]; exact getD_mem' (by omega)
   have lA:(P.getD (0+a.toNat) []).length≤8:=by rw [hA]; have:=sumL_mem mA; omega
   have lB:(P.getD (0+(a+1).toNat) []).length≤8:=by rw [hB]; have:=sumL_mem mB; omega
   repeat' (first|refine vz ?_|(conv=>whnf); first|with_reducible first|refine Sp.mk ?_ ?_|refine br_d (fun _=>?_) fun _=>?_|refine vM (fun _=>?_) fun _=>?_)
   refine Dr.mk ⟨(.rd 1 (.rd 2 (.rd 3 (.rd 4 (.rd 6 (.rd 7 (.rd 8 (.rd 9 (.rd 10 (.rd 12 (.ef 0 (.ef 5 (.ef 11 (.ef 13 (.rd 14 (.rd 15 (.ef 16 (.ef 17 (.rd 18 .dn) .no) .no))) .no) .no) .no) .no))))))))))),by decide +kernel,?_⟩
   repeat' (first|refine vz ?_|(conv=>whnf); first|with_reducible first|refine Sp.mk ?_ ?_|refine br_d (fun _=>?_) fun _=>?_|refine vM (fun _=>?_) fun _=>?_)
   refine ⟨_,_,[0],[],rfl,?_,?_,(⟨b,p3⟩,2),rfl,rfl,⟨⟨h1,h2,?_,?_⟩,?_⟩,?_⟩
   ·repeat' ((conv=>whnf); first|with_reducible exact True.intro|exact vW|with_reducible refine And.intro ?_ ?_)
    try exact Chk.mk (by rw [pw_sh (by assumption)])
   ·exact wq
   ·dsimp only; omega
   ·dsimp only; omega
   ·unfold i64r; dsimp only; omega
   intro k p4 d0 d1 d2
   dsimp only at d0 d1 d2
   repeat' ((conv=>whnf); first|with_reducible refine wk_at 12 ?_|with_reducible refine wk_at1 12 ?_|with_reducible refine wk_at2 12 ?_|refine vA ?_|with_reducible first|refine v8 ?_|refine Sp.mk ?_ ?_|refine vS ?_|refine vR ?_|refine vB ?_|refine br_nt ?_|refine br_tt ?_|refine br_ff ?_|refine vP ?_|refine vQ ?_|refine vT ?_|refine vF ?_|refine br_and ?_|refine br_or ?_|refine br_d (fun _=>?_) fun _=>?_|refine vM (fun _=>?_) fun _=>?_)
   refine ⟨Wk.go [(0,.ptr 0 0),(7,.row 1 1 0 P.length),(10,.int .i64 a),(11,.row 2 3 0 (P.getD (0+a.toNat) [] ++ P.getD (0+(a+1).toNat) [] ++ [(⟨1+k,0,0⟩:Mark)]).length)]
    [rdO b p4,.row 1 P.length fun j=>encP (P.getD j []),.row 3 (P.getD (0+a.toNat) [] ++ P.getD (0+(a+1).toNat) [] ++ [(⟨1+k,0,0⟩:Mark)]).length fun j=>encM ((P.getD (0+a.toNat) [] ++ P.getD (0+(a+1).toNat) [] ++ [(⟨1+k,0,0⟩:Mark)]).getD j default)] ⟨⟨[some 0,some 1,some 5],[],rfl,rfl,?_,?_⟩⟩ ?_⟩
   ·repeat' ((conv=>whnf); first|with_reducible exact True.intro|exact vW|with_reducible refine And.intro ?_ ?_)
    all_goals exact Chk.mk ⟨rfl,three_ext.1⟩
   ·repeat' ((conv=>whnf); first|with_reducible exact True.intro|exact vW|with_reducible refine And.intro ?_ ?_)
    all_goals exact Chk.mk three_ext
   rw [hA] at lA
   rw [hB] at lB
   rw [hA,hB]
   obtain ⟨T,hT⟩:∃ T,A ++ B ++ [(⟨1+k,0,0⟩:Mark)]=T:=⟨_,rfl⟩
   have lT:T.length=A.length+B.length+1:=by rw [← hT]; simp; omega
   rw [hT]
   repeat' (first|refine vz ?_|(conv=>whnf); first|with_reducible first|refine Sp.mk ?_ ?_|refine br_d (fun _=>?_) fun _=>?_|refine vM (fun _=>?_) fun _=>?_)
   have hm:=sumL_take_drop P a.toNat (by omega)
   have hA':P.getD a.toNat []=A:=by rw [← hA,Nat.zero_add]
   have hB':P.getD (a.toNat+1) []=B:=by rw [← hB,Nat.zero_add,show (a+1).toNat=a.toNat+1 by omega]
   rw [hA',hB',show a.toNat+2=(a+2).toNat by omega] at hm
   refine ⟨(P.take a.toNat ++ [T] ++ P.drop (a+2).toNat,p4),⟨?_,?_,?_,by show p2≤p4; omega,?_⟩,?_,⟨⟨[some 0,some 6],[],rfl,rfl,?_,?_⟩⟩⟩
   ·simp; omega
   ·dsimp only
    rw [sumL_app,sumL_app]
    simp [sumL]
    omega
   ·simp; omega
   ·intro l hl m hm
    simp only [List.mem_append,List.mem_singleton] at hl
    rcases hl with (hl|rfl)|hl
    ·exact i5 l (List.mem_of_mem_take hl) m hm
    ·rw [← hT] at hm
     simp only [List.mem_append,List.mem_singleton] at hm
     rcases hm with (hm|hm)|rfl
     ·exact i5 A mA m hm
     ·exact i5 B mB m hm
     ·unfold Mark.i64 i64r; dsimp only; omega
    ·exact i5 l (List.mem_of_mem_drop hl) m hm
   ·simp; omega
   ·repeat' ((conv=>whnf); first|with_reducible exact True.intro|exact vW|with_reducible refine And.intro ?_ ?_)
    all_goals exact Chk.mk ⟨rfl,(merge_ext (by omega) (by omega)).1⟩
   ·repeat' ((conv=>whnf); first|with_reducible exact True.intro|exact vW|with_reducible refine And.intro ?_ ?_)
    all_goals exact Chk.mk (merge_ext (by omega) (by omega))
  ·have hl:=sumL_mem (getD_mem' (l:=P) (i:=0) (d:=[]) (by omega))
   repeat' (first|refine vz ?_|(conv=>whnf); first|with_reducible first|refine Sp.mk ?_ ?_|refine br_d (fun _=>?_) fun _=>?_|refine vM (fun _=>?_) fun _=>?_)
   refine ⟨_,_,[some 0],[],rfl,rfl,?_,?_,h (P.getD 0 []) q (by omega) (by omega) (by omega) (i5 _ (getD_mem' (by omega)))⟩
   ·exact wq
   ·exact wq
end Go.Proofs.YtapeebjjljohdaaGreatDoor.Vc
end
section
/- Part ZS: swings, duals, who never matters, by the program. -/
namespace Go.Proofs.YtapeebjjljohdaaGreatDoor.Vc
open Go.Proofs
set_option maxRecDepth 10000
set_option maxHeartbeats 4000000
def swingsOf (x:Ox):Int:=if termOk x.h x.t∧0≤x.who∧x.who<x.h.p then (swl x.h.bs x.t x.who (pw x.h.p).toNat).length else -1
def C20:List AV→(AV→Prop)→Prop:=con (X:=Ox) (fun x=>[enH x.h,slM x.t,.int .i64 x.who]) (fun x=>termI x.h x.t∧i64r x.who) fun x K=>K (.int .i64 (swingsOf x))
theorem F20:FF 157 C20:=by
 refine fitE [(153,C38),(186,C43)] (by simp only [List.mem_cons,List.not_mem_nil,or_false]; rintro _ (rfl|rfl) <;> first|exact F38|exact F43) Tryz.f157 ⟨rfl,by decide +kernel,by decide +kernel⟩ (fun _ _ _ hk h=>hk _ h) ?_
 rintro ⟨⟨p,bs⟩,t,w⟩ K ⟨hI,hw⟩ h
 refine ⟨Nat.le_of_ble_eq_true rfl,?_⟩
 dsimp only [enH] at h hI hw ⊢
 unfold swingsOf at h
 dsimp only at h
 repeat' (first|refine vz ?_|(conv=>whnf); first|with_reducible first|refine Sp.mk ?_ ?_|refine br_d (fun _=>?_) fun _=>?_|refine vM (fun _=>?_) fun _=>?_)
 refine ⟨(⟨p,bs⟩,t),?_,⟨hI⟩,?_⟩
 ·exact wq
 repeat' (first|refine vz ?_|(conv=>whnf); first|with_reducible first|refine Sp.mk ?_ ?_|refine br_d (fun _=>?_) fun _=>?_|refine vM (fun _=>?_) fun _=>?_)
 ·rename_i hO h1
  rw [if_neg (fun q=>by have:=q.2.1; omega)] at h
  exact h
 ·rename_i hO _ h2
  rw [if_neg (fun q=>by have:=q.2.2; omega)] at h
  exact h
 ·rename_i hO h1 h2
  have hO':termOk ⟨p,bs⟩ t:=hO
  rw [if_pos ⟨hO',by omega,by omega⟩] at h
  have pp:people p:=hO'.1.1
  have hp:=pp.2
  refine ⟨⟨p,bs,t,w⟩,?_,⟨pp,sayOk_of hO',hO'.2.1,by show 0≤w; omega,by show w<6; omega⟩,?_⟩
  ·exact wq
  dsimp only
  repeat' (first|refine vz ?_|(conv=>whnf); first|with_reducible first|refine Sp.mk ?_ ?_|refine br_d (fun _=>?_) fun _=>?_|refine vM (fun _=>?_) fun _=>?_)
  exact h
 ·rename_i hO
  rw [if_neg (fun q=>hO q.1)] at h
  exact h
def C21:=C20
theorem F21:FF 113 C21:=by
 refine fitE [(127,C33),(83,C35),(149,C44)] (by simp only [List.mem_cons,List.not_mem_nil,or_false]; rintro _ (rfl|rfl|rfl) <;> first|exact F33|exact F35|exact F44) Tryz.f113 ⟨rfl,by decide +kernel,by decide +kernel⟩ (fun _ _ _ hk h=>hk _ h) ?_
 rintro ⟨⟨p,bs⟩,t,w⟩ K ⟨hI,hw⟩ h
 refine ⟨Nat.le_of_ble_eq_true rfl,?_⟩
 dsimp only [enH] at h hI hw ⊢
 unfold swingsOf at h
 dsimp only at h
 repeat' (first|refine vz ?_|(conv=>whnf); first|with_reducible first|refine Sp.mk ?_ ?_|refine br_d (fun _=>?_) fun _=>?_|refine vM (fun _=>?_) fun _=>?_)
 refine ⟨(⟨p,bs⟩,t),?_,⟨hI⟩,?_⟩
 ·exact wq
 repeat' (first|refine vz ?_|(conv=>whnf); first|with_reducible first|refine Sp.mk ?_ ?_|refine br_d (fun _=>?_) fun _=>?_|refine vM (fun _=>?_) fun _=>?_)
 ·rename_i hO
  have hO':termOk ⟨p,bs⟩ t:=hO
  have pp:people p:=hO'.1.1
  have pw2:=pw_le pp
  have hp1:=pp.1
  have hp:=pp.2
  repeat' (first|refine vz ?_|(conv=>whnf); first|with_reducible first|refine Sp.mk ?_ ?_|refine br_d (fun _=>?_) fun _=>?_|refine vM (fun _=>?_) fun _=>?_)
  refine ⟨(w,0,p-1),?_,⟨trivial⟩,?_⟩
  ·exact wq
  repeat' (first|refine vz ?_|(conv=>whnf); first|with_reducible first|refine Sp.mk ?_ ?_|refine br_d (fun _=>?_) fun _=>?_|refine vM (fun _=>?_) fun _=>?_)
  ·rename_i hb
   replace hb:0≤w∧w≤p-1:=hb
   rw [if_pos ⟨hO',by omega,by omega⟩] at h
   refine Lp.mk ⟨Nat,fun i=>[(1,slM t),(2,.int .i64 w),(3,.ptr 0 0),(7,.int .i64 (swl bs t w i).length),(8,.int .i64 i)],
    fun i=>[.box [.int .i64 p,slI bs]],fun i=>i≤(pw p).toNat,fun i=>(pw p).toNat-i,⟨0,Nat.zero_le _,⟨⟨[some 0],[],rfl,rfl,?_,?_⟩⟩⟩,?_⟩
   ·exact wq
   ·exact wq
   intro i i1
   dsimp only
   have hll:=swl_le bs t w i
   repeat' (first|refine vz ?_|(conv=>whnf); first|with_reducible refine Wr.ex (wsh pp) ?_|with_reducible first|refine Sp.mk ?_ ?_|refine br_d (fun _=>?_) fun _=>?_|refine vM (fun _=>?_) fun _=>?_)
   ·rename_i hi
    rw [pw_sh pp] at hi
    have hi6:(i:Int)<64:=by omega
    have hi0:(0:Int)≤i:=by omega
    refine ⟨⟨p,bs,t,i,w⟩,?_,⟨swOk_of hO' (by omega) (by omega) _ hi0 hi6⟩,?_⟩
    ·exact wq
    dsimp only
    repeat' (first|refine vz ?_|(conv=>whnf); first|with_reducible first|refine Sp.mk ?_ ?_|refine br_d (fun _=>?_) fun _=>?_|refine vM (fun _=>?_) fun _=>?_)
    ·rename_i hv
     have e:((swl bs t w (i+1)).length:Int)=(swl bs t w i).length+1:=by rw [swl,if_pos hv]; simp
     refine ⟨i+1,by show i+1≤(pw p).toNat; omega,by show (pw p).toNat-(i+1)<(pw p).toNat-i; omega,⟨⟨[some 0],[],rfl,rfl,?_,?_⟩⟩⟩
     ·exact wq
     ·exact wq
    ·rename_i hv
     have e:((swl bs t w (i+1)).length:Int)=(swl bs t w i).length:=by rw [swl,if_neg (by rw [hv]; exact Bool.false_ne_true)]
     refine ⟨i+1,by show i+1≤(pw p).toNat; omega,by show (pw p).toNat-(i+1)<(pw p).toNat-i; omega,⟨⟨[some 0],[],rfl,rfl,?_,?_⟩⟩⟩
     ·exact wq
     ·exact wq
   ·rename_i hi
    rw [pw_sh pp] at hi
    rw [show (pw p).toNat=i by omega] at h
    exact h
  ·rename_i hb
   replace hb:¬ (0≤w∧w≤p-1):=hb
   rw [if_neg (fun q=>hb ⟨q.2.1,by have:=q.2.2; omega⟩)] at h
   exact h
 ·rename_i hO
  rw [if_neg (fun q=>hO q.1)] at h
  exact h
theorem dual_ext {bs:List Int} {t:List Mark} {i:Nat} (hi:i<t.length) {g:Nat→List AV} (hg:g 0=encM (dualM bs (t.getD i default))):i+1=i+1∧∀ j,j<i+1→encM ((dualT bs (t.take (i+1))).getD j default)=appF i (fun j=>encM ((dualT bs (t.take i)).getD j default)) g j:=by
 have e:dualT bs (t.take (i+1))=dualT bs (t.take i) ++ [dualM bs (t.getD i default)]:=by
  unfold dualT
  rw [take_succ' default hi,List.map_append]
  rfl
 have l:(dualT bs (t.take i)).length=i:=by rw [dualT,List.length_map,List.length_take]; omega
 have:=app_extG encM default (l:=dualT bs (t.take i)) hg
 rw [l] at this
 rw [e]
 refine ⟨rfl,fun j hj=>this.2 j (by rw [List.length_append,l]; simpa using hj)⟩
structure Dx where
 p:Int
 bs:List Int
 t:List Mark
def C46:List AV→(AV→Prop)→Prop:=con (X:=Dx) (fun x=>[house x.p x.bs,slM x.t]) (fun x=>termOk ⟨x.p,x.bs⟩ x.t) fun x K=>K (slM (dualT x.bs x.t))
theorem F46:FF 163 C46:=by
 refine fitE [(184,C50)] (by simp only [List.mem_cons,List.not_mem_nil,or_false]; rintro _ rfl <;> first|exact F50) Tryz.f163 ⟨rfl,by decide +kernel,by decide +kernel⟩ (fun _ _ _ hk h=>hk _ h) ?_
 rintro ⟨p,bs,t⟩ K hO h
 refine ⟨Nat.le_of_ble_eq_true rfl,?_⟩
 dsimp only at h hO ⊢
 have hg:∀ m∈t,goodM bs m:=walk_good t 0 1 hO.2.2
 have ht9:t.length≤9:=hO.2.1
 have pp:people p:=hO.1.1
 have pl:=pw_le pp
 repeat' (first|refine vz ?_|(conv=>whnf); first|with_reducible first|refine Sp.mk ?_ ?_|refine br_d (fun _=>?_) fun _=>?_|refine vM (fun _=>?_) fun _=>?_)
 refine Lp.mk ⟨Nat,fun i=>[(2,.ptr 0 0),(5,.row 1 3 0 i),(9,slM t),(10,.int .i64 t.length),(11,.int .i64 i)],
  fun i=>[.box [.int .i64 p,slI bs],.row 3 i fun j=>encM ((dualT bs (t.take i)).getD j default)],fun i=>i≤t.length,fun i=>t.length-i,⟨0,Nat.zero_le _,⟨⟨[some 0,none],[],rfl,rfl,?_,?_⟩⟩⟩,?_⟩
 ·exact wq
 ·exact wq
 intro i i1
 dsimp only
 repeat' (first|refine vz ?_|(conv=>whnf); first|with_reducible first|refine Sp.mk ?_ ?_|refine br_d (fun _=>?_) fun _=>?_|refine vM (fun _=>?_) fun _=>?_)
 ·rename_i hk
  have hi:i<t.length:=by omega
  have hm:=hg _ (getD_mem' (l:=t) (i:=i) (d:=default) hi)
  have hk':(t.getD i default).kind=0:=hk
  rcases hm with ⟨_,g1,g2,g3,g4⟩|g|g <;> try omega
  have hb:=body_ok (p:=p) (bs:=bs) hO.1.2.2 g1 g2
  have hh:=heads_le (bs.getD (t.getD i default).at_.toNat 0).toNat
  have e0:((i:Nat):Int).toNat=i:=rfl
  refine Dr.mk ⟨(.rd 0 (.rd 1 (.rd 2 (.rd 3 (.rd 4 (.rd 5 (.rd 8 (.rd 9 (.ef 6 (.rd 7 (.rd 10 (.rd 11 (.ef 12 .dn .no)))) .no))))))))),by decide +kernel,?_⟩
  rw [e0]
  repeat' (first|refine vz ?_|(conv=>whnf); first|with_reducible first|refine Sp.mk ?_ ?_|refine br_d (fun _=>?_) fun _=>?_|refine vM (fun _=>?_) fun _=>?_)
  refine ⟨bs.getD (t.getD i default).at_.toNat 0,?_,⟨hb.2.1,by have:=hb.2.2; omega⟩,?_⟩
  ·exact wq
  repeat' (first|refine vz ?_|(conv=>whnf); first|with_reducible first|refine Sp.mk ?_ ?_|refine br_d (fun _=>?_) fun _=>?_|refine vM (fun _=>?_) fun _=>?_)
  refine ⟨i+1,by omega,by omega,⟨⟨[some 0,some 4],[],rfl,rfl,?_,?_⟩⟩⟩
  ·exact wq
  ·repeat' ((conv=>whnf); first|with_reducible exact True.intro|exact vW|with_reducible refine And.intro ?_ ?_)
   all_goals exact Chk.mk (dual_ext hi (by unfold dualM; rw [if_pos hk']; show [AV.int .i64 (t.getD i default).kind,_,_]=[AV.int .i64 0,_,_]; rw [hk']))
 ·rename_i hk hk1
  have hi:i<t.length:=by omega
  have hk':¬ (t.getD i default).kind=0:=hk
  have hk1':(t.getD i default).kind=1:=hk1
  refine ⟨i+1,by omega,by omega,⟨⟨[some 0,some 4],[],rfl,rfl,?_,?_⟩⟩⟩
  ·exact wq
  ·repeat' ((conv=>whnf); first|with_reducible exact True.intro|exact vW|with_reducible refine And.intro ?_ ?_)
   all_goals exact Chk.mk (dual_ext hi (by unfold dualM; rw [if_neg hk',if_pos hk1']; rfl))
 ·rename_i hk hk1
  have hi:i<t.length:=by omega
  have hk':¬ (t.getD i default).kind=0:=hk
  have hk1':¬ (t.getD i default).kind=1:=hk1
  refine ⟨i+1,by omega,by omega,⟨⟨[some 0,some 4],[],rfl,rfl,?_,?_⟩⟩⟩
  ·exact wq
  ·repeat' ((conv=>whnf); first|with_reducible exact True.intro|exact vW|with_reducible refine And.intro ?_ ?_)
   all_goals exact Chk.mk (dual_ext hi (by unfold dualM; rw [if_neg hk',if_neg hk1']; rfl))
 ·have e:t.take i=t:=List.take_of_length_le (by omega)
  rw [e]
  have e2:(fun k=>(fun j=>encM ((dualT bs t).getD j default)) (0+k))=fun j=>encM ((dualT bs t).getD j default):=by funext k; rw [Nat.zero_add]
  have e3:i=(dualT bs t).length:=by rw [dualT,List.length_map]; omega
  show K (AV.sl 3 i fun k=>(fun j=>encM ((dualT bs t).getD j default)) (0+k))
  rw [e2,e3]
  exact h
def C28:List AV→(AV→Prop)→Prop:=con (X:=Sy) (fun x=>[house x.p x.bs,slM x.t,.int .i64 x.c]) (fun x=>termI ⟨x.p,x.bs⟩ x.t∧i64r x.c) fun x K=>K (.bool (decide (termOk ⟨x.p,x.bs⟩ x.t) && decide (crowd x.p x.c) && says x.bs x.c x.t))
theorem F28:FF 156 C28:=by
 refine fitE [(153,C38),(84,C54),(181,C39)] (by simp only [List.mem_cons,List.not_mem_nil,or_false]; rintro _ (rfl|rfl|rfl) <;> first|exact F38|exact F54|exact F39) Tryz.f156 ⟨rfl,by decide +kernel,by decide +kernel⟩ (fun _ _ _ hk h=>hk _ h) ?_
 rintro ⟨p,bs,t,c⟩ K ⟨hI,hc⟩ h
 refine ⟨Nat.le_of_ble_eq_true rfl,?_⟩
 dsimp only at h hI hc ⊢
 repeat' (first|refine vz ?_|(conv=>whnf); first|with_reducible first|refine Sp.mk ?_ ?_|refine br_d (fun _=>?_) fun _=>?_|refine vM (fun _=>?_) fun _=>?_)
 refine ⟨(⟨p,bs⟩,t),?_,⟨hI⟩,?_⟩
 ·exact wq
 repeat' (first|refine vz ?_|(conv=>whnf); first|with_reducible first|refine Sp.mk ?_ ?_|refine br_d (fun _=>?_) fun _=>?_|refine vM (fun _=>?_) fun _=>?_)
 ·rename_i hO
  have hO':termOk ⟨p,bs⟩ t:=hO
  rw [decide_eq_true hO',Bool.true_and] at h
  have hp:=hO'.1.1
  refine ⟨(p,c),?_,⟨hI.1.1,hc⟩,?_⟩
  ·exact wq
  repeat' (first|refine vz ?_|(conv=>whnf); first|with_reducible first|refine Sp.mk ?_ ?_|refine br_d (fun _=>?_) fun _=>?_|refine vM (fun _=>?_) fun _=>?_)
  ·rename_i hC
   have hC':crowd p c:=hC
   rw [decide_eq_true hC',Bool.true_and] at h
   have pl:=pw_le hC'.1
   refine ⟨⟨p,bs,t,c⟩,?_,⟨sayOk_of hO' c hC'.2.1 (by omega),hO'.2.1⟩,?_⟩
   ·exact wq
   repeat' (first|refine vz ?_|(conv=>whnf); first|with_reducible first|refine Sp.mk ?_ ?_|refine br_d (fun _=>?_) fun _=>?_|refine vM (fun _=>?_) fun _=>?_)
   exact h
  ·rename_i hC
   rw [decide_eq_false (show ¬ crowd p c from hC),Bool.false_and] at h
   exact h
 ·rename_i hO
  rw [decide_eq_false (show ¬ termOk ⟨p,bs⟩ t from hO),Bool.false_and,Bool.false_and] at h
  exact h
def idleF (bs:List Int) (t:List Mark) (n:Nat):Nat→Int
 |0=>0
 |k+1=>if (swl bs t k n).length=0 then add (idleF bs t n k) k else idleF bs t n k
theorem idle_small:∀ k,k<6→∀ c,c<2 ^ k→0≤add (c:Nat) (k:Nat)∧add (c:Nat) (k:Nat)<(2 ^ (k+1):Nat):=by decide +kernel
theorem idle_lt (bs:List Int) (t:List Mark) (n:Nat):∀ k,k≤6→0≤idleF bs t n k∧idleF bs t n k<(2 ^ k:Nat)
 |0,_=>⟨Int.le_refl 0,by show (0:Int)<1; decide⟩
 |k+1,h=>by
  have:=idle_lt bs t n k (by omega)
  unfold idleF
  split
  ·have e:=idle_small k (by omega) (idleF bs t n k).toNat (by omega)
   rwa [Int.toNat_of_nonneg this.1] at e
  ·rw [Nat.pow_succ]; omega
def C24:List AV→(AV→Prop)→Prop:=con (X:=House × List Mark) (fun x=>[enH x.1,slM x.2]) (fun x=>termI x.1 x.2∧termOk x.1 x.2) fun x K=>K (.int .i64 (idleF x.1.bs x.2 (pw x.1.p).toNat x.1.p.toNat))
theorem F24:FF 162 C24:=by
 refine fitE [(153,C38),(186,C43)] (by simp only [List.mem_cons,List.not_mem_nil,or_false]; rintro _ (rfl|rfl) <;> first|exact F38|exact F43) Tryz.f162 ⟨rfl,by decide +kernel,by decide +kernel⟩ (fun _ _ _ hk h=>hk _ h) ?_
 rintro ⟨⟨p,bs⟩,t⟩ K ⟨hI,hO⟩ h
 refine ⟨Nat.le_of_ble_eq_true rfl,?_⟩
 dsimp only [enH] at h hI hO ⊢
 have pp:people p:=hO.1.1
 have hp1:=pp.1
 have hp6:=pp.2
 repeat' (first|refine vz ?_|(conv=>whnf); first|with_reducible first|refine Sp.mk ?_ ?_|refine br_d (fun _=>?_) fun _=>?_|refine vM (fun _=>?_) fun _=>?_)
 refine ⟨(⟨p,bs⟩,t),?_,⟨hI⟩,?_⟩
 ·exact wq
 repeat' (first|refine vz ?_|(conv=>whnf); first|with_reducible first|refine Sp.mk ?_ ?_|refine br_d (fun _=>?_) fun _=>?_|refine vM (fun _=>?_) fun _=>?_)
 refine Lp.mk ⟨Nat,fun i=>[(1,slM t),(2,.ptr 0 0),(5,.int .i64 (idleF bs t (pw p).toNat i)),(12,.int .i64 p),(13,.int .i64 i)],
  fun i=>[.box [.int .i64 p,slI bs]],fun i=>i≤p.toNat,fun i=>p.toNat-i,⟨0,Nat.zero_le _,⟨⟨[some 0],[],rfl,rfl,?_,?_⟩⟩⟩,?_⟩
 ·exact wq
 ·exact wq
 intro i i1
 dsimp only
 have hl:=idle_lt bs t (pw p).toNat i (by omega)
 repeat' (first|refine vz ?_|(conv=>whnf); first|with_reducible first|refine Sp.mk ?_ ?_|refine br_d (fun _=>?_) fun _=>?_|refine vM (fun _=>?_) fun _=>?_)
 ·refine ⟨⟨p,bs,t,i⟩,?_,⟨pp,sayOk_of hO,hO.2.1,by show (0:Int)≤i; omega,by show (i:Int)<6; omega⟩,?_⟩
  ·exact wq
  dsimp only
  repeat' (first|refine vz ?_|(conv=>whnf); first|with_reducible refine Wr.ex (wshw (by omega) (by omega)) ?_|with_reducible first|refine Sp.mk ?_ ?_|refine br_d (fun _=>?_) fun _=>?_|refine vM (fun _=>?_) fun _=>?_)
  ·rename_i h0
   refine ⟨i+1,by show i+1≤p.toNat; omega,by show p.toNat-(i+1)<p.toNat-i; omega,⟨⟨[some 0],[],rfl,rfl,?_,?_⟩⟩⟩
   ·repeat' ((conv=>whnf); first|with_reducible exact True.intro|exact vW|with_reducible refine And.intro ?_ ?_)
    all_goals exact Chk.mk (by rw [idleF,if_pos (by omega)]; rfl)
   ·exact wq
  ·rename_i h0
   refine ⟨i+1,by show i+1≤p.toNat; omega,by show p.toNat-(i+1)<p.toNat-i; omega,⟨⟨[some 0],[],rfl,rfl,?_,?_⟩⟩⟩
   ·repeat' ((conv=>whnf); first|with_reducible exact True.intro|exact vW|with_reducible refine And.intro ?_ ?_)
    all_goals exact Chk.mk (by rw [idleF,if_neg (by omega)])
   ·exact wq
 ·rw [show i=p.toNat by omega]
  exact h
end Go.Proofs.YtapeebjjljohdaaGreatDoor.Vc
end
