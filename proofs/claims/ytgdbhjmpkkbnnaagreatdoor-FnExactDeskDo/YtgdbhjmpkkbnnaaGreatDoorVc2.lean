/- Part Q of the engine: a region whose order is drawn. -/
import Derived.Deep.LoopGhost
import Derived.Lib.AppendIntMem
import Derived.Shelf.Strings.IndexAnyAll
import Derived.Laws.RangeAny
import Derived.Lib.OthersKept
import Derived.Laws.Runes
import Derived.WalkMore
import Derived.Shelf.RegionOpenPlain
import Derived.Scope
import Derived.Shelf.Small.Utf8
import Derived.Test.YtgdbhjmpkkbnnaaGreatDoorProg
import Derived.Test.YtgdbhjmpkkbnnaaGreatDoorShelf
import Derived.Test.YtgdbhjmpkkbnnaaGreatDoorVc1
section
namespace Go.Proofs.YtgdbhjmpkkbnnaaGreatDoor.Vc
def aftD (ops:Array Oper):Nat→Oper→Nat→Bool
 |0,x,j=>x.after.toList.any fun e=>Region.binds .any e && Nat.beq e.on j
 |d+1,x,j=>x.after.toList.any fun e=>Region.binds .any e && (Nat.beq e.on j || (Nat.blt j e.on && (match ops[e.on]? with
  |some y=>aftD ops d y j
  |none=>false)))
def aft (ops:Array Oper) (x:Oper) (j:Nat):Bool:=aftD ops 4 x j
def keepX (ops:Array Oper) (x:Oper) (fl:List (Nat × Nat)) (o o':List Obj):Prop:=∀ j i,(j,i)∈fl→aft ops x j=false→o'[i]?=o[i]?
theorem keepX.mono {ops:Array Oper} {x:Oper} {fl gl:List (Nat × Nat)} {o o':List Obj} (h:keepX ops x fl o o') (k:∀ i,i∈gl→i∈fl):keepX ops x gl o o':=fun j i hi=>h j i (k _ hi)
theorem keepX.refl (ops:Array Oper) (x:Oper) (fl:List (Nat × Nat)) (o:List Obj):keepX ops x fl o o:=fun _ _ _ _=>rfl
def keepP (ops:Array Oper) (x:Oper):List (Nat × Nat)→List Obj→List Obj→Prop→Prop
 |[],_,_,K=>K
 |(j,i) :: r,o,o',K=>cond (aft ops x j) (keepP ops x r o o' K) (Chk (o'[i]?=o[i]?)∧keepP ops x r o o' K)
theorem keepP_spec {ops:Array Oper} {x:Oper}:∀ {l:List (Nat × Nat)} {o o':List Obj} {K:Prop},keepP ops x l o o' K→keepX ops x l o o'∧K
 |[],o,o',K,h=>⟨fun j i hi=>(by cases hi),h⟩
 |(j,i) :: r,o,o',K,h=>by
  unfold keepP at h
  cases e:aft ops x j with
  |true =>
   rw [e] at h
   obtain ⟨h1,h2⟩:=keepP_spec (l:=r) h
   refine ⟨fun j' i' hi ha=>?_,h2⟩
   rcases List.mem_cons.1 hi with hi|hi
   ·cases hi; rw [e] at ha; cases ha
   ·exact h1 j' i' hi ha
  |false =>
   rw [e] at h
   obtain ⟨h1,h2⟩:=keepP_spec (l:=r) h.2
   refine ⟨fun j' i' hi ha=>?_,h2⟩
   rcases List.mem_cons.1 hi with hi|hi
   ·cases hi; exact h.1.h
   ·exact h1 j' i' hi ha
def addQ (j:Nat):List Nat→List (Nat × Nat)→(List (Nat × Nat)→Prop)→Prop
 |[],fl,K=>K fl
 |i :: r,fl,K=>forceN i fun i=>addQ j r ((j,i) :: fl) K
theorem addQ_spec {j:Nat}:∀ {l:List Nat} {m:List (Nat × Nat)} {K:List (Nat × Nat)→Prop},addQ j l m K→∃ s,K s∧(∀ i,i∈l→(j,i)∈s)∧∀ i,i∈m→i∈s
 |[],m,K,h=>⟨m,h,fun i hi=>(by cases hi),fun _ hi=>hi⟩
 |i :: r,m,K,h=>by
  unfold addQ at h
  rw [forceN_eq] at h
  obtain ⟨s,h1,h2,h3⟩:=addQ_spec (l:=r) h
  refine ⟨s,h1,fun k hk=>?_,fun k hk=>h3 k (List.mem_cons_of_mem _ hk)⟩
  rcases List.mem_cons.1 hk with rfl|hk
  ·exact h3 _ List.mem_cons_self
  ·exact h2 k hk
inductive OT where
 |dn
 |rd (i:Nat) (r:OT)
 |ef (i:Nat) (r s:OT)
 |no
structure Sp (A B:Prop):Prop where
 l:A
 r:B
def drP (TB:TypeId→TI) (call:FuncId→List AV→List Obj→(AV→List Obj→Prop)→Prop) (ops:Array Oper):OT→List (Nat × Nat)→Fr→List Obj→(Fr→List Obj→Prop)→Prop
 |.dn,_,t,o,K=>K t o
 |.no,_,_,_,_=>True
 |.rd i r,fl,t,o,K=>match ops[i]? with
  |none=>False
  |some x=>match isRd x.op with
   |true=>opP TB call ops x t o fun t' o'=>addQ i (opIds x.op t) fl fun fl=>drP TB call ops r fl t' o' K
   |false=>False
 |.ef i r .no,fl,t,o,K=>match ops[i]? with
  |none=>False
  |some x=>opP TB call ops x t o fun t' o'=>keepP ops x fl o o' (drP TB call ops r fl t' o' K)
 |.ef i r s,fl,t,o,K=>match ops[i]? with
  |none=>False
  |some x=>Sp (opP TB call ops x t o fun t' o'=>keepP ops x fl o o' (drP TB call ops r fl t' o' K)) (drP TB call ops s fl t o K)
def otHeads:OT→List Nat
 |.ef i _ s=>i :: otHeads s
 |_=>[]
def okB (ops:Array Oper):OT→Bool→Nat→Array Bool→Bool
 |.dn,c,n,listed=>!c && Nat.beq n 0 && (Region.ready .any ops listed).isEmpty
 |.rd i r,c,n,listed=>!c && Nat.ble 1 n && (match ops[i]? with
  |none=>false
  |some x=>isRd x.op && (Region.ready .any ops listed).contains i && Region.free .any ops listed i) && okB ops r false (n-1) (listed.setIfInBounds i true)
 |.ef i r s,c,n,listed=>(c || decide (otHeads (.ef i r s)=Region.ready .any ops listed)) && Nat.ble 1 n && okB ops r false (n-1) (listed.setIfInBounds i true) && okB ops s true n listed
 |.no,c,_,_=>c
def okR (ops:Array Oper) (l:OT):Bool:=okB ops l false ops.size (Array.replicate ops.size false)
structure Dr (TB:TypeId→TI) (call:FuncId→List AV→List Obj→(AV→List Obj→Prop)→Prop) (ops:Array Oper) (t:Fr) (o:List Obj) (K:Fr→List Obj→Prop):Prop where
 ex:∃ l,okR ops l=true∧drP TB call ops l [] t o K
section
variable {P:Program} {TB:TypeId→TI} {ρ:Ix→Option Nat} {o:List Obj} {R:Nat→Prop} {w:World} {t:Fr} {a:Act} {Gl:List (Nat × Go.Obj)} {call:FuncId→List AV→List Obj→(AV→List Obj→Prop)→Prop} {n:Nat} {ops:Array Oper}
def CallMono (call:FuncId→List AV→List Obj→(AV→List Obj→Prop)→Prop):Prop:=∀ f vs o (K K':AV→List Obj→Prop),(∀ r o',K r o'→K' r o')→call f vs o K→call f vs o K'
theorem chW_mono {n:Nat} {ps:Array (Nat × Operand)} {A A':Prop} {B B':List AV→List Nat→Prop→Prop} (ha:A→A') (hb:∀ cs ks p,B cs ks p→B' cs ks p) (h:chW o n t ps A B):chW o n t ps A' B':=by
 unfold chW at h ⊢
 split at h
 ·split at h
  ·rename_i cs k ks p e
   cases hc:(Nat.beq cs.length n && ownN (k :: ks)) with
   |false=>rw [hc] at h; exact ha h
   |true =>
    rw [hc] at h
    cases h with
    |l h=>exact .l (ha h)
    |r h=>exact .r (hb _ _ _ h)
  ·exact ha h
 ·exact ha h
theorem ef_mono (hM:CallMono call) {op:Op} {K K':AV→List Obj→Prop} (hk:∀ v o',K v o'→K' v o') (h:efP TB call op t o K):efP TB call op t o K':=by
 cases op with
 |box ty x =>
  simp only [efP] at h ⊢
  obtain ⟨hb,h⟩:=of_cond_true h
  rw [hb]; exact hk _ _ h
 |alloc ty =>
  simp only [efP] at h ⊢
  split at h
  ·exact h
  ·exact hk _ _ h
 |store ty x y =>
  simp only [efP] at h ⊢
  split at h
  ·split at h
   ·obtain ⟨hb,h⟩:=of_cond_true h
    rw [hb]; exact hk _ _ h
   ·exact h
  ·split at h
   ·split at h
    ·obtain ⟨h0,h⟩:=h
     obtain ⟨hb,h⟩:=of_cond_true h
     rw [hb]; exact ⟨h0,hk _ _ h⟩
    ·exact h
   ·split at h
    ·obtain ⟨h0,h⟩:=h
     obtain ⟨hb,h⟩:=of_cond_true h
     rw [hb]; exact ⟨h0,hk _ _ h⟩
    ·exact h
   ·exact h
  ·exact h
 |buildSlice ty m ps =>
  simp only [efP] at h ⊢
  split at h
  ·cases hb:Nat.beq m 0 with
   |true =>
    rw [hb] at h
    simp only [cond_true] at h ⊢
    obtain ⟨hb,h⟩:=of_cond_true h
    rw [hb]; exact hk _ _ h
   |false =>
    rw [hb] at h
    simp only [cond_false] at h ⊢
    obtain ⟨hb,h⟩:=of_cond_true h
    rw [hb]
    simp only [cond_true]
    split at h
    ·exact chW_mono (fun h=>⟨h.1,hk _ _ h.2⟩) (fun _ _ _ h=>⟨h.1,hk _ _ h.2⟩) h
    ·exact h
  ·exact h
 |makeSlice ty x y =>
  simp only [efP] at h ⊢
  split at h
  ·exact ⟨h.1,hk _ _ h.2⟩
  ·exact h
 |call c =>
  obtain ⟨callee,args,ats⟩:=c
  cases callee with
  |builtin b =>
   cases b with
   |append =>
    simp only [efP] at h ⊢
    split at h
    ·split at h
     ·split at h
      ·obtain ⟨hb,h⟩:=of_cond_true h
       rw [hb]
       simp only [cond_true]
       split at h
       ·exact ⟨h.1,hk _ _ h.2⟩
       ·split at h
        ·obtain ⟨hb,h⟩:=of_cond_true h
         rw [hb]
         exact ⟨h.1,hk _ _ h.2⟩
        ·exact h
       ·exact h
      ·split at h
       ·split at h
        ·obtain ⟨hb,h⟩:=of_cond_true h
         rw [hb]
         exact ⟨h.1,hk _ _ h.2⟩
        ·exact h
       ·exact h
     ·exact h
    ·exact h
   |_=>exact h
  |value x =>
   cases x with
   |func f =>
    simp only [efP,forceL_eq] at h ⊢
    exact hM _ _ _ _ _ hk h
   |tmp x =>
    simp only [efP] at h ⊢
    split at h
    ·obtain ⟨hb,h⟩:=of_cond_true h
     rw [forceL_eq] at h
     rw [hb]
     simp only [cond_true,forceL_eq]
     exact hM _ _ _ _ _ hk h
    ·exact h
   |_=>exact h
  |_=>exact h
 |_=>exact h
theorem rd_mono {op:Op} {K K':AV→Prop} (hk:∀ v,K v→K' v) (h:rdP TB op t o K):rdP TB op t o K':=by
 obtain ⟨v,h1,h2⟩:=rd_det h
 exact h2 K' (hk v h1)
theorem run_mono (hM:CallMono call) {op:Op} {K K':AV→List Obj→Prop} (hk:∀ v o',K v o'→K' v o') (h:runP TB call op t o K):runP TB call op t o K':=by
 unfold runP at h ⊢
 split at h
 ·exact rd_mono (fun v hv=>hk v o hv) h
 ·exact ef_mono hM hk h
theorem run_ev {t':Fr} {op:Op} (h:agree t t' op.operands.toList) (K:AV→List Obj→Prop):runP TB call op t' o K=runP TB call op t o K:=by
 unfold runP
 rw [rd_ev h,ef_ev h]
def looks (ops:Array Oper) (x:Oper) (t t':Fr):Prop:=∀ d,d∈x.looksAt ops→t' d=t d
theorem looks.agree {x:Oper} {t':Fr} (h:looks ops x t t'):Vc.agree t t' x.op.operands.toList:=by
 intro y hy
 cases y with
 |tmp d=>exact h d (List.mem_append_left _ (List.mem_filterMap.2 ⟨.tmp d,hy,rfl⟩))
 |_=>rfl
theorem looks.guard {x:Oper} {t':Fr} (h:looks ops x t t') {j:Nat} {b:Bool} (hg:x.guard=some (j,b)):(((ops[j]?).bind (·.dst)).map t').getD .undef=(((ops[j]?).bind (·.dst)).map t).getD AV.undef:=by
 cases hd:(ops[j]?).bind (·.dst) with
 |none=>rfl
 |some d =>
  have:=h d (List.mem_append_right _ (by simp [hg,hd]))
  simp [this]
theorem op_swap (hM:CallMono call) {x:Oper} {t1 t2:Fr} {K K2:Fr→List Obj→Prop} (h:opP TB call ops x t1 o K) (hl:looks ops x t1 t2) (hk:∀ v o',K (putF t1 x.dst v) o'→K2 (putF t2 x.dst v) o'):opP TB call ops x t2 o K2:=by
 rw [opP_eq] at h ⊢
 have go:runP TB call x.op t1 o (fun v o'=>K (putF t1 x.dst v) o')→runP TB call x.op t2 o fun v o'=>K2 (putF t2 x.dst v) o':=by
  intro h
  rw [run_ev hl.agree]
  exact run_mono hM (fun v o' hv=>hk v o' hv) h
 split at h
 ·exact go h
 ·rename_i j want hg
  rw [hl.guard hg]
  split at h
  ·refine h.mono ?_ ?_ <;> cases want <;> first|exact go|exact hk _ _
  ·exact hk _ _ h
  ·exact h
theorem op_mono (hM:CallMono call) {x:Oper} {K K2:Fr→List Obj→Prop} (h:opP TB call ops x t o K) (hk:∀ t' o',K t' o'→K2 t' o'):opP TB call ops x t o K2:=op_swap hM h (fun _ _=>rfl) fun _v o'=>hk _ o'
def Yst (TB:TypeId→TI) (call:FuncId→List AV→List Obj→(AV→List Obj→Prop)→Prop) (ops:Array Oper) (x:Oper) (v:AV) (g:List Nat) (t:Fr) (o:List Obj):Prop :=
 ∀ t' o',looks ops x t t'→keep g o o'→∀ K:Fr→List Obj→Prop,K (putF t' x.dst v) o'→opP TB call ops x t' o' K
theorem Yst.go {x:Oper} {v:AV} {g:List Nat} (h:Yst TB call ops x v g t o) {t':Fr} {o':List Obj} (hl:looks ops x t t') (hk:keep g o o'):Yst TB call ops x v g t' o' :=
 fun t2 o2 h1 h2 K hK=>h t2 o2 (fun d hd=>(h1 d hd).trans (hl d hd)) (fun i hi=>(h2 i hi).trans (hk i hi)) K hK
theorem op_det {x:Oper} (hr:isRd x.op=true) {K:Fr→List Obj→Prop} (h:opP TB call ops x t o K):∃ v,K (putF t x.dst v) o∧Yst TB call ops x v (opIds x.op t) t o:=by
 rw [opP_eq] at h
 have go:runP TB call x.op t o (fun v o'=>K (putF t x.dst v) o')→∃ v,K (putF t x.dst v) o∧∀ t' o',looks ops x t t'→keep (opIds x.op t) o o'→∀ K:Fr→List Obj→Prop,K (putF t' x.dst v) o'→runP TB call x.op t' o' fun v o''=>K (putF t' x.dst v) o'':=by
  intro h
  unfold runP at h
  rw [hr] at h
  obtain ⟨v,h1,h2⟩:=rd_det h
  refine ⟨v,h1,fun t' o' hl hk K hK=>?_⟩
  unfold runP
  rw [hr]
  simp only
  rw [rd_ev hl.agree,rd_keep hk]
  exact h2 _ hK
 split at h
 ·rename_i hg
  obtain ⟨v,h1,h2⟩:=go h
  refine ⟨v,h1,fun t' o' hl hk K hK=>?_⟩
  rw [opP_eq]
  simp only [hg]
  exact h2 t' o' hl hk K hK
 ·rename_i j want hg
  split at h
  ·rename_i b hb
   have wantd:b=want→∃ v,K (putF t x.dst v) o∧Yst TB call ops x v (opIds x.op t) t o:=by
    intro hbw
    obtain ⟨v,h1,h2⟩:=go (by subst hbw; cases b <;> first|exact h.t rfl|exact h.f rfl)
    refine ⟨v,h1,fun t' o' hl hk K hK=>?_⟩
    rw [opP_eq]
    simp only [hg]
    rw [hl.guard hg,hb]
    subst hbw
    cases b <;> first|exact ⟨fun _=>h2 t' o' hl hk K hK,fun q=>(by cases q)⟩|exact ⟨fun q=>(by cases q),fun _=>h2 t' o' hl hk K hK⟩
   have unwantd:b≠want→∃ v,K (putF t x.dst v) o∧Yst TB call ops x v (opIds x.op t) t o:=by
    intro hbw
    refine ⟨.tup [],?_,fun t' o' hl hk K hK=>?_⟩
    ·cases b <;> cases want <;> first|exact absurd rfl hbw|exact h.t rfl|exact h.f rfl
    ·rw [opP_eq]
     simp only [hg]
     rw [hl.guard hg,hb]
     cases b <;> cases want <;> first|exact absurd rfl hbw|exact ⟨fun _=>hK,fun q=>(by cases q)⟩|exact ⟨fun q=>(by cases q),fun _=>hK⟩
   by_cases hbw:b=want
   ·exact wantd hbw
   ·exact unwantd hbw
  ·rename_i hb
   refine ⟨.tup [],h,fun t' o' hl hk K hK=>?_⟩
   rw [opP_eq]
   simp only [hg]
   rw [hl.guard hg,hb]
   exact hK
  ·exact h.elim
theorem putF_comm {d e:Option Tmp} {v u:AV} (h:∀ x,d=some x→e≠some x):putF (putF t d v) e u=putF (putF t e u) d v:=by
 cases d with
 |none=>rfl
 |some d=>cases e with
  |none=>rfl
  |some e =>
   have hne:d≠e:=fun q=>h d rfl (by rw [q])
   funext x
   simp only [putF,upd]
   cases h1:Nat.beq x d <;> cases h2:Nat.beq x e <;> simp
   exact absurd ((Nat.eq_of_beq_eq_true h1).symm.trans (Nat.eq_of_beq_eq_true h2)) hne
theorem putF_looks {x:Oper} {d:Option Tmp} {v:AV} (h:∀ e,d=some e→e ∉ x.looksAt ops):looks ops x t (putF t d v):=by
 intro y hy
 cases d with
 |none=>rfl
 |some d =>
  simp only [putF,upd]
  cases h1:Nat.beq y d with
  |false=>rfl
  |true=>exact absurd (Nat.eq_of_beq_eq_true h1 ▸ hy) (h d rfl)
theorem looks.symm {x:Oper} {t':Fr} (h:looks ops x t t'):looks ops x t' t:=fun d hd=>(h d hd).symm
def anyP (TB:TypeId→TI) (call:FuncId→List AV→List Obj→(AV→List Obj→Prop)→Prop) (ops:Array Oper) (fl:List (Nat × Nat)):Nat→Array Bool→Fr→List Obj→(Fr→List Obj→Prop)→Prop
 |0,listed,t,o,K=>Region.ready .any ops listed=[]∧K t o
 |f+1,listed,t,o,K=>(Region.ready .any ops listed=[]→K t o)∧∀ i∈Region.ready .any ops listed,∀ x,ops[i]?=some x →
   opP TB call ops x t o fun t' o'=>keepX ops x fl o o'∧anyP TB call ops fl f (listed.setIfInBounds i true) t' o' K
theorem anyP_less (hM:CallMono call) {fl gl:List (Nat × Nat)} (hs:∀ i,i∈fl→i∈gl) {K:Fr→List Obj→Prop}:∀ {f:Nat} {listed:Array Bool} {t:Fr} {o:List Obj},anyP TB call ops gl f listed t o K→anyP TB call ops fl f listed t o K
 |0,_,_,_,h=>h
 |_f+1,_,_,_,h=>⟨h.1,fun i hi x hx=>op_mono hM (h.2 i hi x hx) fun _t' _o' hk=>⟨hk.1.mono hs,anyP_less hM hs hk.2⟩⟩
def Closed (ops:Array Oper) (listed:Array Bool):Prop:=∀ (k:Nat) (y:Oper),listed.getD k false=true→ops[k]?=some y→∀ e∈y.after,Region.binds .any e=true→listed.getD e.on false=true
theorem Closed.set {listed:Array Bool} (h:Closed ops listed) {i:Nat} (hi:i∈Region.ready .any ops listed):Closed ops (listed.setIfInBounds i true):=fun k y hk hy e he hb=>by
 have up:listed.getD e.on false=true→(listed.setIfInBounds i true).getD e.on false=true:=fun h1=>by
  by_cases hie:i=e.on
  ·have hs:e.on<listed.size:=by
    rcases Nat.lt_or_ge e.on listed.size with h'|h'
    ·exact h'
    ·simp [Array.getElem?_eq_none h'] at h1
   rw [hie]
   simp [hs]
  ·rw [getD_set_ne false hie]; exact h1
 by_cases hik:i=k
 ·subst hik
  obtain ⟨_,oj,hoj,hall⟩:=mem_ready.1 hi
  have:y=oj:=Option.some.inj (hy.symm.trans hoj)
  subst this
  exact up (hall e he hb)
 ·rw [getD_set_ne false hik] at hk
  exact up (h k y hk hy e he hb)
theorem anyP_first (hM:CallMono call) {i:Nat} {oi:Oper} {v:AV} {fl gl:List (Nat × Nat)} {g:List Nat} (hi:ops[i]?=some oi) (hs:∀ i,i∈fl→i∈gl) (hg:∀ k,k∈g→(i,k)∈gl) {K:Fr→List Obj→Prop}:∀ (f:Nat) (listed:Array Bool) (t:Fr) (o:List Obj),
  (∀ j oj,ops[j]?=some oj→j≠i→listed.getD j true=false→(∀ e∈oj.after,Region.binds .any e=true→e.on≠i)→oi.apart ops oj=true) →
  Closed ops listed→i∈Region.ready .any ops listed→Yst TB call ops oi v g t o→anyP TB call ops gl f (listed.setIfInBounds i true) (putF t oi.dst v) o K→anyP TB call ops fl (f+1) listed t o K:=by
 intro f
 induction f with
 |zero =>
  intro listed t o _ _ hr hy H
  refine ⟨fun h=>(by rw [h] at hr; cases hr),fun j hj x hx=>?_⟩
  by_cases hji:j=i
  ·subst hji
   have:x=oi:=Option.some.inj (hx.symm.trans hi)
   subst this
   exact hy t o (fun _ _=>rfl) (keep.refl _ _) _ ⟨keepX.refl _ _ _ _,anyP_less hM hs H⟩
  ·have:=ready_mono hj hji
   rw [H.1] at this
   cases this
 |succ f ih =>
  intro listed t o hfree hcl hr hy H
  refine ⟨fun h=>(by rw [h] at hr; cases hr),fun j hj x hx=>?_⟩
  by_cases hji:j=i
  ·subst hji
   have:x=oi:=Option.some.inj (hx.symm.trans hi)
   subst this
   exact hy t o (fun _ _=>rfl) (keep.refl _ _) _ ⟨keepX.refl _ _ _ _,anyP_less hM hs H⟩
  ·obtain ⟨hjun,oj,hoj,hall⟩:=mem_ready.1 hj
   have hxo:x=oj:=Option.some.inj (hx.symm.trans hoj)
   subst hxo
   have hnot:∀ e∈x.after,Region.binds .any e=true→e.on≠i:=fun e he hb heq=>by
    have h1:=hall e he hb
    have h0:=(mem_ready.1 hr).1
    rw [heq] at h1
    rcases Nat.lt_or_ge i listed.size with h'|h'
    ·simp [h'] at h0 h1; rw [h0] at h1; cases h1
    ·simp [Array.getElem?_eq_none h'] at h1
   have unl:listed.getD i false=true→False:=fun h1=>by
    have h0:=(mem_ready.1 hr).1
    rcases Nat.lt_or_ge i listed.size with h'|h'
    ·simp [h'] at h0 h1; rw [h0] at h1; cases h1
    ·simp [Array.getElem?_eq_none h'] at h1
   have deep:∀ d (y:Oper),(∀ e∈y.after,Region.binds .any e=true→listed.getD e.on false=true)→aftD ops d y i=false:=by
    intro d
    induction d with
    |zero =>
     intro y hy'
     unfold aftD
     rw [List.any_eq_false]
     intro q hq hh
     rw [Bool.and_eq_true] at hh
     have:=hy' q (by simpa using hq) hh.1
     rw [Nat.eq_of_beq_eq_true hh.2] at this
     exact unl this
    |succ d ihd =>
     intro y hy'
     unfold aftD
     rw [List.any_eq_false]
     intro q hq hh
     rw [Bool.and_eq_true,Bool.or_eq_true,Bool.and_eq_true] at hh
     have h1:=hy' q (by simpa using hq) hh.1
     rcases hh.2 with h2|⟨_,h2⟩
     ·rw [Nat.eq_of_beq_eq_true h2] at h1
      exact unl h1
     ·cases hy2:ops[q.on]? with
      |none=>rw [hy2] at h2; cases h2
      |some z =>
       rw [hy2] at h2
       have h3:=ihd z fun e he hb=>hcl q.on z h1 hy2 e he hb
       dsimp only at h2
       rw [h3] at h2
       cases h2
   have haft:aft ops x i=false:=deep 4 x hall
   obtain ⟨a1,a2,a3⟩:=Oper.apart_spec (hfree j x hoj hji hjun hnot)
   have hfree':∀ k ok,ops[k]?=some ok→k≠i→(listed.setIfInBounds j true).getD k true=false →
     (∀ e∈ok.after,Region.binds .any e=true→e.on≠i)→oi.apart ops ok=true:=fun k ok hk hki hun hno=>by
    refine hfree k ok hk hki ?_ hno
    by_cases hjk:j=k
    ·subst hjk; exact hjun
    ·rw [getD_set_ne true hjk] at hun; exact hun
   refine op_swap hM (H.2 j (ready_mono hj hji) x hx) (putF_looks a1).symm fun u o' hk=>?_
   refine ⟨hk.1.mono hs,ih (listed.setIfInBounds j true) (putF t x.dst u) o' hfree' (hcl.set hj) (ready_mono hr (Ne.symm hji)) (hy.go (putF_looks a3) fun k hgk=>hk.1 i k (hg k hgk) haft) ?_⟩
   have h3:=hk.2
   rw [Array.setIfInBounds_comm _ _ (Ne.symm hji),putF_comm a2] at h3
   exact h3
theorem drP_ef {K:Fr→List Obj→Prop} {i:Nat} {r s:OT} {fl:List (Nat × Nat)} {t:Fr} {o:List Obj} (h:drP TB call ops (.ef i r s) fl t o K) :
  (∃ x,ops[i]?=some x∧opP TB call ops x t o fun t' o'=>keepP ops x fl o o' (drP TB call ops r fl t' o' K))∧drP TB call ops s fl t o K:=by
 cases s <;> simp only [drP] at h <;> split at h <;> first|exact h.elim|skip
 all_goals rename_i x hx
 ·exact ⟨⟨x,hx,h.l⟩,h.r⟩
 ·exact ⟨⟨x,hx,h.l⟩,h.r⟩
 ·exact ⟨⟨x,hx,h.l⟩,h.r⟩
 ·exact ⟨⟨x,hx,h⟩,trivial⟩
theorem dr_any2 (hM:CallMono call) {K:Fr→List Obj→Prop}:∀ (l:OT) (n:Nat) (fl:List (Nat × Nat)) (listed:Array Bool) (t:Fr) (o:List Obj),Closed ops listed→drP TB call ops l fl t o K →
  (okB ops l false n listed=true→anyP TB call ops fl n listed t o K)∧(okB ops l true (n+1) listed=true→(∀ j,j∈otHeads l→j∈Region.ready .any ops listed)→∀ j,j∈otHeads l→∀ y,ops[j]?=some y →
   opP TB call ops y t o fun t' o'=>keepX ops y fl o o'∧anyP TB call ops fl n (listed.setIfInBounds j true) t' o' K)
 |.dn,n,fl,listed,t,o,_,h=>by
  refine ⟨fun hB=>?_,fun hB=>by simp [okB] at hB⟩
  simp only [okB,Bool.not_false,Bool.true_and,Bool.and_eq_true] at hB
  obtain rfl:=Nat.eq_of_beq_eq_true hB.1
  exact ⟨by simpa using hB.2,h⟩
 |.no,n,fl,listed,t,o,_,h=>⟨fun hB=>by simp [okB] at hB,fun _ _ j hj=>by simp [otHeads] at hj⟩
 |.rd i r,n,fl,listed,t,o,hc,h=>by
  refine ⟨fun hB=>?_,fun hB=>by simp [okB] at hB⟩
  simp only [okB,Bool.not_false,Bool.true_and,Bool.and_eq_true] at hB
  obtain ⟨⟨hn,h1⟩,h2⟩:=hB
  obtain ⟨n,rfl⟩:∃ m,n=m+1:=⟨n-1,by have:=Nat.le_of_ble_eq_true hn; omega⟩
  simp only [drP] at h
  split at h
  ·exact h.elim
  ·rename_i x hx
   simp only [hx] at h1
   split at h
   ·rename_i hr
    simp only [hr,Bool.and_eq_true,true_and] at h1
    obtain ⟨v,g1,g2⟩:=op_det hr h
    obtain ⟨s,g3,g4,g5⟩:=addQ_spec g1
    exact anyP_first hM hx g5 g4 n listed t o (Region.free_spec hx h1.2) hc (by simpa using h1.1) g2 ((dr_any2 hM r n _ _ _ _ (hc.set (by simpa using h1.1)) g3).1 h2)
   ·exact h.elim
 |.ef i r s,n,fl,listed,t,o,hc,h=>by
  have key:∀ n,okB ops r false n (listed.setIfInBounds i true)=true→okB ops s true (n+1) listed=true→(∀ j,j∈otHeads (.ef i r s)→j∈Region.ready .any ops listed)→∀ j,j∈otHeads (.ef i r s)→∀ y,ops[j]?=some y →
    opP TB call ops y t o fun t' o'=>keepX ops y fl o o'∧anyP TB call ops fl n (listed.setIfInBounds j true) t' o' K:=by
   intro n hr hs hH j hj y hy
   obtain ⟨⟨x,hx,g1⟩,g2⟩:=drP_ef h
   rcases List.mem_cons.1 hj with rfl|hj
   ·have:y=x:=Option.some.inj (hy.symm.trans hx)
    subst this
    exact op_mono hM g1 fun t' o' hk=>⟨(keepP_spec hk).1,(dr_any2 hM r n fl _ t' o' (hc.set (hH _ List.mem_cons_self)) (keepP_spec hk).2).1 hr⟩
   ·exact (dr_any2 hM s n fl listed t o hc g2).2 hs (fun k hk=>hH k (List.mem_cons_of_mem _ hk)) j hj y hy
  refine ⟨fun hB=>?_,fun hB=>?_⟩
  ·simp only [okB,Bool.false_or,Bool.and_eq_true,decide_eq_true_eq] at hB
   obtain ⟨⟨⟨h1,hn⟩,h2⟩,h3⟩:=hB
   obtain ⟨n,rfl⟩:∃ m,n=m+1:=⟨n-1,by have:=Nat.le_of_ble_eq_true hn; omega⟩
   refine ⟨fun h0=>(by rw [← h1] at h0; cases h0),fun j hj y hy=>?_⟩
   rw [← h1] at hj
   exact key n h2 h3 (fun k hk=>h1 ▸ hk) j hj y hy
  ·simp only [okB,Bool.true_or,Bool.true_and,Bool.and_eq_true] at hB
   exact fun hH=>key n hB.1.2 hB.2 hH
theorem dr_any (hM:CallMono call) {K:Fr→List Obj→Prop} (l:OT) (n:Nat) (fl:List (Nat × Nat)) (listed:Array Bool) (t:Fr) (o:List Obj) (hc:Closed ops listed) (hB:okB ops l false n listed=true) (h:drP TB call ops l fl t o K):anyP TB call ops fl n listed t o K :=
 (dr_any2 hM l n fl listed t o hc h).1 hB
theorem any_sound (hT:TOk P TB) (hC:CallOk P Gl call) (hd:∀ x∈ops,∀ d,x.dst=some d→d<n) {Q:Exit→Act→World→Prop} {fl:List (Nat × Nat)} {K:Fr→List Obj→Prop}:∀ (f:Nat) (listed:Array Bool) (t:Fr) (o:List Obj) (ρ:Ix→Option Nat) (R:Nat→Prop) (w:World) (a:Act),
  SR Gl ρ o R w t a n→anyP TB call ops fl f listed t o K→(∀ t' o' ρ' R' w' a',K t' o'→SR Gl ρ' o' R' w' t' a' n→EX o ρ R w o' ρ' R' w'→Q .normal a' w')→wpAny P .any ops Q f listed a w
 |0,listed,t,o,ρ,R,w,a,hs,h,hn=>⟨h.1,hn t o ρ R w a h.2 hs (EX.refl _ _ _ _)⟩
 |f+1,listed,t,o,ρ,R,w,a,hs,h,hn=>by
  refine ⟨fun h0=>hn t o ρ R w a (h.1 h0) hs (EX.refl _ _ _ _),fun i hi=>?_⟩
  obtain ⟨_,x,hx,_⟩:=mem_ready.1 hi
  unfold wpOp
  simp only [hx]
  exact op_sound hT hC hs (hd x (Array.mem_of_getElem? hx)) (h.2 i hi x hx) fun t' o' ρ' R' w' a' hK hs' hx'=>any_sound hT hC hd f _ t' o' ρ' R' w' a' hs' hK.2 fun t2 o2 ρ2 R2 w2 a2 hK2 hs2 hx2=>hn t2 o2 ρ2 R2 w2 a2 hK2 hs2 (hx'.trans hx2)
theorem EX.drawn (k:Nat):EX o ρ R w o ρ R { w with drawn:=k } where
 len:=Nat.le_refl _
 keep:=(EX.refl o ρ R w).keep
 rmono _ h:=h
 rnew _ h:=.inl h
 pnew id _b h:=.inr ⟨id,h⟩
 size:=Nat.le_refl _
 same _ _ _:=rfl
 shape _ xs _ h:=⟨xs,h,rfl⟩
 os:=rfl
 tape:=rfl
 output:=rfl
theorem SR.drawn (hs:SR Gl ρ o R w t a n) (k:Nat):SR Gl ρ o R { w with drawn:=k } t a n :=
 ⟨⟨hs.hh.dom,hs.hh.din,hs.hh.lt,hs.hh.inj,hs.hh.ro,fun j ob h=>(hs.hh.obj j ob h).go (EX.drawn k) hs.hh.ro (fun _ _=>rfl) fun _ _ _ _=>rfl,hs.hh.gl⟩,hs.hf.go (EX.drawn k) hs.hh,hs.sz,hs.df⟩
theorem closed0 {n:Nat}:Closed ops (Array.replicate n false):=fun k y hk=>by
 rcases Nat.lt_or_ge k n with h'|h'
 ·simp [h'] at hk
 ·simp [Array.getElem?_eq_none (show (Array.replicate n false).size≤k by simpa using h')] at hk
theorem dr_sound (hT:TOk P TB) (hC:CallOk P Gl call) (hm:P.follows .mixedOrders=true) (hd:∀ x∈ops,∀ d,x.dst=some d→d<n) {Q:Exit→Act→World→Prop} {K:Fr→List Obj→Prop} (hs:SR Gl ρ o R w t a n) (h:Dr TB call ops t o K)
  (hn:∀ t' o' ρ' R' w' a',K t' o'→SR Gl ρ' o' R' w' t' a' n→EX o ρ R w o' ρ' R' w'→Q .normal a' w') (id:Nat):(Code.region id ops true).wp P Q a w:=by
 obtain ⟨l,h1,h2⟩:=h.ex
 refine wp_region_any hm ?_
 have:=dr_any hC.mono l _ [] _ t o closed0 h1 h2
 exact any_sound hT hC hd _ _ t o ρ R _ a (hs.drawn _) this fun t' o' ρ' R' w' a' hK hs' hx=>hn t' o' ρ' R' w' a' hK hs' ((EX.drawn _).trans hx)
end
end Go.Proofs.YtgdbhjmpkkbnnaaGreatDoor.Vc
end
section
/- Part R of the engine: what is known may be told anew. -/
namespace Go.Proofs.YtgdbhjmpkkbnnaaGreatDoor.Vc
structure EK (m:Nat) (o:List Obj) (ρ:Ix→Option Nat) (R:Nat→Prop) (w:World) (o':List Obj) (ρ':Ix→Option Nat) (R':Nat→Prop) (w':World):Prop where
 keep:∀ id,id<m→match o'[id]? with
  |some (.box _)=>(∃ cs,o[id]?=some (.box cs))∧ρ' id=ρ id
  |some (.row sz _ _)=>(∃ n f,o[id]?=some (.row sz n f))∧ρ' id=ρ id
  |some (.nrow sz _ _ _)=>(∃ ob,o[id]?=some ob∧ob.rsz=some sz)∧ρ' id=ρ id
  |_=>True
 rmono:∀ b,R b→R' b
 rnew:∀ b,R' b→R b∨w.heap.size≤b∨∃ id,ρ id=some b
 pnew:∀ id b,ρ' id=some b→w.heap.size≤b∨∃ j,ρ j=some b
 size:w.heap.size≤w'.heap.size
 same:∀ b,b<w.heap.size→(∀ id,ρ id≠some b)→w'.heap[b]?=w.heap[b]?
 shape:∀ (b:Nat) (xs:Array Value) (ty:TypeId),w.heap[b]?=some (.cells xs ty (0,0))→∃ xs':Array Value,w'.heap[b]?=some (.cells xs' ty (0,0))∧xs'.size=xs.size
 os:w'.os=w.os
 tape:w'.tape=w.tape
 output:w'.output=w.output
theorem EX.ek {o ρ R w o' ρ' R' w'} (h:EX o ρ R w o' ρ' R' w') {m:Nat} (hm:m≤o.length):EK m o ρ R w o' ρ' R' w' :=
 ⟨fun id hid=>h.keep id (Nat.lt_of_lt_of_le hid hm),h.rmono,h.rnew,h.pnew,h.size,h.same,h.shape,h.os,h.tape,h.output⟩
theorem EK.trans {m:Nat} {o ρ R w o1 ρ1 R1 w1 o2 ρ2 R2 w2} (h:EK m o ρ R w o1 ρ1 R1 w1) (k:EK m o1 ρ1 R1 w1 o2 ρ2 R2 w2):EK m o ρ R w o2 ρ2 R2 w2 where
 keep id hid:=by
  have h1:=h.keep id hid
  have h2:=k.keep id hid
  split
  ·rename_i cs e
   rw [e] at h2
   obtain ⟨⟨cs',e'⟩,hr⟩:=h2
   rw [e'] at h1
   exact ⟨h1.1,hr.trans h1.2⟩
  ·rename_i sz n f e
   rw [e] at h2
   obtain ⟨⟨n',f',e'⟩,hr⟩:=h2
   rw [e'] at h1
   exact ⟨h1.1,hr.trans h1.2⟩
  ·rename_i sz n f x e
   rw [e] at h2
   obtain ⟨⟨ob,e',hz⟩,hr⟩:=h2
   rw [e'] at h1
   cases ob with
   |row s' n' f' =>
    obtain ⟨⟨n2,f2,e2⟩,h1⟩:=h1
    exact ⟨⟨_,e2,hz⟩,hr.trans h1⟩
   |nrow s' n' f' x' =>
    obtain ⟨⟨ob2,e2,hz2⟩,h1⟩:=h1
    exact ⟨⟨_,e2,hz2.trans hz⟩,hr.trans h1⟩
   |_=>cases hz
  ·trivial
 rmono b hb:=k.rmono b (h.rmono b hb)
 rnew b hb:=by
  rcases k.rnew b hb with h1|h1|⟨id,h1⟩
  ·exact h.rnew b h1
  ·exact .inr (.inl (Nat.le_trans h.size h1))
  ·rcases h.pnew id b h1 with h2|h2
   ·exact .inr (.inl h2)
   ·exact .inr (.inr h2)
 pnew id b hb:=by
  rcases k.pnew id b hb with h1|⟨j,h1⟩
  ·exact .inl (Nat.le_trans h.size h1)
  ·exact h.pnew j b h1
 size:=Nat.le_trans h.size k.size
 same b hb hn:=by
  refine (k.same b (Nat.lt_of_lt_of_le hb h.size) fun id hid=>?_).trans (h.same b hb hn)
  rcases h.pnew id b hid with h2|⟨j,h2⟩
  ·omega
  ·exact hn j h2
 shape b xs ty hb:=by
  obtain ⟨x1,e1,s1⟩:=h.shape b xs ty hb
  obtain ⟨x2,e2,s2⟩:=k.shape b x1 ty e1
  exact ⟨x2,e2,s2.trans s1⟩
 os:=k.os.trans h.os
 tape:=k.tape.trans h.tape
 output:=k.output.trans h.output
section
variable {P:Program} {TB:TypeId→TI} {ρ:Ix→Option Nat} {o:List Obj} {R:Nat→Prop} {w:World} {t:Fr} {a:Act} {Gl:List (Nat × Go.Obj)} {n:Nat} {π:List (Option Nat)} {fz:List Nat} {o':List Obj}
def ρw (ρ:Ix→Option Nat) (π:List (Option Nat)):Ix→Option Nat:=fun x=>match π[x.id]? with
 |some (some id)=>ρ (x.at id)
 |_=>none
def Rw (R:Nat→Prop) (ρ:Ix→Option Nat) (fz:List Nat):Nat→Prop:=fun b=>R b∨∃ x:Ix,fz.contains x.id=true∧ρ x=some b
theorem idIs_spec {j id:Nat} (h:idIs π j id=true):π[j]?=some (some id):=by
 unfold idIs at h
 split at h
 ·rename_i i e
  rw [e,Nat.eq_of_beq_eq_true h]
 ·cases h
theorem idNew_spec {j:Nat} (h:idNew π j=true):π[j]?=some none:=by
 unfold idNew at h
 split at h
 ·assumption
 ·cases h
theorem ρw_at {x:Ix} {id:Nat} (h:π[x.id]?=some (some id)):ρw ρ π x=ρ (x.at id):=by unfold ρw; rw [h]
theorem ρw_is {j id:Nat} (h:π[j]?=some (some id)):ρw ρ π j=ρ id:=ρw_at (x:=(j:Ix)) h
theorem lt_of_get {α:Type} {l:List α} {j:Nat} {x:α} (h:l[j]?=some x):j<l.length:=(List.getElem?_eq_some_iff.1 h).1
theorem DR.ext {R':Nat→Prop} {s m k:Nat} {f g:Nat→List AV} {y:Value} (h:DR R' w (.sl s m g) y) (hk:k=m) (he:∀ i,i<k→f i=g i):DR R' w (.sl s k f) y:=by
 subst hk
 cases h with
 |sl0=>exact .sl0 _ _ _ _
 |sl _ _ _ ad cap G h1 h2 h3 h4 h5=>exact .sl s k f ad cap G h1 h2 (fun i hi=>by rw [he i hi]; exact h3 i hi) h4 fun i hi j hj=>by rw [he i hi]; exact h5 i hi j hj
theorem Rw_mono:∀ b,R b→Rw R ρ fz b:=fun _ h=>.inl h
theorem DR.rw {v:AV} {y:Value} (h:DR R w v y):DR (Rw R ρ fz) w v y:=h.go Rw_mono fun _ _=>rfl
mutual
theorem rv_be (hl:π.length=o'.length):∀ (v u:AV),rv π fz o v u→beneath o'.length v=true
 |.undef,_,_|.int _ _,_,_|.bool _,_,_|.str _,_,_|.sl _ _ _,_,_|.ro _,_,_|.nils,_,_|.nilp,_,_|.nilf,_,_|.nili,_,_=>rfl|.ifc,_,_=>rfl
 |.row j s p k,u,h=>by
  cases u <;> simp only [rv] at h
  case row id sz off len =>
   obtain ⟨h1,_⟩:=of_cond_true h
   simp only [Bool.and_eq_true] at h1
   simp only [beneath,decide_eq_true_eq]; rw [← hl]; exact lt_of_get (idIs_spec h1.1.1)
  case nils =>
   obtain ⟨h1,_⟩:=of_cond_true h
   simp only [beneath,decide_eq_true_eq]; rw [← hl]; exact lt_of_get (idNew_spec h1)
 |.ptr j p,u,h=>by
  cases u <;> simp only [rv] at h
  obtain ⟨h1,_⟩:=of_cond_true h
  simp only [Bool.and_eq_true] at h1
  simp only [beneath,decide_eq_true_eq]; rw [← hl]; exact lt_of_get (idIs_spec h1.1.1)
 |.eptr j s i p,u,h=>by
  cases u <;> simp only [rv] at h
  obtain ⟨h1,_⟩:=of_cond_true h
  simp only [Bool.and_eq_true] at h1
  simp only [beneath,decide_eq_true_eq]; rw [← hl]; exact lt_of_get (idIs_spec h1.1.1.1)
 |.agg l,u,h=>by
  cases u <;> simp only [rv] at h
  simpa only [beneath] using rvL_be hl l _ (of_cond_true h).2
 |.tup l,u,h=>by
  cases u <;> simp only [rv] at h
  simpa only [beneath] using rvL_be hl l _ (of_cond_true h).2
 |.fn f l c,u,h=>by
  cases u <;> simp only [rv] at h
  obtain ⟨_,h2⟩:=of_cond_true h
  simp only [beneath,rvL_be hl l _ h2.1,rvL_be hl c _ h2.2]
  rfl
theorem rvL_be (hl:π.length=o'.length):∀ (l m:List AV),rvL π fz o l m→beneathL o'.length l=true
 |[],_,_=>rfl
 |v :: r,m,h=>by
  cases m with
  |nil=>simp only [rvL] at h
  |cons u s =>
   simp only [rvL] at h
   simp only [beneathL,rv_be hl v u h.1,rvL_be hl r s h.2]
   rfl
end
mutual
theorem rv_VR (hh:HR Gl o ρ R w) (hl:π.length=o'.length):∀ (v u:AV),rv π fz o v u→∀ y,TR ρ o R w u y→VR (ρw ρ π) (Rw R ρ fz) w v y∧beneath o'.length v=true
 |.undef,u,_,y,_=>⟨.undef y,rfl⟩
 |.int k a,u,h,y,ht=>by
  cases u <;> simp only [rv] at h
  obtain ⟨h1,h2⟩:=of_cond_true h
  have h1:k=_:=of_decide_eq_true h1
  subst h1
  obtain rfl:=h2.h
  cases ht.vr rfl with|data hd=>exact ⟨.data hd.rw,rfl⟩
 |.bool a,u,h,y,ht=>by
  cases u <;> simp only [rv] at h
  obtain rfl:=h.h
  cases ht.vr rfl with|data hd=>exact ⟨.data hd.rw,rfl⟩
 |.str a,u,h,y,ht=>by
  cases u <;> simp only [rv] at h
  obtain rfl:=h.h
  cases ht.vr rfl with|data hd=>exact ⟨.data hd.rw,rfl⟩
 |.sl s k f,u,h,y,ht=>by
  cases u <;> simp only [rv] at h
  case sl z m g =>
   obtain ⟨h1,h2⟩:=of_cond_true h
   obtain rfl:=Nat.eq_of_beq_eq_true h1
   cases ht.vr rfl with|data hd=>exact ⟨.data (hd.rw.ext h2.h.1 h2.h.2),rfl⟩
  case row id sz off len =>
   split at h
   ·rename_i s' m g e
    obtain ⟨h1,h2⟩:=of_cond_true h
    simp only [Bool.and_eq_true] at h1
    have hd:=frozen_DR hh ht e h1.1.1 h2.h.2.1
    have h3:sz=s:=(Nat.eq_of_beq_eq_true h1.1.1).symm.trans (Nat.eq_of_beq_eq_true h1.1.2)
    subst h3
    refine ⟨.data ((hd.go (fun b hb=>?_) fun _ _=>rfl).ext h2.h.1 h2.h.2.2),rfl⟩
    rcases hb with hb|⟨x,hx,hb⟩
    ·exact .inl hb
    ·exact .inr ⟨x,by rw [hx]; exact h1.2,hb⟩
   ·rename_i s' m g e
    obtain ⟨h1,h2⟩:=of_cond_true h
    simp only [Bool.and_eq_true] at h1
    have hd:=frozen_DRn (R':=Rw R ρ fz) hh ht e h1.1.1 h2.h.2.1 Rw_mono fun x b hx hb=>.inr ⟨x,by rw [hx]; exact h1.2,hb⟩
    have h3:sz=s:=(Nat.eq_of_beq_eq_true h1.1.1).symm.trans (Nat.eq_of_beq_eq_true h1.1.2)
    subst h3
    exact ⟨.data (hd.ext h2.h.1 h2.h.2.2),rfl⟩
   ·exact h.elim
  case nils =>
   obtain rfl:=h.h
   cases ht.vr rfl with|data hd=>cases hd with|nils a=>exact ⟨.data (.sl0 _ _ _ _),rfl⟩
 |.ro cs,u,h,y,ht=>by
  cases u <;> simp only [rv] at h
  obtain rfl:=h.h
  cases ht.vr rfl with|data hd=>exact ⟨.data hd.rw,rfl⟩
 |.row j s p k,u,h,y,ht=>by
  cases u <;> simp only [rv] at h
  case row id sz off len =>
   obtain ⟨h1,h2⟩:=of_cond_true h
   simp only [Bool.and_eq_true] at h1
   obtain ⟨⟨h3,h4⟩,h5⟩:=h1
   have h3:=idIs_spec h3
   obtain rfl:=Nat.eq_of_beq_eq_true h4
   obtain ⟨rfl,rfl⟩:=h2.h
   refine ⟨?_,by simp only [beneath,decide_eq_true_eq]; rw [← hl]; exact lt_of_get h3⟩
   cases ht.vr h5 with
   |data hd=>cases hd
   |row h1 h2 h3' h4 h5'=>exact .row ((ρw_is h3).trans h1) h2 h3' h4 h5'
   |row0=>exact .row0 _ _ _ _
  case nils =>
   obtain ⟨h1,h2⟩:=of_cond_true h
   obtain ⟨rfl,rfl⟩:=h2.h
   refine ⟨?_,by simp only [beneath,decide_eq_true_eq]; rw [← hl]; exact lt_of_get (idNew_spec h1)⟩
   cases ht.vr rfl with|data hd=>cases hd with|nils a=>exact .row0 _ _ _ _
 |.ptr j p,u,h,y,ht=>by
  cases u <;> simp only [rv] at h
  obtain ⟨h1,_⟩:=of_cond_true h
  simp only [Bool.and_eq_true] at h1
  obtain ⟨⟨h3,h4⟩,h5⟩:=h1
  have h3:=idIs_spec h3
  obtain rfl:=Nat.eq_of_beq_eq_true h4
  refine ⟨?_,by simp only [beneath,decide_eq_true_eq]; rw [← hl]; exact lt_of_get h3⟩
  cases ht.vr h5 with
  |data hd=>cases hd
  |ptr h1=>exact .ptr ((ρw_is h3).trans h1)
 |.eptr j s i p,u,h,y,ht=>by
  cases u <;> simp only [rv] at h
  obtain ⟨h1,h2⟩:=of_cond_true h
  simp only [Bool.and_eq_true] at h1
  obtain ⟨⟨⟨h3,h4⟩,h6⟩,h5⟩:=h1
  have h3:=idIs_spec h3
  obtain rfl:=Nat.eq_of_beq_eq_true h4
  obtain rfl:=Nat.eq_of_beq_eq_true h6
  obtain rfl:=h2.h
  refine ⟨?_,by simp only [beneath,decide_eq_true_eq]; rw [← hl]; exact lt_of_get h3⟩
  cases ht.vr h5 with
  |data hd=>cases hd
  |eptr h1=>exact .eptr ((ρw_is h3).trans h1)
 |.nils,u,h,y,ht=>by
  cases u <;> simp only [rv] at h
  cases ht.vr rfl with|data hd=>exact ⟨.data hd.rw,rfl⟩
 |.nilp,u,h,y,ht=>by
  cases u <;> simp only [rv] at h
  cases ht.vr rfl with|data hd=>exact ⟨.data hd.rw,rfl⟩
 |.nilf,u,h,y,ht=>by
  cases u <;> simp only [rv] at h
  cases ht.vr rfl with|data hd=>exact ⟨.data hd.rw,rfl⟩
 |.nili,u,h,y,ht=>by
  cases u <;> simp only [rv] at h
  cases ht.vr rfl with|data hd=>exact ⟨.data hd.rw,rfl⟩
 |.ifc,u,h,y,ht=>by
  cases u <;> simp only [rv] at h
  cases ht.vr rfl with|data hd=>exact ⟨.data hd.rw,rfl⟩
 |.agg l,u,h,y,ht=>by
  cases u <;> simp only [rv] at h
  obtain ⟨h1,h2⟩:=of_cond_true h
  obtain ⟨g1,g2,g3⟩:=rvL_VR hh hl l _ h2
  cases ht.vr (by simpa only [live] using h1) with
  |data hd=>cases hd
  |agg _ xs k1 k2=>exact ⟨.agg l xs (k1.trans g1.symm) fun j hj=>g2 j hj _ (.of (liveL_iff.1 h1 _ (getD_mem (g1 ▸ hj))) (k2 j (g1 ▸ hj))),by simpa only [beneath] using g3⟩
 |.tup l,u,h,y,ht=>by
  cases u <;> simp only [rv] at h
  obtain ⟨h1,h2⟩:=of_cond_true h
  obtain ⟨g1,g2,g3⟩:=rvL_VR hh hl l _ h2
  cases ht.vr (by simpa only [live] using h1) with
  |data hd=>cases hd
  |tup _ xs k1 k2=>exact ⟨.tup l xs (k1.trans g1.symm) fun j hj=>g2 j hj _ (.of (liveL_iff.1 h1 _ (getD_mem (g1 ▸ hj))) (k2 j (g1 ▸ hj))),by simpa only [beneath] using g3⟩
 |.fn f l c,u,h,y,ht=>by
  cases u <;> simp only [rv] at h
  obtain ⟨h1,h2⟩:=of_cond_true h
  simp only [Bool.and_eq_true] at h1
  obtain ⟨⟨h3,h4⟩,h5⟩:=h1
  obtain rfl:=Nat.eq_of_beq_eq_true h3
  obtain ⟨g1,g2,g3⟩:=rvL_VR hh hl l _ h2.1
  obtain ⟨p1,p2,p3⟩:=rvL_VR hh hl c _ h2.2
  cases ht.vr (by simp only [live,h4,h5]; rfl) with
  |data hd=>cases hd
  |fn _ _ _ xs ys k1 k2 k3 k4=>exact ⟨.fn f l c xs ys (k1.trans g1.symm) (fun j hj=>g2 j hj _ (.of (liveL_iff.1 h4 _ (getD_mem (g1 ▸ hj))) (k2 j (g1 ▸ hj)))) (k3.trans p1.symm)
    (fun j hj=>p2 j hj _ (.of (liveL_iff.1 h5 _ (getD_mem (p1 ▸ hj))) (k4 j (p1 ▸ hj)))),by simp only [beneath,g3,p3]; rfl⟩
theorem rvL_VR (hh:HR Gl o ρ R w) (hl:π.length=o'.length):∀ (l m:List AV),rvL π fz o l m→l.length=m.length∧(∀ j,j<l.length→∀ y,TR ρ o R w (m.getD j .undef) y→VR (ρw ρ π) (Rw R ρ fz) w (l.getD j .undef) y)∧beneathL o'.length l=true
 |[],m,h=>by
  cases m with
  |nil=>exact ⟨rfl,fun j hj=>absurd hj (Nat.not_lt_zero _),rfl⟩
  |cons _ _=>simp only [rvL] at h
 |v :: r,m,h=>by
  cases m with
  |nil=>simp only [rvL] at h
  |cons u s =>
   simp only [rvL] at h
   obtain ⟨g1,g2,g3⟩:=rvL_VR hh hl r s h.2
   refine ⟨by simp [g1],fun j hj y hy=>?_,?_⟩
   ·cases j with
    |zero=>exact (rv_VR hh hl v u h.1 y (by simpa using hy)).1
    |succ j=>simpa using g2 j (by simpa using hj) y (by simpa using hy)
   ·simp only [beneathL,rv_be hl v u h.1,g3]
    rfl
end
theorem wkO_len:∀ {p:List (Option Nat)} {q:List Obj},wkO π fz o p q→p.length=q.length
 |[],[],_=>rfl
 |[],_ :: _,h=>by simp only [wkO] at h
 |none :: p,[],h=>by simp only [wkO] at h
 |some _ :: p,[],h=>by simp only [wkO] at h
 |none :: p,x :: r,h=>by
  have:wkO π fz o p r:=by
   rcases x with _|_|⟨_,_,_,_|_⟩|_ <;> simp only [wkO] at h <;> exact h.2
  simp [wkO_len this]
 |some id :: p,x :: r,h=>by
  simp only [wkO] at h
  simp [wkO_len h.2]
def wk1 (π:List (Option Nat)) (fz:List Nat) (o:List Obj):Option Nat→Obj→Prop
 |none,x=>∃ s f,x=.row s 0 f∨x=.nrow s 0 f none
 |some id,x=>match x,o[id]? with
  |.box cs,some (.box ds)=>rvL π fz o cs ds
  |.row s n f,some (.row sz m g)=>s=sz∧n=m∧∀ i,i<n→f i=g i
  |.nrow s n f none,some (.nrow sz m g none)=>s=sz∧n=m∧∀ i,i<n→f i=g i
  |_,_=>False
theorem wkO_get:∀ {p:List (Option Nat)} {q:List Obj},wkO π fz o p q→∀ {j:Nat} {k:Option Nat} {x:Obj},p[j]?=some k→q[j]?=some x→wk1 π fz o k x
 |[],[],_,j,_,_,h1,_=>by simp at h1
 |[],_ :: _,h,_,_,_,_,_=>by simp only [wkO] at h
 |none :: p,[],h,_,_,_,_,_=>by simp only [wkO] at h
 |some _ :: p,[],h,_,_,_,_,_=>by simp only [wkO] at h
 |none :: p,x :: r,h,j,k,y,h1,h2=>by
  have h':wkO π fz o p r∧∃ s f,x=.row s 0 f∨x=.nrow s 0 f none:=by
   rcases x with _|_|⟨_,_,_,_|_⟩|_ <;> simp only [wkO] at h
   ·obtain ⟨h3,h4⟩:=h
    obtain rfl:=h3.h
    exact ⟨h4,_,_,.inl rfl⟩
   ·obtain ⟨h3,h4⟩:=h
    obtain rfl:=h3.h
    exact ⟨h4,_,_,.inr rfl⟩
  cases j with
  |zero =>
   simp at h1 h2
   subst h1 h2
   exact h'.2
  |succ j=>exact wkO_get h'.1 (by simpa using h1) (by simpa using h2)
 |some id :: p,x :: r,h,j,k,y,h1,h2=>by
  simp only [wkO] at h
  cases j with
  |zero =>
   simp at h1 h2
   subst h1 h2
   have h3:=h.1
   unfold wk1
   simp only
   split at h3
   ·rename_i e; rw [e]; exact h3
   ·rename_i e
    obtain ⟨g1,g2⟩:=of_cond_true h3
    rw [e]
    exact ⟨Nat.eq_of_beq_eq_true g1,g2.h.1,g2.h.2⟩
   ·rename_i e
    obtain ⟨g1,g2⟩:=of_cond_true h3
    rw [e]
    exact ⟨Nat.eq_of_beq_eq_true g1,g2.h.1,g2.h.2⟩
   ·exact h3.elim
  |succ j=>exact wkO_get h.2 (by simpa using h1) (by simpa using h2)
theorem wkN_once:∀ {p:List (Option Nat)},wkN fz p=true→∀ {i j id:Nat},p[i]?=some (some id)→p[j]?=some (some id)→i=j
 |[],_,i,_,_,h,_=>by simp at h
 |none :: p,h,i,j,id,h1,h2=>by
  cases i with
  |zero=>simp at h1
  |succ i=>cases j with
   |zero=>simp at h2
   |succ j=>exact congrArg Nat.succ (wkN_once (p:=p) (id:=id) (by simpa only [wkN] using h) (by simpa using h1) (by simpa using h2))
 |some k :: p,h,i,j,id,h1,h2=>by
  simp only [wkN,Bool.and_eq_true,Bool.not_eq_true'] at h
  have no:∀ q:Nat,p[q]?=some (some k)→False:=fun q hq=>by
   have:=List.mem_of_getElem? hq
   have h3:=h.1.1
   rw [List.contains_eq_mem] at h3
   simp [this] at h3
  cases i with
  |zero=>cases j with
   |zero=>rfl
   |succ j=>simp at h1 h2; subst h1; exact (no j h2).elim
  |succ i=>cases j with
   |zero=>simp at h1 h2; subst h2; exact (no i h1).elim
   |succ j=>exact congrArg Nat.succ (wkN_once (p:=p) (id:=id) h.2 (by simpa using h1) (by simpa using h2))
theorem wkN_fz:∀ {p:List (Option Nat)},wkN fz p=true→∀ {i id:Nat},p[i]?=some (some id)→fz.contains id=false
 |[],_,i,_,h=>by simp at h
 |none :: p,h,i,id,h1=>by
  cases i with
  |zero=>simp at h1
  |succ i=>exact wkN_fz (p:=p) (by simpa only [wkN] using h) (by simpa using h1)
 |some k :: p,h,i,id,h1=>by
  simp only [wkN,Bool.and_eq_true,Bool.not_eq_true'] at h
  cases i with
  |zero=>simp at h1; subst h1; exact h.1.2
  |succ i=>exact wkN_fz (p:=p) h.2 (by simpa using h1)
theorem wkM_get:∀ {m:Nat} {p:List (Option Nat)} {k:Nat},wkM m p k=true→∀ {i:Nat},i<m→p[i]?=some (some (i+k))
 |0,_,_,_,i,hi=>absurd hi (Nat.not_lt_zero _)
 |m+1,[],k,h,i,_=>by simp [wkM] at h
 |m+1,none :: p,k,h,i,_=>by simp [wkM] at h
 |m+1,some j :: p,k,h,i,hi=>by
  simp only [wkM,Bool.and_eq_true] at h
  cases i with
  |zero=>simp [Nat.eq_of_beq_eq_true h.1]
  |succ i =>
   have:=wkM_get h.2 (i:=i) (by omega)
   simp [this]
   omega
theorem wkT_get:∀ {L:List (Nat × AV)},wkT π fz o t L→∀ x,ofL L x=.undef∨rv π fz o (ofL L x) (t x)
 |[],_,x=>.inl rfl
 |(j,v) :: r,h,x=>by
  simp only [wkT] at h
  unfold ofL
  cases e:Nat.beq x j with
  |true=>rw [Nat.eq_of_beq_eq_true e]; exact .inr h.1
  |false=>exact wkT_get h.2 x
theorem wk_sound {m:Nat} {L:List (Nat × AV)} (hs:SR Gl ρ o R w t a n) (h:WkTo m t o L o'):∃ ρ' R',SR Gl ρ' o' R' w (ofL L) a n∧EK m o ρ R w o' ρ' R' w:=by
 obtain ⟨π,fz,hM,hN,hTt,hO⟩:=h.ex
 have hl:=wkO_len hO
 have hh:=hs.hh
 have inv:∀ {x:Ix} {b:Nat},ρw ρ π x=some b→∃ id,π[x.id]?=some (some id)∧ρ (x.at id)=some b:=by
  intro j b h
  unfold ρw at h
  split at h
  ·rename_i id e; exact ⟨id,e,h⟩
  ·cases h
 refine ⟨ρw ρ π,Rw R ρ fz,⟨⟨?_,?_,?_,?_,?_,?_,?_⟩,?_,hs.sz,hs.df⟩,⟨?_,Rw_mono,?_,?_,Nat.le_refl _,fun _ _ _=>rfl,fun _ xs _ h=>⟨xs,h,rfl⟩,rfl,rfl,rfl⟩⟩
 ·intro j b h
  obtain ⟨id,e,_⟩:=inv h
  rw [← hl]
  exact lt_of_get e
 ·intro j q b h
  obtain ⟨id,e,h⟩:=inv h
  obtain ⟨s,m,f,x,e'⟩:=hh.din id q b h
  have hj:j<o'.length:=by rw [← hl]; exact lt_of_get (show π[j]?=_ from e)
  have hk:=wkO_get hO (show π[j]?=_ from e) (List.getElem?_eq_getElem hj)
  unfold wk1 at hk
  simp only at hk
  rw [List.getElem?_eq_getElem hj]
  split at hk
  ·rename_i e2; rw [e'] at e2; cases e2
  ·rename_i e2; rw [e'] at e2; cases e2
  ·rename_i e1 e2; exact ⟨_,_,_,_,congrArg some e1⟩
  ·exact hk.elim
 ·intro j b h
  obtain ⟨id,_,h⟩:=inv h
  exact hh.lt _ b h
 ·intro i j b h1 h2
  obtain ⟨id1,e1,h1⟩:=inv h1
  obtain ⟨id2,e2,h2⟩:=inv h2
  have h3:=hh.inj _ _ b h1 h2
  have h4:id1=id2:=by have:=congrArg Ix.id h3; rwa [Ix.at_id,Ix.at_id] at this
  subst h4
  have h5:=wkN_once hN e1 e2
  have h6:=congrArg (fun x=>Ix.at x i.id) h3
  simp only [Ix.at_at] at h6
  rw [Ix.at_self,h5,Ix.at_self] at h6
  exact h6
 ·intro b hb
  rcases hb with hb|⟨k,hk,hb⟩
  ·refine ⟨(hh.ro b hb).1,fun j h=>?_⟩
   obtain ⟨id,_,h⟩:=inv h
   exact (hh.ro b hb).2 _ h
  ·refine ⟨hh.lt k b hb,fun j h=>?_⟩
   obtain ⟨id,e,h⟩:=inv h
   have h3:=hh.inj _ k b h hb
   have h4:id=k.id:=by rw [← h3,Ix.at_id]
   rw [h4] at e
   rw [wkN_fz hN e] at hk
   cases hk
 ·intro j ob h
  have hj:j<π.length:=by rw [hl]; exact lt_of_get h
  have hk:=wkO_get hO (List.getElem?_eq_getElem hj) h
  cases hp:π[j] with
  |none =>
   rw [hp] at hk
   have h0:ρw ρ π j=none:=by
    have:π[(j:Ix).id]?=some none:=by rw [show (j:Ix).id=j from rfl,List.getElem?_eq_getElem hj,hp]
    unfold ρw
    rw [this]
   obtain ⟨s,f,rfl|rfl⟩:=hk
   ·exact .inl ⟨rfl,h0⟩
   ·exact .inl ⟨rfl,rfl,h0⟩
  |some id =>
   rw [hp] at hk
   have hr:ρw ρ π j=ρ id:=ρw_is (by rw [List.getElem?_eq_getElem hj,hp])
   unfold wk1 at hk
   simp only at hk
   split at hk
   ·rename_i cs ds e
    obtain ⟨b,xs,ty,h1,h2,h3,h4⟩:=hh.obj id _ e
    obtain ⟨g1,g2,g3⟩:=rvL_VR hh hl cs ds hk
    exact ⟨b,xs,ty,hr.trans h1,h2,h3.trans g1.symm,fun i hi=>⟨beneathL_iff.1 g3 _ (getD_mem hi),fun _=>g2 i hi _ (h4 i (g1 ▸ hi))⟩⟩
   ·rename_i s m f sz k g e
    obtain ⟨rfl,rfl,he⟩:=hk
    rcases hh.obj id _ e with ⟨h1,h2⟩|⟨b,xs,ty,h1,h2,h3,h4,h5⟩
    ·exact .inl ⟨h1,hr.trans h2⟩
    ·exact .inr ⟨b,xs,ty,hr.trans h1,h2,h3,fun i hi=>by rw [he i hi]; exact h4 i hi,fun i hi q hq=>by rw [he i hi]; exact (h5 i hi q hq).rw⟩
   ·rename_i s m f sz k g e
    obtain ⟨rfl,rfl,he⟩:=hk
    rcases hh.obj id _ e with ⟨h1,h0,h2⟩|⟨b,xs,ty,h1,h2,h3,h4,h5,_⟩
    ·exact .inl ⟨h1,rfl,hr.trans h2⟩
    ·refine .inr ⟨b,xs,ty,hr.trans h1,h2,h3,fun i hi=>by rw [he i hi]; exact h4 i hi,fun i hi _ q hq=>?_,fun i cs e=>by cases e⟩
     rw [he i hi]
     exact (h5 i hi (by simp) q hq).mv Rw_mono (ρw_at (x:=.inn j _) (by rw [show (Ix.inn j (i*s+q)).id=j from rfl,List.getElem?_eq_getElem hj,hp]))
   ·exact hk.elim
 ·exact fun p hp=>⟨.inl (hh.gl p hp).1,(hh.gl p hp).2⟩
 ·intro x
  rcases wkT_get hTt x with h|h
  ·rw [h]; exact .undef
  ·exact ⟨rv_be hl _ _ h,fun _=>(rv_VR hh hl _ _ h _ (hs.hf x)).1⟩
 ·intro id hid
  have e:=wkM_get hM hid
  rw [Nat.add_zero] at e
  have hr:ρw ρ π id=ρ id:=ρw_is e
  split
  ·rename_i cs e2
   have hk:=wkO_get hO e e2
   unfold wk1 at hk
   simp only at hk
   split at hk
   ·rename_i e3; exact ⟨⟨_,e3⟩,hr⟩
   ·rename_i e4 _; cases e4
   ·rename_i e4 _; cases e4
   ·exact hk.elim
  ·rename_i sz k f e2
   have hk:=wkO_get hO e e2
   unfold wk1 at hk
   simp only at hk
   split at hk
   ·rename_i e4 _; cases e4
   ·rename_i e4 e3
    cases e4
    obtain ⟨rfl,_⟩:=hk
    exact ⟨⟨_,_,e3⟩,hr⟩
   ·rename_i e4 _; cases e4
   ·exact hk.elim
  ·rename_i sz k f x e2
   have hk:=wkO_get hO e e2
   unfold wk1 at hk
   simp only at hk
   split at hk
   ·rename_i e4 _; cases e4
   ·rename_i e4 _; cases e4
   ·rename_i e4 e3
    cases e4
    obtain ⟨rfl,_⟩:=hk
    exact ⟨⟨_,e3,rfl⟩,hr⟩
   ·exact hk.elim
  ·trivial
 ·intro b hb
  rcases hb with hb|⟨k,_,hb⟩
  ·exact .inl hb
  ·exact .inr (.inr ⟨k,hb⟩)
 ·intro j b h
  obtain ⟨id,_,h⟩:=inv h
  exact .inr ⟨_,h⟩
end
end Go.Proofs.YtgdbhjmpkkbnnaaGreatDoor.Vc
end
section
/- Part RN of the engine: nested rows: a row that owns its cells' rows; a cell opened, and closed. -/
namespace Go.Proofs.YtgdbhjmpkkbnnaaGreatDoor.Vc
section
variable {P:Program} {TB:TypeId→TI} {ρ:Ix→Option Nat} {o:List Obj} {R:Nat→Prop} {w:World} {t:Fr} {a:Act} {Gl:List (Nat × Go.Obj)} {n:Nat}
def ρop (ρ:Ix→Option Nat) (N id q:Nat):Ix→Option Nat:=fun x=>if x=(N:Ix) then ρ (.inn id q) else if x=.inn id q then none else ρ x
theorem ρop_ne {N id q:Nat} {x:Ix} (h1:x≠(N:Ix)) (h2:x≠.inn id q):ρop ρ N id q x=ρ x:=by unfold ρop; rw [if_neg h1,if_neg h2]
theorem open1 (hh:HR Gl o ρ R w) {id q s k i m z:Nat} {f g:Nat→List AV} {us:List AV} {y:Value} (hid:o[id]?=some (.nrow s k f (some (i,us)))) (h1:i*s≤q) (h2:q<i*s+s) (hN:NR ρ R w id q (.sl z m g) y) :
    ∃ ρ',HR Gl (o ++ [.row z m g]) ρ' R w∧EX o ρ R w (o ++ [.row z m g]) ρ' R w∧TR ρ' (o ++ [.row z m g]) R w (.row o.length z 0 m) y∧∀ x:Ix,x.id=id→x≠.inn id q→ρ' x=ρ x:=by
  have hid':=(List.getElem?_eq_some_iff.1 hid).1
  have hlive:live (o ++ [Obj.row z m g]) (.row o.length z 0 m)=true:=by simp [live]
  rcases hN with ⟨h,_⟩|⟨z',m',g',e,hg,⟨h0,b,rfl⟩|⟨b,ys,ty,cap,rfl,e2,e3,e4,e5,e6,e7⟩⟩
  · cases h
  · cases e
    subst h0
    exact ⟨ρ,hh.empty _ _,EX.empty _ _,.of hlive (.row0 _ _ _ _),fun _ _ _=>rfl⟩
  · cases e
    have hx:EX o ρ R w (o ++ [.row z m g]) (ρop ρ o.length id q) R w:=by
      refine ⟨by simp,fun j hj=>?_,fun _ h=>h,fun _ h=>.inl h,fun x c h=>?_,Nat.le_refl _,fun _ _ _=>rfl,fun _ xs _ h=>⟨xs,h,rfl⟩,rfl,rfl,rfl⟩
      · rw [List.getElem?_append_left hj,show ρop ρ o.length id q j=ρ j from ρop_ne (by intro e; cases e; omega) (by intro e; cases e)]
        exact (EX.refl o ρ R w).keep j hj
      · unfold ρop at h
        split at h
        · exact .inr ⟨_,h⟩
        · split at h
          · cases h
          · exact .inr ⟨x,h⟩
    have hn:∀ (x:Ix) (c:Nat),ρop ρ o.length id q x=some c→(x=(o.length:Ix)∧ρ (.inn id q)=some c)∨(x≠(o.length:Ix)∧x≠.inn id q∧ρ x=some c):=by
      intro x c h
      unfold ρop at h
      split at h
      · rename_i e; exact .inl ⟨e,h⟩
      · rename_i h3
        split at h
        · cases h
        · rename_i h4; exact .inr ⟨h3,h4,h⟩
    have hN':ρop ρ o.length id q (o.length:Ix)=some b:=by unfold ρop; rw [if_pos rfl]; exact e2
    refine ⟨_,⟨?_,?_,?_,?_,?_,?_,hh.gl⟩,hx,.of hlive ?_,fun x hx1 hx2=>ρop_ne (fun e=>?_) hx2⟩
    · intro x c h
      rw [List.length_append]
      rcases hn x c h with ⟨rfl,_⟩|⟨_,_,h⟩
      · exact Nat.lt_succ_self _
      · exact Nat.lt_of_lt_of_le (hh.dom x c h) (Nat.le_add_right _ _)
    · intro j q' c h
      rcases hn _ c h with ⟨e,_⟩|⟨_,_,h⟩
      · cases e
      · obtain ⟨s',k',f',x',e⟩:=hh.din j q' c h
        exact ⟨s',k',f',x',(List.getElem?_append_left (List.getElem?_eq_some_iff.1 e).1).trans e⟩
    · intro x c h
      rcases hn x c h with ⟨_,h⟩|⟨_,_,h⟩
      · exact hh.lt _ c h
      · exact hh.lt x c h
    · intro x x' c hx1 hx2
      rcases hn x c hx1 with ⟨a1,a2⟩|⟨a1,a2,a3⟩ <;> rcases hn x' c hx2 with ⟨b1,b2⟩|⟨b1,b2,b3⟩
      · rw [a1,b1]
      · exact absurd (hh.inj _ _ c a2 b3).symm b2
      · exact absurd (hh.inj _ _ c b2 a3).symm a2
      · exact hh.inj x x' c a3 b3
    · intro c hc
      refine ⟨(hh.ro c hc).1,fun x h=>?_⟩
      rcases hn x c h with ⟨_,h⟩|⟨_,_,h⟩
      · exact (hh.ro c hc).2 _ h
      · exact (hh.ro c hc).2 x h
    · intro j ob h
      by_cases hj:j<o.length
      · rw [List.getElem?_append_left hj] at h
        by_cases hji:j=id
        · subst hji
          rw [hid] at h
          injection h with h
          subst h
          rcases hh.obj j _ hid with ⟨_,h0,_⟩|⟨b2,xs,ty2,p1,p2,p3,p4,p5,p6⟩
          · cases h0
          · refine .inr ⟨b2,xs,ty2,(ρop_ne (by intro e; cases e; omega) (by intro e; cases e)).trans p1,p2,p3,p4,fun i' hi' hne' j' hj'=>(p5 i' hi' hne' j' hj').mv (fun _ h=>h) (ρop_ne (by intro e; cases e) ?_),fun i' cs e=>⟨(p6 i' cs e).1,(p6 i' cs e).2.1,fun j' hj'=>((p6 i' cs e).2.2 j' hj').go hx hh.ro⟩⟩
            intro e
            injection e with _ e
            exact cell_ne (fun e2=>hne' (by rw [e2]; rfl)) hj' h1 h2 e
        · exact (hh.obj j ob h).go hx hh.ro (fun x hxj=>ρop_ne (fun e=>by rw [e] at hxj; exact absurd hxj (by show ¬ o.length=j; omega)) (fun e=>hji (by rw [← hxj,e]; rfl))) fun _ _ _ _=>rfl
      · have hj':j=o.length:=by
          have:=(List.getElem?_eq_some_iff.1 h).1
          simp at this
          omega
        subst hj'
        rw [List.getElem?_append_right (Nat.le_refl _)] at h
        simp at h
        subst h
        refine .inr ⟨b,ys,ty,hN',e3,Nat.le_trans (Nat.mul_le_mul_right _ e4) e5,hg,e7⟩
    · have:=VR.row (R:=R) (id:=o.length) (sz:=z) (off:=0) (len:=m) hN' e3 e4 (by rw [Nat.zero_add]; exact e5) e6
      rwa [Nat.zero_mul] at this
    · rw [e] at hx1
      exact absurd hx1 (by show ¬ o.length=id; omega)
theorem opens {id s k i:Nat} {f:Nat→List AV} {us:List AV}:∀ (cs:List AV) {o:List Obj} {ρ:Ix→Option Nat} {q0:Nat} {g:Nat→Value},HR Gl o ρ R w→o[id]?=some (.nrow s k f (some (i,us)))→i*s≤q0→q0+cs.length≤i*s+s →
    (∀ j,j<cs.length→NR ρ R w id (q0+j) (cs.getD j .undef) (g j)) →
    ∃ ρ',HR Gl (o ++ (openL o.length cs).2) ρ' R w∧EX o ρ R w (o ++ (openL o.length cs).2) ρ' R w∧(openL o.length cs).1.length=cs.length∧(∀ j,j<cs.length→TR ρ' (o ++ (openL o.length cs).2) R w ((openL o.length cs).1.getD j .undef) (g j))∧ρ' id=ρ id
  | [],o,ρ,q0,g,hh,hid,h1,h2,hN=>by
    refine ⟨ρ,?_,?_,rfl,fun j hj=>absurd hj (Nat.not_lt_zero _),rfl⟩
    · rw [openL,List.append_nil]; exact hh
    · rw [openL,List.append_nil]; exact EX.refl _ _ _ _
  | v :: r,o,ρ,q0,g,hh,hid,h1,h2,hN=>by
    simp only [List.length_cons] at h2
    have hv:NR ρ R w id q0 v (g 0):=by simpa using hN 0 (by simp)
    have plain:v.plain=true→∃ ρ',HR Gl (o ++ (openL o.length r).2) ρ' R w∧EX o ρ R w (o ++ (openL o.length r).2) ρ' R w∧(v :: (openL o.length r).1).length=(v :: r).length∧(∀ j,j<(v :: r).length→TR ρ' (o ++ (openL o.length r).2) R w ((v :: (openL o.length r).1).getD j .undef) (g j))∧ρ' id=ρ id:=by
      intro hp
      obtain ⟨ρ',g1,g2,g3,g4,g5⟩:=opens r (q0:=q0+1) (g:=fun j=>g (j+1)) hh hid (by omega) (by omega) fun j hj=>by
        have:=hN (j+1) (by simpa using hj)
        rw [show q0+(j+1)=q0+1+j by omega] at this
        simpa using this
      refine ⟨ρ',g1,g2,by simp [g3],fun j hj=>?_,g5⟩
      cases j with
      | zero =>
        rcases hv with ⟨_,h⟩|⟨_,_,_,e,_⟩
        · simpa using (h.tr:TR ρ' (o ++ (openL o.length r).2) R w v (g 0))
        · rw [e] at hp; cases hp
      | succ j=>simpa using g4 j (by simpa using hj)
    cases v with
    | sl z m gg =>
      obtain ⟨ρ1,k1,k2,k3,k4⟩:=open1 hh hid h1 (by omega) hv
      have hid1:(o ++ [Obj.row z m gg])[id]?=some (.nrow s k f (some (i,us))):=(List.getElem?_append_left (List.getElem?_eq_some_iff.1 hid).1).trans hid
      have hl:(o ++ [Obj.row z m gg]).length=o.length+1:=by simp
      obtain ⟨ρ',g1,g2,g3,g4,g5⟩:=opens r (q0:=q0+1) (g:=fun j=>g (j+1)) k1 hid1 (by omega) (by omega) fun j hj=>by
        have:=hN (j+1) (by simpa using hj)
        rw [show q0+(j+1)=q0+1+j by omega] at this
        have h3:NR ρ R w id (q0+1+j) (r.getD j .undef) (g (j+1)):=by simpa using this
        exact h3.mv (fun _ h=>h) (k4 _ rfl (by intro e; injection e with _ e; omega))
      rw [hl,List.append_assoc] at g1 g2 g4
      rw [hl] at g3
      refine ⟨ρ',g1,k2.trans g2,by simp [openL,g3],fun j hj=>?_,g5.trans (k4 _ rfl (by intro e; cases e))⟩
      cases j with
      | zero=>exact k3.go g2 k1.ro
      | succ j=>exact g4 j (by simpa using hj)
    | _=>first
      | exact plain rfl
      | (rcases hv with ⟨h,_⟩|⟨_,_,_,e,_⟩
         · cases h
         · cases e)
theorem set_app_at {l:List Obj} {x:Obj} {r:List Obj} {id:Nat} (h:id<l.length):(l ++ r).set id x=l.set id x ++ r:=List.set_append_left _ _ h
theorem mv_sound {m:Nat} {o1:List Obj} (hs:SR Gl ρ o R w t a n) (hl:m≤o.length) (h:Mv m o o1):∃ ρ1 R1,SR Gl ρ1 o1 R1 w t a n∧m≤o1.length∧EK m o ρ R w o1 ρ1 R1 w:=by
  have hh:=hs.hh
  have done:∀ {o1:List Obj} {ρ1:Ix→Option Nat},HR Gl o1 ρ1 R w→EX o ρ R w o1 ρ1 R w→∃ ρ1 R1,SR Gl ρ1 o1 R1 w t a n∧m≤o1.length∧EK m o ρ R w o1 ρ1 R1 w:=fun h1 h2=>⟨_,R,⟨h1,hs.hf.go h2 hh,hs.sz,hs.df⟩,Nat.le_trans hl h2.len,h2.ek hl⟩
  cases h with
  | nr id s k f h1 h2 h3 ho =>
    rw [forceO_eq] at ho
    subst ho
    have hid:=(List.getElem?_eq_some_iff.1 h1).1
    have hx:EX o ρ R w (o.set id (.nrow s k f none)) ρ R w:=by
      refine ⟨by simp,fun j hj=>?_,fun _ h=>h,fun _ h=>.inl h,fun x c h=>.inr ⟨x,h⟩,Nat.le_refl _,fun _ _ _=>rfl,fun _ xs _ h=>⟨xs,h,rfl⟩,rfl,rfl,rfl⟩
      by_cases e:id=j
      · subst e
        rw [List.getElem?_set_self hid]
        exact ⟨⟨_,h1,rfl⟩,rfl⟩
      · rw [List.getElem?_set_ne e]
        exact (EX.refl o ρ R w).keep j hj
    refine done ⟨fun x b h=>by rw [List.length_set]; exact hh.dom x b h,fun j q b h=>?_,hh.lt,hh.inj,hh.ro,fun j ob h=>?_,hh.gl⟩ hx
    · obtain ⟨s',k',f',x',e⟩:=hh.din j q b h
      have hne:id≠j:=fun e2=>by subst e2; rw [h1] at e; cases e
      exact ⟨s',k',f',x',(List.getElem?_set_ne hne).trans e⟩
    · by_cases e:id=j
      · subst e
        rw [List.getElem?_set_self hid] at h
        injection h with h
        subst h
        rcases hh.obj id _ h1 with ⟨g1,g2⟩|⟨b,xs,ty,g1,g2,g3,g4,g5⟩
        · exact .inl ⟨g1,rfl,g2⟩
        · exact .inr ⟨b,xs,ty,g1,g2,g3,g4,fun i hi _ l hl=>.inl ⟨h3 i hi _ (getD_mem (by rw [g4 i hi]; exact hl)),g5 i hi l hl⟩,fun _ _ e=>by cases e⟩
      · rw [List.getElem?_set_ne e] at h
        exact (hh.obj j ob h).go hx hh.ro (fun _ _=>rfl) fun _ _ _ _=>rfl
  | op id s k f i cs h1 h2 h3 ho =>
    rw [forceO_eq] at ho
    subst ho
    obtain ⟨us,hA,xA⟩:=hh.bare h1 h2
    have hid:=(List.getElem?_eq_some_iff.1 h1).1
    rcases hh.obj id _ h1 with ⟨h0,_⟩|⟨b,xs,ty,p1,p2,p3,p4,p5,_⟩
    · omega
    have hcl:cs.length=s:=by rw [← h3]; exact p4 i h2
    have hg:(o.set id (.nrow s k f (some (i,us))))[id]?=some (.nrow s k f (some (i,us))):=by rw [List.getElem?_set_self hid]
    obtain ⟨ρ',k1,k2,k3,k4,k5⟩:=opens cs (q0:=i*s) (g:=fun j=>xs.getD (i*s+j) Go.undef) hA hg (Nat.le_refl _) (by omega) fun j hj=>by
      have:=p5 i h2 (by simp) j (by omega)
      rwa [h3] at this
    rw [List.length_set] at k1 k2 k3 k4
    have hb:ρ' id=some b:=k5.trans p1
    have hg2:(o.set id (.nrow s k f (some (i,us))) ++ (openL o.length cs).2)[id]?=some (.nrow s k f (some (i,us))):=(List.getElem?_append_left (by rw [List.length_set]; exact hid)).trans hg
    have hw:WR w w b xs xs ty:=⟨p2,p2,rfl,fun _ _=>rfl,rfl,rfl,rfl,rfl⟩
    have x2:=EX.wr (R:=R) (ob':=.nrow s k f (some (i,(openL o.length cs).1))) hw hb hg2 ⟨_,_,_,rfl⟩
    have h4:=HR.wr k1 (ob':=.nrow s k f (some (i,(openL o.length cs).1))) hw hb hg2 ⟨_,_,_,rfl⟩ fun hx=>by
      rcases k1.obj id _ hg2 with ⟨_,h0,_⟩|⟨b2,xs2,ty2,r1,r2,r3,r4,r5,_⟩
      · cases h0
      · rw [hb] at r1
        injection r1 with r1
        subst r1
        rw [p2] at r2
        injection r2 with r2
        injection r2 with r2 _ _
        subst r2
        refine .inr ⟨b,xs,ty,hb,p2,p3,p4,fun j hj hne l hl=>r5 j hj (by simpa using hne) l hl,fun i' cs' e=>?_⟩
        injection e with e
        injection e with e1 e2
        subst e1 e2
        exact ⟨h2,k3.trans hcl,fun j hj=>(k4 j (by omega)).go hx k1.ro⟩
    rw [set_app_at (by rw [List.length_set]; exact hid),List.set_set] at x2 h4
    exact done h4 ((xA.trans k2).trans x2)
  | cl id s k f i cs ds ks p h1 h2 h3 h4 ho =>
    rw [forceO_eq] at ho
    subst ho
    rw [Bool.and_eq_true,Bool.not_eq_true'] at h4
    rcases hh.obj id _ h1 with ⟨_,h0,_⟩|⟨b,xs,ty,p1,p2,p3,p4,p5,p6⟩
    · cases h0
    obtain ⟨hi,hcl,hT⟩:=p6 i cs rfl
    have hdl:ds.length=cs.length:=ownL_len _ h2
    obtain ⟨ρ',k1,k2,k3,k4,_,k5⟩:=absorb cs (q0:=i*s) (g:=fun j=>xs.getD (i*s+j) Go.undef) hh h1 h2 h3 h4.1 (Nat.le_refl _) (by omega) fun j hj=>hT j (by omega)
    have hb:ρ' id=some b:=(k4 (id:Ix) rfl fun _ _ e=>by cases e).trans p1
    have hw:WR w w b xs xs ty:=⟨p2,p2,rfl,fun _ _=>rfl,rfl,rfl,rfl,rfl⟩
    have x2:=EX.wr (R:=R) (ob':=.nrow s k (setF f i ds) none) hw hb k3 ⟨_,_,_,rfl⟩
    have h5:=HR.wr k1 (ob':=.nrow s k (setF f i ds) none) hw hb k3 ⟨_,_,_,rfl⟩ fun hx=>by
      rcases k1.obj id _ k3 with ⟨_,h0,_⟩|⟨b2,xs2,ty2,r1,r2,r3,r4,r5,_⟩
      · cases h0
      · rw [hb] at r1
        injection r1 with r1
        subst r1
        rw [p2] at r2
        injection r2 with r2
        injection r2 with r2 _ _
        subst r2
        refine .inr ⟨b,xs,ty,hb,p2,p3,fun j hj=>?_,fun j hj _ l hl=>?_,fun _ _ e=>by cases e⟩
        · unfold setF
          cases hji:Nat.beq j i with
          | true=>exact hdl.trans hcl
          | false=>exact p4 j hj
        · unfold setF
          cases hji:Nat.beq j i with
          | true =>
            obtain rfl:=Nat.eq_of_beq_eq_true hji
            exact k5 l (by omega)
          | false =>
            have hji':j≠i:=fun e=>by subst e; rw [Nat.beq_refl] at hji; cases hji
            exact r5 j hj (fun e=>hji' (by simp at e; exact e.symm)) l hl
    exact done h5 (k2.trans x2)
theorem mvs_sound {m:Nat} {o o1:List Obj} (h:Mvs m o o1):∀ {ρ:Ix→Option Nat} {R:Nat→Prop},SR Gl ρ o R w t a n→m≤o.length→∃ ρ1 R1,SR Gl ρ1 o1 R1 w t a n∧m≤o1.length∧EK m o ρ R w o1 ρ1 R1 w:=by
  induction h with
  | nil o=>exact fun hs hl=>⟨_,_,hs,hl,(EX.refl _ _ _ _).ek hl⟩
  | cons o o1 o2 h _ ih =>
    intro ρ R hs hl
    obtain ⟨ρ1,R1,hs1,hl1,hx1⟩:=mv_sound hs hl h
    obtain ⟨ρ2,R2,hs2,hl2,hx2⟩:=ih hs1 hl1
    exact ⟨ρ2,R2,hs2,hl2,hx1.trans hx2⟩
end
end Go.Proofs.YtgdbhjmpkkbnnaaGreatDoor.Vc
end
section
/- Part S of the engine: code; a function's body. -/
namespace Go.Proofs.YtgdbhjmpkkbnnaaGreatDoor.Vc
def dstOk (n:Nat):Code→Bool
 |.region _ ops _=>ops.toList.all fun x=>match x.dst with
  |some d=>Nat.blt d n
  |none=>true
 |.seq a b=>dstOk n a && dstOk n b
 |.cond _ a b=>dstOk n a && dstOk n b
 |.block _ c=>dstOk n c
 |.loop c=>dstOk n c
 |_=>true
section
variable {P:Program} {TB:TypeId→TI} {ρ:Ix→Option Nat} {o:List Obj} {R:Nat→Prop} {w:World} {t:Fr} {a:Act} {Gl:List (Nat × Go.Obj)} {call:FuncId→List AV→List Obj→(AV→List Obj→Prop)→Prop} {n m:Nat}
theorem ops_dst {ops:Array Oper} {id:Nat} {d:Bool} (h:dstOk n (.region id ops d)=true):∀ x∈ops.toList,∀ d,x.dst=some d→d<n:=by
 intro x hx d hd
 have:=List.all_eq_true.1 h x hx
 simp only [hd,Nat.blt] at this
 exact Nat.le_of_ble_eq_true this
theorem EK.refl (m:Nat) (hm:m≤o.length):EK m o ρ R w o ρ R w:=(EX.refl o ρ R w).ek hm
theorem wkM_len:∀ {m k:Nat} {p:List (Option Nat)},wkM m p k=true→m≤p.length
 |0,_,_,_=>Nat.zero_le _
 |m+1,_,[],h=>by simp [wkM] at h
 |m+1,_,none :: p,h=>by simp [wkM] at h
 |m+1,_,some j :: p,h=>by
  simp only [wkM,Bool.and_eq_true] at h
  simpa using wkM_len h.2
theorem WkTo.len {L:List (Nat × AV)} {o':List Obj} (h:WkTo m t o L o'):m≤o'.length:=by
 obtain ⟨π,fz,hM,_,_,hO⟩:=h.ex
 rw [← wkO_len hO]
 exact wkM_len hM
theorem code_sound (hT:TOk P TB) (hC:CallOk P Gl call) (hm:P.follows .mixedOrders=true):∀ (c:Code) {ρ:Ix→Option Nat} {o:List Obj} {R:Nat→Prop} {w:World} {t:Fr} {a:Act} {Q:Exit→Fr→List Obj→Prop} {Q':Exit→Act→World→Prop},dstOk n c=true →
  pwp TB call (Dr TB call) m c t o Q→SR Gl ρ o R w t a n→m≤o.length→(∀ e t' o' ρ' R' w' a',Q e t' o'→SR Gl ρ' o' R' w' t' a' n→m≤o'.length→EK m o ρ R w o' ρ' R' w'→Q' e a' w')→c.wp P Q' a w:=by
 intro c
 induction c with
 |skip =>
  intro ρ o R w t a Q Q' _ h hs hl hq
  exact wp_skip (hq _ _ _ _ _ _ _ h hs hl (EK.refl m hl))
 |region id ops d =>
  intro ρ o R w t a Q Q' hd h hs hl hq
  have hd':=ops_dst hd
  cases d with
  |false =>
   exact wp_region_list (ops_sound hT hC ops.toList hs hd' h fun t' o' ρ' R' w' a' hK hs' hx=>hq _ _ _ _ _ _ _ hK hs' (Nat.le_trans hl hx.len) (hx.ek hl))
  |true =>
   exact dr_sound hT hC hm (fun x hx=>hd' x (Array.mem_toList_iff.2 hx)) hs h (fun t' o' ρ' R' w' a' hK hs' hx=>hq _ _ _ _ _ _ _ hK hs' (Nat.le_trans hl hx.len) (hx.ek hl)) id
 |seq x y ihx ihy =>
  intro ρ o R w t a Q Q' hd h hs hl hq
  simp only [dstOk,Bool.and_eq_true] at hd
  refine wp_seq ?_
  have h':Sq m (fun Q=>pwp TB call (Dr TB call) m x t o Q) (fun t o=>pwp TB call (Dr TB call) m y t o Q) Q:=h
  cases h' with
  |d h =>
   refine ihx hd.1 h hs hl fun e t' o' ρ' R' w' a' hQ hs' hl' hx=>?_
   cases e with
   |normal =>
    cases hQ with
    |rf h1=>exact ihy hd.2 h1 hs' hl' fun e t2 o2 ρ2 R2 w2 a2 hQ2 hs2 hl2 hx2=>hq _ _ _ _ _ _ _ hQ2 hs2 hl2 (hx.trans hx2)
    |go L o1 hw h1 =>
     obtain ⟨ρ1,R1,hs1,hx1⟩:=wk_sound hs' hw
     exact ihy hd.2 h1 hs1 hw.len fun e t2 o2 ρ2 R2 w2 a2 hQ2 hs2 hl2 hx2=>hq _ _ _ _ _ _ _ hQ2 hs2 hl2 ((hx.trans hx1).trans hx2)
    |mv o1 hm h1 =>
     obtain ⟨ρ1,R1,hs1,hl1,hx1⟩:=mvs_sound hm hs' hl'
     exact ihy hd.2 h1 hs1 hl1 fun e t2 o2 ρ2 R2 w2 a2 hQ2 hs2 hl2 hx2=>hq _ _ _ _ _ _ _ hQ2 hs2 hl2 ((hx.trans hx1).trans hx2)
    |mg o1 hm L o2 hw h1 =>
     obtain ⟨ρ1,R1,hs1,hl1,hx1⟩:=mvs_sound hm hs' hl'
     obtain ⟨ρ2,R2,hs2,hx2⟩:=wk_sound hs1 hw
     exact ihy hd.2 h1 hs2 hw.len fun e t3 o3 ρ3 R3 w3 a3 hQ3 hs3 hl3 hx3=>hq _ _ _ _ _ _ _ hQ3 hs3 hl3 (((hx.trans hx1).trans hx2).trans hx3)
   |_=>exact hq _ _ _ _ _ _ _ hQ hs' hl' hx
  |j X L g inv h k =>
   refine ihx hd.1 h hs hl fun e t' o' ρ' R' w' a' hQ hs' hl' hx=>?_
   cases e with
   |normal =>
    obtain ⟨x1,hi,hw⟩:=hQ
    obtain ⟨ρ1,R1,hs1,hx1⟩:=wk_sound hs' hw
    exact ihy hd.2 (k x1 hi) hs1 hw.len fun e t2 o2 ρ2 R2 w2 a2 hQ2 hs2 hl2 hx2=>hq _ _ _ _ _ _ _ hQ2 hs2 hl2 ((hx.trans hx1).trans hx2)
   |_=>exact hq _ _ _ _ _ _ _ hQ hs' hl' hx
 |cond c x y ihx ihy =>
  intro ρ o R w t a Q Q' hd h hs hl hq
  simp only [dstOk,Bool.and_eq_true] at hd
  simp only [pwp] at h
  split at h
  ·rename_i b e
   refine wp_cond_split (hs.hf.at e).bool (fun hb=>ihx hd.1 (h.t hb) hs hl hq) fun hb=>ihy hd.2 (h.f hb) hs hl hq
  ·exact h.elim
 |block id c ih =>
  intro ρ o R w t a Q Q' hd h hs hl hq
  refine wp_block (ih hd h hs hl fun e t' o' ρ' R' w' a' hQ hs' hl' hx=>?_)
  cases e with
  |exit j =>
   simp only [Exit.inBlock]
   cases hj:Nat.beq j id with
   |true =>
    rw [if_pos (Nat.eq_of_beq_eq_true hj)]
    simp only [hj,cond_true] at hQ
    exact hq _ _ _ _ _ _ _ hQ hs' hl' hx
   |false =>
    rw [if_neg (Nat.ne_of_beq_eq_false hj)]
    simp only [hj,cond_false] at hQ
    exact hq _ _ _ _ _ _ _ hQ hs' hl' hx
  |_=>exact hq _ _ _ _ _ _ _ hQ hs' hl' hx
 |loop c ih =>
  intro ρ o R w t a Q Q' hd h hs hl hq
  have h':Lp m t o fun t o K=>pwp TB call (Dr TB call) m c t o fun e t o=>match e with
   |.normal=>K t o
   |e=>Q e t o:=h
  obtain ⟨X,L,g,inv,μ,⟨x0,hi0,hw0⟩,hr⟩:=h'.ex
  obtain ⟨ρ0,R0,hs0,hx0⟩:=wk_sound hs hw0
  refine wp_loop_ghost (fun k a' w'=>∃ x ρ' R',μ x=k∧inv x∧SR Gl ρ' (g x) R' w' (ofL (L x)) a' n∧m≤(g x).length∧EK m o ρ R w (g x) ρ' R' w') (μ x0) ⟨x0,ρ0,R0,rfl,hi0,hs0,hw0.len,hx0⟩ ?_
  rintro k a' w' ⟨x,ρ',R',rfl,hi,hs',hl',hx⟩
  refine ih hd (hr x hi) hs' hl' fun e t2 o2 ρ2 R2 w2 a2 hQ hs2 hl2 hx2=>?_
  cases e with
  |normal =>
   obtain ⟨x',hi',hlt,hw⟩:=hQ
   obtain ⟨ρ3,R3,hs3,hx3⟩:=wk_sound hs2 hw
   exact ⟨μ x',hlt,x',ρ3,R3,rfl,hi',hs3,hw.len,(hx.trans hx2).trans hx3⟩
  |_=>exact hq _ _ _ _ _ _ _ hQ hs2 hl2 (hx.trans hx2)
 |exit id =>
  intro ρ o R w t a Q Q' _ h hs hl hq
  exact wp_exit (hq _ _ _ _ _ _ _ h hs hl (EK.refl m hl))
 |ret =>
  intro ρ o R w t a Q Q' _ h hs hl hq
  exact wp_ret (hq _ _ _ _ _ _ _ h hs hl (EK.refl m hl))
 |_ =>
  intro ρ o R w t a Q Q' _ h
  exact h.elim
/-! ### Results -/
theorem retL_run (hT:TOk P TB) (hs:SR Gl ρ o R w t a n):∀ (l:List ResultVar) {K:List AV→Prop},retL TB t o l K →
  ∃ vs ys,K vs∧(∀ f:ResultVar→Sem Value,(∀ u,f (.tmp u)=pure (a.tmps.getD u Go.undef))→(∀ x ty,f (.cell x ty)=(do loadVar ty (← asAddr (a.tmps.getD x Go.undef))))→(l.mapM f).run P w=.ok ys w)∧ys.length=vs.length∧∀ j,j<vs.length→TR ρ o R w (vs.getD j .undef) (ys.getD j Go.undef)
 |[],K,h=>⟨[],[],h,fun f _ _=>by simp,rfl,fun j hj=>absurd hj (Nat.not_lt_zero _)⟩
 |.tmp x :: r,K,h=>by
  obtain ⟨vs,ys,h1,h2,h3,h4⟩:=retL_run hT hs r h
  refine ⟨t x :: vs,a.tmps.getD x Go.undef :: ys,h1,fun f hf hc=>by simp [List.mapM_cons,hf,h2 f hf hc],by simp [h3],fun j hj=>?_⟩
  cases j with
  |zero=>simpa using hs.hf x
  |succ j=>simpa using h4 j (by simpa using hj)
 |.cell x ty :: r,K,h=>by
  simp only [retL] at h
  split at h
  ·rename_i cs e
   obtain ⟨ad,g,e1,e2,e3⟩:=cellsAt_mem hs.hh (hs.hf x) e
   obtain ⟨v,y,hK,hv,hr⟩:=loadV_run hT e2 e3 h
   obtain ⟨vs,ys,h1,h2,h3,h4⟩:=retL_run hT hs r hK
   refine ⟨v :: vs,y :: ys,h1,fun f hf hc=>by rw [List.mapM_cons,hc,e1]; simp [asAddr,hr,h2 f hf hc],by simp [h3],fun j hj=>?_⟩
   cases j with
   |zero=>simpa using hv
   |succ j=>simpa using h4 j (by simpa using hj)
  ·exact h.elim
theorem ret_run (hT:TOk P TB) (hs:SR Gl ρ o R w t a n) {fn:Func} {K:AV→List Obj→Prop} (h:retP TB fn t o K):∃ r x,K r o∧(results fn a.tmps).run P w=.ok x w∧TR ρ o R w r x:=by
 unfold retP at h
 obtain ⟨vs,ys,h1,h2,h3,h4⟩:=retL_run hT hs fn.results.toList h
 rw [forceL_eq] at h1
 have hr:(results fn a.tmps).run P w=.ok (if h:ys.toArray.size=1 then ys.toArray[0] else .tuple ys.toArray) w:=by
  unfold results
  rw [show fn.results=fn.results.toList.toArray by simp,List.mapM_toArray]
  simp only [Sem.run_bind,Sem.run_map]
  rw [h2]
  ·simp
  ·intro u; rfl
  ·intro x ty; rfl
 have tup:ys.length≠1→K (.tup vs) o→∃ r x,K r o∧(results fn a.tmps).run P w=.ok x w∧TR ρ o R w r x:=by
  intro hl hK
  refine ⟨.tup vs,.tuple ys.toArray,hK,by rw [hr,dif_neg (by simpa using hl)],?_,fun hlv=>?_⟩
  ·simp only [beneath,beneathL_iff]
   intro v hv
   obtain ⟨j,hj,rfl⟩:=List.mem_iff_getElem.1 hv
   have:=(h4 j hj).be
   rwa [List.getD_eq_getElem?_getD,List.getElem?_eq_getElem hj] at this
  ·simp only [live,liveL_iff] at hlv
   exact .tup vs ys.toArray (by simp [h3]) fun j hj=>by
    have:=(h4 j hj).vr (hlv _ (getD_mem hj))
    simpa [List.getD_eq_getElem?_getD,Array.getD_eq_getD_getElem?] using this
 split at h1
 ·rename_i v
  cases ys with
  |nil=>simp at h3
  |cons y r =>
   cases r with
   |nil =>
    have:=h4 0 (by simp)
    exact ⟨v,y,h1,by rw [hr]; simp,by simpa using this⟩
   |cons _ _=>simp at h3
 ·rename_i hne
  refine tup (fun hl=>?_) h1
  rw [h3] at hl
  obtain ⟨v,hv⟩:=List.length_eq_one_iff.1 hl
  exact hne v hv
/-! ### A function's body -/
theorem argF_at:∀ (vs:List AV) (i x:Nat),argF vs i x=if i≤x then vs.getD (x-i) .undef else .undef
 |[],i,x=>by unfold argF; split <;> simp
 |v :: r,i,x=>by
  unfold argF upd
  cases e:Nat.beq x i with
  |true=>rw [Nat.eq_of_beq_eq_true e]; simp
  |false =>
   have hne:=Nat.ne_of_beq_eq_false e
   rw [cond_false,argF_at r (i+1) x]
   by_cases h:i+1≤x
   ·rw [if_pos h,if_pos (by omega),show x-i=(x-(i+1))+1 by omega,List.getD_cons_succ]
   ·rw [if_neg h,if_neg (by omega)]
structure FnOk (P:Program) (f:FuncId) (fn:Func):Prop where
 at_:P.funcs[f]?=some fn
 name : (fn.name == "runtime.NumGoroutine") = false
 dst:(match fn.body with
  |some c=>dstOk fn.ntmps c
  |none=>false)=true
theorem FnOk.has {f:FuncId} {fn:Func} (h:FnOk P f fn):HasBody P f:=by
 cases hb:fn.body with
 |none=>have:=h.dst; rw [hb] at this; cases this
 |some c=>exact ⟨fn,c,h.at_,h.name,hb⟩
theorem body_sound (hT:TOk P TB) (hC:CallOk P Gl call) (hm:P.follows .mixedOrders=true) {f:FuncId} {fn:Func} (hf:FnOk P f fn) {vs:List AV} {xs:Array Value} {K:AV→List Obj→Prop} (h:bodyP TB call (Dr TB call) m fn vs o K) (hh:HR Gl o ρ R w) (ha:ArgsR ρ o R w vs xs)
  (hl:m≤o.length) (hn:vs.length≤fn.ntmps) :
  Calls P f xs w fun e w'=>∃ r x o' ρ' R',e=.returned x∧K r o'∧HR Gl o' ρ' R' w'∧TR ρ' o' R' w' r x∧m≤o'.length∧EK m o ρ R w o' ρ' R' w':=by
 unfold bodyP at h
 have hd:=hf.dst
 cases hb:fn.body with
 |none=>rw [hb] at h; exact h.elim
 |some c =>
  rw [hb] at h hd
  simp only at h hd
  refine calls_of_wp hf.at_ hb ?_
  have hs:SR Gl ρ o R w (argF vs 0) { tmps:=xs ++ Array.replicate (fn.ntmps-xs.size) Go.undef,defers:=[] } fn.ntmps:=by
   refine ⟨hh,fun x=>?_,by simp [ha.1]; omega,rfl⟩
   rw [argF_at,if_pos (Nat.zero_le _),Nat.sub_zero]
   by_cases hx:x<vs.length
   ·have h1:(xs ++ Array.replicate (fn.ntmps-xs.size) Go.undef).getD x Go.undef=xs.getD x Go.undef:=by
     simp only [Array.getD_eq_getD_getElem?]
     rw [Array.getElem?_append_left (by rw [ha.1]; exact hx)]
    show TR ρ o R w _ ((xs ++ Array.replicate (fn.ntmps-xs.size) Go.undef).getD x Go.undef)
    rw [h1]
    exact ha.2 x hx
   ·rw [List.getD_eq_getElem?_getD,List.getElem?_eq_none (by omega)]
    exact .undef
  refine code_sound hT hC hm c hd h hs hl fun e t' o' ρ' R' w' a' hQ hs' hl' hx=>?_
  have fin:Wk m t' o' (fun t o=>retP TB fn t o K)→a'.defers=[]∧∃ v,(results fn a'.tmps).run P w'=.ok v w'∧∃ r x o2 ρ' R',Ending.returned v=.returned x∧K r o2∧HR Gl o2 ρ' R' w'∧TR ρ' o2 R' w' r x∧m≤o2.length∧EK m o ρ R w o2 ρ' R' w':=by
   intro hW
   cases hW with
   |rf h1 =>
    obtain ⟨r,x,g1,g2,g3⟩:=ret_run hT hs' h1
    exact ⟨hs'.df,x,g2,r,x,o',ρ',R',rfl,g1,hs'.hh,g3,hl',hx⟩
   |go L o1 hw h1 =>
    obtain ⟨ρ1,R1,hs1,hx1⟩:=wk_sound hs' hw
    obtain ⟨r,x,g1,g2,g3⟩:=ret_run hT hs1 h1
    exact ⟨hs'.df,x,g2,r,x,o1,ρ1,R1,rfl,g1,hs1.hh,g3,hw.len,hx.trans hx1⟩
   |mv o1 hm h1 =>
    obtain ⟨ρ1,R1,hs1,hl1,hx1⟩:=mvs_sound hm hs' hl'
    obtain ⟨r,x,g1,g2,g3⟩:=ret_run hT hs1 h1
    exact ⟨hs'.df,x,g2,r,x,o1,ρ1,R1,rfl,g1,hs1.hh,g3,hl1,hx.trans hx1⟩
   |mg o1 hm L o2 hw h1 =>
    obtain ⟨ρ1,R1,hs1,hl1,hx1⟩:=mvs_sound hm hs' hl'
    obtain ⟨ρ2,R2,hs2,hx2⟩:=wk_sound hs1 hw
    obtain ⟨r,x,g1,g2,g3⟩:=ret_run hT hs2 h1
    exact ⟨hs'.df,x,g2,r,x,o2,ρ2,R2,rfl,g1,hs2.hh,g3,hw.len,(hx.trans hx1).trans hx2⟩
  cases e with
  |normal=>exact fin hQ
  |ret=>exact fin hQ
  |_=>exact hQ.elim
end
end Go.Proofs.YtgdbhjmpkkbnnaaGreatDoor.Vc
end
section
/- Part T of the engine: contracts of functions that take and give data. -/
namespace Go.Proofs.YtgdbhjmpkkbnnaaGreatDoor.Vc
mutual
def viewV (o:List Obj):AV→Option (AV × Bool × Prop)
 |.row id sz off len=>match o[id]? with
  |some (.row s n f)=>cond (Nat.beq s sz) (some (.sl sz len fun i=>f (off+i),true,off+len≤n)) none
  |some (.nrow s n f none)=>cond (Nat.beq s sz) (some (.sl sz len fun i=>f (off+i),true,off+len≤n)) none
  |_=>none
 |.ptr ..|.eptr ..=>none
 |.agg l=>match viewL o l with
  |some (l,b,p)=>some (.agg l,b,p)
  |none=>none
 |.tup l=>match viewL o l with
  |some (l,b,p)=>some (.tup l,b,p)
  |none=>none
 |.fn f c d=>match viewL o c,viewL o d with
  |some (c,b,p),some (d,b',q)=>some (.fn f c d,b || b',p∧q)
  |_,_=>none
 |.undef=>some (.undef,false,True)
 |.int k n=>some (.int k n,false,True)
 |.bool b=>some (.bool b,false,True)
 |.str s=>some (.str s,false,True)
 |.sl s n f=>some (.sl s n f,false,True)
 |.ro cs=>some (.ro cs,false,True)
 |.nils=>some (.nils,false,True)
 |.nilp=>some (.nilp,false,True)
 |.nilf=>some (.nilf,false,True)
 |.nili=>some (.nili,false,True)
 |.ifc=>some (.ifc,false,True)
def viewL (o:List Obj):List AV→Option (List AV × Bool × Prop)
 |[]=>some ([],false,True)
 |v :: r=>match viewV o v,viewL o r with
  |some (v,false,_),some (r,b',q)=>some (v :: r,b',q)
  |some (v,true,p),some (r,_,q)=>some (v :: r,true,p∧q)
  |_,_=>none
end
mutual
def scalV:AV→Bool
 |.sl ..|.ro ..|.row ..|.ptr ..|.eptr ..=>false
 |.agg l=>scalL l
 |.tup l=>scalL l
 |.fn _ c d=>scalL c && scalL d
 |_=>true
def scalL:List AV→Bool
 |[]=>true
 |v :: r=>scalV v && scalL r
end
theorem scalL_iff:∀ {l:List AV},scalL l=true ↔ ∀ v∈l,scalV v=true
 |[]=>by simp [scalL]
 |v :: r=>by simp [scalL,scalL_iff (l:=r)]
def nor:Ix→Option Nat:=fun _=>none
inductive PV (R:Nat→Prop) (w:World):AV→Value→Prop
 |data {v x} (h:DR R w v x):PV R w v x
 |undef (x):PV R w .undef x
 |agg (l:List AV) (xs:Array Value) (h1:xs.size=l.length) (h2:∀ j,j<l.length→PV R w (l.getD j .undef) (xs.getD j Go.undef)):PV R w (.agg l) (.agg xs)
 |tup (l:List AV) (xs:Array Value) (h1:xs.size=l.length) (h2:∀ j,j<l.length→PV R w (l.getD j .undef) (xs.getD j Go.undef)):PV R w (.tup l) (.tuple xs)
 |fn (f:FuncId) (l m:List AV) (xs ys:Array Value) (h1:xs.size=l.length) (h2:∀ j,j<l.length→PV R w (l.getD j .undef) (xs.getD j Go.undef))
   (h3:ys.size=m.length) (h4:∀ j,j<m.length→PV R w (m.getD j .undef) (ys.getD j Go.undef)):PV R w (.fn f l m) (.func (.func f) xs ys)
section
variable {P:Program} {TB:TypeId→TI} {ρ:Ix→Option Nat} {o:List Obj} {R R':Nat→Prop} {w w':World} {Gl:List (Nat × Go.Obj)} {call:FuncId→List AV→List Obj→(AV→List Obj→Prop)→Prop} {n m:Nat}
def Rall (R:Nat→Prop) (ρ:Ix→Option Nat):Nat→Prop:=fun b=>R b∨∃ id,ρ id=some b
mutual
theorem view_VR (hh:HR Gl o ρ R w):∀ (v u:AV) (b:Bool) (p:Prop),viewV o v=some (u,b,p)→p→∀ x,TR ρ o R w v x→PV (Rall R ρ) w u x∧(b=false→PV R w u x)
 |.row id sz off len,u,b,p,h,hp,x,ht=>by
  simp only [viewV] at h
  split at h
  ·rename_i s k f e
   cases hs:Nat.beq s sz with
   |false=>rw [hs] at h; cases h
   |true =>
    rw [hs] at h
    simp only [cond_true,Option.some.injEq,Prod.mk.injEq] at h
    obtain ⟨rfl,rfl,rfl⟩:=h
    refine ⟨.data ((frozen_DR hh ht e hs hp).go (fun c hc=>?_) fun _ _=>rfl),fun q=>by cases q⟩
    rcases hc with hc|⟨x,_,hc⟩
    ·exact .inl hc
    ·exact .inr ⟨x,hc⟩
  ·rename_i s k f e
   cases hs:Nat.beq s sz with
   |false=>rw [hs] at h; cases h
   |true =>
    rw [hs] at h
    simp only [cond_true,Option.some.injEq,Prod.mk.injEq] at h
    obtain ⟨rfl,rfl,rfl⟩:=h
    exact ⟨.data (frozen_DRn hh ht e hs hp (fun _ h=>.inl h) fun x b _ hb=>.inr ⟨x,hb⟩),fun q=>by cases q⟩
  ·cases h
 |.ptr ..,_,_,_,h,_,_,_=>by simp [viewV] at h
 |.eptr ..,_,_,_,h,_,_,_=>by simp [viewV] at h
 |.agg l,u,b,p,h,hp,x,ht=>by
  simp only [viewV] at h
  split at h
  ·rename_i l' b' p' e
   simp only [Option.some.injEq,Prod.mk.injEq] at h
   obtain ⟨rfl,rfl,rfl⟩:=h
   obtain ⟨h1,h2,h3⟩:=viewL_VR hh l l' b' p' e hp
   have:=ht.vr (by simpa only [live] using h3)
   cases this with
   |data hd=>cases hd
   |agg _ xs k1 k2 =>
    have k3:∀ j,j<l.length→TR ρ o R w (l.getD j .undef) (xs.getD j Go.undef):=fun j hj=>.of (liveL_iff.1 h3 _ (getD_mem hj)) (k2 j hj)
    exact ⟨.agg _ _ (k1.trans h1.symm) fun j hj=>(h2 j (h1 ▸ hj) _ (k3 j (h1 ▸ hj))).1,fun q=>.agg _ _ (k1.trans h1.symm) fun j hj=>(h2 j (h1 ▸ hj) _ (k3 j (h1 ▸ hj))).2 q⟩
  ·cases h
 |.tup l,u,b,p,h,hp,x,ht=>by
  simp only [viewV] at h
  split at h
  ·rename_i l' b' p' e
   simp only [Option.some.injEq,Prod.mk.injEq] at h
   obtain ⟨rfl,rfl,rfl⟩:=h
   obtain ⟨h1,h2,h3⟩:=viewL_VR hh l l' b' p' e hp
   have:=ht.vr (by simpa only [live] using h3)
   cases this with
   |data hd=>cases hd
   |tup _ xs k1 k2 =>
    have k3:∀ j,j<l.length→TR ρ o R w (l.getD j .undef) (xs.getD j Go.undef):=fun j hj=>.of (liveL_iff.1 h3 _ (getD_mem hj)) (k2 j hj)
    exact ⟨.tup _ _ (k1.trans h1.symm) fun j hj=>(h2 j (h1 ▸ hj) _ (k3 j (h1 ▸ hj))).1,fun q=>.tup _ _ (k1.trans h1.symm) fun j hj=>(h2 j (h1 ▸ hj) _ (k3 j (h1 ▸ hj))).2 q⟩
  ·cases h
 |.fn f c d,u,b,p,h,hp,x,ht=>by
  simp only [viewV] at h
  split at h
  ·rename_i c' b1 p1 d' b2 p2 e1 e2
   simp only [Option.some.injEq,Prod.mk.injEq] at h
   obtain ⟨rfl,rfl,rfl⟩:=h
   obtain ⟨g1,g2,g3⟩:=viewL_VR hh c c' b1 p1 e1 hp.1
   obtain ⟨h1,h2,h3⟩:=viewL_VR hh d d' b2 p2 e2 hp.2
   have:=ht.vr (by simp only [live,g3,h3]; rfl)
   cases this with
   |data hd=>cases hd
   |fn _ _ _ xs ys k1 k2 q1 q2 =>
    have k3:∀ j,j<c.length→TR ρ o R w (c.getD j .undef) (xs.getD j Go.undef):=fun j hj=>.of (liveL_iff.1 g3 _ (getD_mem hj)) (k2 j hj)
    have q3:∀ j,j<d.length→TR ρ o R w (d.getD j .undef) (ys.getD j Go.undef):=fun j hj=>.of (liveL_iff.1 h3 _ (getD_mem hj)) (q2 j hj)
    refine ⟨.fn _ _ _ _ _ (k1.trans g1.symm) (fun j hj=>(g2 j (g1 ▸ hj) _ (k3 j (g1 ▸ hj))).1) (q1.trans h1.symm) fun j hj=>(h2 j (h1 ▸ hj) _ (q3 j (h1 ▸ hj))).1,fun q=>?_⟩
    rw [Bool.or_eq_false_iff] at q
    exact .fn _ _ _ _ _ (k1.trans g1.symm) (fun j hj=>(g2 j (g1 ▸ hj) _ (k3 j (g1 ▸ hj))).2 q.1) (q1.trans h1.symm) fun j hj=>(h2 j (h1 ▸ hj) _ (q3 j (h1 ▸ hj))).2 q.2
  ·cases h
 |.undef,u,b,p,h,_,x,_=>by
  simp only [viewV,Option.some.injEq,Prod.mk.injEq] at h
  obtain ⟨rfl,_,_⟩:=h
  exact ⟨.undef x,fun _=>.undef x⟩
 |.int k i,u,b,p,h,_,x,ht=>by
  simp only [viewV,Option.some.injEq,Prod.mk.injEq] at h
  obtain ⟨rfl,_,_⟩:=h
  cases ht.vr rfl with|data hd=>exact ⟨.data (hd.go (fun _ q=>.inl q) fun _ _=>rfl),fun _=>.data hd⟩
 |.bool i,u,b,p,h,_,x,ht=>by
  simp only [viewV,Option.some.injEq,Prod.mk.injEq] at h
  obtain ⟨rfl,_,_⟩:=h
  cases ht.vr rfl with|data hd=>exact ⟨.data (hd.go (fun _ q=>.inl q) fun _ _=>rfl),fun _=>.data hd⟩
 |.str i,u,b,p,h,_,x,ht=>by
  simp only [viewV,Option.some.injEq,Prod.mk.injEq] at h
  obtain ⟨rfl,_,_⟩:=h
  cases ht.vr rfl with|data hd=>exact ⟨.data (hd.go (fun _ q=>.inl q) fun _ _=>rfl),fun _=>.data hd⟩
 |.sl s i f,u,b,p,h,_,x,ht=>by
  simp only [viewV,Option.some.injEq,Prod.mk.injEq] at h
  obtain ⟨rfl,_,_⟩:=h
  cases ht.vr rfl with|data hd=>exact ⟨.data (hd.go (fun _ q=>.inl q) fun _ _=>rfl),fun _=>.data hd⟩
 |.ro cs,u,b,p,h,_,x,ht=>by
  simp only [viewV,Option.some.injEq,Prod.mk.injEq] at h
  obtain ⟨rfl,_,_⟩:=h
  cases ht.vr rfl with|data hd=>exact ⟨.data (hd.go (fun _ q=>.inl q) fun _ _=>rfl),fun _=>.data hd⟩
 |.nils,u,b,p,h,_,x,ht=>by
  simp only [viewV,Option.some.injEq,Prod.mk.injEq] at h
  obtain ⟨rfl,_,_⟩:=h
  cases ht.vr rfl with|data hd=>exact ⟨.data (hd.go (fun _ q=>.inl q) fun _ _=>rfl),fun _=>.data hd⟩
 |.nilp,u,b,p,h,_,x,ht=>by
  simp only [viewV,Option.some.injEq,Prod.mk.injEq] at h
  obtain ⟨rfl,_,_⟩:=h
  cases ht.vr rfl with|data hd=>exact ⟨.data (hd.go (fun _ q=>.inl q) fun _ _=>rfl),fun _=>.data hd⟩
 |.nilf,u,b,p,h,_,x,ht=>by
  simp only [viewV,Option.some.injEq,Prod.mk.injEq] at h
  obtain ⟨rfl,_,_⟩:=h
  cases ht.vr rfl with|data hd=>exact ⟨.data (hd.go (fun _ q=>.inl q) fun _ _=>rfl),fun _=>.data hd⟩
 |.nili,u,b,p,h,_,x,ht=>by
  simp only [viewV,Option.some.injEq,Prod.mk.injEq] at h
  obtain ⟨rfl,_,_⟩:=h
  cases ht.vr rfl with|data hd=>exact ⟨.data (hd.go (fun _ q=>.inl q) fun _ _=>rfl),fun _=>.data hd⟩
 |.ifc,u,b,p,h,_,x,ht=>by
  simp only [viewV,Option.some.injEq,Prod.mk.injEq] at h
  obtain ⟨rfl,_,_⟩:=h
  cases ht.vr rfl with|data hd=>exact ⟨.data (hd.go (fun _ q=>.inl q) fun _ _=>rfl),fun _=>.data hd⟩
theorem viewL_VR (hh:HR Gl o ρ R w):∀ (l k:List AV) (b:Bool) (p:Prop),viewL o l=some (k,b,p)→p→k.length=l.length∧(∀ j,j<l.length→∀ x,TR ρ o R w (l.getD j .undef) x→PV (Rall R ρ) w (k.getD j .undef) x∧(b=false→PV R w (k.getD j .undef) x))∧liveL o l=true
 |[],k,b,p,h,_=>by
  simp only [viewL,Option.some.injEq,Prod.mk.injEq] at h
  obtain ⟨rfl,_,_⟩:=h
  exact ⟨rfl,fun j hj=>absurd hj (Nat.not_lt_zero _),rfl⟩
 |v :: r,k,b,p,h,hp=>by
  simp only [viewL] at h
  split at h
  ·rename_i v' p1 r' b' q e1 e2
   simp only [Option.some.injEq,Prod.mk.injEq] at h
   obtain ⟨rfl,rfl,rfl⟩:=h
   obtain ⟨h1,h2,h3⟩:=viewL_VR hh r r' b' q e2 hp
   have hp1:p1:=view_true v v' p1 e1
   refine ⟨by simp [h1],fun j hj x hx=>?_,?_⟩
   ·cases j with
    |zero =>
     have:=view_VR hh v v' false p1 e1 hp1 x (by simpa using hx)
     exact ⟨by simpa using this.1,fun _=>by simpa using this.2 rfl⟩
    |succ j =>
     have:=h2 j (by simpa using hj) x (by simpa using hx)
     exact ⟨by simpa using this.1,fun q=>by simpa using this.2 q⟩
   ·simp only [liveL,h3,view_live v v' false p1 e1]
    rfl
  ·rename_i v' p1 r' b' q e1 e2
   simp only [Option.some.injEq,Prod.mk.injEq] at h
   obtain ⟨rfl,rfl,rfl⟩:=h
   obtain ⟨h1,h2,h3⟩:=viewL_VR hh r r' b' q e2 hp.2
   refine ⟨by simp [h1],fun j hj x hx=>?_,?_⟩
   ·refine ⟨?_,fun q=>by cases q⟩
    cases j with
    |zero=>simpa using (view_VR hh v v' true p1 e1 hp.1 x (by simpa using hx)).1
    |succ j=>simpa using (h2 j (by simpa using hj) x (by simpa using hx)).1
   ·simp only [liveL,h3,view_live v v' true p1 e1]
    rfl
  ·cases h
theorem view_live:∀ (v u:AV) (b:Bool) (p:Prop),viewV o v=some (u,b,p)→live o v=true
 |.row id sz off len,u,b,p,h=>by
  simp only [viewV] at h
  simp only [live]
  split at h
  ·rename_i s k f e
   cases hs:Nat.beq s sz with
   |false=>rw [hs] at h; cases h
   |true=>rw [e]; exact hs
  ·rename_i s k f e
   cases hs:Nat.beq s sz with
   |false=>rw [hs] at h; cases h
   |true=>rw [e]; exact hs
  ·cases h
 |.ptr ..,_,_,_,h=>by simp [viewV] at h
 |.eptr ..,_,_,_,h=>by simp [viewV] at h
 |.agg l,u,b,p,h=>by
  simp only [viewV] at h
  split at h
  ·rename_i e; simpa only [live] using viewL_live l _ _ _ e
  ·cases h
 |.tup l,u,b,p,h=>by
  simp only [viewV] at h
  split at h
  ·rename_i e; simpa only [live] using viewL_live l _ _ _ e
  ·cases h
 |.fn _ l k,u,b,p,h=>by
  simp only [viewV] at h
  split at h
  ·rename_i e1 e2
   simp only [live,viewL_live l _ _ _ e1,viewL_live k _ _ _ e2]
   rfl
  ·cases h
 |.undef,_,_,_,_=>rfl|.int ..,_,_,_,_=>rfl|.bool _,_,_,_,_=>rfl|.str _,_,_,_,_=>rfl|.sl ..,_,_,_,_=>rfl|.ro _,_,_,_,_=>rfl|.nils,_,_,_,_=>rfl|.nilp,_,_,_,_=>rfl|.nilf,_,_,_,_=>rfl|.nili,_,_,_,_=>rfl|.ifc,_,_,_,_=>rfl
theorem viewL_live:∀ (l k:List AV) (b:Bool) (p:Prop),viewL o l=some (k,b,p)→liveL o l=true
 |[],_,_,_,_=>rfl
 |v :: r,k,b,p,h=>by
  simp only [viewL] at h
  split at h
  ·rename_i e1 e2; simp only [liveL,view_live v _ _ _ e1,viewL_live r _ _ _ e2]; rfl
  ·rename_i e1 e2; simp only [liveL,view_live v _ _ _ e1,viewL_live r _ _ _ e2]; rfl
  ·cases h
theorem view_true:∀ (v u:AV) (p:Prop),viewV o v=some (u,false,p)→p
 |.row id sz off len,u,p,h=>by
  simp only [viewV] at h
  split at h
  ·rename_i s k f e
   cases hs:Nat.beq s sz <;> rw [hs] at h <;> simp at h
  ·rename_i s k f e
   cases hs:Nat.beq s sz <;> rw [hs] at h <;> simp at h
  ·cases h
 |.ptr ..,_,_,h=>by simp [viewV] at h
 |.eptr ..,_,_,h=>by simp [viewV] at h
 |.agg l,u,p,h=>by
  simp only [viewV] at h
  split at h
  ·rename_i l' b' p' e
   simp only [Option.some.injEq,Prod.mk.injEq] at h
   obtain ⟨_,rfl,rfl⟩:=h
   exact viewL_true l _ _ e
  ·cases h
 |.tup l,u,p,h=>by
  simp only [viewV] at h
  split at h
  ·rename_i l' b' p' e
   simp only [Option.some.injEq,Prod.mk.injEq] at h
   obtain ⟨_,rfl,rfl⟩:=h
   exact viewL_true l _ _ e
  ·cases h
 |.fn _ l k,u,p,h=>by
  simp only [viewV] at h
  split at h
  ·rename_i c' b1 p1 d' b2 p2 e1 e2
   simp only [Option.some.injEq,Prod.mk.injEq,Bool.or_eq_false_iff] at h
   obtain ⟨_,⟨rfl,rfl⟩,rfl⟩:=h
   exact ⟨viewL_true l _ _ e1,viewL_true k _ _ e2⟩
  ·cases h
 |.undef,_,_,h|.int ..,_,_,h|.bool _,_,_,h|.str _,_,_,h|.sl ..,_,_,h|.ro _,_,_,h|.nils,_,_,h|.nilp,_,_,h|.nilf,_,_,h|.nili,_,_,h|.ifc,_,_,h=>by
  simp only [viewV,Option.some.injEq,Prod.mk.injEq] at h
  obtain ⟨_,_,rfl⟩:=h
  trivial
theorem viewL_true:∀ (l k:List AV) (p:Prop),viewL o l=some (k,false,p)→p
 |[],k,p,h=>by
  simp only [viewL,Option.some.injEq,Prod.mk.injEq] at h
  obtain ⟨_,_,rfl⟩:=h
  trivial
 |v :: r,k,p,h=>by
  simp only [viewL] at h
  split at h
  ·rename_i v' p1 r' b' q e1 e2
   simp only [Option.some.injEq,Prod.mk.injEq] at h
   obtain ⟨_,rfl,rfl⟩:=h
   exact viewL_true r _ _ e2
  ·rename_i v' p1 r' b' q e1 e2
   simp at h
  ·cases h
end
end
end Go.Proofs.YtgdbhjmpkkbnnaaGreatDoor.Vc
end
section
/- Part U of the engine: calls by contracts; a contract out of a body. -/
namespace Go.Proofs.YtgdbhjmpkkbnnaaGreatDoor.Vc
section
variable {P:Program} {TB:TypeId→TI} {ρ:Ix→Option Nat} {o:List Obj} {R R':Nat→Prop} {w w':World} {Gl:List (Nat × Go.Obj)} {call:FuncId→List AV→List Obj→(AV→List Obj→Prop)→Prop} {n m:Nat}
theorem PV.vr {v:AV} {x:Value} (h:PV R w v x):VR ρ R w v x:=by
 induction h with
 |data h=>exact .data h
 |undef x=>exact .undef x
 |agg l xs h1 _ ih=>exact .agg l xs h1 ih
 |tup l xs h1 _ ih=>exact .tup l xs h1 ih
 |fn f l m xs ys h1 _ h3 _ ih1 ih2=>exact .fn f l m xs ys h1 ih1 h3 ih2
theorem getD_of_mem {v:AV} {l:List AV} (h:v∈l):∃ j,j<l.length∧l.getD j .undef=v:=by
 obtain ⟨j,hj,rfl⟩:=List.mem_iff_getElem.1 h
 exact ⟨j,hj,by rw [List.getD_eq_getElem?_getD,List.getElem?_eq_getElem hj]; rfl⟩
theorem PV.live {v:AV} {x:Value} (h:PV R w v x) (o:List Obj):Vc.live o v=true:=by
 induction h with
 |data h=>exact DR_live h
 |undef x=>rfl
 |agg l xs h1 _ ih =>
  simp only [Vc.live,liveL_iff]
  intro v hv
  obtain ⟨j,hj,rfl⟩:=getD_of_mem hv
  exact ih j hj
 |tup l xs h1 _ ih =>
  simp only [Vc.live,liveL_iff]
  intro v hv
  obtain ⟨j,hj,rfl⟩:=getD_of_mem hv
  exact ih j hj
 |fn f l m xs ys h1 _ h3 _ ih1 ih2 =>
  simp only [Vc.live,Bool.and_eq_true,liveL_iff]
  refine ⟨fun v hv=>?_,fun v hv=>?_⟩
  ·obtain ⟨j,hj,rfl⟩:=getD_of_mem hv
   exact ih1 j hj
  ·obtain ⟨j,hj,rfl⟩:=getD_of_mem hv
   exact ih2 j hj
theorem PV.tr {v:AV} {x:Value} (h:PV R w v x):TR ρ o R w v x:=.of (h.live o) h.vr
theorem PV.go {v:AV} {x:Value} (hR:∀ b,R b→R' b) (hw:∀ b,R b→w'.heap[b]?=w.heap[b]?) (h:PV R w v x):PV R' w' v x:=by
 induction h with
 |data h=>exact .data (h.go hR hw)
 |undef x=>exact .undef x
 |agg l xs h1 _ ih=>exact .agg l xs h1 ih
 |tup l xs h1 _ ih=>exact .tup l xs h1 ih
 |fn f l m xs ys h1 _ h3 _ ih1 ih2=>exact .fn f l m xs ys h1 ih1 h3 ih2
theorem PV.scal {v:AV} {x:Value} (h:PV R w v x):scalV v=true→PV R' w' v x:=by
 induction h with
 |data h =>
  intro hs
  cases h with
  |sl0=>cases hs
  |sl=>cases hs
  |ro=>cases hs
  |undef _ _=>exact .undef _
  |int=>exact .data (.int _ _)
  |bool=>exact .data (.bool _)
  |str=>exact .data (.str _)
  |nils=>exact .data (.nils _)
  |nilp=>exact .data .nilp
  |nilf=>exact .data .nilf
  |nili=>exact .data .nili
  |ifc ty v=>exact .data (.ifc ty v)
 |undef x=>exact fun _=>.undef x
 |agg l xs h1 _ ih =>
  intro hs
  exact .agg l xs h1 fun j hj=>ih j hj (scalL_iff.1 (by simpa only [scalV] using hs) _ (getD_mem hj))
 |tup l xs h1 _ ih =>
  intro hs
  exact .tup l xs h1 fun j hj=>ih j hj (scalL_iff.1 (by simpa only [scalV] using hs) _ (getD_mem hj))
 |fn f l m xs ys h1 _ h3 _ ih1 ih2 =>
  intro hs
  simp only [scalV,Bool.and_eq_true] at hs
  exact .fn f l m xs ys h1 (fun j hj=>ih1 j hj (scalL_iff.1 hs.1 _ (getD_mem hj))) h3 fun j hj=>ih2 j hj (scalL_iff.1 hs.2 _ (getD_mem hj))
def ArgsV (R:Nat→Prop) (w:World) (us:List AV) (xs:Array Value):Prop:=xs.size=us.length∧∀ j,j<us.length→PV R w (us.getD j .undef) (xs.getD j Go.undef)
structure After (Gl:List (Nat × Go.Obj)) (R:Nat→Prop) (w:World) (R':Nat→Prop) (w':World):Prop where
 lt:∀ b,R' b→b<w'.heap.size
 rmono:∀ b,R b→R' b
 rnew:∀ b,R' b→R b∨w.heap.size≤b
 size:w.heap.size≤w'.heap.size
 same:∀ b,b<w.heap.size→w'.heap[b]?=w.heap[b]?
 os:w'.os=w.os
 tape:w'.tape=w.tape
 output:w'.output=w.output
structure Lone (Gl:List (Nat × Go.Obj)) (R:Nat→Prop) (w:World):Prop where
 lt:∀ b,R b→b<w.heap.size
 gl:∀ p,p∈Gl→R p.1∧w.heap[p.1]?=some p.2
theorem Lone.hr (h:Lone Gl R w):HR Gl [] nor R w:=⟨fun _ _ h=>(by cases h),fun _ _ _ h=>(by cases h),fun _ _ h=>(by cases h),fun _ _ _ h=>(by cases h),fun b hb=>⟨h.lt b hb,fun _ h=>(by cases h)⟩,fun id ob h=>(by simp at h),h.gl⟩
structure Fits (P:Program) (Gl:List (Nat × Go.Obj)) (f:FuncId) (C:List AV→(AV→Prop)→Prop):Prop where
 has:HasBody P f
 mono:∀ us (K K':AV→Prop),(∀ r,K r→K' r)→C us K→C us K'
 ok:∀ us K,C us K→∀ R w xs,Lone Gl R w→ArgsV R w us xs→Calls P f xs w fun e w'=>∃ r x R',e=.returned x∧K r∧PV R' w' r x∧After Gl R w R' w'
abbrev Env:=List (FuncId × (List AV→(AV→Prop)→Prop))
def callE:Env→FuncId→List AV→List Obj→(AV→List Obj→Prop)→Prop
 |[],_,_,_,_=>False
 |(g,C) :: r,f,vs,o,K=>cond (Nat.beq f g) (match viewL o vs with
  |some (us,lent,p)=>Chk p∧C us fun u=>cond (!lent || scalV u) (K u o) False
  |none=>False) (callE r f vs o K)
theorem After.ex (hh:HR Gl o ρ R w) {R0 R1:Nat→Prop} (h:After Gl R0 w R1 w') {R2:Nat→Prop} (h1:∀ b,R b→R2 b) (h2:∀ b,R2 b→b<w'.heap.size∧(R b∨w.heap.size≤b)):EX o ρ R w o ρ R2 w'∧HR Gl o ρ R2 w':=by
 have hx:EX o ρ R w o ρ R2 w':=by
  refine ⟨Nat.le_refl _,(EX.refl o ρ R w).keep,h1,fun b hb=>?_,fun id b hb=>.inr ⟨id,hb⟩,h.size,fun b hb _=>h.same b hb,fun b xs ty hb=>⟨xs,?_,rfl⟩,h.os,h.tape,h.output⟩
  ·rcases (h2 b hb).2 with q|q
   ·exact .inl q
   ·exact .inr (.inl q)
  ·rw [h.same b (by exact (Array.getElem?_eq_some_iff.1 hb).1)]
   exact hb
 refine ⟨hx,hh.dom,hh.din,fun id b hb=>Nat.lt_of_lt_of_le (hh.lt id b hb) h.size,hh.inj,fun b hb=>⟨(h2 b hb).1,fun id hid=>?_⟩,fun j ob ho=>(hh.obj j ob ho).go hx hh.ro (fun _ _=>rfl) fun x b _ hb=>h.same b (hh.lt x b hb),fun p hp=>⟨h1 _ (hh.gl p hp).1,?_⟩⟩
 ·rcases (h2 b hb).2 with q|q
  ·exact (hh.ro b q).2 id hid
  ·have:=hh.lt id b hid; omega
 ·rw [h.same _ (hh.ro _ (hh.gl p hp).1).1]
  exact (hh.gl p hp).2
theorem callE_ok {E:Env} (hE:∀ p,p∈E→Fits P Gl p.1 p.2):CallOk P Gl (callE E):=by
 induction E with
 |nil=>exact ⟨fun _ _ _ _ h=>h.elim,fun _ _ _ _ h=>h.elim,fun _ _ _ _ _ _ h=>h.elim⟩
 |cons q r ih =>
  obtain ⟨g,C⟩:=q
  have ih:=ih fun p hp=>hE p (List.mem_cons_of_mem _ hp)
  have hF:=hE (g,C) List.mem_cons_self
  refine ⟨fun f vs o K h=>?_,fun f vs o K h ρ R w xs hh ha=>?_,fun f vs o K K' hk h=>?_⟩
  ·unfold callE at h
   cases e:Nat.beq f g with
   |true=>rw [Nat.eq_of_beq_eq_true e]; exact hF.has
   |false=>rw [e] at h; exact ih.has _ _ _ _ h
  ·unfold callE at h
   cases e:Nat.beq f g with
   |false=>rw [e] at h; exact ih.ok _ _ _ _ h ρ R w xs hh ha
   |true =>
    rw [e] at h
    obtain rfl:=Nat.eq_of_beq_eq_true e
    simp only [cond_true] at h
    split at h
    ·rename_i us lent p ev
     obtain ⟨⟨hp⟩,hC⟩:=h
     obtain ⟨g1,g2,_⟩:=viewL_VR hh vs us lent p ev hp
     cases lent with
     |false =>
      refine (hF.ok us _ hC R w xs ⟨fun b hb=>(hh.ro b hb).1,hh.gl⟩ ⟨ha.1.trans g1.symm,fun j hj=>(g2 j (g1 ▸ hj) _ (ha.2 j (g1 ▸ hj))).2 rfl⟩).mono fun e w' he=>?_
      obtain ⟨r,x,R1,rfl,hK,hv,hA⟩:=he
      obtain ⟨k1,k2⟩:=hA.ex hh hA.rmono fun b hb=>⟨hA.lt b hb,hA.rnew b hb⟩
      exact ⟨r,x,o,ρ,R1,rfl,by simpa using hK,k2,hv.tr,k1⟩
     |true =>
      refine (hF.ok us _ hC (Rall R ρ) w xs ⟨fun b hb=>?_,fun p hp=>⟨.inl (hh.gl p hp).1,(hh.gl p hp).2⟩⟩ ⟨ha.1.trans g1.symm,fun j hj=>(g2 j (g1 ▸ hj) _ (ha.2 j (g1 ▸ hj))).1⟩).mono fun e w' he=>?_
      ·rcases hb with hb|⟨id,hb⟩
       ·exact (hh.ro b hb).1
       ·exact hh.lt id b hb
      ·obtain ⟨r,x,R1,rfl,hK,hv,hA⟩:=he
       simp only [Bool.not_true,Bool.false_or] at hK
       obtain ⟨hs,hK⟩:=of_cond_true hK
       obtain ⟨k1,k2⟩:=hA.ex hh (R2:=R) (fun _ hb=>hb) fun b hb=>⟨Nat.lt_of_lt_of_le (hh.ro b hb).1 hA.size,.inl hb⟩
       exact ⟨r,x,o,ρ,R,rfl,hK,k2,(hv.scal hs).tr,k1⟩
    ·exact h.elim
  ·unfold callE at h ⊢
   cases e:Nat.beq f g with
   |false=>rw [e] at h; exact ih.mono _ _ _ _ _ hk h
   |true =>
    rw [e] at h
    simp only [cond_true] at h ⊢
    split at h
    ·refine ⟨h.1,hF.mono _ _ _ (fun r hr=>?_) h.2⟩
     obtain ⟨h1,h2⟩:=of_cond_true hr
     rw [h1]
     exact hk _ _ h2
    ·exact h
def out (K:AV→Prop):AV→List Obj→Prop:=fun r o=>match viewV o r with
 |some (u,_,p)=>Chk p∧K u
 |none=>False
theorem fits_of_body (hT:TOk P TB) (hC:CallOk P Gl call) (hm:P.follows .mixedOrders=true) {f:FuncId} {fn:Func} (hf:FnOk P f fn) {C:List AV→(AV→Prop)→Prop} (hM:∀ us (K K':AV→Prop),(∀ r,K r→K' r)→C us K→C us K')
  (hb:∀ us K,C us K→us.length≤fn.ntmps∧bodyP TB call (Dr TB call) 0 fn us [] (out K)):Fits P Gl f C:=by
 refine ⟨hf.has,hM,fun us K h R w xs hL ha=>?_⟩
 obtain ⟨h1,h2⟩:=hb us K h
 refine (body_sound hT hC hm hf h2 hL.hr ⟨ha.1,fun j hj=>(ha.2 j hj).tr⟩ (Nat.zero_le _) h1).mono fun e w' he=>?_
 obtain ⟨r,x,o',ρ',R',rfl,hK,hh',hv,_,hx⟩:=he
 unfold out at hK
 split at hK
 ·rename_i u b p ev
  obtain ⟨⟨hp⟩,hK⟩:=hK
  have hu:=(view_VR hh' r u b p ev hp x hv).1
  refine ⟨u,x,Rall R' ρ',rfl,hK,hu,⟨fun b hb=>?_,fun b hb=>.inl (hx.rmono b hb),fun b hb=>?_,hx.size,fun b hb=>hx.same b hb fun _ q=>(by cases q),hx.os,hx.tape,hx.output⟩⟩
  ·rcases hb with hb|⟨id,hb⟩
   ·exact (hh'.ro b hb).1
   ·exact hh'.lt id b hb
  ·rcases hb with hb|⟨id,hb⟩
   ·rcases hx.rnew b hb with q|q|⟨_,q⟩
    ·exact .inl q
    ·exact .inr q
    ·cases q
   ·rcases hx.pnew id b hb with q|⟨_,q⟩
    ·exact .inr q
    ·cases q
 ·exact hK.elim
end
end Go.Proofs.YtgdbhjmpkkbnnaaGreatDoor.Vc
end
section
/- Part V of the engine: contracts by ghosts. -/
namespace Go.Proofs.YtgdbhjmpkkbnnaaGreatDoor.Vc
mutual
def exV:AV→AV→Prop
 |.sl s n f,.sl z m g=>cond (Nat.beq s z) (Chk (n=m∧∀ i,i<n→f i=g i)) False
 |.nils,.sl _ m _=>Chk (m=0)
 |.int k a,.int j b=>cond (sameK k j) (Chk (a=b)) False
 |.bool a,.bool b=>Chk (a=b)
 |.str a,.str b=>Chk (a=b)
 |.ro a,.ro b=>Chk (a=b)
 |.nils,.nils=>True
 |.nilp,.nilp=>True
 |.nilf,.nilf=>True
 |.nili,.nili=>True
 |.ifc,.ifc=>True
 |.agg l,.agg m=>exL l m
 |.tup l,.tup m=>exL l m
 |.fn f a c,.fn g b d=>cond (Nat.beq f g) (exL a b∧exL c d) False
 |_,.undef=>True
 |_,_=>False
def exL:List AV→List AV→Prop
 |[],[]=>True
 |a :: l,b :: m=>exV a b∧exL l m
 |_,_=>False
end
section
variable {P:Program} {TB:TypeId→TI} {R:Nat→Prop} {w:World} {Gl:List (Nat × Go.Obj)} {call:FuncId→List AV→List Obj→(AV→List Obj→Prop)→Prop}
theorem DR.ext' {s m k:Nat} {f g:Nat→List AV} {y:Value} (h:DR R w (.sl s m f) y) (hk:m=k) (he:∀ i,i<m→f i=g i):DR R w (.sl s k g) y:=h.ext hk.symm fun i hi=>(he i (hk ▸ hi)).symm
mutual
theorem exV_PV:∀ (u v:AV),exV u v→∀ x,PV R w u x→PV R w v x
 |u,.undef,_,x,_=>.undef x
 |u,.sl z m g,h,x,hp=>by
  cases u <;> simp only [exV] at h
  case sl s n f =>
   obtain ⟨h1,⟨h2⟩⟩:=of_cond_true h
   obtain rfl:=Nat.eq_of_beq_eq_true h1
   cases hp with|data hd=>exact .data (hd.ext' h2.1 h2.2)
  case nils =>
   obtain rfl:=h.h
   cases hp with|data hd=>cases hd; exact .data (.sl0 _ _ _ _)
 |u,.int j b,h,x,hp=>by
  cases u <;> simp only [exV] at h
  obtain ⟨h1,⟨rfl⟩⟩:=of_cond_true h
  obtain rfl:_=j:=of_decide_eq_true h1
  exact hp
 |u,.bool b,h,x,hp=>by
  cases u <;> simp only [exV] at h
  obtain ⟨rfl⟩:=h
  exact hp
 |u,.str b,h,x,hp=>by
  cases u <;> simp only [exV] at h
  obtain ⟨rfl⟩:=h
  exact hp
 |u,.ro b,h,x,hp=>by
  cases u <;> simp only [exV] at h
  obtain ⟨rfl⟩:=h
  exact hp
 |u,.nils,h,x,hp=>by cases u <;> simp only [exV] at h; exact hp
 |u,.nilp,h,x,hp=>by cases u <;> simp only [exV] at h; exact hp
 |u,.nilf,h,x,hp=>by cases u <;> simp only [exV] at h; exact hp
 |u,.nili,h,x,hp=>by cases u <;> simp only [exV] at h; exact hp
 |u,.ifc,h,x,hp=>by cases u <;> simp only [exV] at h; exact hp
 |u,.row ..,h,_,_=>by cases u <;> simp only [exV] at h
 |u,.ptr ..,h,_,_=>by cases u <;> simp only [exV] at h
 |u,.eptr ..,h,_,_=>by cases u <;> simp only [exV] at h
 |u,.agg m,h,x,hp=>by
  cases u <;> simp only [exV] at h
  cases hp with
  |data hd=>cases hd
  |agg l xs h1 h2 =>
   obtain ⟨g1,g2⟩:=exL_PV _ m h
   exact .agg m xs (h1.trans g1) fun j hj=>g2 j (g1 ▸ hj) _ (h2 j (g1 ▸ hj))
 |u,.tup m,h,x,hp=>by
  cases u <;> simp only [exV] at h
  cases hp with
  |data hd=>cases hd
  |tup l xs h1 h2 =>
   obtain ⟨g1,g2⟩:=exL_PV _ m h
   exact .tup m xs (h1.trans g1) fun j hj=>g2 j (g1 ▸ hj) _ (h2 j (g1 ▸ hj))
 |u,.fn g b d,h,x,hp=>by
  cases u <;> simp only [exV] at h
  obtain ⟨h0,hq⟩:=of_cond_true h
  obtain rfl:=Nat.eq_of_beq_eq_true h0
  cases hp with
  |data hd=>cases hd
  |fn _ l k xs ys h1 h2 h3 h4 =>
   obtain ⟨g1,g2⟩:=exL_PV _ b hq.1
   obtain ⟨k1,k2⟩:=exL_PV _ d hq.2
   exact .fn _ b d xs ys (h1.trans g1) (fun j hj=>g2 j (g1 ▸ hj) _ (h2 j (g1 ▸ hj))) (h3.trans k1) fun j hj=>k2 j (k1 ▸ hj) _ (h4 j (k1 ▸ hj))
theorem exL_PV:∀ (l m:List AV),exL l m→l.length=m.length∧∀ j,j<l.length→∀ x,PV R w (l.getD j .undef) x→PV R w (m.getD j .undef) x
 |[],[],_=>⟨rfl,fun j hj=>absurd hj (Nat.not_lt_zero _)⟩
 |[],_ :: _,h=>by simp only [exL] at h
 |_ :: _,[],h=>by simp only [exL] at h
 |a :: l,b :: m,h=>by
  simp only [exL] at h
  obtain ⟨g1,g2⟩:=exL_PV l m h.2
  refine ⟨by simp [g1],fun j hj x hx=>?_⟩
  cases j with
  |zero=>simpa using exV_PV a b h.1 x (by simpa using hx)
  |succ j=>simpa using g2 j (by simpa using hj) x (by simpa using hx)
end
def con {X:Type} (args:X→List AV) (pre:X→Prop) (post:X→(AV→Prop)→Prop):List AV→(AV→Prop)→Prop:=fun us K=>∃ x,exL us (args x)∧Chk (pre x)∧post x K
theorem fits {X:Type} {args:X→List AV} {pre:X→Prop} {post:X→(AV→Prop)→Prop} (hT:TOk P TB) (hC:CallOk P Gl call) (hm:P.follows .mixedOrders=true) {f:FuncId} {fn:Func} (hf:FnOk P f fn) (hM:∀ x (K K':AV→Prop),(∀ r,K r→K' r)→post x K→post x K')
  (hb:∀ x (K:AV→Prop),pre x→post x K→(args x).length≤fn.ntmps∧bodyP TB call (Dr TB call) 0 fn (args x) [] (out K)):Fits P Gl f (con args pre post):=by
 have h0:=fits_of_body hT hC hm hf (C:=fun us K=>∃ x,us=args x∧pre x∧post x K) (fun us K K' hk ⟨x,h1,h2,h3⟩=>⟨x,h1,h2,hM x K K' hk h3⟩) fun us K ⟨x,h1,h2,h3⟩=>h1 ▸ hb x K h2 h3
 refine ⟨h0.has,fun us K K' hk ⟨x,h1,h2,h3⟩=>⟨x,h1,h2,hM x K K' hk h3⟩,fun us K ⟨x,h1,h2,h3⟩ R w xs hL ha=>h0.ok (args x) K ⟨x,rfl,h2.h,h3⟩ R w xs hL ?_⟩
 obtain ⟨g1,g2⟩:=exL_PV (R:=R) (w:=w) us (args x) h1
 exact ⟨ha.1.trans g1,fun j hj=>g2 j (g1 ▸ hj) _ (ha.2 j (g1 ▸ hj))⟩
theorem apnd {n b:Nat} (hb:b≤64) (h:n*64≤140737488355328):n*b≤140737488355328:=Nat.le_trans (Nat.mul_le_mul_left _ hb) h
theorem wi64_eq (x:Int):IntKind.i64.wrap x=if x % 18446744073709551616≥9223372036854775808 then x % 18446744073709551616-18446744073709551616 else x % 18446744073709551616:=by
 simp [IntKind.wrap,IntKind.signed,IntKind.bits]
theorem wi64 {x:Int} (h1:-9223372036854775808≤x) (h2:x≤9223372036854775807):IntKind.i64.wrap x=x:=by
 rw [wi64_eq]
 split <;> omega
theorem wu64 {x:Int} (h1:0≤x) (h2:x≤18446744073709551615):IntKind.u64.wrap x=x:=by
 simp only [IntKind.wrap,IntKind.signed,IntKind.bits,Bool.false_and]
 simp only [Bool.false_eq_true,if_false]
 omega
end
/-! ### The walk's steps, with what they ask looked for at once -/
section
variable {p A B:Prop} {K:AV→Prop}
theorem vA (hA:A) (h:p:=by first|exact trivial|exact rfl|exact ⟨rfl,fun _ _=>rfl⟩|exact ⟨rfl,rfl⟩|omega|assumption|(refine ⟨?_,?_⟩ <;> omega)|(refine ⟨?_,?_,apnd ?_ ?_⟩; (focus omega); (focus omega); (focus decide); (focus omega))|(refine ⟨?_,apnd ?_ ?_⟩; (focus omega); (focus decide); (focus omega))|(refine ⟨?_,?_⟩; (focus omega); (focus exact trivial))|(simp <;> fail)):Chk p∧A:=⟨⟨h⟩,hA⟩
theorem vW (h:p:=by first|exact trivial|exact rfl|exact ⟨rfl,fun _ _=>rfl⟩|exact ⟨rfl,rfl⟩|omega|assumption|(refine ⟨?_,?_⟩ <;> omega)|(refine ⟨?_,?_,apnd ?_ ?_⟩; (focus omega); (focus omega); (focus decide); (focus omega))|(refine ⟨?_,apnd ?_ ?_⟩; (focus omega); (focus decide); (focus omega))|(refine ⟨?_,?_⟩; (focus omega); (focus exact trivial))|(simp <;> fail)):Chk p:=⟨h⟩
theorem vB {x:Int} (hK:K (.int .i64 x)) (h1:-9223372036854775808≤x:=by omega) (h2:x≤9223372036854775807:=by omega):Wr .i64 x K:=.ex (wi64 h1 h2) hK
theorem vT [Decidable p] (h:A) (hp:p:=by first|omega|assumption):Br (decide p) A B:=br_dT hp h
theorem vF [Decidable p] (h:B) (hp:¬ p:=by first|omega|assumption):Br (decide p) A B:=br_dF hp h
theorem vP {b:Bool} (h:A) (hb:b=true:=by assumption):Br b A B:=br_hT hb h
theorem vQ {b:Bool} (h:B) (hb:b=false:=by assumption):Br b A B:=br_hF hb h
theorem vS {m : Nat} {A : (Exit → Fr → List Obj → Prop) → Prop} {B : Fr → List Obj → Prop} {Q : Exit → Fr → List Obj → Prop} (h : A fun e t o => match e with
   |.normal=>Wk m t o B
   |e=>Q e t o):Sq m A B Q:=.d h
theorem vR {m:Nat} {t:Fr} {o:List Obj} {F:Fr→List Obj→Prop} (h:F t o):Wk m t o F:=.rf h
theorem vM {b:Bool} (h:b=true→A) (h':b=false→B):Br b A B:=.mk h h'
end
theorem wq {p:Prop} (h:p:=by repeat' ((conv=>whnf); first|with_reducible exact True.intro|exact vW|with_reducible refine And.intro ?_ ?_)):p:=h
end Go.Proofs.YtgdbhjmpkkbnnaaGreatDoor.Vc
end
section
/- Part VA of the engine: contracts of functions that are handed local objects, and leave some. -/
namespace Go.Proofs.YtgdbhjmpkkbnnaaGreatDoor.Vc
mutual
def rnV (ν:Nat→Nat):AV→AV
 |.row id s p n=>.row (ν id) s p n
 |.ptr id p=>.ptr (ν id) p
 |.eptr id s i p=>.eptr (ν id) s i p
 |.agg l=>.agg (rnL ν l)
 |.tup l=>.tup (rnL ν l)
 |.fn f l m=>.fn f (rnL ν l) (rnL ν m)
 |.undef=>.undef
 |.int k n=>.int k n
 |.bool b=>.bool b
 |.str s=>.str s
 |.sl s n f=>.sl s n f
 |.ro cs=>.ro cs
 |.nils=>.nils
 |.nilp=>.nilp
 |.nilf=>.nilf
 |.nili=>.nili
 |.ifc=>.ifc
def rnL (ν:Nat→Nat):List AV→List AV
 |[]=>[]
 |v :: r=>rnV ν v :: rnL ν r
end
def rnO (ν:Nat→Nat):Obj→Obj
 |.box cs=>.box (rnL ν cs)
 |.row s n f=>.row s n f
 |.nrow s n f x=>.nrow s n f (x.map fun p=>(p.1,rnL ν p.2))
 |.dead=>.dead
theorem rnL_map (ν:Nat→Nat):∀ l,rnL ν l=l.map (rnV ν)
 |[]=>rfl
 |v :: r=>by rw [rnL,rnL_map ν r]; rfl
mutual
def scaR:AV→Bool
 |.sl ..|.ro ..=>false
 |.agg l=>scaL l
 |.tup l=>scaL l
 |.fn _ c d=>scaL c && scaL d
 |_=>true
def scaL:List AV→Bool
 |[]=>true
 |v :: r=>scaR v && scaL r
end
theorem scaL_iff:∀ {l:List AV},scaL l=true ↔ ∀ v∈l,scaR v=true
 |[]=>by simp [scaL]
 |v :: r=>by simp [scaL,scaL_iff (l:=r)]
def sca2:AV→Prop
 |.sl _ n g=>∀ i,i<n→scaL (g i)=true
 |v=>scaR v=true
def scaO:List Obj→Prop
 |[]=>True
 |.box cs :: r=>scaL cs=true∧scaO r
 |.row _ n f :: r=>(∀ i,i<n→scaL (f i)=true)∧scaO r
 |.nrow _ n f none :: r=>(∀ i,i<n→∀ v,v∈f i→sca2 v)∧scaO r
 |.nrow _ _ _ (some _) :: _=>False
 |.dead :: r=>scaO r
def outN (s:List Nat) (n:Nat):Nat→Nat:=fun j=>match s[j]? with
 |some id=>id
 |none=>n+(j-s.length)
def putO (ν:Nat→Nat) (o:List Obj):List Nat→List Obj→List Obj
 |id :: s,x :: p=>putO ν (o.set id (rnO ν x)) s p
 |_,_=>o
def newO (ν:Nat→Nat):List Nat→List Obj→List Obj
 |_ :: s,_ :: p=>newO ν s p
 |_,p=>p.map (rnO ν)
def mrg (s:List Nat) (o p:List Obj):List Obj:=putO (outN s o.length) o s p ++ newO (outN s o.length) s p
def back (o:List Obj) (s fz:List Nat) (K:AV→List Obj→Prop):AV→List Obj→Prop:=fun r p =>
 cond fz.isEmpty (K (rnV (outN s o.length) r) (mrg s o p)) (Chk (scaR r=true∧scaO p)∧K (rnV (outN s o.length) r) (mrg s o p))
abbrev GC:=List AV→List Obj→(AV→List Obj→Prop)→Prop
def asG (C:GC) (vs:List AV) (o:List Obj) (K:AV→List Obj→Prop):Prop :=
 ∃ us og s fz,wkN fz (s.map some)=true∧rvL (s.map some) fz o us vs∧wkO (s.map some) fz o (s.map some) og∧C us og (back o s fz K)
section
variable {P:Program} {TB:TypeId→TI} {ρ:Ix→Option Nat} {o og p:List Obj} {R R':Nat→Prop} {w w':World} {Gl:List (Nat × Go.Obj)} {call:FuncId→List AV→List Obj→(AV→List Obj→Prop)→Prop} {n m:Nat}
structure FitsG (P:Program) (Gl:List (Nat × Go.Obj)) (f:FuncId) (C:GC):Prop where
 has:HasBody P f
 mono:∀ us og (K K':AV→List Obj→Prop),(∀ r o',K r o'→K' r o')→C us og K→C us og K'
 ok:∀ us og K,C us og K→∀ ρ R w xs,HR Gl og ρ R w→ArgsR ρ og R w us xs →
  Calls P f xs w fun e w'=>∃ r x o' ρ' R',e=.returned x∧K r o'∧HR Gl o' ρ' R' w'∧TR ρ' o' R' w' r x∧og.length≤o'.length∧EK og.length og ρ R w o' ρ' R' w'
theorem wk_HR {π:List (Option Nat)} {fz:List Nat} (hh:HR Gl o ρ R w) (hN:wkN fz π=true) (hO:wkO π fz o π og):HR Gl og (ρw ρ π) (Rw R ρ fz) w:=by
 have hl:=wkO_len hO
 have inv:∀ {x:Ix} {b:Nat},ρw ρ π x=some b→∃ id,π[x.id]?=some (some id)∧ρ (x.at id)=some b:=by
  intro j b h
  unfold ρw at h
  split at h
  ·rename_i id e; exact ⟨id,e,h⟩
  ·cases h
 refine ⟨?_,?_,?_,?_,?_,?_,?_⟩
 ·intro j b h
  obtain ⟨id,e,_⟩:=inv h
  rw [← hl]
  exact lt_of_get e
 ·intro j q b h
  obtain ⟨id,e,h⟩:=inv h
  obtain ⟨s,m,f,x,e'⟩:=hh.din id q b h
  have hj:j<og.length:=by rw [← hl]; exact lt_of_get (show π[j]?=_ from e)
  have hk:=wkO_get hO (show π[j]?=_ from e) (List.getElem?_eq_getElem hj)
  unfold wk1 at hk
  simp only at hk
  rw [List.getElem?_eq_getElem hj]
  split at hk
  ·rename_i e2; rw [e'] at e2; cases e2
  ·rename_i e2; rw [e'] at e2; cases e2
  ·rename_i e1 e2; exact ⟨_,_,_,_,congrArg some e1⟩
  ·exact hk.elim
 ·intro j b h
  obtain ⟨id,_,h⟩:=inv h
  exact hh.lt _ b h
 ·intro i j b h1 h2
  obtain ⟨id1,e1,h1⟩:=inv h1
  obtain ⟨id2,e2,h2⟩:=inv h2
  have h3:=hh.inj _ _ b h1 h2
  have h4:id1=id2:=by have:=congrArg Ix.id h3; rwa [Ix.at_id,Ix.at_id] at this
  subst h4
  have h5:=wkN_once hN e1 e2
  have h6:=congrArg (fun x=>Ix.at x i.id) h3
  simp only [Ix.at_at] at h6
  rw [Ix.at_self,h5,Ix.at_self] at h6
  exact h6
 ·intro b hb
  rcases hb with hb|⟨k,hk,hb⟩
  ·refine ⟨(hh.ro b hb).1,fun j h=>?_⟩
   obtain ⟨id,_,h⟩:=inv h
   exact (hh.ro b hb).2 _ h
  ·refine ⟨hh.lt k b hb,fun j h=>?_⟩
   obtain ⟨id,e,h⟩:=inv h
   have h3:=hh.inj _ k b h hb
   have h4:id=k.id:=by rw [← h3,Ix.at_id]
   rw [h4] at e
   rw [wkN_fz hN e] at hk
   cases hk
 ·intro j ob h
  have hj:j<π.length:=by rw [hl]; exact lt_of_get h
  have hk:=wkO_get hO (List.getElem?_eq_getElem hj) h
  cases hp:π[j] with
  |none =>
   rw [hp] at hk
   have h0:ρw ρ π j=none:=by
    have:π[(j:Ix).id]?=some none:=by rw [show (j:Ix).id=j from rfl,List.getElem?_eq_getElem hj,hp]
    unfold ρw
    rw [this]
   obtain ⟨s,f,rfl|rfl⟩:=hk
   ·exact .inl ⟨rfl,h0⟩
   ·exact .inl ⟨rfl,rfl,h0⟩
  |some id =>
   rw [hp] at hk
   have hr:ρw ρ π j=ρ id:=ρw_is (by rw [List.getElem?_eq_getElem hj,hp])
   unfold wk1 at hk
   simp only at hk
   split at hk
   ·rename_i cs ds e
    obtain ⟨b,xs,ty,h1,h2,h3,h4⟩:=hh.obj id _ e
    obtain ⟨g1,g2,g3⟩:=rvL_VR hh hl cs ds hk
    exact ⟨b,xs,ty,hr.trans h1,h2,h3.trans g1.symm,fun i hi=>⟨beneathL_iff.1 g3 _ (getD_mem hi),fun _=>g2 i hi _ (h4 i (g1 ▸ hi))⟩⟩
   ·rename_i s m f sz k g e
    obtain ⟨rfl,rfl,he⟩:=hk
    rcases hh.obj id _ e with ⟨h1,h2⟩|⟨b,xs,ty,h1,h2,h3,h4,h5⟩
    ·exact .inl ⟨h1,hr.trans h2⟩
    ·exact .inr ⟨b,xs,ty,hr.trans h1,h2,h3,fun i hi=>by rw [he i hi]; exact h4 i hi,fun i hi q hq=>by rw [he i hi]; exact (h5 i hi q hq).rw⟩
   ·rename_i s m f sz k g e
    obtain ⟨rfl,rfl,he⟩:=hk
    rcases hh.obj id _ e with ⟨h1,h0,h2⟩|⟨b,xs,ty,h1,h2,h3,h4,h5,_⟩
    ·exact .inl ⟨h1,rfl,hr.trans h2⟩
    ·refine .inr ⟨b,xs,ty,hr.trans h1,h2,h3,fun i hi=>by rw [he i hi]; exact h4 i hi,fun i hi _ q hq=>?_,fun i cs e=>by cases e⟩
     rw [he i hi]
     exact (h5 i hi (by simp) q hq).mv Rw_mono (ρw_at (x:=.inn j _) (by rw [show (Ix.inn j (i*s+q)).id=j from rfl,List.getElem?_eq_getElem hj,hp]))
   ·exact hk.elim
 ·exact fun p hp=>⟨.inl (hh.gl p hp).1,(hh.gl p hp).2⟩
theorem scaR_DR {v:AV} {x:Value} (h:DR R w v x) (hs:scaR v=true) {Q:Nat→Prop} {w2:World}:DR Q w2 v x:=by
 cases h with
 |sl0=>cases hs
 |sl=>cases hs
 |ro=>cases hs
 |undef _ h=>exact .undef _ h
 |int=>exact .int _ _
 |bool=>exact .bool _
 |str=>exact .str _
 |nils=>exact .nils _
 |nilp=>exact .nilp
 |nilf=>exact .nilf
 |nili=>exact .nili
 |ifc ty v=>exact .ifc ty v
/-! ### The numbers -/
variable {s:List Nat}
theorem putO_len (ν:Nat→Nat):∀ (s:List Nat) (o p:List Obj),(putO ν o s p).length=o.length
 |[],o,p=>by cases p <;> rfl
 |id :: s,o,[]=>rfl
 |id :: s,o,x :: p=>by rw [putO,putO_len ν s]; simp
theorem putO_other (ν:Nat→Nat):∀ (s:List Nat) (o p:List Obj) (id:Nat),id ∉ s→(putO ν o s p)[id]?=o[id]?
 |[],o,p,id,_=>by cases p <;> rfl
 |k :: s,o,[],id,_=>rfl
 |k :: s,o,x :: p,id,h=>by
  simp only [List.mem_cons,not_or] at h
  rw [putO,putO_other ν s _ p id h.2,List.getElem?_set_ne (Ne.symm h.1)]
theorem putO_at (ν:Nat→Nat):∀ (s:List Nat) (o p:List Obj) (j id:Nat),s.Nodup→(∀ i∈s,i<o.length)→s[j]?=some id→s.length≤p.length→(putO ν o s p)[id]?=p[j]?.map (rnO ν)
 |[],o,p,j,id,_,_,h,_=>by simp at h
 |k :: s,o,[],j,id,_,_,_,h=>by simp at h
 |k :: s,o,x :: p,j,id,hn,hlt,hj,hl=>by
  rw [List.nodup_cons] at hn
  rw [putO]
  cases j with
  |zero =>
   simp at hj
   subst hj
   rw [putO_other ν s _ p _ hn.1]
   have:=hlt k List.mem_cons_self
   simp [this]
  |succ j =>
   rw [putO_at ν s _ p j id hn.2 (fun i hi=>by rw [List.length_set]; exact hlt i (List.mem_cons_of_mem _ hi)) (by simpa using hj) (by simpa using hl)]
   simp
theorem newO_eq (ν:Nat→Nat):∀ (s:List Nat) (p:List Obj),newO ν s p=(p.drop s.length).map (rnO ν)
 |[],p=>by cases p <;> rfl
 |k :: s,[]=>by simp [newO]
 |k :: s,x :: p=>by rw [newO,newO_eq ν s p]; simp
structure Num (s:List Nat) (o p:List Obj):Prop where
 nd:s.Nodup
 lt:∀ i∈s,i<o.length
 le:s.length≤p.length
theorem Num.len (_h:Num s o p):(mrg s o p).length=o.length+(p.length-s.length):=by
 unfold mrg
 rw [List.length_append,putO_len,newO_eq,List.length_map,List.length_drop]
theorem Num.other (_h:Num s o p) {id:Nat} (h1:id<o.length) (h2:id ∉ s):(mrg s o p)[id]?=o[id]?:=by
 unfold mrg
 rw [List.getElem?_append_left (by rw [putO_len]; exact h1),putO_other _ _ _ _ _ h2]
theorem Num.at (h:Num s o p) (j:Nat):(mrg s o p)[outN s o.length j]?=p[j]?.map (rnO (outN s o.length)):=by
 unfold outN mrg
 cases e:s[j]? with
 |some id =>
  have hid:=h.lt id (List.mem_of_getElem? e)
  simp only
  rw [List.getElem?_append_left (by rw [putO_len]; exact hid)]
  exact putO_at _ _ _ _ _ _ h.nd h.lt e h.le
 |none =>
  have hj:s.length≤j:=List.getElem?_eq_none_iff.1 e
  simp only
  rw [List.getElem?_append_right (by rw [putO_len]; omega),putO_len,newO_eq,List.getElem?_map,List.getElem?_drop]
  rw [show s.length+(o.length+(j-s.length)-o.length)=j by omega]
  rfl
def ρout (s:List Nat) (n:Nat) (ρ ρ':Ix→Option Nat):Ix→Option Nat:=fun x=>if x.id∈s then ρ' (x.at (s.idxOf x.id)) else if x.id<n then ρ x else ρ' (x.at (x.id-n+s.length))
theorem Num.ρat (h:Num s o p) {ρ':Ix→Option Nat} (y:Ix):ρout s o.length ρ ρ' (y.at (outN s o.length y.id))=ρ' y:=by
 unfold outN
 cases e:s[y.id]? with
 |some id =>
  simp only
  have hm:id∈s:=List.mem_of_getElem? e
  unfold ρout
  rw [Ix.at_id,if_pos hm]
  obtain ⟨hj,he⟩:=List.getElem?_eq_some_iff.1 e
  have:s.idxOf id=y.id:=by rw [← he]; exact h.nd.idxOf_getElem _ hj
  rw [this,Ix.at_at,Ix.at_self]
 |none =>
  simp only
  have hj:s.length≤y.id:=List.getElem?_eq_none_iff.1 e
  unfold ρout
  rw [Ix.at_id,if_neg (fun q=>by have:=h.lt _ q; omega),if_neg (by omega),show o.length+(y.id-s.length)-o.length+s.length=y.id by omega,Ix.at_at,Ix.at_self]
theorem Num.ρother {ρ':Ix→Option Nat} {x:Ix} {n:Nat} (h1:x.id<n) (h2:x.id ∉ s):ρout s n ρ ρ' x=ρ x:=by
 unfold ρout
 rw [if_neg h2,if_pos h1]
theorem Num.cases (_h:Num s o p) (id:Nat):(∃ j,id=outN s o.length j∧(id<o.length→s[j]?=some id))∨(id<o.length∧id ∉ s):=by
 by_cases hm:id∈s
 ·obtain ⟨j,hj,e⟩:=List.mem_iff_getElem.1 hm
  have e2:s[j]?=some id:=by rw [List.getElem?_eq_getElem hj,e]
  exact .inl ⟨j,by unfold outN; rw [e2],fun _=>e2⟩
 ·by_cases hl:id<o.length
  ·exact .inr ⟨hl,hm⟩
  ·refine .inl ⟨id-o.length+s.length,?_,fun q=>absurd q hl⟩
   unfold outN
   rw [List.getElem?_eq_none (by omega)]
   simp only
   omega
theorem Num.casesX (h:Num s o p) (x:Ix):(∃ y:Ix,x=y.at (outN s o.length y.id)∧(x.id<o.length→s[y.id]?=some x.id))∨(x.id<o.length∧x.id ∉ s):=by
 rcases h.cases x.id with ⟨j,e,h1⟩|h1
 ·exact .inl ⟨x.at j,by rw [Ix.at_at,Ix.at_id,← e,Ix.at_self],by rw [Ix.at_id]; exact h1⟩
 ·exact .inr h1
mutual
theorem rn_live (h:Num s o p):∀ v:AV,live (mrg s o p) (rnV (outN s o.length) v)=live p v
 |.row id z a b=>by
  simp only [rnV,live,h.at]
  cases p[id]? with
  |none=>rfl
  |some ob=>cases ob <;> rfl
 |.ptr id a=>by
  simp only [rnV,live,h.at]
  cases p[id]? with
  |none=>rfl
  |some ob=>cases ob <;> rfl
 |.eptr id z a b=>by
  simp only [rnV,live,h.at]
  cases p[id]? with
  |none=>rfl
  |some ob=>cases ob <;> rfl
 |.agg l=>by simp only [rnV,live,rn_liveL h l]
 |.tup l=>by simp only [rnV,live,rn_liveL h l]
 |.fn f l m=>by simp only [rnV,live,rn_liveL h l,rn_liveL h m]
 |.undef|.int _ _|.bool _|.str _|.sl _ _ _|.ro _|.nils|.nilp|.nilf|.nili=>rfl|.ifc=>rfl
theorem rn_liveL (h:Num s o p):∀ l:List AV,liveL (mrg s o p) (rnL (outN s o.length) l)=liveL p l
 |[]=>rfl
 |v :: r=>by simp only [rnL,liveL,rn_live h v,rn_liveL h r]
end
theorem Num.lt' (h:Num s o p) {id:Nat} (hid:id<p.length):outN s o.length id<(mrg s o p).length:=by
 rw [h.len]
 unfold outN
 cases e:s[id]? with
 |some k=>have:=h.lt k (List.mem_of_getElem? e); simp only; omega
 |none=>have:=List.getElem?_eq_none_iff.1 e; have:=h.le; simp only; omega
mutual
theorem rn_be (h:Num s o p):∀ v:AV,beneath p.length v=true→beneath (mrg s o p).length (rnV (outN s o.length) v)=true
 |.row id z a b,hb=>by simp only [rnV,beneath,decide_eq_true_eq] at hb ⊢; exact h.lt' hb
 |.ptr id a,hb=>by simp only [rnV,beneath,decide_eq_true_eq] at hb ⊢; exact h.lt' hb
 |.eptr id z a b,hb=>by simp only [rnV,beneath,decide_eq_true_eq] at hb ⊢; exact h.lt' hb
 |.agg l,hb=>by simp only [rnV,beneath] at hb ⊢; exact rn_beL h l hb
 |.tup l,hb=>by simp only [rnV,beneath] at hb ⊢; exact rn_beL h l hb
 |.fn f l m,hb=>by
  simp only [rnV,beneath,Bool.and_eq_true] at hb ⊢
  exact ⟨rn_beL h l hb.1,rn_beL h m hb.2⟩
 |.undef,_|.int _ _,_|.bool _,_|.str _,_|.sl _ _ _,_|.ro _,_|.nils,_|.nilp,_|.nilf,_|.nili,_=>rfl|.ifc,_=>rfl
theorem rn_beL (h:Num s o p):∀ l:List AV,beneathL p.length l=true→beneathL (mrg s o p).length (rnL (outN s o.length) l)=true
 |[],_=>rfl
 |v :: r,hb=>by
  simp only [rnL,beneathL,Bool.and_eq_true] at hb ⊢
  exact ⟨rn_be h v hb.1,rn_beL h r hb.2⟩
end
theorem rnV_scal {v:AV} {x:Value} {ν:Nat→Nat} (h:DR R w v x):rnV ν v=v:=by cases h <;> rfl
theorem rnL_getD {ν:Nat→Nat} {l:List AV} {j:Nat}:(rnL ν l).getD j .undef=rnV ν (l.getD j .undef):=by
 rw [rnL_map]
 simp only [List.getD_eq_getElem?_getD,List.getElem?_map]
 cases l[j]? <;> rfl
theorem scaR_getD {l:List AV} (h:scaL l=true) (j:Nat):scaR (l.getD j .undef)=true:=by
 by_cases hj:j<l.length
 ·exact scaL_iff.1 h _ (getD_mem hj)
 ·rw [List.getD_eq_getElem?_getD,List.getElem?_eq_none (by omega)]; rfl
theorem rn_VR {ρ1 ρ2:Ix→Option Nat} {ν:Nat→Nat} {R1 R2:Nat→Prop} (hρ:∀ j:Nat,ρ2 (ν j)=ρ1 j) {v:AV} {x:Value} (h:VR ρ1 R1 w v x):((∀ b,R1 b→R2 b)∨scaR v=true)→VR ρ2 R2 w (rnV ν v) x:=by
 induction h with
 |data h =>
  intro hs
  rw [rnV_scal h]
  rcases hs with hs|hs
  ·exact .data (h.go hs fun _ _=>rfl)
  ·exact .data (scaR_DR h hs)
 |undef x=>exact fun _=>.undef x
 |row h1 h2 h3 h4 h5=>exact fun _=>.row ((hρ _).trans h1) h2 h3 h4 h5
 |row0 id sz off a=>exact fun _=>.row0 _ _ _ _
 |ptr h1=>exact fun _=>.ptr ((hρ _).trans h1)
 |eptr h1=>exact fun _=>.eptr ((hρ _).trans h1)
 |agg l xs h1 _ ih =>
  intro hs
  refine .agg _ xs (by rw [rnL_map,List.length_map]; exact h1) fun j hj=>?_
  rw [rnL_getD]
  exact ih j (by rwa [rnL_map,List.length_map] at hj) (hs.imp id fun h=>scaR_getD (by simpa only [scaR] using h) j)
 |tup l xs h1 _ ih =>
  intro hs
  refine .tup _ xs (by rw [rnL_map,List.length_map]; exact h1) fun j hj=>?_
  rw [rnL_getD]
  exact ih j (by rwa [rnL_map,List.length_map] at hj) (hs.imp id fun h=>scaR_getD (by simpa only [scaR] using h) j)
 |fn f l m xs ys h1 _ h3 _ ih1 ih2 =>
  intro hs
  have hs1:(∀ b,R1 b→R2 b)∨(scaL l=true∧scaL m=true):=hs.imp id fun h=>by simpa only [scaR,Bool.and_eq_true] using h
  refine .fn f _ _ xs ys (by rw [rnL_map,List.length_map]; exact h1) (fun j hj=>?_) (by rw [rnL_map,List.length_map]; exact h3) fun j hj=>?_
  ·rw [rnL_getD]
   exact ih1 j (by rwa [rnL_map,List.length_map] at hj) (hs1.imp id fun h=>scaR_getD h.1 j)
  ·rw [rnL_getD]
   exact ih2 j (by rwa [rnL_map,List.length_map] at hj) (hs1.imp id fun h=>scaR_getD h.2 j)
def sca1:Obj→Prop
 |.box cs=>scaL cs=true
 |.row _ n f=>∀ i,i<n→scaL (f i)=true
 |.nrow _ n f x=>x=none∧∀ i,i<n→∀ v,v∈f i→sca2 v
 |.dead=>True
theorem scaO_get:∀ {p:List Obj},scaO p→∀ {j:Nat} {ob:Obj},p[j]?=some ob→sca1 ob
 |[],_,j,ob,h=>by simp at h
 |x :: r,hs,0,ob,h=>by
  simp at h
  subst h
  cases x with
  |box cs=>exact hs.1
  |row s n f=>exact hs.1
  |nrow s n f x =>
   cases x with
   |none=>exact ⟨rfl,hs.1⟩
   |some _=>exact hs.elim
  |dead=>trivial
 |x :: r,hs,j+1,ob,h=>by
  have hr:scaO r:=by rcases x with _|_|⟨_,_,_,_|_⟩|_ <;> first|exact hs.2|exact hs.elim|exact hs
  exact scaO_get hr (by simpa using h)
theorem call_back {fz:List Nat} (hh:HR Gl o ρ R w) (hN:wkN fz (s.map some)=true) (hO:wkO (s.map some) fz o (s.map some) og) {ρ':Ix→Option Nat} {r:AV} {x:Value} (hp:HR Gl p ρ' R' w') (hr:TR ρ' p R' w' r x) (hle:og.length≤p.length)
  (hx:EK og.length og (ρw ρ (s.map some)) (Rw R ρ fz) w p ρ' R' w') (hz:fz=[]∨(scaR r=true∧scaO p)):∃ ρf Rf,HR Gl (mrg s o p) ρf Rf w'∧TR ρf (mrg s o p) Rf w' (rnV (outN s o.length) r) x∧EX o ρ R w (mrg s o p) ρf Rf w':=by
 have hl:s.length=og.length:=by have:=wkO_len hO; rwa [List.length_map] at this
 have sget:∀ {j id:Nat},s[j]?=some id→(s.map some)[j]?=some (some id):=fun h=>by rw [List.getElem?_map,h]; rfl
 have num:Num s o p:=by
  refine ⟨?_,fun i hi=>?_,by rw [hl]; exact hle⟩
  ·refine List.pairwise_iff_getElem.2 fun i j hi hj hij e=>?_
   have h1:s[i]?=some s[i]:=List.getElem?_eq_getElem hi
   have h2:s[j]?=some s[i]:=by rw [List.getElem?_eq_getElem hj,e]
   have:=wkN_once hN (sget h1) (sget h2)
   omega
  ·obtain ⟨j,hj,rfl⟩:=List.mem_iff_getElem.1 hi
   have h1:s[j]?=some s[j]:=List.getElem?_eq_getElem hj
   obtain ⟨x,hx⟩:∃ x,og[j]?=some x:=⟨_,List.getElem?_eq_getElem (by omega)⟩
   have hk:=wkO_get hO (sget h1) hx
   unfold wk1 at hk
   simp only at hk
   split at hk
   ·rename_i e; exact lt_of_get e
   ·rename_i e; exact lt_of_get e
   ·rename_i e; exact lt_of_get e
   ·exact hk.elim
 have sub:∀ {x:Ix} {b:Nat},ρw ρ (s.map some) x=some b→∃ id,s[x.id]?=some id∧ρ (x.at id)=some b:=by
  intro x b h
  unfold ρw at h
  split at h
  ·rename_i id e
   rw [List.getElem?_map] at e
   cases e2:s[x.id]? with
   |none=>rw [e2] at e; simp at e
   |some k =>
    rw [e2] at e
    simp at e
    subst e
    exact ⟨k,rfl,h⟩
  ·cases h
 have keep:∀ {b:Nat},b<w.heap.size→(∀ x:Ix,x.id∈s→ρ x≠some b)→w'.heap[b]?=w.heap[b]?:=fun hb hn=>hx.same _ hb fun j hj=>by
  obtain ⟨id,h1,h2⟩:=sub hj
  exact hn _ (by rw [Ix.at_id]; exact List.mem_of_getElem? h1) h2
 obtain ⟨Rf,hRf,hR1,hR2,hR3⟩:∃ Rf:Nat→Prop,((∀ b,R' b→Rf b)∨(scaR r=true∧scaO p))∧(∀ b,R b→Rf b)∧(∀ b,Rf b→R b∨(R' b∧(w.heap.size≤b∨∃ x:Ix,x.id∈s∧ρ x=some b)))∧(∀ b,Rf b→R' b):=by
  rcases hz with rfl|hz
  ·refine ⟨R',.inl fun _ h=>h,fun b hb=>hx.rmono b (.inl hb),fun b hb=>?_,fun _ h=>h⟩
   rcases hx.rnew b hb with (h|⟨id,h,_⟩)|h|⟨j,h⟩
   ·exact .inl h
   ·simp at h
   ·exact .inr ⟨hb,.inl h⟩
   ·obtain ⟨id,h1,h2⟩:=sub h
    exact .inr ⟨hb,.inr ⟨_,by rw [Ix.at_id]; exact List.mem_of_getElem? h1,h2⟩⟩
  ·exact ⟨R,.inr hz,fun _ h=>h,fun b hb=>.inl hb,fun b hb=>hx.rmono b (.inl hb)⟩
 have hρ:∀ y:Ix,ρout s o.length ρ ρ' (y.at (outN s o.length y.id))=ρ' y:=num.ρat
 have old:∀ {x:Ix} {b:Nat},ρ' x=some b→w.heap.size≤b∨∃ x:Ix,x.id∈s∧ρ x=some b:=fun h=>by
  rcases hx.pnew _ _ h with h|⟨j,h⟩
  ·exact .inl h
  ·obtain ⟨id,h1,h2⟩:=sub h
   exact .inr ⟨_,by rw [Ix.at_id]; exact List.mem_of_getElem? h1,h2⟩
 have toTR:∀ {v:AV} {y:Value},TR ρ' p R' w' v y→((∀ b,R' b→Rf b)∨scaR v=true)→TR (ρout s o.length ρ ρ') (mrg s o p) Rf w' (rnV (outN s o.length) v) y:=fun h hs =>
  ⟨rn_be num _ h.be,fun hv=>rn_VR (fun j=>hρ (j:Ix)) (h.vr (by rwa [rn_live num] at hv)) hs⟩
 have ex:EX o ρ R w (mrg s o p) (ρout s o.length ρ ρ') Rf w':=by
  refine ⟨by rw [num.len]; omega,fun id hid=>?_,hR1,fun b hb=>?_,fun id b hb=>?_,hx.size,fun b hb hn=>keep hb fun id _=>hn id,hx.shape,hx.os,hx.tape,hx.output⟩
  ·rcases num.cases id with ⟨j,e,hj⟩|⟨_,hn⟩
   ·have hsj:=hj hid
    have hjl:j<og.length:=by rw [← hl]; exact lt_of_get hsj
    have hk:=hx.keep j hjl
    have e1:(mrg s o p)[id]?=p[j]?.map (rnO (outN s o.length)):=by rw [e]; exact num.at j
    have e2:ρout s o.length ρ ρ' id=ρ' j:=by rw [e]; exact hρ (j:Ix)
    have e3:ρw ρ (s.map some) j=ρ id:=ρw_is (sget hsj)
    obtain ⟨ob,hob⟩:∃ x,og[j]?=some x:=⟨_,List.getElem?_eq_getElem hjl⟩
    have hw:=wkO_get hO (sget hsj) hob
    rw [e1,e2]
    cases hpj:p[j]? with
    |none=>trivial
    |some q =>
     rw [hpj] at hk
     cases q with
     |box cs =>
      obtain ⟨⟨ds,hd⟩,hk⟩:=hk
      rw [hd] at hob
      cases hob
      unfold wk1 at hw
      simp only at hw
      split at hw
      ·rename_i e4; exact ⟨⟨_,e4⟩,hk.trans e3⟩
      ·rename_i e5 _; cases e5
      ·rename_i e5 _; cases e5
      ·exact hw.elim
     |row sz k f =>
      obtain ⟨⟨n',f',hd⟩,hk⟩:=hk
      rw [hd] at hob
      cases hob
      unfold wk1 at hw
      simp only at hw
      split at hw
      ·rename_i e5 _; cases e5
      ·rename_i e5 e4
       cases e5
       obtain ⟨rfl,_⟩:=hw
       exact ⟨⟨_,_,e4⟩,hk.trans e3⟩
      ·rename_i e5 _; cases e5
      ·exact hw.elim
     |nrow sz k f x =>
      obtain ⟨⟨ob',hd,hz⟩,hk⟩:=hk
      rw [hd] at hob
      cases hob
      unfold wk1 at hw
      simp only at hw
      split at hw
      ·cases hz
      ·rename_i e4
       obtain ⟨rfl,_⟩:=hw
       exact ⟨⟨_,e4,hz⟩,hk.trans e3⟩
      ·rename_i e4
       obtain ⟨rfl,_⟩:=hw
       exact ⟨⟨_,e4,hz⟩,hk.trans e3⟩
      ·exact hw.elim
     |dead=>trivial
   ·rw [num.other hid hn,Num.ρother (x:=(id:Ix)) hid hn]
    split
    ·rename_i e; exact ⟨⟨_,e⟩,rfl⟩
    ·rename_i e; exact ⟨⟨_,_,e⟩,rfl⟩
    ·rename_i e; exact ⟨⟨_,e,rfl⟩,rfl⟩
    ·trivial
  ·rcases hR2 b hb with h|⟨_,h|⟨id,_,h⟩⟩
   ·exact .inl h
   ·exact .inr (.inl h)
   ·exact .inr (.inr ⟨id,h⟩)
  ·rcases num.casesX id with ⟨j,e,_⟩|⟨h1,hn⟩
   ·rw [e,hρ j] at hb
    rcases old hb with h|⟨i,_,h⟩
    ·exact .inl h
    ·exact .inr ⟨i,h⟩
   ·rw [Num.ρother h1 hn] at hb
    exact .inr ⟨id,hb⟩
 refine ⟨ρout s o.length ρ ρ',Rf,⟨fun id b hb=>?_,fun id q b hb=>?_,fun id b hb=>?_,fun i j b h1 h2=>?_,fun b hb=>⟨?_,fun id hid=>?_⟩,fun id ob hob=>?_,fun q hq=>⟨hR1 _ (hh.gl q hq).1,?_⟩⟩,toTR hr (hRf.imp id And.left),ex⟩
 ·rcases num.casesX id with ⟨j,e,_⟩|⟨h1,hn⟩
  ·rw [e,hρ j] at hb
   rw [e,Ix.at_id]
   exact num.lt' (hp.dom j b hb)
  ·rw [num.len]; omega
 ·rcases num.casesX (.inn id q) with ⟨y,e,_⟩|⟨h1,hn⟩
  ·rw [e,hρ y] at hb
   cases y with
   |ob i=>cases e
   |inn i q' =>
    have e1:id=outN s o.length i:=congrArg Ix.id e
    obtain ⟨z,m,f,x,e2⟩:=hp.din i q' b hb
    refine ⟨z,m,f,x.map fun p=>(p.1,rnL (outN s o.length) p.2),?_⟩
    rw [e1,num.at i,e2]
    rfl
  ·rw [Num.ρother h1 hn] at hb
   obtain ⟨z,m,f,x,e2⟩:=hh.din id q b hb
   exact ⟨z,m,f,x,(num.other (show id<o.length from h1) (show id ∉ s from hn)).trans e2⟩
 ·rcases num.casesX id with ⟨j,e,_⟩|⟨h1,hn⟩
  ·rw [e,hρ j] at hb
   exact hp.lt j b hb
  ·rw [Num.ρother h1 hn] at hb
   exact Nat.lt_of_lt_of_le (hh.lt id b hb) hx.size
 ·have mix:∀ {j i:Ix},ρ' j=some b→i.id<o.length→i.id ∉ s→ρ i=some b→False:=fun h h1 h2 h3=>by
   rcases old h with h|⟨k,hk,h⟩
   ·have:=hh.lt _ _ h3; omega
   ·exact h2 (hh.inj _ _ _ h h3 ▸ hk)
  rcases num.casesX i with ⟨a,ea,_⟩|⟨a1,a2⟩ <;> rcases num.casesX j with ⟨c,ec,_⟩|⟨c1,c2⟩
  ·rw [ea,hρ] at h1
   rw [ec,hρ] at h2
   rw [ea,ec,hp.inj a c b h1 h2]
  ·rw [ea,hρ] at h1
   rw [Num.ρother c1 c2] at h2
   exact (mix h1 c1 c2 h2).elim
  ·rw [ec,hρ] at h2
   rw [Num.ρother a1 a2] at h1
   exact (mix h2 a1 a2 h1).elim
  ·rw [Num.ρother a1 a2] at h1
   rw [Num.ρother c1 c2] at h2
   exact hh.inj i j b h1 h2
 ·exact (hp.ro b (hR3 b hb)).1
 ·rcases num.casesX id with ⟨j,e,_⟩|⟨h1,hn⟩
  ·rw [e,hρ j] at hid
   exact (hp.ro b (hR3 b hb)).2 j hid
  ·rw [Num.ρother h1 hn] at hid
   rcases hR2 b hb with h|⟨_,h|⟨i,hi,h⟩⟩
   ·exact (hh.ro b h).2 id hid
   ·have:=hh.lt id b hid; omega
   ·exact hn (hh.inj i id b h hid ▸ hi)
 ·rcases num.cases id with ⟨j,e,_⟩|⟨h1,hn⟩
  ·have hρj:ρout s o.length ρ ρ' id=ρ' j:=by rw [e]; exact hρ (j:Ix)
   rw [e,num.at j] at hob
   cases hpj:p[j]? with
   |none=>rw [hpj] at hob; cases hob
   |some q =>
    rw [hpj] at hob
    simp only [Option.map_some,Option.some.injEq] at hob
    subst hob
    have hq:=hp.obj j q hpj
    have hsc:(∀ b,R' b→Rf b)∨sca1 q:=hRf.imp (fun h=>h) fun h=>scaO_get h.2 hpj
    cases q with
    |box cs =>
     obtain ⟨b,xs,ty,g1,g2,g3,g4⟩:=hq
     refine ⟨b,xs,ty,hρj.trans g1,g2,by rw [rnL_map,List.length_map]; exact g3,fun i hi=>?_⟩
     rw [rnL_getD]
     exact toTR (g4 i (by rwa [rnL_map,List.length_map] at hi)) (hsc.imp (fun h=>h) fun h=>scaR_getD h i)
    |row z k f =>
     rcases hq with ⟨g1,g2⟩|⟨b,xs,ty,g1,g2,g3,g4,g5⟩
     ·exact .inl ⟨g1,hρj.trans g2⟩
     ·refine .inr ⟨b,xs,ty,hρj.trans g1,g2,g3,g4,fun i hi a ha=>?_⟩
      rcases hsc with h|h
      ·exact (g5 i hi a ha).go h fun _ _=>rfl
      ·exact scaR_DR (g5 i hi a ha) (scaR_getD (h i hi) a)
    |nrow z k f x =>
     rcases hq with ⟨g1,g0,g2⟩|⟨b,xs,ty,g1,g2,g3,g4,g5,g6⟩
     ·exact .inl ⟨g1,by rw [g0]; rfl,hρj.trans g2⟩
     ·refine .inr ⟨b,xs,ty,hρj.trans g1,g2,g3,g4,fun i hi hne a ha=>?_,fun i cs hc=>?_⟩
      ·have hne':x.map (·.1)≠some i:=by
        intro q; apply hne
        cases x with
        |none=>cases q
        |some p=>exact q
       have hr:ρout s o.length ρ ρ' (.inn id (i*z+a))=ρ' (.inn j (i*z+a)):=by rw [e]; exact hρ (.inn j (i*z+a))
       rcases hsc with h|h
       ·exact (g5 i hi hne' a ha).mv h hr
       ·have h2:sca2 ((f i).getD a .undef):=h.2 i hi _ (getD_mem (by rw [g4 i hi]; exact ha))
        rcases g5 i hi hne' a ha with ⟨q1,q2⟩|⟨s1,len,g,q1,q2,q3⟩
        ·refine .inl ⟨q1,scaR_DR q2 ?_⟩
         cases hv:(f i).getD a .undef <;> rw [hv] at q1 <;> first|rfl|cases q1
        ·refine .inr ⟨s1,len,g,q1,q2,?_⟩
         rcases q3 with q3|⟨b1,ys,ty1,cap,e1,e2,e3,e4,e5,e6,e7⟩
         ·exact .inl q3
         ·rw [q1] at h2
          exact .inr ⟨b1,ys,ty1,cap,e1,hr.trans e2,e3,e4,e5,e6,fun i' hi' j' hj'=>scaR_DR (e7 i' hi' j' hj') (scaR_getD (h2 i' hi') j')⟩
      ·cases x with
       |none=>cases hc
       |some pr =>
        simp only [Option.map_some,Option.some.injEq,Prod.mk.injEq] at hc
        obtain ⟨rfl,rfl⟩:=hc
        obtain ⟨k1,k2,k3⟩:=g6 pr.1 pr.2 rfl
        refine ⟨k1,by rw [rnL_map,List.length_map]; exact k2,fun a ha=>?_⟩
        rw [rnL_getD]
        exact toTR (k3 a ha) (hsc.imp (fun h=>h) fun h=>by cases h.1)
    |dead=>exact hρj.trans hq
  ·rw [num.other h1 hn] at hob
   exact (hh.obj id ob hob).go ex hh.ro (fun x hx=>Num.ρother (by omega) (by rw [hx]; exact hn)) fun x b hx hb=>keep (hh.lt x b hb) fun i hi h=>hn (by rw [← hx,← hh.inj i x b h hb]; exact hi)
 ·have hb:=(hh.gl q hq).1
  rw [keep (hh.ro _ hb).1 fun i _=>(hh.ro _ hb).2 i]
  exact (hh.gl q hq).2
structure CK (P:Program) (Gl:List (Nat × Go.Obj)) (f:FuncId) (c:List AV→List Obj→(AV→List Obj→Prop)→Prop):Prop where
 has:∀ vs o K,c vs o K→HasBody P f
 ok:∀ vs o K,c vs o K→∀ ρ R w xs,HR Gl o ρ R w→ArgsR ρ o R w vs xs→Rets P Gl ρ o R w f xs K
 mono:∀ vs o (K K':AV→List Obj→Prop),(∀ r o',K r o'→K' r o')→c vs o K→c vs o K'
theorem asG_ok {f:FuncId} {C:GC} (hF:FitsG P Gl f C):CK P Gl f (asG C):=by
 refine ⟨fun _ _ _ _=>hF.has,fun vs o K ⟨us,og,s,fz,hN,hA,hO,hC⟩ ρ R w xs hh ha=>?_,fun vs o K K' hk ⟨us,og,s,fz,hN,hA,hO,hC⟩=>⟨us,og,s,fz,hN,hA,hO,hF.mono us og _ _ (fun r p h=>?_) hC⟩⟩
 ·obtain ⟨g1,g2,g3⟩:=rvL_VR hh (wkO_len hO) us vs hA
  refine (hF.ok us og _ hC (ρw ρ (s.map some)) (Rw R ρ fz) w xs (wk_HR hh hN hO) ⟨ha.1.trans g1.symm,fun j hj=>⟨beneathL_iff.1 g3 _ (getD_mem hj),fun _=>g2 j hj _ (ha.2 j (g1 ▸ hj))⟩⟩).mono fun e w' he=>?_
  obtain ⟨r,x,p,ρ',R',rfl,hK,hp,hr,hle,hx⟩:=he
  unfold back at hK
  obtain ⟨hz,hK⟩:(fz=[]∨(scaR r=true∧scaO p))∧K (rnV (outN s o.length) r) (mrg s o p):=by
   cases fz with
   |nil=>exact ⟨.inl rfl,hK⟩
   |cons a l=>exact ⟨.inr hK.1.h,hK.2⟩
  obtain ⟨ρf,Rf,k1,k2,k3⟩:=call_back hh hN hO hp hr hle hx hz
  exact ⟨_,x,_,ρf,Rf,rfl,hK,k1,k2,k3⟩
 ·unfold back at h ⊢
  cases fz with
  |nil=>exact hk _ _ h
  |cons a l=>exact ⟨h.1,hk _ _ h.2⟩
abbrev EnvG:=List (FuncId × GC)
def callX (E:Env):EnvG→FuncId→List AV→List Obj→(AV→List Obj→Prop)→Prop
 |[],f,vs,o,K=>callE E f vs o K
 |(g,C) :: r,f,vs,o,K=>cond (Nat.beq f g) (asG C vs o K) (callX E r f vs o K)
theorem callX_ok {E:Env} (hE:∀ p,p∈E→Fits P Gl p.1 p.2):∀ {G:EnvG},(∀ p,p∈G→FitsG P Gl p.1 p.2)→CallOk P Gl (callX E G)
 |[],_=>callE_ok hE
 |(g,C) :: r,hG=>by
  have ih:=callX_ok hE fun p hp=>hG p (List.mem_cons_of_mem _ hp)
  have hF:=asG_ok (hG (g,C) List.mem_cons_self)
  refine ⟨fun f vs o K h=>?_,fun f vs o K h=>?_,fun f vs o K K' hk h=>?_⟩
  ·unfold callX at h
   cases e:Nat.beq f g with
   |true=>rw [e] at h; rw [Nat.eq_of_beq_eq_true e]; exact hF.has vs o K h
   |false=>rw [e] at h; exact ih.has _ _ _ _ h
  ·unfold callX at h
   cases e:Nat.beq f g with
   |true=>rw [e] at h; rw [Nat.eq_of_beq_eq_true e]; exact hF.ok vs o K h
   |false=>rw [e] at h; exact ih.ok _ _ _ _ h
  ·unfold callX at h ⊢
   cases e:Nat.beq f g with
   |true=>rw [e] at h; exact hF.mono vs o K K' hk h
   |false=>rw [e] at h; exact ih.mono _ _ _ _ _ hk h
def conG {X:Type} (args:X→List AV) (objs:X→List Obj) (pre:X→Prop) (post:X→(AV→List Obj→Prop)→Prop):GC:=fun us og K=>∃ x,us=args x∧og=objs x∧Chk (pre x)∧post x K
structure WkS (m:Nat) (t:Fr) (o:List Obj) (F:Fr→List Obj→Prop):Prop where
 h:Wk m t o F
theorem wk_at (id:Nat) {m k:Nat} {t:Fr} {o:List Obj} {reg:Array Oper→Fr→List Obj→(Fr→List Obj→Prop)→Prop} {ops:Array Oper} {d:Bool} {Q:Exit→Fr→List Obj→Prop} (h:WkS m t o (fun t o=>pwp TB call reg k (.region id ops d) t o Q)):Wk m t o (fun t o=>pwp TB call reg k (.region id ops d) t o Q):=h.h
theorem wk_at1 (id:Nat) {m k:Nat} {t:Fr} {o:List Obj} {reg:Array Oper→Fr→List Obj→(Fr→List Obj→Prop)→Prop} {ops:Array Oper} {d:Bool} {c:Code} {Q:Exit→Fr→List Obj→Prop} (h:WkS m t o (fun t o=>pwp TB call reg k (.seq (.region id ops d) c) t o Q)):Wk m t o (fun t o=>pwp TB call reg k (.seq (.region id ops d) c) t o Q):=h.h
theorem wk_at2 (id:Nat) {m k:Nat} {t:Fr} {o:List Obj} {reg:Array Oper→Fr→List Obj→(Fr→List Obj→Prop)→Prop} {ops:Array Oper} {d:Bool} {c c':Code} {Q:Exit→Fr→List Obj→Prop} (h:WkS m t o (fun t o=>pwp TB call reg k (.seq (.seq (.region id ops d) c) c') t o Q)):Wk m t o (fun t o=>pwp TB call reg k (.seq (.seq (.region id ops d) c) c') t o Q):=h.h
def outG (m:Nat) (K:AV→List Obj→Prop):AV→List Obj→Prop:=fun r o=>∃ r2 o2 π fz,wkM m π 0=true∧wkN fz π=true∧rv π fz o r2 r∧wkO π fz o π o2∧K r2 o2
theorem fitsG {X:Type} {args:X→List AV} {objs:X→List Obj} {pre:X→Prop} {post:X→(AV→List Obj→Prop)→Prop} (hT:TOk P TB) (hC:CallOk P Gl call) (hm:P.follows .mixedOrders=true) {f:FuncId} {fn:Func} (hf:FnOk P f fn)
  (hM:∀ x (K K':AV→List Obj→Prop),(∀ r o',K r o'→K' r o')→post x K→post x K')
  (hb:∀ x (K:AV→List Obj→Prop),pre x→post x K→(args x).length≤fn.ntmps∧bodyP TB call (Dr TB call) (objs x).length fn (args x) (objs x) (outG (objs x).length K)):FitsG P Gl f (conG args objs pre post):=by
 refine ⟨hf.has,fun us og K K' hk ⟨x,h1,h2,h3,h4⟩=>⟨x,h1,h2,h3,hM x K K' hk h4⟩,fun us og K ⟨x,h1,h2,h3,h4⟩ ρ R w xs hh ha=>?_⟩
 subst h1 h2
 obtain ⟨g1,g2⟩:=hb x K h3.h h4
 refine (body_sound hT hC hm hf g2 hh ha (Nat.le_refl _) g1).mono fun e w' he=>?_
 obtain ⟨r,v,o',ρ',R',rfl,⟨r2,o2,π,fz,k1,k2,k3,k4,hK⟩,hh',hv,hl,hx⟩:=he
 have hs:SR Gl ρ' o' R' w' (upd (fun _=>.undef) 0 r) { tmps:=#[v],defers:=[] } 1:=by
  refine ⟨hh',fun j=>?_,rfl,rfl⟩
  cases j with
  |zero=>exact hv
  |succ j=>exact .undef
 have hW:WkTo (objs x).length (upd (fun _=>.undef) 0 r) o' [(0,r2)] o2:=⟨π,fz,k1,k2,⟨k3,trivial⟩,k4⟩
 obtain ⟨ρ2,R2,hs2,hx2⟩:=wk_sound hs hW
 exact ⟨r2,v,o2,ρ2,R2,rfl,hK,hs2.hh,hs2.hf 0,hW.len,hx.trans hx2⟩
end
end Go.Proofs.YtgdbhjmpkkbnnaaGreatDoor.Vc
end
section
/- Part LB: a library's proved contract as one of ours. -/
namespace Go.Proofs.YtgdbhjmpkkbnnaaGreatDoor.Vc
open Go.RowKit Go.Lib Go.Sort
variable {P:Program} {Gl:List (Nat × Go.Obj)}
def valOf:AV→Value
 |.int k n=>.int k n
 |.bool b=>.bool b
 |.str s=>.string s
 |_=>Go.undef
def isPl:AV→Bool
 |.int _ _=>true
 |.bool _=>true
 |.str _=>true
 |_=>false
theorem getD_lt {us:List AV} {i:Nat} (hi:i<us.length):us.getD i .undef=us[i]:=by simp [hi]
theorem pv_pl {R:Nat→Prop} {w:World} {v:AV} {x:Value} (h:isPl v=true) (hp:PV R w v x):x=valOf v:=by
 cases v <;> simp [isPl] at h <;> cases hp <;> rename_i hd <;> cases hd <;> rfl
theorem pl_pv {R:Nat→Prop} {w:World} {v:AV} (h:isPl v=true):PV R w v (valOf v):=by
 cases v <;> simp [isPl] at h <;> refine .data ?_ <;> constructor
theorem args_pl {R:Nat→Prop} {w:World} {us:List AV} {xs:Array Value} (h:us.all isPl=true) (ha:ArgsV R w us xs):xs=(us.map valOf).toArray:=by
 apply Array.ext
 ·simpa using ha.1
 ·intro i h1 h2
  have hi:i<us.length:=by simpa using h2
  have:=pv_pl (by rw [getD_lt hi]; exact List.all_eq_true.1 h _ (List.getElem_mem hi)) (ha.2 i hi)
  rw [getD_lt hi,Array.getD_eq_getD_getElem?,Array.getElem?_eq_getElem h1] at this
  simpa using this
theorem fits_pl {X:Type} {args:X→List AV} {pre:X→Prop} {f:FuncId} (res:X→AV) (has:HasBody P f) (ha:∀ x,(args x).all isPl=true) (hr:∀ x,isPl (res x)=true)
  (ok:∀ x,pre x→∀ w:World,(∀ p,p∈Gl→w.heap[p.1]?=some p.2)→Calls P f ((args x).map valOf).toArray w fun e w'=>e=.returned (valOf (res x))∧∃ B,w.heap.size≤B∧Below B w w') :
  Fits P Gl f (con args pre fun x K=>K (res x)):=by
 refine ⟨has,fun us K K' hk ⟨x,h1,h2,h3⟩=>⟨x,h1,h2,hk _ h3⟩,?_⟩
 rintro us K ⟨x,h1,h2,h3⟩ R w xs hL hA
 obtain ⟨g1,g2⟩:=exL_PV (R:=R) (w:=w) us (args x) h1
 have hA':ArgsV R w (args x) xs:=⟨hA.1.trans g1,fun j hj=>g2 j (g1 ▸ hj) _ (hA.2 j (g1 ▸ hj))⟩
 obtain rfl:=args_pl (ha x) hA'
 refine (ok x h2.h w fun p hp=>(hL.gl p hp).2).mono fun e w' he=>?_
 obtain ⟨rfl,B,hB,hb⟩:=he
 exact ⟨res x,_,R,rfl,h3,pl_pv (hr x),⟨fun b hb'=>Nat.lt_of_lt_of_le (hL.lt b hb') hb.size,fun _ h=>h,fun _ h=>.inl h,hb.size,fun b hlt=>hb.block b (by omega),hb.os,hb.tape,hb.output⟩⟩
theorem wu8 {x:Int} (h1:0≤x) (h2:x≤255):IntKind.u8.wrap x=x:=by
 simp only [IntKind.wrap,IntKind.signed,IntKind.bits,Bool.false_and]
 simp only [Bool.false_eq_true,if_false]
 omega
theorem v8 {K:AV→Prop} {x:Int} (hK:K (.int .u8 x)) (h1:0≤x:=by omega) (h2:x≤255:=by omega):Wr .u8 x K:=.ex (wu8 h1 h2) hK
structure Hid (Q:Prop):Prop where
 h:Q
theorem vz {P Q:Prop} (h:Q) (f:Hid Q→P:=by intro h; ((conv=>whnf); first|refine vA ?_|with_reducible first|refine v8 ?_|refine Ch.l ?_|refine vS ?_|refine vR ?_|refine vB ?_|refine br_nt ?_|refine br_tt ?_|refine br_ff ?_|refine vP ?_|refine vQ ?_|refine vT ?_|refine vF ?_|refine br_and ?_|refine br_or ?_); (repeat ((conv=>whnf); first|refine vA ?_|with_reducible first|refine v8 ?_|refine Ch.l ?_|refine vS ?_|refine vR ?_|refine vB ?_|refine br_nt ?_|refine br_tt ?_|refine br_ff ?_|refine vP ?_|refine vQ ?_|refine vT ?_|refine vF ?_|refine br_and ?_|refine br_or ?_)); exact h.h):P:=f ⟨h⟩
end Go.Proofs.YtgdbhjmpkkbnnaaGreatDoor.Vc
end
section
/- Part LA: strings.IndexAny at space and newline, for every string: out of the library's own text. -/
namespace Go.Proofs.YtgdbhjmpkkbnnaaGreatDoor.Vc
open Go.Proofs Go.Shelf Go.RowKit Go.Lib
variable {P:Program} {ρ:Ren}
def sn:ByteArray:=⟨#[32,10]⟩
end Go.Proofs.YtgdbhjmpkkbnnaaGreatDoor.Vc
end
section
/- Part LA2. -/
namespace Go.Proofs.YtgdbhjmpkkbnnaaGreatDoor.Vc
open Go.Proofs Go.Shelf Go.RowKit Go.Lib
variable {P:Program} {ρ:Ren}
end Go.Proofs.YtgdbhjmpkkbnnaaGreatDoor.Vc
end
section
/- Part LA3: strings.ContainsAny at space and newline. -/
namespace Go.Proofs.YtgdbhjmpkkbnnaaGreatDoor.Vc
open Go.Proofs Go.Shelf Go.RowKit Go.Lib
variable {P:Program} {ρ:Ren}
end Go.Proofs.YtgdbhjmpkkbnnaaGreatDoor.Vc
end
section
/- Part W0: what is known of the program. -/
namespace Go.Proofs.YtgdbhjmpkkbnnaaGreatDoor.Vc
open Go.Proofs
def TT:List (TypeId × TI) :=
[(3,⟨1,.int .i64,[.int .i64 0],8,false⟩),
   (37,⟨4,.struct [(0,34),(3,35)],[.int .i64 0,.nils,.nils,.nils],80,false⟩),
   (34,⟨3,.struct [(0,32),(2,25)],[.int .i64 0,.nils,.nils],56,false⟩),
   (32,⟨2,.struct [(0,3),(1,22)],[.int .i64 0,.nils],32,false⟩),
   (22,⟨1,.slice 3,[.nils],24,false⟩),
   (25,⟨1,.slice 9,[.nils],24,false⟩),
   (9,⟨1,.str,[.str ⟨#[]⟩],16,false⟩),
   (35,⟨1,.slice 34,[.nils],24,false⟩),
   (106,⟨1,.slice 131,[.nils],24,false⟩),
   (131,⟨3,.struct [(0,3),(1,3),(2,3)],[.int .i64 0,.int .i64 0,.int .i64 0],24,true⟩),
   (55,⟨4,.struct [(0,3),(1,3),(2,3),(3,9)],[.int .i64 0,.int .i64 0,.int .i64 0,.str ⟨#[]⟩],40,true⟩),
   (4,⟨1,.bool,[.bool false],1,false⟩),
   (62,⟨1,.slice 55,[.nils],24,false⟩),
   (30,⟨4,.struct [(0,27),(3,28)],[.int .i64 0,.nils,.nils,.nils],80,false⟩),
   (27,⟨3,.struct [(0,24),(2,25)],[.int .i64 0,.nils,.nils],56,false⟩),
   (24,⟨2,.struct [(0,3),(1,22)],[.int .i64 0,.nils],32,false⟩),
   (28,⟨1,.slice 27,[.nils],24,false⟩),
   (5,⟨1,.int .u8,[.int .u8 0],1,false⟩),
   (71,⟨3,.struct [(0,9),(1,9),(2,3)],[.str ⟨#[]⟩,.str ⟨#[]⟩,.int .i64 0],40,true⟩),
   (123,⟨1,.slice 5,[.nils],24,false⟩),
   (169,⟨3,.struct [(0,9),(1,4),(2,3)],[.str ⟨#[]⟩,.bool false,.int .i64 0],32,true⟩),
   (51,⟨4,.struct [(0,3),(1,3),(2,3),(3,9)],[.int .i64 0,.int .i64 0,.int .i64 0,.str ⟨#[]⟩],40,true⟩),
   (205,⟨1,.int .u64,[.int .u64 0],8,false⟩),
   (68,⟨3,.struct [(0,9),(1,9),(2,3)],[.str ⟨#[]⟩,.str ⟨#[]⟩,.int .i64 0],40,true⟩),
   (176,⟨2,.struct [(0,174),(1,123)],[.nilp,.nils],32,false⟩),
   (174,⟨1,.ptr,[.nilp],8,false⟩),
   (157,⟨2,.struct [(0,9),(1,3)],[.str ⟨#[]⟩,.int .i64 0],24,true⟩),
   (58,⟨1,.slice 51,[.nils],24,false⟩),
   (167,⟨1,.slice 169,[.nils],24,false⟩),
   (181,⟨1,.slice 4,[.nils],24,false⟩),
   (155,⟨1,.ptr,[.nilp],8,false⟩),
   (184,⟨1,.int .u64,[.int .u64 0],8,false⟩),
   (251,⟨1,.ptr,[.nilp],8,false⟩),
   (203,⟨1,.int .u32,[.int .u32 0],4,false⟩),
   (161,⟨1,.iface,[.nili],16,false⟩),
   (247,⟨1,.int .u64,[.int .u64 0],8,false⟩),
   (239,⟨1,.int .i64,[.int .i64 0],8,false⟩),
   (201,⟨1,.ptr,[.nilp],8,false⟩)]
theorem tOk:TOk Tryz.prog (lookT TT):=TOk.of (by decide +kernel)
theorem mixed:Tryz.prog.follows .mixedOrders=true:=by decide +kernel
structure Mark where
  kind:Int
  at_:Int
  need:Int
  deriving Inhabited,DecidableEq
def encI (n:Int):List AV:=[.int .i64 n]
def encM (m:Mark):List AV:=[.int .i64 m.kind,.int .i64 m.at_,.int .i64 m.need]
abbrev slI (l:List Int):AV:=.sl 1 l.length fun i=>encI (l.getD i 0)
abbrev slM (t:List Mark):AV:=.sl 3 t.length fun i=>encM (t.getD i default)
abbrev house (p:Int) (bs:List Int):AV:=.agg [.int .i64 p,slI bs]
set_option maxRecDepth 10000
def Hold (n:String) (Q:Array Value→Prop) (w:World):Prop:=Tryz.prog.globalNamed n=none∨∃ cs,w.var? Tryz.prog n=some cs∧Q cs
structure Good (w:World):Prop where
  tab : Lib.TabIs Tryz.prog w "internal/strconv.uint64pow10" .u64 Lib.pow10Tab
theorem var_ext {P:Program} {n:String} {w w':World} {cs:Array Value} (h:w.var? P n=some cs) (he:∀ (g:Nat) (ob:Go.Obj),w.heap[g]?=some ob→w'.heap[g]?=some ob):w'.var? P n=some cs:=by
  unfold World.var? at h ⊢
  cases hg:P.globalNamed n with
  | none=>rw [hg] at h; cases h
  | some g =>
    rw [hg] at h
    simp only [Option.bind_some] at h ⊢
    cases ho:w.heap[g]? with
    | none=>rw [ho] at h; simp at h
    | some ob=>rw [he g ob ho]; rw [ho] at h; exact h
theorem Hold.ext {n:String} {Q:Array Value→Prop} {w w':World} (h:Hold n Q w) (he:∀ (g:Nat) (ob:Go.Obj),w.heap[g]?=some ob→w'.heap[g]?=some ob):Hold n Q w':=h.imp id fun ⟨cs,h1,h2⟩=>⟨cs,var_ext h1 he,h2⟩
theorem Good.ext {w w':World} (h:Good w) (he:∀ (g:Nat) (ob:Go.Obj),w.heap[g]?=some ob→w'.heap[g]?=some ob):Good w':=⟨by
  have ht:=h.tab
  unfold Lib.TabIs at ht ⊢
  exact var_ext ht he⟩
def GOk (Gl:List (Nat × Go.Obj)):Prop:=∀ w:World,(∀ p,p∈Gl→w.heap[p.1]?=some p.2)→Good w
abbrev FF (f:FuncId) (C:List AV→(AV→Prop)→Prop):Prop:=∀ Gl,GOk Gl→Fits Tryz.prog Gl f C
theorem fitE (E:Env) {X:Type} {args:X→List AV} {pre:X→Prop} {post:X→(AV→Prop)→Prop} (hE:∀ p,p∈E→FF p.1 p.2) {f:FuncId} (fn:Func) (hf:FnOk Tryz.prog f fn) (hM:∀ x (K K':AV→Prop),(∀ r,K r→K' r)→post x K→post x K')
    (hb:∀ x (K:AV→Prop),pre x→post x K→(args x).length≤fn.ntmps∧bodyP (lookT TT) (callE E) (Dr (lookT TT) (callE E)) 0 fn (args x) [] (out K)):FF f (con args pre post):=fun Gl hG=>fits tOk (callE_ok fun p hp=>hE p hp Gl hG) mixed hf hM hb
theorem fits_rec {P:Program} {Gl:List (Nat × Go.Obj)} {X:Type} {args:X→List AV} {pre:X→Prop} {post:X→(AV→Prop)→Prop} {f:FuncId} (μ:X→Nat) (h:∀ k,Fits P Gl f (con args (fun x=>μ x<k∧pre x) post)):Fits P Gl f (con args pre post) :=
  ⟨(h 0).has,fun us K K' hk ⟨x,h1,h2,h3⟩=>by
    obtain ⟨y,g1,g2,g3⟩:=(h (μ x+1)).mono us K K' hk ⟨x,h1,⟨Nat.lt_succ_self _,h2.h⟩,h3⟩
    exact ⟨y,g1,⟨g2.h.2⟩,g3⟩,fun us K ⟨x,h1,h2,h3⟩=>(h (μ x+1)).ok us K ⟨x,h1,⟨Nat.lt_succ_self _,h2.h⟩,h3⟩⟩
section
variable {P Q:Prop} [Decidable P] [Decidable Q] {K:AV→Prop}
theorem yes {b:Bool} (h:K (.bool (decide P))) (e:P ↔ b=true):K (.bool b):=by
  have:decide P=b:=by cases b <;> simp_all
  rw [← this]; exact h
theorem yesD (h:K (.bool (decide P))) (e:P ↔ Q):K (.bool (decide Q)):=yes h (e.trans decide_eq_true_iff.symm)
theorem yesT (h:K (.bool (decide P))) (e:P):K (.bool true):=yes h ⟨fun _=>rfl,fun _=>e⟩
theorem yesF (h:K (.bool (decide P))) (e:¬ P):K (.bool false):=yes h ⟨fun q=>absurd q e,fun q=>by cases q⟩
theorem yesN (h:K (.bool (decide P))) (e:P ↔ ¬ Q):K (.bool (!decide Q)):=yes h (e.trans (by simp))
end
def i64r (x:Int):Prop:=-9223372036854775808≤x∧x≤9223372036854775807
/-! ### The library -/
def num (n:Int):ByteArray:=⟨(Lib.decDigits n.toNat).toArray⟩
def C101:List AV→(AV→Prop)→Prop:=con (X:=Int) (fun n=>[.int .i64 n]) (fun n=>0≤n∧n≤9223372036854775807) fun n K=>K (.str (num n))
theorem F101:FF 147 C101:=fun Gl hG=>fits_pl (fun n=>.str (num n)) (FnOk.has ⟨rfl,by decide +kernel,by decide +kernel⟩ (fn:=Tryz.f147)) (fun _=>rfl) (fun _=>rfl) fun n hn w hw=>by
  refine (Tryz.strconv_Itoa n (by omega) (by omega) w (hG w hw).tab).mono fun e w' he=>?_
  obtain ⟨rfl,k,os,rfl⟩:=he
  refine ⟨?_,w.heap.size,Nat.le_refl _,Lib.below_grow _ _ (Nat.le_refl _) _ _⟩
  show Ending.returned (Value.string ⟨(Lib.itoa n).toArray⟩)=.returned (.string (num n))
  rw [show Lib.itoa n=Lib.decDigits n.toNat from if_neg (by omega)]
  rfl
def spc (s:ByteArray):Bool:=Lib.containsAny s.data.toList sn.data.toList
end Go.Proofs.YtgdbhjmpkkbnnaaGreatDoor.Vc
end
section
/- Part VB: contracts whose bodies hand back the same data told otherwise. -/
namespace Go.Proofs.YtgdbhjmpkkbnnaaGreatDoor.Vc
section
variable {P:Program} {TB:TypeId→TI} {Gl:List (Nat × Go.Obj)} {call:FuncId→List AV→List Obj→(AV→List Obj→Prop)→Prop}
def outE (K:AV→Prop):AV→List Obj→Prop:=out fun u=>∃ v,exV u v∧K v
theorem fitsE {X:Type} {args:X→List AV} {pre:X→Prop} {post:X→(AV→Prop)→Prop} (hT:TOk P TB) (hC:CallOk P Gl call) (hm:P.follows .mixedOrders=true) {f:FuncId} {fn:Func} (hf:FnOk P f fn) (hM:∀ x (K K':AV→Prop),(∀ r,K r→K' r)→post x K→post x K')
  (hb:∀ x (K:AV→Prop),pre x→post x K→(args x).length≤fn.ntmps∧bodyP TB call (Dr TB call) 0 fn (args x) [] (outE K)):Fits P Gl f (con args pre post):=by
 refine ⟨hf.has,fun us K K' hk ⟨x,h1,h2,h3⟩=>⟨x,h1,h2,hM x K K' hk h3⟩,?_⟩
 rintro us K ⟨x,h1,h2,h3⟩ R w xs hL ha0
 obtain ⟨e1,e2⟩:=exL_PV (R:=R) (w:=w) us (args x) h1
 have ha:ArgsV R w (args x) xs:=⟨ha0.1.trans e1,fun j hj=>e2 j (e1 ▸ hj) _ (ha0.2 j (e1 ▸ hj))⟩
 obtain ⟨g1,g2⟩:=hb x K h2.h h3
 refine (body_sound hT hC hm hf g2 hL.hr ⟨ha.1,fun j hj=>(ha.2 j hj).tr⟩ (Nat.zero_le _) g1).mono fun e w' he=>?_
 obtain ⟨r,y,o',ρ',R',rfl,hK,hh',hv,_,hx⟩:=he
 unfold outE out at hK
 split at hK
 ·rename_i u b p ev
  obtain ⟨⟨hp⟩,v,hv1,hK⟩:=hK
  have hu:=(view_VR hh' r u b p ev hp y hv).1
  refine ⟨v,y,Rall R' ρ',rfl,hK,exV_PV u v hv1 y hu,⟨fun b hb=>?_,fun b hb=>.inl (hx.rmono b hb),fun b hb=>?_,hx.size,fun b hb=>hx.same b hb fun _ q=>(by cases q),hx.os,hx.tape,hx.output⟩⟩
  ·rcases hb with hb|⟨id,hb⟩
   ·exact (hh'.ro b hb).1
   ·exact hh'.lt id b hb
  ·rcases hb with hb|⟨id,hb⟩
   ·rcases hx.rnew b hb with q|q|⟨_,q⟩
    ·exact .inl q
    ·exact .inr q
    ·cases q
   ·rcases hx.pnew id b hb with q|⟨_,q⟩
    ·exact .inr q
    ·cases q
 ·exact hK.elim
end
end Go.Proofs.YtgdbhjmpkkbnnaaGreatDoor.Vc
end
