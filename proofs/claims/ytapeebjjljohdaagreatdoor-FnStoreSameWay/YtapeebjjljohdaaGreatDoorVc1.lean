/- Part J of the engine: append. -/
import Derived.Tactics
import Derived.Orders
import Derived.Deep.LoopGhost
import Derived.Test.YtapeebjjljohdaaGreatDoorVc0
section
namespace Go.Proofs.YtapeebjjljohdaaGreatDoor.Vc
section
variable {P:Program} {TB:TypeId→TI} {ρ:Nat→Option Nat} {o:List Obj} {R:Nat→Prop} {w:World} {t:Fr} {a:Act} {Gl:List (Nat × Go.Obj)}
theorem src_cells {tx e':TypeId} (hk:P.underlying tx=some (.slice e')) {n m cap:Nat} (hn:1≤n) {ad:Addr} {g:Nat→List AV} {G:Nat→Nat→Value} (h4:∀ i,i<m→∀ j,j<n→w.cell? (ad.add (i*n+j))=some (G i j))
  (h5:∀ i,i<m→∀ j,j<n→DR R w ((g i).getD j .undef) (G i j)) :
  ∃ news:List Value,Src P n tx (.slice (some ad) m cap) m news w∧∀ i,i<m→∀ j,j<n→DR R w ((g i).getD j .undef) (news.getD (i*n+j) Go.undef):=by
 refine ⟨(List.range (m*n)).map fun k=>G (k / n) (k % n),Src.ofSlice w hk ad m cap _ (by simp) (fun k u hu=>?_) (fun u hu=>?_),fun i hi j hj=>?_⟩
 ·rw [List.getElem?_map] at hu
  by_cases hk':k<m*n
  ·rw [List.getElem?_range hk'] at hu
   simp at hu
   subst hu
   have h1:k / n<m:=Nat.div_lt_of_lt_mul (by rw [Nat.mul_comm]; exact hk')
   have h2:k % n<n:=Nat.mod_lt _ (by omega)
   have:=h4 _ h1 _ h2
   rwa [Nat.div_add_mod' k n] at this
  ·rw [List.getElem?_eq_none (by simpa using hk')] at hu
   simp at hu
 ·obtain ⟨k,hk',rfl⟩:=List.mem_map.1 hu
  have hk':k<m*n:=by simpa using hk'
  exact DR_one (h5 _ (Nat.div_lt_of_lt_mul (by rw [Nat.mul_comm]; exact hk')) _ (Nat.mod_lt _ (by omega)))
 ·have hin:(i+1)*n≤m*n:=Nat.mul_le_mul_right _ hi
  rw [Nat.add_mul,Nat.one_mul] at hin
  have e:((List.range (m*n)).map fun k=>G (k / n) (k % n)).getD (i*n+j) Go.undef=G i j:=by
   rw [List.getD_eq_getElem?_getD,List.getElem?_map,List.getElem?_range (by omega)]
   simp only [Option.map_some,Option.getD_some]
   rw [Nat.mul_comm i n,Nat.mul_add_div (by omega),Nat.div_eq_of_lt hj,Nat.mul_add_mod,Nat.mod_eq_of_lt hj,Nat.add_zero]
  rw [e]
  exact h5 i hi j hj
theorem src_none {tx e':TypeId} (hk:P.underlying tx=some (.slice e')) {n cap:Nat} (b:Option Addr):Src P n tx (.slice b 0 cap) 0 [] w:=by
 cases b with
 |none=>exact Src.ofNil w hk cap
 |some ad=>exact Src.ofSlice w hk ad 0 cap [] (by simp) (fun _ _ h=>by simp at h) (fun _ h=>by cases h)
theorem src_ok (hh:HR Gl o ρ R w) {tx e':TypeId} (hk:P.underlying tx=some (.slice e')) {n m lo hi:Nat} (hn:1≤n) {g:Nat→List AV} {v:AV} {y:Value} (h:srcOf o n v=some (m,g,lo,hi)) (hl:lo≤hi) (hv:TR ρ o R w v y) :
  ∃ news:List Value,Src P n tx y m news w∧(∀ i,i<m→(g i).length=n)∧∀ i,i<m→∀ j,j<n→DR R w ((g i).getD j .undef) (news.getD (i*n+j) Go.undef):=by
 unfold srcOf at h
 split at h
 ·simp only [Option.some.injEq,Prod.mk.injEq] at h
  obtain ⟨rfl,rfl,rfl,rfl⟩:=h
  obtain ⟨b,rfl⟩:=hv.nils
  exact ⟨[],src_none hk b,fun i hi=>absurd hi (Nat.not_lt_zero _),fun i hi=>absurd hi (Nat.not_lt_zero _)⟩
 ·rename_i s m' g'
  cases hs:Nat.beq s n with
  |false=>rw [hs] at h; cases h
  |true =>
   rw [hs] at h
   simp only [cond_true,Option.some.injEq,Prod.mk.injEq] at h
   obtain ⟨rfl,rfl,rfl,rfl⟩:=h
   have hs:=Nat.eq_of_beq_eq_true hs
   subst hs
   obtain ⟨b,c,rfl,hd⟩:=hv.sl
   cases hd with
   |sl0=>exact ⟨[],src_none hk b,fun i hi=>absurd hi (Nat.not_lt_zero _),fun i hi=>absurd hi (Nat.not_lt_zero _)⟩
   |sl _ _ _ ad cap G h1 h2 h3 h4 h5 =>
    obtain ⟨news,q1,q2⟩:=src_cells hk hn h4 h5
    exact ⟨news,q1,h3,q2⟩
 ·rename_i id sz off len
  split at h
  ·rename_i s m' f e
   cases hs:(Nat.beq s sz && Nat.beq s n) with
   |false=>rw [hs] at h; cases h
   |true =>
    rw [hs] at h
    simp only [cond_true,Option.some.injEq,Prod.mk.injEq] at h
    obtain ⟨rfl,rfl,rfl,rfl⟩:=h
    rw [Bool.and_eq_true] at hs
    rcases hv.row e hs.1 with ⟨h0,b,rfl⟩|⟨b,cs,ty,cap,rfl,hr,hc,h1,h2⟩
    ·subst h0
     exact ⟨[],src_none hk b,fun i hi=>absurd hi (Nat.not_lt_zero _),fun i hi=>absurd hi (Nat.not_lt_zero _)⟩
    ·have hs1:=Nat.eq_of_beq_eq_true hs.1
     have hs2:=Nat.eq_of_beq_eq_true hs.2
     subst hs1 hs2
     rcases hh.obj id _ e with ⟨h3,_⟩|⟨b',xs,ty',q1,q2,q3,q4,q5⟩
     ·have:len=0:=by omega
      subst this
      exact ⟨[],src_none hk _,fun i hi=>absurd hi (Nat.not_lt_zero _),fun i hi=>absurd hi (Nat.not_lt_zero _)⟩
     ·rw [hr] at q1
      injection q1 with q1
      subst q1
      rw [hc] at q2
      injection q2 with q2
      injection q2 with q2 q6 q7
      subst q2
      obtain ⟨news,p1,p2⟩:=src_cells (w:=w) (R:=R) (ad:=⟨b,off*s,none⟩) (m:=len) (cap:=cap) (g:=fun i=>f (off+i)) (G:=fun i j=>cs.getD ((off+i)*s+j) Go.undef) hk hn (fun i hi j hj=>by
       rw [Addr.add_mid,show off*s+(i*s+j)=(off+i)*s+j by rw [Nat.add_mul]; omega]
       refine cell_block hc ?_
       have:(off+i+1)*s≤m'*s:=Nat.mul_le_mul_right _ (by omega)
       rw [Nat.add_mul,Nat.one_mul] at this
       omega) (fun i hi j hj=>q5 (off+i) (by omega) j hj)
      exact ⟨news,p1,fun i hi=>q4 _ (by omega),p2⟩
  ·cases h
 ·cases h
/-! ### A local object under a new number; an empty row -/
def ρmove (ρ:Nat→Option Nat) (id n:Nat):Nat→Option Nat:=fun j=>if j=id then none else if j=n then ρ id else ρ j
theorem EX.move (_hh:HR Gl o ρ R w) {id:Nat} (_hid:id<o.length) (ob:Obj):EX o ρ R w (o.set id .dead ++ [ob]) (ρmove ρ id o.length) R w where
 len:=by simp
 keep j hj:=by
  rw [List.getElem?_append_left (by simpa using hj)]
  by_cases hji:id=j
  ·subst hji
   rw [List.getElem?_set_self hj]
   trivial
  ·rw [List.getElem?_set_ne hji]
   have e:ρmove ρ id o.length j=ρ j:=by unfold ρmove; rw [if_neg (Ne.symm hji),if_neg (by omega)]
   rw [e]
   split
   ·rename_i h; exact ⟨⟨_,h⟩,rfl⟩
   ·rename_i h; exact ⟨⟨_,_,h⟩,rfl⟩
   ·trivial
 rmono _ h:=h
 rnew _ h:=.inl h
 pnew j b h:=by
  unfold ρmove at h
  split at h
  ·cases h
  ·split at h
   ·exact .inr ⟨id,h⟩
   ·exact .inr ⟨j,h⟩
 size:=Nat.le_refl _
 same _ _ _:=rfl
 shape _ ys _ h:=⟨ys,h,rfl⟩
 os:=rfl
 tape:=rfl
 output:=rfl
theorem HR.move (hh:HR Gl o ρ R w) {id:Nat} (hid:id<o.length) {ob:Obj} (hob:EX o ρ R w (o.set id .dead ++ [ob]) (ρmove ρ id o.length) R w→OB (ρmove ρ id o.length) (o.set id .dead ++ [ob]) R w o.length ob) :
  HR Gl (o.set id .dead ++ [ob]) (ρmove ρ id o.length) R w:=by
 have hx:=EX.move hh hid ob
 have hn:∀ j b,ρmove ρ id o.length j=some b→j≠id∧((j=o.length∧ρ id=some b)∨(j<o.length∧ρ j=some b)):=by
  intro j b h
  unfold ρmove at h
  split at h
  ·cases h
  ·rename_i h1
   split at h
   ·rename_i h2; exact ⟨h1,.inl ⟨h2,h⟩⟩
   ·exact ⟨h1,.inr ⟨hh.dom j b h,h⟩⟩
 refine ⟨?_,?_,?_,?_,?_,hh.gl⟩
 ·intro j b h
  simp only [List.length_append,List.length_set,List.length_cons,List.length_nil]
  rcases (hn j b h).2 with ⟨h,_⟩|⟨h,_⟩ <;> omega
 ·intro j b h
  rcases (hn j b h).2 with ⟨_,h⟩|⟨_,h⟩
  ·exact hh.lt id b h
  ·exact hh.lt j b h
 ·intro i j b hi hj
  obtain ⟨i1,i2⟩:=hn i b hi
  obtain ⟨j1,j2⟩:=hn j b hj
  rcases i2 with ⟨i2,i3⟩|⟨i2,i3⟩ <;> rcases j2 with ⟨j2,j3⟩|⟨j2,j3⟩
  ·omega
  ·exact absurd (hh.inj id j b i3 j3).symm j1
  ·exact absurd (hh.inj id i b j3 i3).symm i1
  ·exact hh.inj i j b i3 j3
 ·intro b hb
  refine ⟨(hh.ro b hb).1,fun j h=>?_⟩
  rcases (hn j b h).2 with ⟨_,h⟩|⟨_,h⟩
  ·exact (hh.ro b hb).2 id h
  ·exact (hh.ro b hb).2 j h
 ·intro j ob' h
  by_cases hj:j<o.length
  ·rw [List.getElem?_append_left (by simpa using hj)] at h
   by_cases hji:id=j
   ·subst hji
    rw [List.getElem?_set_self hj] at h
    injection h with h
    subst h
    show ρmove ρ id o.length id=none
    unfold ρmove
    rw [if_pos rfl]
   ·rw [List.getElem?_set_ne hji] at h
    exact (hh.obj j ob' h).go hx hh.ro (by unfold ρmove; rw [if_neg (Ne.symm hji),if_neg (by omega)]) fun _ _=>rfl
  ·have hj':j=o.length:=by
    have:=(List.getElem?_eq_some_iff.1 h).1
    simp at this
    omega
   subst hj'
   rw [List.getElem?_append_right (by simp)] at h
   simp at h
   subst h
   exact hob hx
theorem EX.empty (sz:Nat) (f:Nat→List AV):EX o ρ R w (o ++ [.row sz 0 f]) ρ R w where
 len:=by simp
 keep j hj:=by
  rw [List.getElem?_append_left hj]
  exact (EX.refl o ρ R w).keep j hj
 rmono _ h:=h
 rnew _ h:=.inl h
 pnew j b h:=.inr ⟨j,h⟩
 size:=Nat.le_refl _
 same _ _ _:=rfl
 shape _ ys _ h:=⟨ys,h,rfl⟩
 os:=rfl
 tape:=rfl
 output:=rfl
theorem HR.empty (hh:HR Gl o ρ R w) (sz:Nat) (f:Nat→List AV):HR Gl (o ++ [.row sz 0 f]) ρ R w:=by
 refine ⟨fun j b h=>?_,hh.lt,hh.inj,hh.ro,fun j ob h=>?_,hh.gl⟩
 ·have:=hh.dom j b h
  simp; omega
 ·by_cases hj:j<o.length
  ·rw [List.getElem?_append_left hj] at h
   exact (hh.obj j ob h).go (EX.empty sz f) hh.ro rfl fun _ _=>rfl
  ·have hj':j=o.length:=by
    have:=(List.getElem?_eq_some_iff.1 h).1
    simp at this
    omega
   subst hj'
   rw [List.getElem?_append_right (Nat.le_refl _)] at h
   simp at h
   subst h
   refine .inl ⟨rfl,?_⟩
   cases e:ρ o.length with
   |none=>rfl
   |some b=>exact absurd (hh.dom _ b e) (Nat.lt_irrefl _)
end
end Go.Proofs.YtapeebjjljohdaaGreatDoor.Vc
end
section
/- Part K of the engine: append, the operation. -/
namespace Go.Proofs.YtapeebjjljohdaaGreatDoor.Vc
section
variable {P:Program} {TB:TypeId→TI} {ρ:Nat→Option Nat} {o:List Obj} {R:Nat→Prop} {w:World} {t:Fr} {a:Act} {Gl:List (Nat × Go.Obj)}
theorem append_getD {l m:List Value} {j:Nat}:(l ++ m).getD j Go.undef=if j<l.length then l.getD j Go.undef else m.getD (j-l.length) Go.undef:=by
 rw [List.getD_eq_getElem?_getD,List.getElem?_append]
 split
 ·rw [← List.getD_eq_getElem?_getD]
 ·rw [← List.getD_eq_getElem?_getD]
theorem appF_DR {R':Nat→Prop} {w':World} {n len m:Nat} {f g:Nat→List AV} {C:Nat→Value} (hf1:∀ i,i<len→(f i).length=n) (hg1:∀ i,i<m→(g i).length=n) (hf2:∀ i,i<len→∀ j,j<n→DR R' w' ((f i).getD j .undef) (C (i*n+j)))
  (hg2:∀ i,i<m→∀ j,j<n→DR R' w' ((g i).getD j .undef) (C ((len+i)*n+j))) :
  (∀ i,i<len+m→(appF len f g i).length=n)∧∀ i,i<len+m→∀ j,j<n→DR R' w' ((appF len f g i).getD j .undef) (C (i*n+j)):=by
 have key:∀ i,i<len+m→(appF len f g i).length=n∧∀ j,j<n→DR R' w' ((appF len f g i).getD j .undef) (C (i*n+j)):=by
  intro i hi
  unfold appF
  cases hb:Nat.blt i len with
  |true =>
   have hb:i<len:=by simp [Nat.blt] at hb; omega
   exact ⟨hf1 i hb,hf2 i hb⟩
  |false =>
   have hb:¬ i<len:=by
    intro h
    have:Nat.blt i len=true:=by simp [Nat.blt]; omega
    rw [this] at hb; cases hb
   refine ⟨hg1 _ (by omega),fun j hj=>?_⟩
   have:=hg2 (i-len) (by omega) j hj
   rwa [show len+(i-len)=i by omega] at this
 exact ⟨fun i hi=>(key i hi).1,fun i hi=>(key i hi).2⟩
theorem app_grow (hT:TOk P TB) {ty tx e:TypeId} (he:(TB ty).k=.slice e) {o1:List Obj} {ρ1:Nat→Option Nat} {R1:Nat→Prop} (hh1:HR Gl o1 ρ1 R1 w) (hx1:EX o ρ R w o1 ρ1 R1 w) (hlen:o1.length=o.length)
  {len cap m:Nat} {base:Option Addr} {f g:Nat→List AV} {y:Value} {olds news:List Value} (hs:Src P (TB e).n tx y m news w) (hg1:∀ i,i<m→(g i).length=(TB e).n) (hg2:∀ i,i<m→∀ j,j<(TB e).n→DR R1 w ((g i).getD j .undef) (news.getD (i*(TB e).n+j) Go.undef))
  (hol:olds.length=len*(TB e).n) (hold:(Builtin.firstCells (TB e).n len (.slice base len cap)).run P w.drew=.ok olds.toArray w.drew) (hf1:∀ i,i<len→(f i).length=(TB e).n)
  (hf2:∀ i,i<len→∀ j,j<(TB e).n→DR R1 w ((f i).getD j .undef) (olds.getD (i*(TB e).n+j) Go.undef)) (_hn:1≤(TB e).n) (hgr:cap<len+m) (hby:1≤(TB e).bytes) (hb:(len+m)*(TB e).bytes≤140737488355328) (tz:TypeId) :
  ∃ w' cap' ρ',(Builtin.append_ #[ty,tx] tz #[.slice base len cap,y]).run P w=.ok (.slice (some ⟨w.heap.size,0,none⟩) (len+m) cap') w'∧HR Gl (o1 ++ [.row (TB e).n (len+m) (appF len f g)]) ρ' R1 w' ∧
   TR ρ' (o1 ++ [.row (TB e).n (len+m) (appF len f g)]) R1 w' (.row o.length (TB e).n 0 (len+m)) (.slice (some ⟨w.heap.size,0,none⟩) (len+m) cap')∧EX o ρ R w (o1 ++ [.row (TB e).n (len+m) (appF len f g)]) ρ' R1 w':=by
 obtain ⟨hu,hbd⟩:=hT.slice he
 obtain ⟨ie,ze,i1,i2,i5,i3,i4,_⟩:=hT.info hbd
 have h63:len+m≤140737488355328:=Nat.le_trans (Nat.le_mul_of_pos_right _ hby) hb
 have hrun:=run_append_grow_src (P:=P) w ty tx tz e ie ze hu i1 i3 base len cap olds (by rw [i2]; exact hold) y m news (by rw [i2]; exact hs) hgr (by omega) (by rw [i5]; exact growslice_fits hgr hb)
 have hcap:=grownCap_ge w (len+m) cap e
 generalize hxs:(olds ++ news).toArray ++ Builtin.zeroCells ze.cells (grownCap w (len+m) cap e-(len+m))=xs at hrun
 have hze:ze.cells.size=(TB e).n:=by
  obtain ⟨z1,_⟩:=zOk_CR (R:=R) (w:=w) _ _ i4
  rw [← hT.zlen hbd,← z1,Array.length_toList]
 have hnl:news.length=m*(TB e).n:=hs.newsLen
 have hsize:xs.size=grownCap w (len+m) cap e*(TB e).n:=by
  rw [← hxs,Array.size_append,size_zeroCells,hze]
  simp only [List.size_toArray,List.length_append,hol,hnl]
  rw [← Nat.add_mul,← Nat.add_mul]
  congr 1
  omega
 have hC:∀ k,k<(len+m)*(TB e).n→xs.getD k Go.undef=(olds ++ news).getD k Go.undef:=by
  intro k hk
  have hk2:k<(olds ++ news).length:=by rw [List.length_append,hol,hnl,← Nat.add_mul]; exact hk
  rw [← hxs,Array.getD_eq_getD_getElem?,Array.getElem?_append_left (by simpa using hk2),List.getElem?_toArray,← List.getD_eq_getElem?_getD]
 generalize hw':w.drew.alloc (.cells xs e)=w' at hrun
 have hheap:w'.heap=w.heap.push (.cells xs e (0,0)):=by rw [← hw']; rfl
 have hos:w'.os=w.os:=by rw [← hw']; rfl
 have htp:w'.tape=w.tape:=by rw [← hw']; rfl
 have hou:w'.output=w.output:=by rw [← hw']; rfl
 have hx2:=EX.new hh1 (.row (TB e).n (len+m) (appF len f g)) xs e hheap hos htp hou
 have hne:∀ c,R1 c→w'.heap[c]?=w.heap[c]?:=fun c hc=>hx2.same c (hh1.ro c hc).1 (hh1.ro c hc).2
 obtain ⟨k1,k2⟩:=appF_DR (R':=R1) (w':=w') (n:=(TB e).n) (len:=len) (m:=m) (f:=f) (g:=g) (C:=fun k=>(olds ++ news).getD k Go.undef) hf1 hg1 (fun i hi j hj=>by
  have hin:(i+1)*(TB e).n≤len*(TB e).n:=Nat.mul_le_mul_right _ hi
  rw [Nat.add_mul,Nat.one_mul] at hin
  show DR R1 w' _ ((olds ++ news).getD (i*(TB e).n+j) Go.undef)
  rw [append_getD,if_pos (by omega)]
  exact (hf2 i hi j hj).go (fun _ h=>h) hne) (fun i hi j hj=>by
  show DR R1 w' _ ((olds ++ news).getD ((len+i)*(TB e).n+j) Go.undef)
  rw [append_getD,if_neg (by rw [hol,Nat.add_mul]; omega),hol,show (len+i)*(TB e).n+j-len*(TB e).n=i*(TB e).n+j by rw [Nat.add_mul]; omega]
  exact (hg2 i hi j hj).go (fun _ h=>h) hne)
 have hid:ρnew ρ1 o1.length w.heap.size o1.length=some w.heap.size:=by simp [ρnew]
 have hnew:w'.heap[w.heap.size]?=some (.cells xs e (0,0)):=by rw [hheap]; simp
 refine ⟨w',grownCap w (len+m) cap e,ρnew ρ1 o1.length w.heap.size,hrun,HR.new hh1 _ xs e hheap hos htp hou fun _=>.inr ⟨w.heap.size,xs,e,hid,hnew,by rw [hsize]; exact Nat.mul_le_mul_right _ hcap,k1,fun i hi j hj=>?_⟩,.of ?_ ?_,hx1.trans hx2⟩
 ·have hin:(i+1)*(TB e).n≤(len+m)*(TB e).n:=Nat.mul_le_mul_right _ hi
  rw [Nat.add_mul,Nat.one_mul] at hin
  rw [hC _ (by omega)]
  exact k2 i hi j hj
 ·simp [live,← hlen]
 ·have:=VR.row (R:=R1) (id:=o1.length) (sz:=(TB e).n) (off:=0) (len:=len+m) hid hnew hcap (by rw [hsize,Nat.zero_add]; exact Nat.le_refl _) (grownCap_le_maxLen w _ _ _ (by show len+m≤9223372036854775807; omega))
  rw [Nat.zero_mul,hlen] at this
  rw [hlen]
  exact this
theorem app_zero (hT:TOk P TB) {ty tx e:TypeId} (he:(TB ty).k=.slice e) {y:Value} (hs:Src P (TB e).n tx y 0 [] w) (b:Option Addr) (tz:TypeId):(Builtin.append_ #[ty,tx] tz #[.slice b 0 0,y]).run P w=.ok (.slice b 0 0) w:=by
 obtain ⟨hu,hbd⟩:=hT.slice he
 obtain ⟨ie,ze,i1,i2,_⟩:=hT.info hbd
 have h1:=hs.cells
 rw [← i2] at h1
 rcases hs.kind with ⟨e',hk⟩|hk <;> cases b <;> simp [Builtin.append_,run_underlying hu,run_underlying hk,sizeOf,typeInfo,i1,hs.len,h1,storeCells]
theorem first_none {n:Nat} (b:Option Addr) (c:Nat) (w:World):(Builtin.firstCells n 0 (.slice b 0 c)).run P w=.ok (([]:List Value).toArray) w:=by
 cases b with
 |none=>simp [Builtin.firstCells]
 |some ad=>exact run_firstCells_some w n 0 ad 0 c [] (by simp) (fun _ _ h=>by simp at h)
theorem append_exec {dst:Option Tmp} {as:Array Operand} {ts:Array TypeId} {tz:TypeId} {pos:String} {af:Array Edge} {g:Option (Nat × Bool)} {x y:Operand} {y':Value} {w':World} (ha:as=#[x,y]) (h:(Builtin.append_ ts tz #[a.eval x,a.eval y]).run P w=.ok y' w') :
  (execOp a.eval ⟨dst,.call { callee:=.builtin .append,args:=as,argTypes:=ts },tz,pos,af,g⟩).run P w=.ok (.value y') w':=by
 subst ha
 simp [execOp,resolve,invoke,builtin,h]
theorem g_append (hT:TOk P TB) (hh:HR Gl o ρ R w) (hf:FR ρ o R w t a) {as:Array Operand} {ts:Array TypeId} {call} {K:AV→List Obj→Prop} (h:efP TB call (.call { callee:=.builtin .append,args:=as,argTypes:=ts }) t o K) :
  Goes P Gl ρ o R w a (.call { callee:=.builtin .append,args:=as,argTypes:=ts }) K:=by
 simp only [efP] at h
 split at h
 ·rename_i s x ty tx ea et
  obtain ⟨os,ox,hax,es,ex⟩:=two_of_map ea
  have hts:ts=#[ty,tx]:=by
   obtain ⟨l⟩:=ts
   simp only at et
   rw [et]
  subst hts
  split at h
  ·rename_i e e' he he'
   obtain ⟨hut,_⟩:=hT.slice he'
   split at h
   ·rename_i m g lo hi hsrc
    obtain ⟨hq,hX⟩:=of_cond_true h
    clear h
    rw [Bool.and_eq_true] at hq
    have q1:=Nat.le_of_ble_eq_true hq.1
    have q2:=Nat.le_of_ble_eq_true hq.2
    have hvx:=hf.at ex
    split at hX
    ·obtain ⟨⟨hl,hby⟩,hK⟩:=hX
     obtain ⟨news,s1,s2,s3⟩:=src_ok hh hut q2 hsrc hl hvx
     obtain ⟨b,ey⟩:=(hf.at es).nils
     by_cases hm:m=0
     ·subst hm
      have:news=[]:=List.eq_nil_of_length_eq_zero (by rw [s1.newsLen]; simp)
      subst this
      exact goes_value (fun _ _ _ _ _=>append_exec hax (by rw [ey]; exact app_zero hT he s1 b _)) hK (hh.empty _ _) (.of (by simp [live]) (.row0 _ _ _ _)) (EX.empty _ _)
     ·intro dst tz pos af gd next Q hn
      obtain ⟨w',cap',ρ',r1,r2,r3,r4⟩:=app_grow (f:=fun _=>[]) (len:=0) (cap:=0) (base:=b) (olds:=[]) hT he hh (EX.refl o ρ R w) rfl s1 s2 s3 (by simp) (first_none b 0 _) (fun i hi=>absurd hi (Nat.not_lt_zero _)) (fun i hi=>absurd hi (Nat.not_lt_zero _)) q2 (by omega) q1 (by rw [Nat.zero_add]; exact hby) tz
      have hF:appF 0 (fun _=>([]:List AV)) g=g:=by funext i; rfl
      rw [hF,Nat.zero_add] at r2 r3 r4
      unfold Oper.wp
      rw [append_exec hax (by rw [ey]; exact r1),Oper.upon_value]
      rw [Nat.zero_add]
      exact hn _ _ _ _ _ _ hK r2 r3 r4
    ·rename_i id sz off len
     split at hX
     ·rename_i s n f eo
      obtain ⟨hq',hY⟩:=of_cond_true hX
      clear hX
      obtain ⟨⟨hl,hln,hby⟩,hK⟩:=hY
      simp only [Bool.and_eq_true] at hq'
      obtain ⟨⟨g1,g2⟩,g3⟩:=hq'
      have g1':=Nat.eq_of_beq_eq_true g1
      have g2':=Nat.eq_of_beq_eq_true g2
      have g3':=Nat.eq_of_beq_eq_true g3
      subst g1' g3'
      obtain ⟨news,s1,s2,s3⟩:=src_ok hh hut q2 hsrc hl hvx
      have hid:id<o.length:=(List.getElem?_eq_some_iff.1 eo).1
      have hR1:∀ b,R b→Radd R ρ id b:=fun b hb=>.inl hb
      have mono:∀ {u:AV} {z:Value},DR R w u z→DR (Radd R ρ id) w u z:=fun h=>h.go hR1 fun _ _=>rfl
      have hlen1:(o.set id .dead).length=o.length:=by simp
      have grow:∀ {cap:Nat} {base:Option Addr} {olds:List Value},a.eval os=.slice base len cap→olds.length=len*(TB e).n→(Builtin.firstCells (TB e).n len (.slice base len cap)).run P w.drew=.ok olds.toArray w.drew→(∀ i,i<len→(f i).length=(TB e).n) →
        (∀ i,i<len→∀ j,j<(TB e).n→DR R w ((f i).getD j .undef) (olds.getD (i*(TB e).n+j) Go.undef))→cap<len+m→Goes P Gl ρ o R w a (.call { callee:=.builtin .append,args:=as,argTypes:=#[ty,tx] }) K:=by
       intro cap base olds ey ho hfc hf1 hf2 hgr dst tz pos af gd next Q hn
       obtain ⟨w',cap',ρ',r1,r2,r3,r4⟩:=app_grow (f:=f) hT he (hh.frz id) (EX.frz id) hlen1 s1 s2 (fun i hi j hj=>mono (s3 i hi j hj)) ho hfc hf1 (fun i hi j hj=>mono (hf2 i hi j hj)) q2 hgr q1 hby tz
       unfold Oper.wp
       rw [append_exec hax (by rw [ey]; exact r1),Oper.upon_value]
       rw [g2'] at hK
       exact hn _ _ _ _ _ _ hK r2 r3 r4
      rcases (hf.at es).row eo g1 with ⟨h0,b,ey⟩|⟨b,cs,tz0,cap,ey,hr,hc,h1,h2,h9⟩
      ·subst h0
       by_cases hm:m=0
       ·subst hm
        have:news=[]:=List.eq_nil_of_length_eq_zero (by rw [s1.newsLen]; simp)
        subst this
        refine goes_value (fun _ _ _ _ _=>append_exec hax (by rw [ey]; exact app_zero hT he s1 b _)) hK ((hh.frz id).empty _ _) (.of (by simp [live]) (.row0 _ _ _ _)) ((EX.frz id).trans (EX.empty _ _))
       ·exact grow (cap:=0) (base:=b) (olds:=[]) ey (by simp) (first_none b 0 _) (fun i hi=>absurd hi (Nat.not_lt_zero _)) (fun i hi=>absurd hi (Nat.not_lt_zero _)) (by omega)
      ·rcases hh.obj id _ eo with ⟨h3,h4⟩|⟨b',xs,tz',p1,p2,p3,p4,p5⟩
       ·rw [hr] at h4; cases h4
       ·rw [hr] at p1
        injection p1 with p1
        subst p1
        rw [hc] at p2
        injection p2 with p2
        injection p2 with p2 p6 p7
        subst p2 p6
        rw [Nat.zero_mul] at ey
        rw [Nat.zero_add] at h2
        rw [g2'] at p3 p4 p5 h2
        have hin:∀ i,i<n→(i+1)*(TB e).n≤n*(TB e).n:=fun i hi=>Nat.mul_le_mul_right _ hi
        by_cases hroom:len+m≤cap
        ·have hcap:cap*(TB e).n≤cs.size:=h2
         have hnl:news.length=m*(TB e).n:=s1.newsLen
         have hW:len*(TB e).n+news.length≤cs.size:=by
          rw [hnl,← Nat.add_mul]
          exact Nat.le_trans (Nat.mul_le_mul_right _ hroom) hcap
         obtain ⟨ie,ze,i1,i2,_⟩:=hT.info (hT.slice he).2
         have hid2:ρmove ρ id o.length o.length=some b:=by unfold ρmove; rw [if_neg (by omega),if_pos rfl]; exact hr
         have hm1:=HR.move hh hid (ob:=.row (TB e).n len f) fun _=>.inr ⟨b,cs,tz0,hid2,hc,Nat.le_trans (Nat.mul_le_mul_right _ hln) p3,fun i hi=>p4 i (by omega),fun i hi j hj=>p5 i (by omega) j hj⟩
         have hx1:=EX.move hh hid (.row (TB e).n len f)
         have hex:(o.set id .dead ++ [Obj.row (TB e).n len f])[o.length]?=some (.row (TB e).n len f):=by
          rw [List.getElem?_append_right (by simp)]; simp
         have hset:∀ ob',(o.set id .dead ++ [Obj.row (TB e).n len f]).set o.length ob'=o.set id .dead ++ [ob']:=by
          intro ob'
          rw [List.set_append_right _ _ (by simp)]
          simp
         obtain ⟨ys,c1,c2,c3,c4,c5,c6,c7,c8⟩:=setCells_facts news (len*(TB e).n) hc hW
         have hw:WR w (w.setCells b (len*(TB e).n) news) b cs ys tz0:=⟨hc,c1,c2,c4,c5,c6,c7,c8⟩
         have hx2:=EX.wr (o:=o.set id .dead ++ [Obj.row (TB e).n len f]) (R:=R) (ob':=.row (TB e).n (len+m) (appF len f g)) hw hid2 hex ⟨_,_,rfl⟩
         have hm2:=HR.wr hm1 (ob':=.row (TB e).n (len+m) (appF len f g)) hw hid2 hex ⟨_,_,rfl⟩ fun _=>.inr (by
          have hne:∀ c,R c→(w.setCells b (len*(TB e).n) news).heap[c]?=w.heap[c]?:=fun c hR=>c4 c fun e=>(hh.ro c hR).2 id (e ▸ hr)
          obtain ⟨k1,k2⟩:=appF_DR (R':=R) (w':=w.setCells b (len*(TB e).n) news) (n:=(TB e).n) (len:=len) (m:=m) (f:=f) (g:=g) (C:=fun k=>ys.getD k Go.undef) (fun i hi=>p4 i (by omega)) s2 (fun i hi j hj=>by
           have h8:(i+1)*(TB e).n≤len*(TB e).n:=Nat.mul_le_mul_right _ hi
           rw [Nat.add_mul,Nat.one_mul] at h8
           show DR R _ _ (ys.getD (i*(TB e).n+j) Go.undef)
           rw [c3,if_neg (by omega)]
           exact (p5 i (by omega) j hj).go (fun _ h=>h) hne) (fun i hi j hj=>by
           have h8:(i+1)*(TB e).n≤m*(TB e).n:=Nat.mul_le_mul_right _ hi
           rw [Nat.add_mul,Nat.one_mul] at h8
           show DR R _ _ (ys.getD ((len+i)*(TB e).n+j) Go.undef)
           rw [c3,Nat.add_mul,if_pos (by omega),show len*(TB e).n+i*(TB e).n+j-len*(TB e).n=i*(TB e).n+j by omega]
           exact (s3 i hi j hj).go (fun _ h=>h) hne)
          exact ⟨b,ys,tz0,hid2,c1,by rw [c2]; exact Nat.le_trans (Nat.mul_le_mul_right _ hroom) hcap,k1,k2⟩)
         rw [hset] at hx2 hm2
         have hrun:∀ tz,(Builtin.append_ #[ty,tx] tz #[.slice (some ⟨b,0,none⟩) len cap,a.eval ox]).run P w=.ok (.slice (some ⟨b,0,none⟩) (len+m) cap) (w.setCells b (len*(TB e).n) news):=fun tz=>by
          have:=run_append_room_src (P:=P) w ty tx tz e ie (hT.slice he).1 i1 b 0 len cap (a.eval ox) m news (by rw [i2]; exact s1) hroom (fun j hj=>by rw [i2,cell_block hc (by omega)]; rfl) (fun j hj=>by simp [World.frozen?,hc])
          rwa [i2,Nat.zero_add] at this
         rw [g2'] at hK
         refine goes_value (fun _ _ _ _ _=>append_exec hax (by rw [ey]; exact hrun _)) hK hm2 (.of ?_ ?_) (hx1.trans hx2)
         ·simp [live]
         ·have:=VR.row (R:=R) (id:=o.length) (sz:=(TB e).n) (off:=0) (len:=len+m) hid2 c1 hroom (by rw [c2,Nat.zero_add]; exact hcap) h9
          rwa [Nat.zero_mul] at this
        ·refine grow (cap:=cap) (base:=some ⟨b,0,none⟩) (olds:=(List.range (len*(TB e).n)).map fun k=>cs.getD k Go.undef) ey (by simp) ?_ (fun i hi=>p4 i (by omega)) (fun i hi j hj=>?_) (by omega)
         ·refine run_firstCells_some w.drew (TB e).n len ⟨b,0,none⟩ len cap _ (by simp) fun j v hv=>?_
          rw [List.getElem?_map] at hv
          by_cases hj:j<len*(TB e).n
          ·rw [List.getElem?_range hj] at hv
           simp at hv
           subst hv
           rw [Addr.add_mid,Nat.zero_add]
           have:len*(TB e).n≤n*(TB e).n:=Nat.mul_le_mul_right _ hln
           have h10:=cell_block (w:=w.drew) hc (Nat.lt_of_lt_of_le hj (Nat.le_trans this p3))
           rw [h10]
           simp [Array.getD_eq_getD_getElem?]
          ·rw [List.getElem?_eq_none (by simpa using hj)] at hv; simp at hv
         ·have h7:=hin i (by omega)
          have h8:(i+1)*(TB e).n≤len*(TB e).n:=Nat.mul_le_mul_right _ hi
          rw [Nat.add_mul,Nat.one_mul] at h8
          have h9:((List.range (len*(TB e).n)).map fun k=>cs.getD k Go.undef).getD (i*(TB e).n+j) Go.undef=cs.getD (i*(TB e).n+j) Go.undef:=by
           rw [List.getD_eq_getElem?_getD,List.getElem?_map,List.getElem?_range (by omega)]
           rfl
          rw [h9]
          exact p5 i (by omega) j hj
     ·exact hX.elim
    ·exact hX.elim
   ·exact h.elim
  ·exact h.elim
 ·exact h.elim
end
end Go.Proofs.YtapeebjjljohdaaGreatDoor.Vc
end
section
/- Part L of the engine: calls; one operation; a region's operations, one after the other. -/
namespace Go.Proofs.YtapeebjjljohdaaGreatDoor.Vc
theorem forceL_eq:∀ (l:List AV) (K:List AV→Prop),forceL l K=K l
 |[],K=>rfl
 |v :: r,K=>by
  unfold forceL
  rw [forceL_eq r]
  cases v <;> rfl
theorem forceN_eq:∀ (n:Nat) (K:Nat→Prop),forceN n K=K n
 |0,_=>rfl
 |1,_=>rfl
 |2,_=>rfl
 |3,_=>rfl
 |4,_=>rfl
 |5,_=>rfl
 |6,_=>rfl
 |7,_=>rfl
 |8,_=>rfl
 |9,_=>rfl
 |10,_=>rfl
 |11,_=>rfl
 |12,_=>rfl
 |13,_=>rfl
 |14,_=>rfl
 |15,_=>rfl
 |_+16,_=>rfl
theorem force_eq (v:AV) (K:AV→Prop):force v K=K v:=by
 cases v <;> simp only [force,forceN_eq,forceL_eq]
theorem forceO_eq:∀ (o:List Obj) (K:List Obj→Prop),forceO o K=K o
 |[],K=>rfl
 |x :: r,K=>by
  unfold forceO
  rw [forceO_eq r]
  cases x with
  |box cs=>exact forceL_eq cs _
  |row s n f=>rfl
  |dead=>rfl
section
variable {P:Program} {TB:TypeId→TI} {ρ:Nat→Option Nat} {o:List Obj} {R:Nat→Prop} {w:World} {t:Fr} {a:Act} {Gl:List (Nat × Go.Obj)} {call:FuncId→List AV→List Obj→(AV→List Obj→Prop)→Prop}
def Rets (P:Program) (Gl:List (Nat × Go.Obj)) (ρ:Nat→Option Nat) (o:List Obj) (R:Nat→Prop) (w:World) (f:FuncId) (xs:Array Value) (K:AV→List Obj→Prop):Prop :=
 Calls P f xs w fun e w'=>∃ r x o' ρ' R',e=.returned x∧K r o'∧HR Gl o' ρ' R' w'∧TR ρ' o' R' w' r x∧EX o ρ R w o' ρ' R' w'
def ArgsR (ρ:Nat→Option Nat) (o:List Obj) (R:Nat→Prop) (w:World) (vs:List AV) (xs:Array Value):Prop:=xs.size=vs.length∧∀ j,j<vs.length→TR ρ o R w (vs.getD j .undef) (xs.getD j Go.undef)
def HasBody (P : Program) (f : FuncId) : Prop := ∃ fn c, P.funcs[f]? = some fn ∧ (fn.name == "runtime.NumGoroutine") = false ∧ fn.body = some c
structure CallOk (P:Program) (Gl:List (Nat × Go.Obj)) (call:FuncId→List AV→List Obj→(AV→List Obj→Prop)→Prop):Prop where
 has:∀ f vs o K,call f vs o K→HasBody P f
 ok:∀ f vs o K,call f vs o K→∀ ρ R w xs,HR Gl o ρ R w→ArgsR ρ o R w vs xs→Rets P Gl ρ o R w f xs K
 mono:∀ f vs o (K K':AV→List Obj→Prop),(∀ r o',K r o'→K' r o')→call f vs o K→call f vs o K'
theorem FR.args (hf:FR ρ o R w t a) (as:Array Operand):ArgsR ρ o R w (as.toList.map (ev t)) (as.map a.eval):=by
 refine ⟨by simp,fun j hj=>?_⟩
 simp only [List.length_map,Array.length_toList] at hj
 have:=hf.evv (as[j]'hj)
 simpa [List.getD_eq_getElem?_getD,Array.getD_eq_getD_getElem?,hj] using this
theorem ArgsR.app {vs us:List AV} {xs ys:Array Value} (h:ArgsR ρ o R w vs xs) (k:ArgsR ρ o R w us ys):ArgsR ρ o R w (vs ++ us) (xs ++ ys):=by
 refine ⟨by simp [h.1,k.1],fun j hj=>?_⟩
 rw [List.length_append] at hj
 by_cases hjv:j<vs.length
 ·have h1:(vs ++ us).getD j .undef=vs.getD j .undef:=by simp [List.getD_eq_getElem?_getD,List.getElem?_append_left hjv]
  have h2:(xs ++ ys).getD j Go.undef=xs.getD j Go.undef:=by simp only [Array.getD_eq_getD_getElem?]; rw [Array.getElem?_append_left (by rw [h.1]; exact hjv)]
  rw [h1,h2]
  exact h.2 j hjv
 ·have h1:(vs ++ us).getD j .undef=us.getD (j-vs.length) .undef:=by simp [List.getD_eq_getElem?_getD,List.getElem?_append_right (Nat.le_of_not_lt hjv)]
  have h2:(xs ++ ys).getD j Go.undef=ys.getD (j-vs.length) Go.undef:=by simp only [Array.getD_eq_getD_getElem?]; rw [Array.getElem?_append_right (by rw [h.1]; omega),h.1]
  rw [h1,h2]
  exact k.2 _ (by omega)
theorem run_enter {f:FuncId} (h:HasBody P f) (args:Array Value) (w:World):(callFunc f args).run P w=.ok (.enter f args) w:=by
 obtain ⟨fn,c,h1,h2,h3⟩:=h
 have h2' : fn.name ≠ "runtime.NumGoroutine" := by simpa using h2
 simp [callFunc,h1,h2',h3]
theorem goes_enter {op:Op} {f:FuncId} {xs:Array Value} {K:AV→List Obj→Prop} (hr:∀ (dst:Option Tmp) (ty:TypeId) (pos:String) (af:Array Edge) (g:Option (Nat × Bool)),(execOp a.eval ⟨dst,op,ty,pos,af,g⟩).run P w=.ok (.enter f xs) w)
  (h:Rets P Gl ρ o R w f xs K):Goes P Gl ρ o R w a op K:=by
 intro dst ty pos af g next Q hn
 unfold Oper.wp
 rw [hr,Oper.upon_enter]
 refine Calls.mono h fun e w' he=>?_
 obtain ⟨r,x,o',ρ',R',rfl,h1,h2,h3,h4⟩:=he
 exact hn r x o' ρ' R' w' h1 h2 h3 h4
theorem TR.fnv {f:FuncId} {first cap:List AV} {y:Value} (h:TR ρ o R w (.fn f first cap) y) (hl:(liveL o first && liveL o cap)=true):∃ xs ys,y=.func (.func f) xs ys∧ArgsR ρ o R w first xs∧ArgsR ρ o R w cap ys:=by
 have hl':live o (.fn f first cap)=true:=by simpa [live] using hl
 rw [Bool.and_eq_true] at hl
 have hv:=h.vr hl'
 cases hv with
 |data h=>cases h
 |fn f l m xs ys h1 h2 h3 h4=>exact ⟨xs,ys,rfl,⟨h1,fun j hj=>.of (liveL_iff.1 hl.1 _ (getD_mem hj)) (h2 j hj)⟩,⟨h3,fun j hj=>.of (liveL_iff.1 hl.2 _ (getD_mem hj)) (h4 j hj)⟩⟩
theorem ef_sound (hT:TOk P TB) (hC:CallOk P Gl call) (hh:HR Gl o ρ R w) (hf:FR ρ o R w t a) {op:Op} {K:AV→List Obj→Prop} (h:efP TB call op t o K):Goes P Gl ρ o R w a op K:=by
 cases op with
 |box ty x=>exact g_box hT hh hf h
 |alloc ty=>exact g_alloc hT hh h
 |store ty x y=>exact g_store hT hh hf h
 |buildSlice ty n ps=>exact g_buildSlice hT hh hf h
 |makeSlice ty l c=>exact g_makeSlice hT hh hf h
 |call c =>
  obtain ⟨callee,args,ats⟩:=c
  cases callee with
  |builtin b =>
   cases b with
   |append=>exact g_append hT hh hf h
   |_=>simp [efP] at h
  |value x =>
   cases x with
   |func f =>
    simp only [efP,forceL_eq] at h
    refine goes_enter (f:=f) (xs:=args.map a.eval) (fun _ _ _ _ _=>?_) (hC.ok _ _ _ _ h ρ R w _ hh (hf.args args))
    have:=run_enter (hC.has _ _ _ _ h) (args.map a.eval) w
    simp only [execOp,resolve,Deferred.ofValue,Act.eval,invoke]
    simpa using this
   |tmp x =>
    simp only [efP] at h
    split at h
    ·rename_i f first cap hx
     obtain ⟨hl,h⟩:=of_cond_true h
     rw [forceL_eq] at h
     obtain ⟨xs,ys,hy,h1,h2⟩:=((hx ▸ hf x:TR ρ o R w (.fn f first cap) _)).fnv hl
     refine goes_enter (f:=f) (xs:=xs ++ args.map a.eval ++ ys) (fun _ _ _ _ _=>?_) (hC.ok _ _ _ _ h ρ R w _ hh ((h1.app (hf.args args)).app h2))
     have:=run_enter (hC.has _ _ _ _ h) (xs ++ args.map a.eval ++ ys) w
     have he:a.eval (.tmp x)=.func (.func f) xs ys:=hy
     simp only [execOp,resolve,he,Deferred.ofValue,invoke]
     simpa using this
    ·exact h.elim
   |const v=>simp [efP] at h
   |global g=>simp [efP] at h
  |invoke r n=>simp [efP] at h
 |_=>simp [efP] at h
end
end Go.Proofs.YtapeebjjljohdaaGreatDoor.Vc
end
section
/- Part M of the engine: one operation of a region; a region whose order is given. -/
namespace Go.Proofs.YtapeebjjljohdaaGreatDoor.Vc
section
variable {P:Program} {TB:TypeId→TI} {ρ:Nat→Option Nat} {o:List Obj} {R:Nat→Prop} {w:World} {t:Fr} {a:Act} {Gl:List (Nat × Go.Obj)} {call:FuncId→List AV→List Obj→(AV→List Obj→Prop)→Prop} {n:Nat}
structure SR (Gl:List (Nat × Go.Obj)) (ρ:Nat→Option Nat) (o:List Obj) (R:Nat→Prop) (w:World) (t:Fr) (a:Act) (n:Nat):Prop where
 hh:HR Gl o ρ R w
 hf:FR ρ o R w t a
 sz:a.tmps.size=n
 df:a.defers=[]
def putF (t:Fr) (d:Option Tmp) (v:AV):Fr:=match d with
 |some d=>upd t d v
 |none=>t
theorem put_getD {d:Tmp} {y:Value} (hd:d<a.tmps.size) (x:Nat):(a.put (some d) y).tmps.getD x Go.undef=if x=d then y else a.tmps.getD x Go.undef:=by
 simp only [Act.put,Array.getD_eq_getD_getElem?]
 by_cases h:x=d
 ·subst h; simp [hd]
 ·rw [if_neg h,Array.getElem?_setIfInBounds_ne (Ne.symm h)]
theorem FR.go {o':List Obj} {ρ':Nat→Option Nat} {R':Nat→Prop} {w':World} (hf:FR ρ o R w t a) (hx:EX o ρ R w o' ρ' R' w') (hh:HR Gl o ρ R w):FR ρ' o' R' w' t a:=fun x=>(hf x).go hx hh.ro
theorem FR.put (hf:FR ρ o R w t a) {dst:Option Tmp} {v:AV} {y:Value} (hd:∀ d,dst=some d→d<a.tmps.size) (hv:TR ρ o R w v y):FR ρ o R w (putF t dst v) (a.put dst y):=by
 cases dst with
 |none=>exact hf
 |some d =>
  intro x
  rw [put_getD (hd d rfl)]
  show TR ρ o R w (upd t d v x) _
  unfold upd
  cases h:Nat.beq x d with
  |true=>rw [if_pos (Nat.eq_of_beq_eq_true h)]; exact hv
  |false=>rw [if_neg (Nat.ne_of_beq_eq_false h)]; exact hf x
theorem SR.put (hs:SR Gl ρ o R w t a n) {dst:Option Tmp} {v:AV} {y:Value} (hd:∀ d,dst=some d→d<n) {o':List Obj} {ρ':Nat→Option Nat} {R':Nat→Prop} {w':World} (hh:HR Gl o' ρ' R' w') (hx:EX o ρ R w o' ρ' R' w') (hv:TR ρ' o' R' w' v y) :
  SR Gl ρ' o' R' w' (putF t dst v) (a.put dst y) n:=by
 refine ⟨hh,(hs.hf.go hx hs.hh).put (by rw [hs.sz]; exact hd) hv,?_,?_⟩
 ·cases dst <;> simp [Act.put,hs.sz]
 ·cases dst <;> simp [Act.put,hs.df]
def runP (TB:TypeId→TI) (call:FuncId→List AV→List Obj→(AV→List Obj→Prop)→Prop) (op:Op) (t:Fr) (o:List Obj) (K:AV→List Obj→Prop):Prop:=match isRd op with
 |true=>rdP TB op t o fun v=>K v o
 |false=>efP TB call op t o K
theorem opP_eq (full:Array Oper) (x:Oper) (t:Fr) (o:List Obj) (K:Fr→List Obj→Prop):opP TB call full x t o K=match x.guard with
  |none=>runP TB call x.op t o fun v o'=>K (putF t x.dst v) o'
  |some (j,want)=>match (((full[j]?).bind (·.dst)).map t).getD .undef with
   |.bool b=>Br b (cond want (runP TB call x.op t o fun v o'=>K (putF t x.dst v) o') (K (putF t x.dst (.tup [])) o)) (cond want (K (putF t x.dst (.tup [])) o) (runP TB call x.op t o fun v o'=>K (putF t x.dst v) o'))
   |.tup []=>K (putF t x.dst (.tup [])) o
   |_=>False:=by
 obtain ⟨dst,op,ty,pos,af,g⟩:=x
 cases dst <;> simp only [opP,runP,force_eq,forceO_eq,putF] <;> rfl
theorem run_sound (hT:TOk P TB) (hC:CallOk P Gl call) (hs:SR Gl ρ o R w t a n) {op:Op} {K:AV→List Obj→Prop} (h:runP TB call op t o K):Goes P Gl ρ o R w a op K:=by
 unfold runP at h
 cases hr:isRd op with
 |true =>
  rw [hr] at h
  obtain ⟨v,y,hK,hv,hx⟩:=rd_sound hT hs.hh hs.hf hr h
  exact goes_value hx hK hs.hh hv (EX.refl _ _ _ _)
 |false =>
  rw [hr] at h
  exact ef_sound hT hC hs.hh hs.hf h
theorem yielded_of (hs:SR Gl ρ o R w t a n) {full:Array Oper} {j:Nat} {b:Bool} (h:(((full[j]?).bind (·.dst)).map t).getD .undef=.bool b):yielded full a.tmps j=some b:=by
 unfold yielded
 cases hd:(full[j]?).bind (·.dst) with
 |none=>rw [hd] at h; simp at h
 |some d =>
  rw [hd] at h
  simp only [Option.map_some,Option.getD_some] at h
  have h1:a.tmps.getD d Go.undef=.bool b:=by
   have:=hs.hf d
   rw [h] at this
   exact this.bool
  simp only [Option.bind_some]
  cases h3:a.tmps[d]? with
  |none=>rw [Array.getD_eq_getD_getElem?,h3] at h1; simp [undef] at h1
  |some u =>
   rw [Array.getD_eq_getD_getElem?,h3] at h1
   simp only [Option.getD_some] at h1
   subst h1
   rfl
theorem yielded_not (hs:SR Gl ρ o R w t a n) {full:Array Oper} {j:Nat} (h:(((full[j]?).bind (·.dst)).map t).getD .undef=.tup []):yielded full a.tmps j=none:=by
 unfold yielded
 cases hd:(full[j]?).bind (·.dst) with
 |none=>rfl
 |some d =>
  rw [hd] at h
  simp only [Option.map_some,Option.getD_some] at h
  have h1:∃ xs,a.tmps.getD d Go.undef=.tuple xs:=by
   have:=hs.hf d
   rw [h] at this
   obtain ⟨xs,e,_⟩:=this.tup rfl
   exact ⟨xs,e⟩
  obtain ⟨xs,h1⟩:=h1
  simp only [Option.bind_some]
  cases h3:a.tmps[d]? with
  |none=>rfl
  |some u =>
   rw [Array.getD_eq_getD_getElem?,h3] at h1
   simp only [Option.getD_some] at h1
   subst h1
   rfl
theorem op_sound (hT:TOk P TB) (hC:CallOk P Gl call) (hs:SR Gl ρ o R w t a n) {full:Array Oper} {x:Oper} {K:Fr→List Obj→Prop} (hd:∀ d,x.dst=some d→d<n) (h:opP TB call full x t o K) {next:Act→World→Prop} {Q:Exit→Act→World→Prop}
  (hn:∀ t' o' ρ' R' w' a',K t' o'→SR Gl ρ' o' R' w' t' a' n→EX o ρ R w o' ρ' R' w'→next a' w') :
  if Region.wanted x (yielded full a.tmps) then x.wp P a w next Q∨(x.asks P a w∧LetsOut Q) else next (a.put x.dst Go.undef) w:=by
 rw [opP_eq] at h
 have go:runP TB call x.op t o (fun v o'=>K (putF t x.dst v) o')→x.wp P a w next Q:=by
  intro h
  obtain ⟨dst,op,ty,pos,af,g⟩:=x
  exact run_sound hT hC hs h dst ty pos af g next Q fun v y o' ρ' R' w' hK hh hv hx=>hn _ o' ρ' R' w' _ hK (hs.put hd hh hx hv) hx
 have skip:K (putF t x.dst (.tup [])) o→next (a.put x.dst Go.undef) w:=fun h=>hn _ o ρ R w _ h (hs.put hd hs.hh (EX.refl _ _ _ _) ⟨rfl,fun _=>.tup [] #[] rfl fun j hj=>absurd hj (Nat.not_lt_zero _)⟩) (EX.refl _ _ _ _)
 split at h
 ·rename_i hg
  have:Region.wanted x (yielded full a.tmps)=true:=by simp [Region.wanted,hg]
  rw [if_pos this]
  exact .inl (go h)
 ·rename_i j want hg
  split at h
  ·rename_i b hb
   have hy:=yielded_of hs hb
   have hw:Region.wanted x (yielded full a.tmps)=(b == want):=by
    unfold Region.wanted
    simp only [hg,hy]
    cases b <;> cases want <;> rfl
   cases b <;> cases want
   ·rw [hw,if_pos (by rfl)]; exact .inl (go (h.f rfl))
   ·rw [hw,if_neg (by simp)]; exact skip (h.f rfl)
   ·rw [hw,if_neg (by simp)]; exact skip (h.t rfl)
   ·rw [hw,if_pos (by rfl)]; exact .inl (go (h.t rfl))
  ·rename_i hb
   have hy:=yielded_not hs hb
   have hw:Region.wanted x (yielded full a.tmps)=false:=by
    unfold Region.wanted
    simp only [hg,hy]
    rfl
   rw [hw,if_neg (by simp)]
   exact skip h
  ·exact h.elim
theorem ops_sound (hT:TOk P TB) (hC:CallOk P Gl call) {full:Array Oper} {Q:Exit→Act→World→Prop}:∀ (l:List Oper) {ρ:Nat→Option Nat} {o:List Obj} {R:Nat→Prop} {w:World} {t:Fr} {a:Act} {K:Fr→List Obj→Prop},SR Gl ρ o R w t a n →
  (∀ x∈l,∀ d,x.dst=some d→d<n)→opsP TB call full l t o K→(∀ t' o' ρ' R' w' a',K t' o'→SR Gl ρ' o' R' w' t' a' n→EX o ρ R w o' ρ' R' w'→Q .normal a' w')→wpList P full Q l a w
 |[],ρ,o,R,w,t,a,_K,hs,_,h,hn=>hn t o ρ R w a h hs (EX.refl _ _ _ _)
 |x :: r,_ρ,_o,_R,_w,_t,_a,_K,hs,hd,h,hn=>op_sound hT hC hs (hd x List.mem_cons_self) h fun _t' _o' _ρ' _R' _w' _a' hK hs' hx=>ops_sound hT hC r hs' (fun y hy=>hd y (List.mem_cons_of_mem _ hy)) hK fun t2 o2 ρ2 R2 w2 a2 hK2 hs2 hx2=>hn t2 o2 ρ2 R2 w2 a2 hK2 hs2 (hx.trans hx2)
end
end Go.Proofs.YtapeebjjljohdaaGreatDoor.Vc
end
section
/- Part N of the engine: what an operation looks at: its operands' slots, and the local objects that they lead to. -/
namespace Go.Proofs.YtapeebjjljohdaaGreatDoor.Vc
mutual
def ids:AV→List Nat
 |.row id _ _ _=>[id]
 |.ptr id _=>[id]
 |.eptr id _ _ _=>[id]
 |.agg l=>idsL l
 |.tup l=>idsL l
 |.fn _ l m=>idsL l ++ idsL m
 |_=>[]
def idsL:List AV→List Nat
 |[]=>[]
 |v :: r=>ids v ++ idsL r
end
def bare:Op→Bool
 |.move _|.assign _|.pick ..|.binOp ..|.unOp ..=>true
 |_=>false
def idsOf (t:Fr):List Operand→List Nat
 |[]=>[]
 |x :: r=>ids (ev t x) ++ idsOf t r
def opIds (op:Op) (t:Fr):List Nat:=cond (bare op) [] (idsOf t op.operands.toList)
def keep (fl:List Nat) (o o':List Obj):Prop:=∀ id,id∈fl→o'[id]?=o[id]?
theorem keep.mono {fl gl:List Nat} {o o':List Obj} (h:keep fl o o') (k:∀ i,i∈gl→i∈fl):keep gl o o':=fun i hi=>h i (k i hi)
theorem keep.refl (fl:List Nat) (o:List Obj):keep fl o o:=fun _ _=>rfl
mutual
theorem live_keep {o o':List Obj}:∀ v:AV,keep (ids v) o o'→live o' v=live o v
 |.row id _ _ _,h=>by simp only [live,h id (by simp [ids])]
 |.ptr id _,h=>by simp only [live,h id (by simp [ids])]
 |.eptr id _ _ _,h=>by simp only [live,h id (by simp [ids])]
 |.agg l,h=>by simp only [live]; exact liveL_keep l (h.mono fun i hi=>by simpa [ids] using hi)
 |.tup l,h=>by simp only [live]; exact liveL_keep l (h.mono fun i hi=>by simpa [ids] using hi)
 |.fn _ l m,h=>by
  simp only [live]
  rw [liveL_keep l (h.mono fun i hi=>by simp [ids,hi]),liveL_keep m (h.mono fun i hi=>by simp [ids,hi])]
 |.undef,_=>rfl|.int ..,_=>rfl|.bool _,_=>rfl|.str _,_=>rfl|.sl ..,_=>rfl|.ro _,_=>rfl|.nils,_=>rfl|.nilp,_=>rfl|.nilf,_=>rfl|.nili,_=>rfl|.ifc,_=>rfl
theorem liveL_keep {o o':List Obj}:∀ l:List AV,keep (idsL l) o o'→liveL o' l=liveL o l
 |[],_=>rfl
 |v :: r,h=>by
  simp only [liveL]
  rw [live_keep v (h.mono fun i hi=>by simp [idsL,hi]),liveL_keep r (h.mono fun i hi=>by simp [idsL,hi])]
end
section
variable {TB:TypeId→TI} {o o':List Obj} {t t':Fr} {call:FuncId→List AV→List Obj→(AV→List Obj→Prop)→Prop}
theorem cellsAt_keep {v:AV} (h:keep (ids v) o o'):cellsAt o' v=cellsAt o v:=by
 cases v <;> simp only [cellsAt]
 rw [h _ (by simp [ids])]
theorem cellOk_keep {v:AV} (h:keep (ids v) o o'):cellOk o' v=cellOk o v:=by
 have:=live_keep v h
 cases v <;> simp only [cellOk] at this ⊢ <;> first|rfl|exact this
theorem buildCells_keep {fs:List (Nat × TypeId)}:∀ {ps:List (Nat × Operand)} {cs:List AV},keep (idsOf t (ps.map (·.2))) o o'→buildCells TB o' fs t cs ps=buildCells TB o fs t cs ps
 |[],cs,_=>rfl
 |(i,x) :: r,cs,h=>by
  have h1:keep (ids (ev t x)) o o':=h.mono fun i hi=>by simp [idsOf,hi]
  have h2:keep (idsOf t (r.map (·.2))) o o':=h.mono fun i hi=>by simp [idsOf,hi]
  simp only [buildCells]
  split
  ·rw [cellOk_keep h1,buildCells_keep h2]
  ·rfl
theorem rd_keep {op:Op} (h:keep (opIds op t) o o') (K:AV→Prop):rdP TB op t o' K=rdP TB op t o K:=by
 cases op with
 |move x=>rfl
 |assign x=>rfl
 |pick a b c=>rfl
 |binOp b ty x y tz=>rfl
 |unOp u ty x=>cases u <;> rfl
 |build ty ps =>
  have h1:keep (idsOf t (ps.toList.map (·.2))) o o':=h
  simp only [rdP,buildCells_keep h1]
 |load ty x =>
  have h1:keep (ids (ev t x)) o o':=h.mono fun i hi=>by simp [opIds,bare,idsOf,Op.operands,hi]
  simp only [rdP]
  generalize ev t x=v at h1
  have h2:=cellsAt_keep h1
  cases v <;> simp only at h2 ⊢ <;> first|rfl|rw [h2]|rw [h1 _ (by simp [ids])]
 |nilCheck x =>
  have h1:keep (ids (ev t x)) o o':=h.mono fun i hi=>by simp [opIds,bare,idsOf,Op.operands,hi]
  simp only [rdP]
  generalize ev t x=v at h1
  have h2:=live_keep v h1
  cases v <;> first|rfl|(simp only; rw [h2])
 |fieldAddr ty x f =>
  have h1:keep (ids (ev t x)) o o':=h.mono fun i hi=>by simp [opIds,bare,idsOf,Op.operands,hi]
  simp only [rdP]
  generalize ev t x=v at h1
  have h2:=live_keep v h1
  cases v <;> first|rfl|(simp only; rw [h2])
 |indexAddr ty x i =>
  have h1:keep (ids (ev t x)) o o':=h.mono fun i hi=>by simp [opIds,bare,idsOf,Op.operands,hi]
  simp only [rdP]
  generalize ev t x=v at h1
  have h2:=live_keep v h1
  generalize (TB ty).k=k1
  generalize ev t i=u
  cases k1 <;> cases v <;> cases u <;> first|rfl|(simp only; rw [h2])
 |index ty x i=>rfl
 |convert s d x =>
  have h1:keep (ids (ev t x)) o o':=h.mono fun i hi=>by simp [opIds,bare,idsOf,Op.operands,hi]
  simp only [rdP]
  generalize ev t x=v at h1
  generalize (TB s).k=k1
  generalize (TB d).k=k2
  cases k1 <;> cases v <;> cases k2 <;> first|rfl|(simp only; rw [h1 _ (by simp [ids])])
 |slice ty x lo hi mx =>
  have h1:keep (ids (ev t x)) o o':=h.mono fun i hi=>by simp [opIds,bare,idsOf,Op.operands,hi]
  cases mx with
  |some m=>rfl
  |none =>
   simp only [rdP]
   generalize ev t x=v at h1
   have h2:=live_keep v h1
   generalize (TB ty).k=k1
   cases k1 <;> cases v <;> first|rfl|(simp only; rw [h2])
 |field ty x f =>
  have h1:keep (ids (ev t x)) o o':=h.mono fun i hi=>by simp [opIds,bare,idsOf,Op.operands,hi]
  simp only [rdP]
  generalize ev t x=v at h1
  generalize (TB ty).k=k1
  cases k1 <;> cases v <;> first|rfl|(simp only; rw [liveL_keep _ (h1.mono fun i hi=>by simpa [ids] using hi)])
 |extract x i =>
  have h1:keep (ids (ev t x)) o o':=h.mono fun i hi=>by simp [opIds,bare,idsOf,Op.operands,hi]
  simp only [rdP]
  generalize ev t x=v at h1
  cases v with
  |tup l =>
   simp only
   rw [liveL_keep l (h1.mono fun i hi=>by simpa [ids] using hi)]
  |_=>rfl
 |makeFunc fn first cap =>
  cases fn with
  |func f =>
   have hl:∀ (xs:List Operand),keep (idsOf t xs) o o'→liveL o' (xs.map (ev t))=liveL o (xs.map (ev t)):=by
    intro xs hk
    refine liveL_keep _ (hk.mono fun i hi=>?_)
    induction xs with
    |nil=>exact hi
    |cons x r ih =>
     simp only [List.map_cons,idsL,List.mem_append] at hi
     simp only [idsOf,List.mem_append]
     rcases hi with hi|hi
     ·exact .inl hi
     ·exact .inr (ih (hk.mono fun i hi=>by simp [idsOf,hi]) hi)
   have h0:keep (idsOf t (first.toList ++ cap.toList)) o o':=by simpa [opIds,bare,Op.operands] using h
   have ha:∀ (l m:List Operand),idsOf t (l ++ m)=idsOf t l ++ idsOf t m:=by
    intro l m
    induction l with
    |nil=>rfl
    |cons x r ih=>simp [idsOf,ih]
   rw [ha] at h0
   simp only [rdP]
   rw [hl _ (h0.mono fun i hi=>List.mem_append_left _ hi),hl _ (h0.mono fun i hi=>List.mem_append_right _ hi)]
  |_=>rfl
 |call c =>
  obtain ⟨callee,args,ats⟩:=c
  cases callee with
  |builtin b =>
   cases b with
   |len =>
    have h0:keep (idsOf t args.toList) o o':=by simpa [opIds,bare,Op.operands,Call.operands] using h
    simp only [rdP]
    split
    all_goals first|rfl|skip
    rename_i id sz off n ty e1 e2
    have:∀ l:List Operand,l.map (ev t)=[.row id sz off n]→keep (idsOf t l) o o'→live o' (.row id sz off n)=live o (.row id sz off n):=by
     intro l hl hk
     cases l with
     |nil=>cases hl
     |cons x r =>
      simp only [List.map_cons,List.cons.injEq] at hl
      refine live_keep _ (hk.mono fun i hi=>?_)
      rw [← hl.1] at hi
      simp [idsOf,hi]
    rw [this _ e1 h0]
   |_=>rfl
  |_=>rfl
 |_=>rfl
end
end Go.Proofs.YtapeebjjljohdaaGreatDoor.Vc
end
section
/- Part O of the engine: an operation looks at its operands alone; a reading one yields one value. -/
namespace Go.Proofs.YtapeebjjljohdaaGreatDoor.Vc
section
variable {TB:TypeId→TI} {o o':List Obj} {t t':Fr} {call:FuncId→List AV→List Obj→(AV→List Obj→Prop)→Prop}
def agree (t t':Fr) (l:List Operand):Prop:=∀ x,x∈l→ev t' x=ev t x
theorem agree.map {l:List Operand} (h:agree t t' l):l.map (ev t')=l.map (ev t):=List.map_congr_left fun x hx=>h x hx
theorem buildCells_ev {fs:List (Nat × TypeId)}:∀ {ps:List (Nat × Operand)} {cs:List AV},agree t t' (ps.map (·.2))→buildCells TB o fs t' cs ps=buildCells TB o fs t cs ps
  | [],cs,_=>rfl
  | (i,x) :: r,cs,h=>by
    have h1:ev t' x=ev t x:=h x (by simp)
    have h2:agree t t' (r.map (·.2)):=fun y hy=>h y (by simp only [List.map_cons,List.mem_cons]; exact .inr hy)
    simp only [buildCells,h1]
    split
    · rw [buildCells_ev h2]
    · rfl
theorem elemsOf_ev {n:Nat}:∀ {ps:List (Nat × Operand)} {j:Nat},agree t t' (ps.map (·.2))→elemsOf o n t' ps j=elemsOf o n t ps j
  | [],j,_=>rfl
  | (i,x) :: r,j,h=>by
    have h1:ev t' x=ev t x:=h x (by simp)
    have h2:agree t t' (r.map (·.2)):=fun y hy=>h y (by simp only [List.map_cons,List.mem_cons]; exact .inr hy)
    simp only [elemsOf,h1,elemsOf_ev h2]
theorem bound_ev {x:Option Operand} {d:Int} (h:agree t t' x.toList):bound t' x d=bound t x d:=by
  cases x with
  | none=>rfl
  | some x=>simp only [bound,h x (by simp)]
theorem rd_ev {op:Op} (h:agree t t' op.operands.toList) (K:AV→Prop):rdP TB op t' o K=rdP TB op t o K:=by
  cases op with
  | move x=>simp only [rdP,h x (by simp [Op.operands])]
  | assign x=>simp only [rdP,h x (by simp [Op.operands])]
  | pick a b c=>simp only [rdP,h a (by simp [Op.operands]),h b (by simp [Op.operands]),h c (by simp [Op.operands])]
  | binOp b ty x y tz=>simp only [rdP,h x (by simp [Op.operands]),h y (by simp [Op.operands])]
  | unOp u ty x=>cases u <;> simp only [rdP,h x (by simp [Op.operands])]
  | build ty ps=>simp only [rdP,buildCells_ev (TB:=TB) (o:=o) (ps:=ps.toList) h]
  | load ty x=>simp only [rdP,h x (by simp [Op.operands])]
  | nilCheck x=>simp only [rdP,h x (by simp [Op.operands])]
  | fieldAddr ty x f=>simp only [rdP,h x (by simp [Op.operands])]
  | indexAddr ty x i=>simp only [rdP,h x (by simp [Op.operands]),h i (by simp [Op.operands])]
  | index ty x i=>simp only [rdP,h x (by simp [Op.operands]),h i (by simp [Op.operands])]
  | convert s d x=>simp only [rdP,h x (by simp [Op.operands])]
  | slice ty x lo hi mx =>
    cases mx with
    | some m=>rfl
    | none =>
      have h1:∀ d,bound t' lo d=bound t lo d:=fun d=>bound_ev fun y hy=>h y (by simp [Op.operands] at hy ⊢; simp [hy])
      have h2:∀ d,bound t' hi d=bound t hi d:=fun d=>bound_ev fun y hy=>h y (by simp [Op.operands] at hy ⊢; simp [hy])
      simp only [rdP,h x (by simp [Op.operands]),h1,h2]
  | extract x i=>simp only [rdP,h x (by simp [Op.operands])]
  | field ty x f=>simp only [rdP,h x (by simp [Op.operands])]
  | makeFunc fn first cap =>
    cases fn with
    | func f =>
      have h1:agree t t' first.toList:=fun y hy=>h y (by simp [Op.operands] at hy ⊢; exact .inl hy)
      have h2:agree t t' cap.toList:=fun y hy=>h y (by simp [Op.operands] at hy ⊢; exact .inr hy)
      simp only [rdP,h1.map,h2.map]
    | _=>rfl
  | call c =>
    obtain ⟨callee,args,ats⟩:=c
    cases callee with
    | builtin b =>
      have h1:agree t t' args.toList:=fun y hy=>h y (by simpa [Op.operands,Call.operands] using hy)
      cases b <;> simp only [rdP,h1.map]
    | _=>rfl
  | _=>rfl
theorem ef_ev {op:Op} (h:agree t t' op.operands.toList) (K:AV→List Obj→Prop):efP TB call op t' o K=efP TB call op t o K:=by
  cases op with
  | box ty x=>simp only [efP,h x (by simp [Op.operands])]
  | alloc ty=>rfl
  | store ty x y=>simp only [efP,h x (by simp [Op.operands]),h y (by simp [Op.operands])]
  | buildSlice ty n ps=>simp only [efP,elemsOf_ev (o:=o) (ps:=ps.toList) h]
  | makeSlice ty x y=>simp only [efP,h x (by simp [Op.operands]),h y (by simp [Op.operands])]
  | call c =>
    obtain ⟨callee,args,ats⟩:=c
    cases callee with
    | builtin b =>
      have h1:agree t t' args.toList:=fun y hy=>h y (by simpa [Op.operands,Call.operands] using hy)
      cases b <;> simp only [efP,h1.map]
    | value x =>
      have h1:agree t t' args.toList:=fun y hy=>h y (by simp only [Op.operands,Call.operands,Array.toList_append,List.mem_append]; exact .inr hy)
      cases x with
      | func f=>simp only [efP,h1.map]
      | tmp z =>
        have h2:t' z=t z:=h (.tmp z) (by simp [Op.operands,Call.operands])
        simp only [efP,h1.map,h2]
      | _=>rfl
    | _=>rfl
  | _=>rfl
theorem Br.mono {x:Bool} {A B A' B':Prop} (h:Br x A B) (ha:A→A') (hb:B→B'):Br x A' B':=⟨fun q=>ha (h.t q),fun q=>hb (h.f q)⟩
theorem loadV_det {ti:TI} {cs:List AV} {K:AV→Prop} (h:loadV ti cs K):∃ v,K v∧∀ K':AV→Prop,K' v→loadV ti cs K':=by
  unfold loadV at h
  split at h
  · rename_i fs e
    obtain ⟨hb,h⟩:=of_cond_true h
    exact ⟨_,h,fun K' h'=>by unfold loadV; rw [e]; simp only [hb,cond_true]; exact h'⟩
  · exact h.elim
  · rename_i e1 e2
    split at h
    · exact ⟨_,h,fun K' h'=>by
        unfold loadV
        split
        · rename_i fs e; exact absurd e (e1 _)
        · rename_i e; exact absurd e e2
        · exact h'⟩
    · exact h.elim
theorem Wr.det {k:IntKind} {x:Int} {K:AV→Prop} (h:Wr k x K):∃ v,K v∧∀ K':AV→Prop,K' v→Wr k x K':=by
  cases h with
  | ex h hK=>exact ⟨_,hK,fun K' h'=>.ex h h'⟩
  | wr hK=>exact ⟨_,hK,fun K' h'=>.wr h'⟩
theorem binP_det {op:BinOp} {x y:AV} {K:AV→Prop} (h:binP op x y K):∃ v,K v∧∀ K':AV→Prop,K' v→binP op x y K':=by
  unfold binP at h
  split at h
  · cases op <;> simp only [binP] at h ⊢ <;> first
      | exact ⟨_,h.2,fun K' h'=>⟨h.1,h'⟩⟩
      | (obtain ⟨v,h1,h2⟩:=h.2.det
         exact ⟨v,h1,fun K' h'=>⟨h.1,h2 K' h'⟩⟩)
      | (obtain ⟨hb,h⟩:=of_cond_true h
         first
          | (obtain ⟨v,h1,h2⟩:=h.det
             exact ⟨v,h1,fun K' h'=>by simp only [hb,cond_true]; exact h2 K' h'⟩)
          | (obtain ⟨v,h1,h2⟩:=h.2.det
             exact ⟨v,h1,fun K' h'=>by simp only [hb,cond_true]; exact ⟨h.1,h2 K' h'⟩⟩)
          | exact ⟨_,h.2,fun K' h'=>by simp only [hb,cond_true]; exact ⟨h.1,h'⟩⟩
          | exact ⟨_,h,fun K' h'=>by simp only [hb,cond_true]; exact h'⟩)
  · cases op <;> simp only [binP] at h ⊢ <;> first
      | exact h.elim
      | exact ⟨_,h.2,fun K' h'=>⟨h.1,h'⟩⟩
      | exact ⟨_,h,fun K' h'=>h'⟩
  · exact h.elim
theorem ifcP_det {k:TK} {b:BinOp} {c r:Bool} {K:AV→Prop} (h:ifcP k b c r K):∃ v,K v∧∀ K':AV→Prop,K' v→ifcP k b c r K':=by
  unfold ifcP at h
  split at h
  · obtain ⟨rfl,h⟩:=of_cond_true h; exact ⟨_,h,fun K' h'=>h'⟩
  · obtain ⟨rfl,h⟩:=of_cond_true h; exact ⟨_,h,fun K' h'=>h'⟩
  · exact h.elim
theorem rd_det {op:Op} {K:AV→Prop} (h:rdP TB op t o K):∃ v,K v∧∀ K':AV→Prop,K' v→rdP TB op t o K':=by
  cases op with
  | move x=>exact ⟨_,h,fun K' h'=>h'⟩
  | assign x=>exact ⟨_,h,fun K' h'=>h'⟩
  | pick a b c =>
    simp only [rdP] at h ⊢
    split at h
    · rename_i x e
      cases x with
      | true=>exact ⟨_,h.t rfl,fun K' h'=>⟨fun _=>h',fun q=>(by cases q)⟩⟩
      | false=>exact ⟨_,h.f rfl,fun K' h'=>⟨fun q=>(by cases q),fun _=>h'⟩⟩
    · exact h.elim
  | binOp b ty x y tz =>
    simp only [rdP] at h ⊢
    split at h
    · rename_i xs ys e1 e2
      split at h <;> try exact h.elim
      all_goals
        split at h
        · exact ⟨_,h,fun K' h'=>by first|exact h'|(simp [*]; done)|(simp only [*]; exact h')⟩
        · exact h.elim
    · rename_i p q e1 e2
      split at h <;> try exact h.elim
      all_goals exact ⟨_,h,fun K' h'=>by first|exact h'|(simp [*]; done)|(simp only [*]; exact h')⟩
    · exact ifcP_det h
    · exact ifcP_det h
    · rename_i e1 e2
      obtain ⟨v,h1,h2⟩:=binP_det h
      exact ⟨v,h1,fun K' h'=>h2 K' h'⟩
  | unOp u ty x =>
    cases u <;> simp only [rdP] at h ⊢ <;> try exact h.elim
    all_goals
      split at h
      · first|exact h.det|exact ⟨_,h,fun K' h'=>h'⟩
      · exact h.elim
  | build ty ps =>
    simp only [rdP] at h ⊢
    split at h
    · split at h
      · exact ⟨_,h,fun K' h'=>by first|exact h'|(simp [*]; done)|(simp only [*]; exact h')⟩
      · exact h.elim
    · exact h.elim
  | load ty x =>
    simp only [rdP] at h ⊢
    split at h
    · split at h
      · obtain ⟨h0,h⟩:=h
        obtain ⟨hb,h⟩:=of_cond_true h
        obtain ⟨v,h1,h2⟩:=loadV_det h
        exact ⟨v,h1,fun K' h'=>by simp only [hb,cond_true]; exact ⟨h0,h2 K' h'⟩⟩
      · exact h.elim
    · rename_i e1
      split at h
      · obtain ⟨v,h1,h2⟩:=loadV_det h
        exact ⟨v,h1,fun K' h'=>h2 K' h'⟩
      · exact h.elim
  | nilCheck x =>
    simp only [rdP] at h ⊢
    split at h
    · obtain ⟨hb,h⟩:=of_cond_true h
      exact ⟨_,h,fun K' h'=>by simp only [hb,cond_true]; exact h'⟩
    · exact ⟨_,h,fun K' h'=>h'⟩
    · obtain ⟨hb,h⟩:=of_cond_true h
      exact ⟨_,h,fun K' h'=>by simp only [hb,cond_true]; exact h'⟩
    · exact h.elim
  | fieldAddr ty x f =>
    simp only [rdP] at h ⊢
    split at h
    · split at h
      · obtain ⟨hb,h⟩:=of_cond_false h
        simp only [hb,cond_false]
        split at h
        · exact ⟨_,h,fun K' h'=>h'⟩
        · obtain ⟨hb,h⟩:=of_cond_true h
          exact ⟨_,h,fun K' h'=>by simp only [hb,cond_true]; exact h'⟩
        · obtain ⟨hb,h⟩:=of_cond_true h
          exact ⟨_,h,fun K' h'=>by simp only [hb,cond_true]; exact h'⟩
        · exact h.elim
      · exact h.elim
    · exact h.elim
  | indexAddr ty x i =>
    simp only [rdP] at h ⊢
    split at h
    · split at h
      · obtain ⟨h0,h⟩:=h
        obtain ⟨hb,h⟩:=of_cond_true h
        exact ⟨_,h,fun K' h'=>by simp only [hb,cond_true]; exact ⟨h0,h'⟩⟩
      · obtain ⟨h0,h⟩:=h
        obtain ⟨hb,h⟩:=of_cond_true h
        exact ⟨_,h,fun K' h'=>by simp only [hb,cond_true]; exact ⟨h0,h'⟩⟩
      · exact h.elim
    · exact h.elim
  | index ty x i =>
    simp only [rdP] at h ⊢
    split at h
    · exact ⟨_,h.2,fun K' h'=>⟨h.1,h'⟩⟩
    · exact h.elim
  | convert s d x =>
    simp only [rdP] at h ⊢
    split at h
    · exact h.det
    · exact ⟨_,h,fun K' h'=>h'⟩
    · split at h
      · split at h
        · obtain ⟨hb,h⟩:=of_cond_true h
          exact ⟨_,h.2,fun K' h'=>by simp only [hb,cond_true]; exact ⟨h.1,h'⟩⟩
        · exact h.elim
      · exact h.elim
    · exact h.elim
  | slice ty x lo hi mx =>
    cases mx with
    | some m=>exact h.elim
    | none =>
      simp only [rdP] at h ⊢
      split at h
      · split at h
        · exact ⟨_,h.2,fun K' h'=>⟨h.1,h'⟩⟩
        · exact h.elim
      · split at h
        · obtain ⟨h0,h⟩:=h
          obtain ⟨hb,h⟩:=of_cond_true h
          exact ⟨_,h,fun K' h'=>by simp only [hb,cond_true]; exact ⟨h0,h'⟩⟩
        · exact h.elim
      · split at h
        · obtain ⟨h0,h⟩:=h
          obtain ⟨hb,h⟩:=of_cond_true h
          exact ⟨_,h,fun K' h'=>by simp only [hb,cond_true]; exact ⟨h0,h'⟩⟩
        · exact h.elim
      · exact h.elim
  | field ty x f =>
    simp only [rdP] at h ⊢
    split at h
    · split at h
      · obtain ⟨hb,h⟩:=of_cond_true h
        obtain ⟨v,h1,h2⟩:=loadV_det h
        exact ⟨v,h1,fun K' h'=>by simp only [hb,cond_true]; exact h2 K' h'⟩
      · exact h.elim
    · exact h.elim
  | extract x i =>
    simp only [rdP] at h ⊢
    split at h
    · split at h
      · obtain ⟨hb,h⟩:=of_cond_true h
        exact ⟨_,h,fun K' h'=>by simp only [hb,cond_true]; exact h'⟩
      · exact h.elim
    · exact h.elim
  | makeFunc fn first cap =>
    cases fn with
    | func f =>
      simp only [rdP] at h ⊢
      obtain ⟨hb,h⟩:=of_cond_true h
      exact ⟨_,h,fun K' h'=>by simp only [hb,cond_true]; exact h'⟩
    | _=>exact h.elim
  | call c =>
    obtain ⟨callee,args,ats⟩:=c
    cases callee with
    | builtin b =>
      cases b with
      | len =>
        simp only [rdP] at h ⊢
        split at h
        · split at h
          · rename_i e1; exact ⟨_,h,fun K' h'=>h'⟩
          · exact h.elim
        · split at h
          · obtain ⟨hb,h⟩:=of_cond_true h
            exact ⟨_,h,fun K' h'=>by simp only [hb,cond_true]; exact h'⟩
          · exact h.elim
        · split at h
          · exact ⟨_,h,fun K' h'=>h'⟩
          · exact h.elim
        · split at h
          · exact ⟨_,h,fun K' h'=>h'⟩
          · exact h.elim
        · exact h.elim
      | max =>
        simp only [rdP] at h ⊢
        split at h
        · exact ⟨_,h,fun K' h'=>h'⟩
        · exact h.elim
      | min =>
        simp only [rdP] at h ⊢
        split at h
        · exact ⟨_,h,fun K' h'=>h'⟩
        · exact h.elim
      | _=>exact h.elim
    | _=>exact h.elim
  | _=>exact h.elim
end
end Go.Proofs.YtapeebjjljohdaaGreatDoor.Vc
end
section
/- Part Q of the engine: a region whose order is drawn. -/
namespace Go.Proofs.YtapeebjjljohdaaGreatDoor.Vc
def aftD (ops:Array Oper):Nat→Oper→Nat→Bool
 |0,x,j=>x.after.toList.any fun e=>Region.binds .any e && Nat.beq e.on j
 |d+1,x,j=>x.after.toList.any fun e=>Region.binds .any e && (Nat.beq e.on j || (Nat.blt j e.on && (match ops[e.on]? with
  |some y=>aftD ops d y j
  |none=>false)))
def aft (ops:Array Oper) (x:Oper) (j:Nat):Bool:=aftD ops 4 x j
def keepX (ops:Array Oper) (x:Oper) (fl:List (Nat × Nat)) (o o':List Obj):Prop:=∀ j i,(j,i)∈fl→aft ops x j=false→o'[i]?=o[i]?
theorem keepX.mono {ops:Array Oper} {x:Oper} {fl gl:List (Nat × Nat)} {o o':List Obj} (h:keepX ops x fl o o') (k:∀ i,i∈gl→i∈fl):keepX ops x gl o o':=fun j i hi=>h j i (k _ hi)
theorem keepX.refl (ops:Array Oper) (x:Oper) (fl:List (Nat × Nat)) (o:List Obj):keepX ops x fl o o:=fun _ _ _ _=>rfl
def keepP (ops:Array Oper) (x:Oper):List (Nat × Nat)→List Obj→List Obj→Prop→Prop
 |[],_,_,K=>K
 |(j,i) :: r,o,o',K=>cond (aft ops x j) (keepP ops x r o o' K) (Chk (o'[i]?=o[i]?)∧keepP ops x r o o' K)
theorem keepP_spec {ops:Array Oper} {x:Oper}:∀ {l:List (Nat × Nat)} {o o':List Obj} {K:Prop},keepP ops x l o o' K→keepX ops x l o o'∧K
 |[],o,o',K,h=>⟨fun j i hi=>(by cases hi),h⟩
 |(j,i) :: r,o,o',K,h=>by
  unfold keepP at h
  cases e:aft ops x j with
  |true =>
   rw [e] at h
   obtain ⟨h1,h2⟩:=keepP_spec (l:=r) h
   refine ⟨fun j' i' hi ha=>?_,h2⟩
   rcases List.mem_cons.1 hi with hi|hi
   ·cases hi; rw [e] at ha; cases ha
   ·exact h1 j' i' hi ha
  |false =>
   rw [e] at h
   obtain ⟨h1,h2⟩:=keepP_spec (l:=r) h.2
   refine ⟨fun j' i' hi ha=>?_,h2⟩
   rcases List.mem_cons.1 hi with hi|hi
   ·cases hi; exact h.1.h
   ·exact h1 j' i' hi ha
def addQ (j:Nat):List Nat→List (Nat × Nat)→(List (Nat × Nat)→Prop)→Prop
 |[],fl,K=>K fl
 |i :: r,fl,K=>forceN i fun i=>addQ j r ((j,i) :: fl) K
theorem addQ_spec {j:Nat}:∀ {l:List Nat} {m:List (Nat × Nat)} {K:List (Nat × Nat)→Prop},addQ j l m K→∃ s,K s∧(∀ i,i∈l→(j,i)∈s)∧∀ i,i∈m→i∈s
 |[],m,K,h=>⟨m,h,fun i hi=>(by cases hi),fun _ hi=>hi⟩
 |i :: r,m,K,h=>by
  unfold addQ at h
  rw [forceN_eq] at h
  obtain ⟨s,h1,h2,h3⟩:=addQ_spec (l:=r) h
  refine ⟨s,h1,fun k hk=>?_,fun k hk=>h3 k (List.mem_cons_of_mem _ hk)⟩
  rcases List.mem_cons.1 hk with rfl|hk
  ·exact h3 _ List.mem_cons_self
  ·exact h2 k hk
inductive OT where
 |dn
 |rd (i:Nat) (r:OT)
 |ef (i:Nat) (r s:OT)
 |no
structure Sp (A B:Prop):Prop where
 l:A
 r:B
def drP (TB:TypeId→TI) (call:FuncId→List AV→List Obj→(AV→List Obj→Prop)→Prop) (ops:Array Oper):OT→List (Nat × Nat)→Fr→List Obj→(Fr→List Obj→Prop)→Prop
 |.dn,_,t,o,K=>K t o
 |.no,_,_,_,_=>True
 |.rd i r,fl,t,o,K=>match ops[i]? with
  |none=>False
  |some x=>match isRd x.op with
   |true=>opP TB call ops x t o fun t' o'=>addQ i (opIds x.op t) fl fun fl=>drP TB call ops r fl t' o' K
   |false=>False
 |.ef i r .no,fl,t,o,K=>match ops[i]? with
  |none=>False
  |some x=>opP TB call ops x t o fun t' o'=>keepP ops x fl o o' (drP TB call ops r fl t' o' K)
 |.ef i r s,fl,t,o,K=>match ops[i]? with
  |none=>False
  |some x=>Sp (opP TB call ops x t o fun t' o'=>keepP ops x fl o o' (drP TB call ops r fl t' o' K)) (drP TB call ops s fl t o K)
def otHeads:OT→List Nat
 |.ef i _ s=>i :: otHeads s
 |_=>[]
def okB (ops:Array Oper):OT→Bool→Nat→Array Bool→Bool
 |.dn,c,n,listed=>!c && Nat.beq n 0 && (Region.ready .any ops listed).isEmpty
 |.rd i r,c,n,listed=>!c && Nat.ble 1 n && (match ops[i]? with
  |none=>false
  |some x=>isRd x.op && (Region.ready .any ops listed).contains i && Region.free .any ops listed i) && okB ops r false (n-1) (listed.setIfInBounds i true)
 |.ef i r s,c,n,listed=>(c || decide (otHeads (.ef i r s)=Region.ready .any ops listed)) && Nat.ble 1 n && okB ops r false (n-1) (listed.setIfInBounds i true) && okB ops s true n listed
 |.no,c,_,_=>c
def okR (ops:Array Oper) (l:OT):Bool:=okB ops l false ops.size (Array.replicate ops.size false)
structure Dr (TB:TypeId→TI) (call:FuncId→List AV→List Obj→(AV→List Obj→Prop)→Prop) (ops:Array Oper) (t:Fr) (o:List Obj) (K:Fr→List Obj→Prop):Prop where
 ex:∃ l,okR ops l=true∧drP TB call ops l [] t o K
section
variable {P:Program} {TB:TypeId→TI} {ρ:Nat→Option Nat} {o:List Obj} {R:Nat→Prop} {w:World} {t:Fr} {a:Act} {Gl:List (Nat × Go.Obj)} {call:FuncId→List AV→List Obj→(AV→List Obj→Prop)→Prop} {n:Nat} {ops:Array Oper}
def CallMono (call:FuncId→List AV→List Obj→(AV→List Obj→Prop)→Prop):Prop:=∀ f vs o (K K':AV→List Obj→Prop),(∀ r o',K r o'→K' r o')→call f vs o K→call f vs o K'
theorem ef_mono (hM:CallMono call) {op:Op} {K K':AV→List Obj→Prop} (hk:∀ v o',K v o'→K' v o') (h:efP TB call op t o K):efP TB call op t o K':=by
 cases op with
 |box ty x =>
  simp only [efP] at h ⊢
  obtain ⟨hb,h⟩:=of_cond_true h
  rw [hb]; exact hk _ _ h
 |alloc ty =>
  simp only [efP] at h ⊢
  split at h
  ·exact h
  ·exact hk _ _ h
 |store ty x y =>
  simp only [efP] at h ⊢
  split at h
  ·split at h
   ·obtain ⟨hb,h⟩:=of_cond_true h
    rw [hb]; exact hk _ _ h
   ·exact h
  ·split at h
   ·split at h
    ·obtain ⟨h0,h⟩:=h
     obtain ⟨hb,h⟩:=of_cond_true h
     rw [hb]; exact ⟨h0,hk _ _ h⟩
    ·exact h
   ·exact h
  ·exact h
 |buildSlice ty m ps =>
  simp only [efP] at h ⊢
  split at h
  ·cases hb:Nat.beq m 0 with
   |true =>
    rw [hb] at h
    simp only [cond_true] at h ⊢
    obtain ⟨hb,h⟩:=of_cond_true h
    rw [hb]; exact hk _ _ h
   |false =>
    rw [hb] at h
    simp only [cond_false] at h ⊢
    obtain ⟨hb,h⟩:=of_cond_true h
    rw [hb]
    simp only [cond_true]
    split at h
    ·exact ⟨h.1,hk _ _ h.2⟩
    ·exact h
  ·exact h
 |makeSlice ty x y =>
  simp only [efP] at h ⊢
  split at h
  ·exact ⟨h.1,hk _ _ h.2⟩
  ·exact h
 |call c =>
  obtain ⟨callee,args,ats⟩:=c
  cases callee with
  |builtin b =>
   cases b with
   |append =>
    simp only [efP] at h ⊢
    split at h
    ·split at h
     ·split at h
      ·obtain ⟨hb,h⟩:=of_cond_true h
       rw [hb]
       simp only [cond_true]
       split at h
       ·exact ⟨h.1,hk _ _ h.2⟩
       ·split at h
        ·obtain ⟨hb,h⟩:=of_cond_true h
         rw [hb]
         exact ⟨h.1,hk _ _ h.2⟩
        ·exact h
       ·exact h
      ·exact h
     ·exact h
    ·exact h
   |_=>exact h
  |value x =>
   cases x with
   |func f =>
    simp only [efP,forceL_eq] at h ⊢
    exact hM _ _ _ _ _ hk h
   |tmp x =>
    simp only [efP] at h ⊢
    split at h
    ·obtain ⟨hb,h⟩:=of_cond_true h
     rw [forceL_eq] at h
     rw [hb]
     simp only [cond_true,forceL_eq]
     exact hM _ _ _ _ _ hk h
    ·exact h
   |_=>exact h
  |_=>exact h
 |_=>exact h
theorem rd_mono {op:Op} {K K':AV→Prop} (hk:∀ v,K v→K' v) (h:rdP TB op t o K):rdP TB op t o K':=by
 obtain ⟨v,h1,h2⟩:=rd_det h
 exact h2 K' (hk v h1)
theorem run_mono (hM:CallMono call) {op:Op} {K K':AV→List Obj→Prop} (hk:∀ v o',K v o'→K' v o') (h:runP TB call op t o K):runP TB call op t o K':=by
 unfold runP at h ⊢
 split at h
 ·exact rd_mono (fun v hv=>hk v o hv) h
 ·exact ef_mono hM hk h
theorem run_ev {t':Fr} {op:Op} (h:agree t t' op.operands.toList) (K:AV→List Obj→Prop):runP TB call op t' o K=runP TB call op t o K:=by
 unfold runP
 rw [rd_ev h,ef_ev h]
def looks (ops:Array Oper) (x:Oper) (t t':Fr):Prop:=∀ d,d∈x.looksAt ops→t' d=t d
theorem looks.agree {x:Oper} {t':Fr} (h:looks ops x t t'):Vc.agree t t' x.op.operands.toList:=by
 intro y hy
 cases y with
 |tmp d=>exact h d (List.mem_append_left _ (List.mem_filterMap.2 ⟨.tmp d,hy,rfl⟩))
 |_=>rfl
theorem looks.guard {x:Oper} {t':Fr} (h:looks ops x t t') {j:Nat} {b:Bool} (hg:x.guard=some (j,b)):(((ops[j]?).bind (·.dst)).map t').getD .undef=(((ops[j]?).bind (·.dst)).map t).getD AV.undef:=by
 cases hd:(ops[j]?).bind (·.dst) with
 |none=>rfl
 |some d =>
  have:=h d (List.mem_append_right _ (by simp [hg,hd]))
  simp [this]
theorem op_swap (hM:CallMono call) {x:Oper} {t1 t2:Fr} {K K2:Fr→List Obj→Prop} (h:opP TB call ops x t1 o K) (hl:looks ops x t1 t2) (hk:∀ v o',K (putF t1 x.dst v) o'→K2 (putF t2 x.dst v) o'):opP TB call ops x t2 o K2:=by
 rw [opP_eq] at h ⊢
 have go:runP TB call x.op t1 o (fun v o'=>K (putF t1 x.dst v) o')→runP TB call x.op t2 o fun v o'=>K2 (putF t2 x.dst v) o':=by
  intro h
  rw [run_ev hl.agree]
  exact run_mono hM (fun v o' hv=>hk v o' hv) h
 split at h
 ·exact go h
 ·rename_i j want hg
  rw [hl.guard hg]
  split at h
  ·refine h.mono ?_ ?_ <;> cases want <;> first|exact go|exact hk _ _
  ·exact hk _ _ h
  ·exact h
theorem op_mono (hM:CallMono call) {x:Oper} {K K2:Fr→List Obj→Prop} (h:opP TB call ops x t o K) (hk:∀ t' o',K t' o'→K2 t' o'):opP TB call ops x t o K2:=op_swap hM h (fun _ _=>rfl) fun _v o'=>hk _ o'
def Yst (TB:TypeId→TI) (call:FuncId→List AV→List Obj→(AV→List Obj→Prop)→Prop) (ops:Array Oper) (x:Oper) (v:AV) (g:List Nat) (t:Fr) (o:List Obj):Prop :=
 ∀ t' o',looks ops x t t'→keep g o o'→∀ K:Fr→List Obj→Prop,K (putF t' x.dst v) o'→opP TB call ops x t' o' K
theorem Yst.go {x:Oper} {v:AV} {g:List Nat} (h:Yst TB call ops x v g t o) {t':Fr} {o':List Obj} (hl:looks ops x t t') (hk:keep g o o'):Yst TB call ops x v g t' o' :=
 fun t2 o2 h1 h2 K hK=>h t2 o2 (fun d hd=>(h1 d hd).trans (hl d hd)) (fun i hi=>(h2 i hi).trans (hk i hi)) K hK
theorem op_det {x:Oper} (hr:isRd x.op=true) {K:Fr→List Obj→Prop} (h:opP TB call ops x t o K):∃ v,K (putF t x.dst v) o∧Yst TB call ops x v (opIds x.op t) t o:=by
 rw [opP_eq] at h
 have go:runP TB call x.op t o (fun v o'=>K (putF t x.dst v) o')→∃ v,K (putF t x.dst v) o∧∀ t' o',looks ops x t t'→keep (opIds x.op t) o o'→∀ K:Fr→List Obj→Prop,K (putF t' x.dst v) o'→runP TB call x.op t' o' fun v o''=>K (putF t' x.dst v) o'':=by
  intro h
  unfold runP at h
  rw [hr] at h
  obtain ⟨v,h1,h2⟩:=rd_det h
  refine ⟨v,h1,fun t' o' hl hk K hK=>?_⟩
  unfold runP
  rw [hr]
  simp only
  rw [rd_ev hl.agree,rd_keep hk]
  exact h2 _ hK
 split at h
 ·rename_i hg
  obtain ⟨v,h1,h2⟩:=go h
  refine ⟨v,h1,fun t' o' hl hk K hK=>?_⟩
  rw [opP_eq]
  simp only [hg]
  exact h2 t' o' hl hk K hK
 ·rename_i j want hg
  split at h
  ·rename_i b hb
   have wantd:b=want→∃ v,K (putF t x.dst v) o∧Yst TB call ops x v (opIds x.op t) t o:=by
    intro hbw
    obtain ⟨v,h1,h2⟩:=go (by subst hbw; cases b <;> first|exact h.t rfl|exact h.f rfl)
    refine ⟨v,h1,fun t' o' hl hk K hK=>?_⟩
    rw [opP_eq]
    simp only [hg]
    rw [hl.guard hg,hb]
    subst hbw
    cases b <;> first|exact ⟨fun _=>h2 t' o' hl hk K hK,fun q=>(by cases q)⟩|exact ⟨fun q=>(by cases q),fun _=>h2 t' o' hl hk K hK⟩
   have unwantd:b≠want→∃ v,K (putF t x.dst v) o∧Yst TB call ops x v (opIds x.op t) t o:=by
    intro hbw
    refine ⟨.tup [],?_,fun t' o' hl hk K hK=>?_⟩
    ·cases b <;> cases want <;> first|exact absurd rfl hbw|exact h.t rfl|exact h.f rfl
    ·rw [opP_eq]
     simp only [hg]
     rw [hl.guard hg,hb]
     cases b <;> cases want <;> first|exact absurd rfl hbw|exact ⟨fun _=>hK,fun q=>(by cases q)⟩|exact ⟨fun q=>(by cases q),fun _=>hK⟩
   by_cases hbw:b=want
   ·exact wantd hbw
   ·exact unwantd hbw
  ·rename_i hb
   refine ⟨.tup [],h,fun t' o' hl hk K hK=>?_⟩
   rw [opP_eq]
   simp only [hg]
   rw [hl.guard hg,hb]
   exact hK
  ·exact h.elim
theorem putF_comm {d e:Option Tmp} {v u:AV} (h:∀ x,d=some x→e≠some x):putF (putF t d v) e u=putF (putF t e u) d v:=by
 cases d with
 |none=>rfl
 |some d=>cases e with
  |none=>rfl
  |some e =>
   have hne:d≠e:=fun q=>h d rfl (by rw [q])
   funext x
   simp only [putF,upd]
   cases h1:Nat.beq x d <;> cases h2:Nat.beq x e <;> simp
   exact absurd ((Nat.eq_of_beq_eq_true h1).symm.trans (Nat.eq_of_beq_eq_true h2)) hne
theorem putF_looks {x:Oper} {d:Option Tmp} {v:AV} (h:∀ e,d=some e→e ∉ x.looksAt ops):looks ops x t (putF t d v):=by
 intro y hy
 cases d with
 |none=>rfl
 |some d =>
  simp only [putF,upd]
  cases h1:Nat.beq y d with
  |false=>rfl
  |true=>exact absurd (Nat.eq_of_beq_eq_true h1 ▸ hy) (h d rfl)
theorem looks.symm {x:Oper} {t':Fr} (h:looks ops x t t'):looks ops x t' t:=fun d hd=>(h d hd).symm
def anyP (TB:TypeId→TI) (call:FuncId→List AV→List Obj→(AV→List Obj→Prop)→Prop) (ops:Array Oper) (fl:List (Nat × Nat)):Nat→Array Bool→Fr→List Obj→(Fr→List Obj→Prop)→Prop
 |0,listed,t,o,K=>Region.ready .any ops listed=[]∧K t o
 |f+1,listed,t,o,K=>(Region.ready .any ops listed=[]→K t o)∧∀ i∈Region.ready .any ops listed,∀ x,ops[i]?=some x →
   opP TB call ops x t o fun t' o'=>keepX ops x fl o o'∧anyP TB call ops fl f (listed.setIfInBounds i true) t' o' K
theorem anyP_less (hM:CallMono call) {fl gl:List (Nat × Nat)} (hs:∀ i,i∈fl→i∈gl) {K:Fr→List Obj→Prop}:∀ {f:Nat} {listed:Array Bool} {t:Fr} {o:List Obj},anyP TB call ops gl f listed t o K→anyP TB call ops fl f listed t o K
 |0,_,_,_,h=>h
 |_f+1,_,_,_,h=>⟨h.1,fun i hi x hx=>op_mono hM (h.2 i hi x hx) fun _t' _o' hk=>⟨hk.1.mono hs,anyP_less hM hs hk.2⟩⟩
def Closed (ops:Array Oper) (listed:Array Bool):Prop:=∀ (k:Nat) (y:Oper),listed.getD k false=true→ops[k]?=some y→∀ e∈y.after,Region.binds .any e=true→listed.getD e.on false=true
theorem Closed.set {listed:Array Bool} (h:Closed ops listed) {i:Nat} (hi:i∈Region.ready .any ops listed):Closed ops (listed.setIfInBounds i true):=fun k y hk hy e he hb=>by
 have up:listed.getD e.on false=true→(listed.setIfInBounds i true).getD e.on false=true:=fun h1=>by
  by_cases hie:i=e.on
  ·have hs:e.on<listed.size:=by
    rcases Nat.lt_or_ge e.on listed.size with h'|h'
    ·exact h'
    ·simp [Array.getElem?_eq_none h'] at h1
   rw [hie]
   simp [hs]
  ·rw [getD_set_ne false hie]; exact h1
 by_cases hik:i=k
 ·subst hik
  obtain ⟨_,oj,hoj,hall⟩:=mem_ready.1 hi
  have:y=oj:=Option.some.inj (hy.symm.trans hoj)
  subst this
  exact up (hall e he hb)
 ·rw [getD_set_ne false hik] at hk
  exact up (h k y hk hy e he hb)
theorem anyP_first (hM:CallMono call) {i:Nat} {oi:Oper} {v:AV} {fl gl:List (Nat × Nat)} {g:List Nat} (hi:ops[i]?=some oi) (hs:∀ i,i∈fl→i∈gl) (hg:∀ k,k∈g→(i,k)∈gl) {K:Fr→List Obj→Prop}:∀ (f:Nat) (listed:Array Bool) (t:Fr) (o:List Obj),
  (∀ j oj,ops[j]?=some oj→j≠i→listed.getD j true=false→(∀ e∈oj.after,Region.binds .any e=true→e.on≠i)→oi.apart ops oj=true) →
  Closed ops listed→i∈Region.ready .any ops listed→Yst TB call ops oi v g t o→anyP TB call ops gl f (listed.setIfInBounds i true) (putF t oi.dst v) o K→anyP TB call ops fl (f+1) listed t o K:=by
 intro f
 induction f with
 |zero =>
  intro listed t o _ _ hr hy H
  refine ⟨fun h=>(by rw [h] at hr; cases hr),fun j hj x hx=>?_⟩
  by_cases hji:j=i
  ·subst hji
   have:x=oi:=Option.some.inj (hx.symm.trans hi)
   subst this
   exact hy t o (fun _ _=>rfl) (keep.refl _ _) _ ⟨keepX.refl _ _ _ _,anyP_less hM hs H⟩
  ·have:=ready_mono hj hji
   rw [H.1] at this
   cases this
 |succ f ih =>
  intro listed t o hfree hcl hr hy H
  refine ⟨fun h=>(by rw [h] at hr; cases hr),fun j hj x hx=>?_⟩
  by_cases hji:j=i
  ·subst hji
   have:x=oi:=Option.some.inj (hx.symm.trans hi)
   subst this
   exact hy t o (fun _ _=>rfl) (keep.refl _ _) _ ⟨keepX.refl _ _ _ _,anyP_less hM hs H⟩
  ·obtain ⟨hjun,oj,hoj,hall⟩:=mem_ready.1 hj
   have hxo:x=oj:=Option.some.inj (hx.symm.trans hoj)
   subst hxo
   have hnot:∀ e∈x.after,Region.binds .any e=true→e.on≠i:=fun e he hb heq=>by
    have h1:=hall e he hb
    have h0:=(mem_ready.1 hr).1
    rw [heq] at h1
    rcases Nat.lt_or_ge i listed.size with h'|h'
    ·simp [h'] at h0 h1; rw [h0] at h1; cases h1
    ·simp [Array.getElem?_eq_none h'] at h1
   have unl:listed.getD i false=true→False:=fun h1=>by
    have h0:=(mem_ready.1 hr).1
    rcases Nat.lt_or_ge i listed.size with h'|h'
    ·simp [h'] at h0 h1; rw [h0] at h1; cases h1
    ·simp [Array.getElem?_eq_none h'] at h1
   have deep:∀ d (y:Oper),(∀ e∈y.after,Region.binds .any e=true→listed.getD e.on false=true)→aftD ops d y i=false:=by
    intro d
    induction d with
    |zero =>
     intro y hy'
     unfold aftD
     rw [List.any_eq_false]
     intro q hq hh
     rw [Bool.and_eq_true] at hh
     have:=hy' q (by simpa using hq) hh.1
     rw [Nat.eq_of_beq_eq_true hh.2] at this
     exact unl this
    |succ d ihd =>
     intro y hy'
     unfold aftD
     rw [List.any_eq_false]
     intro q hq hh
     rw [Bool.and_eq_true,Bool.or_eq_true,Bool.and_eq_true] at hh
     have h1:=hy' q (by simpa using hq) hh.1
     rcases hh.2 with h2|⟨_,h2⟩
     ·rw [Nat.eq_of_beq_eq_true h2] at h1
      exact unl h1
     ·cases hy2:ops[q.on]? with
      |none=>rw [hy2] at h2; cases h2
      |some z =>
       rw [hy2] at h2
       have h3:=ihd z fun e he hb=>hcl q.on z h1 hy2 e he hb
       dsimp only at h2
       rw [h3] at h2
       cases h2
   have haft:aft ops x i=false:=deep 4 x hall
   obtain ⟨a1,a2,a3⟩:=Oper.apart_spec (hfree j x hoj hji hjun hnot)
   have hfree':∀ k ok,ops[k]?=some ok→k≠i→(listed.setIfInBounds j true).getD k true=false →
     (∀ e∈ok.after,Region.binds .any e=true→e.on≠i)→oi.apart ops ok=true:=fun k ok hk hki hun hno=>by
    refine hfree k ok hk hki ?_ hno
    by_cases hjk:j=k
    ·subst hjk; exact hjun
    ·rw [getD_set_ne true hjk] at hun; exact hun
   refine op_swap hM (H.2 j (ready_mono hj hji) x hx) (putF_looks a1).symm fun u o' hk=>?_
   refine ⟨hk.1.mono hs,ih (listed.setIfInBounds j true) (putF t x.dst u) o' hfree' (hcl.set hj) (ready_mono hr (Ne.symm hji)) (hy.go (putF_looks a3) fun k hgk=>hk.1 i k (hg k hgk) haft) ?_⟩
   have h3:=hk.2
   rw [Array.setIfInBounds_comm _ _ (Ne.symm hji),putF_comm a2] at h3
   exact h3
theorem drP_ef {K:Fr→List Obj→Prop} {i:Nat} {r s:OT} {fl:List (Nat × Nat)} {t:Fr} {o:List Obj} (h:drP TB call ops (.ef i r s) fl t o K) :
  (∃ x,ops[i]?=some x∧opP TB call ops x t o fun t' o'=>keepP ops x fl o o' (drP TB call ops r fl t' o' K))∧drP TB call ops s fl t o K:=by
 cases s <;> simp only [drP] at h <;> split at h <;> first|exact h.elim|skip
 all_goals rename_i x hx
 ·exact ⟨⟨x,hx,h.l⟩,h.r⟩
 ·exact ⟨⟨x,hx,h.l⟩,h.r⟩
 ·exact ⟨⟨x,hx,h.l⟩,h.r⟩
 ·exact ⟨⟨x,hx,h⟩,trivial⟩
theorem dr_any2 (hM:CallMono call) {K:Fr→List Obj→Prop}:∀ (l:OT) (n:Nat) (fl:List (Nat × Nat)) (listed:Array Bool) (t:Fr) (o:List Obj),Closed ops listed→drP TB call ops l fl t o K →
  (okB ops l false n listed=true→anyP TB call ops fl n listed t o K)∧(okB ops l true (n+1) listed=true→(∀ j,j∈otHeads l→j∈Region.ready .any ops listed)→∀ j,j∈otHeads l→∀ y,ops[j]?=some y →
   opP TB call ops y t o fun t' o'=>keepX ops y fl o o'∧anyP TB call ops fl n (listed.setIfInBounds j true) t' o' K)
 |.dn,n,fl,listed,t,o,_,h=>by
  refine ⟨fun hB=>?_,fun hB=>by simp [okB] at hB⟩
  simp only [okB,Bool.not_false,Bool.true_and,Bool.and_eq_true] at hB
  obtain rfl:=Nat.eq_of_beq_eq_true hB.1
  exact ⟨by simpa using hB.2,h⟩
 |.no,n,fl,listed,t,o,_,h=>⟨fun hB=>by simp [okB] at hB,fun _ _ j hj=>by simp [otHeads] at hj⟩
 |.rd i r,n,fl,listed,t,o,hc,h=>by
  refine ⟨fun hB=>?_,fun hB=>by simp [okB] at hB⟩
  simp only [okB,Bool.not_false,Bool.true_and,Bool.and_eq_true] at hB
  obtain ⟨⟨hn,h1⟩,h2⟩:=hB
  obtain ⟨n,rfl⟩:∃ m,n=m+1:=⟨n-1,by have:=Nat.le_of_ble_eq_true hn; omega⟩
  simp only [drP] at h
  split at h
  ·exact h.elim
  ·rename_i x hx
   simp only [hx] at h1
   split at h
   ·rename_i hr
    simp only [hr,Bool.and_eq_true,true_and] at h1
    obtain ⟨v,g1,g2⟩:=op_det hr h
    obtain ⟨s,g3,g4,g5⟩:=addQ_spec g1
    exact anyP_first hM hx g5 g4 n listed t o (Region.free_spec hx h1.2) hc (by simpa using h1.1) g2 ((dr_any2 hM r n _ _ _ _ (hc.set (by simpa using h1.1)) g3).1 h2)
   ·exact h.elim
 |.ef i r s,n,fl,listed,t,o,hc,h=>by
  have key:∀ n,okB ops r false n (listed.setIfInBounds i true)=true→okB ops s true (n+1) listed=true→(∀ j,j∈otHeads (.ef i r s)→j∈Region.ready .any ops listed)→∀ j,j∈otHeads (.ef i r s)→∀ y,ops[j]?=some y →
    opP TB call ops y t o fun t' o'=>keepX ops y fl o o'∧anyP TB call ops fl n (listed.setIfInBounds j true) t' o' K:=by
   intro n hr hs hH j hj y hy
   obtain ⟨⟨x,hx,g1⟩,g2⟩:=drP_ef h
   rcases List.mem_cons.1 hj with rfl|hj
   ·have:y=x:=Option.some.inj (hy.symm.trans hx)
    subst this
    exact op_mono hM g1 fun t' o' hk=>⟨(keepP_spec hk).1,(dr_any2 hM r n fl _ t' o' (hc.set (hH _ List.mem_cons_self)) (keepP_spec hk).2).1 hr⟩
   ·exact (dr_any2 hM s n fl listed t o hc g2).2 hs (fun k hk=>hH k (List.mem_cons_of_mem _ hk)) j hj y hy
  refine ⟨fun hB=>?_,fun hB=>?_⟩
  ·simp only [okB,Bool.false_or,Bool.and_eq_true,decide_eq_true_eq] at hB
   obtain ⟨⟨⟨h1,hn⟩,h2⟩,h3⟩:=hB
   obtain ⟨n,rfl⟩:∃ m,n=m+1:=⟨n-1,by have:=Nat.le_of_ble_eq_true hn; omega⟩
   refine ⟨fun h0=>(by rw [← h1] at h0; cases h0),fun j hj y hy=>?_⟩
   rw [← h1] at hj
   exact key n h2 h3 (fun k hk=>h1 ▸ hk) j hj y hy
  ·simp only [okB,Bool.true_or,Bool.true_and,Bool.and_eq_true] at hB
   exact fun hH=>key n hB.1.2 hB.2 hH
theorem dr_any (hM:CallMono call) {K:Fr→List Obj→Prop} (l:OT) (n:Nat) (fl:List (Nat × Nat)) (listed:Array Bool) (t:Fr) (o:List Obj) (hc:Closed ops listed) (hB:okB ops l false n listed=true) (h:drP TB call ops l fl t o K):anyP TB call ops fl n listed t o K :=
 (dr_any2 hM l n fl listed t o hc h).1 hB
theorem any_sound (hT:TOk P TB) (hC:CallOk P Gl call) (hd:∀ x∈ops,∀ d,x.dst=some d→d<n) {Q:Exit→Act→World→Prop} {fl:List (Nat × Nat)} {K:Fr→List Obj→Prop}:∀ (f:Nat) (listed:Array Bool) (t:Fr) (o:List Obj) (ρ:Nat→Option Nat) (R:Nat→Prop) (w:World) (a:Act),
  SR Gl ρ o R w t a n→anyP TB call ops fl f listed t o K→(∀ t' o' ρ' R' w' a',K t' o'→SR Gl ρ' o' R' w' t' a' n→EX o ρ R w o' ρ' R' w'→Q .normal a' w')→wpAny P .any ops Q f listed a w
 |0,listed,t,o,ρ,R,w,a,hs,h,hn=>⟨h.1,hn t o ρ R w a h.2 hs (EX.refl _ _ _ _)⟩
 |f+1,listed,t,o,ρ,R,w,a,hs,h,hn=>by
  refine ⟨fun h0=>hn t o ρ R w a (h.1 h0) hs (EX.refl _ _ _ _),fun i hi=>?_⟩
  obtain ⟨_,x,hx,_⟩:=mem_ready.1 hi
  unfold wpOp
  simp only [hx]
  exact op_sound hT hC hs (hd x (Array.mem_of_getElem? hx)) (h.2 i hi x hx) fun t' o' ρ' R' w' a' hK hs' hx'=>any_sound hT hC hd f _ t' o' ρ' R' w' a' hs' hK.2 fun t2 o2 ρ2 R2 w2 a2 hK2 hs2 hx2=>hn t2 o2 ρ2 R2 w2 a2 hK2 hs2 (hx'.trans hx2)
theorem EX.drawn (k:Nat):EX o ρ R w o ρ R { w with drawn:=k } where
 len:=Nat.le_refl _
 keep:=(EX.refl o ρ R w).keep
 rmono _ h:=h
 rnew _ h:=.inl h
 pnew id _b h:=.inr ⟨id,h⟩
 size:=Nat.le_refl _
 same _ _ _:=rfl
 shape _ xs _ h:=⟨xs,h,rfl⟩
 os:=rfl
 tape:=rfl
 output:=rfl
theorem SR.drawn (hs:SR Gl ρ o R w t a n) (k:Nat):SR Gl ρ o R { w with drawn:=k } t a n :=
 ⟨⟨hs.hh.dom,hs.hh.lt,hs.hh.inj,hs.hh.ro,fun j ob h=>(hs.hh.obj j ob h).go (EX.drawn k) hs.hh.ro rfl fun _ _=>rfl,hs.hh.gl⟩,hs.hf.go (EX.drawn k) hs.hh,hs.sz,hs.df⟩
theorem closed0 {n:Nat}:Closed ops (Array.replicate n false):=fun k y hk=>by
 rcases Nat.lt_or_ge k n with h'|h'
 ·simp [h'] at hk
 ·simp [Array.getElem?_eq_none (show (Array.replicate n false).size≤k by simpa using h')] at hk
theorem dr_sound (hT:TOk P TB) (hC:CallOk P Gl call) (hm:P.follows .mixedOrders=true) (hd:∀ x∈ops,∀ d,x.dst=some d→d<n) {Q:Exit→Act→World→Prop} {K:Fr→List Obj→Prop} (hs:SR Gl ρ o R w t a n) (h:Dr TB call ops t o K)
  (hn:∀ t' o' ρ' R' w' a',K t' o'→SR Gl ρ' o' R' w' t' a' n→EX o ρ R w o' ρ' R' w'→Q .normal a' w') (id:Nat):(Code.region id ops true).wp P Q a w:=by
 obtain ⟨l,h1,h2⟩:=h.ex
 refine wp_region_any hm ?_
 have:=dr_any hC.mono l _ [] _ t o closed0 h1 h2
 exact any_sound hT hC hd _ _ t o ρ R _ a (hs.drawn _) this fun t' o' ρ' R' w' a' hK hs' hx=>hn t' o' ρ' R' w' a' hK hs' ((EX.drawn _).trans hx)
end
end Go.Proofs.YtapeebjjljohdaaGreatDoor.Vc
end
section
/- Part R of the engine: what is known may be told anew. -/
namespace Go.Proofs.YtapeebjjljohdaaGreatDoor.Vc
structure EK (m:Nat) (o:List Obj) (ρ:Nat→Option Nat) (R:Nat→Prop) (w:World) (o':List Obj) (ρ':Nat→Option Nat) (R':Nat→Prop) (w':World):Prop where
 keep:∀ id,id<m→match o'[id]? with
  |some (.box _)=>(∃ cs,o[id]?=some (.box cs))∧ρ' id=ρ id
  |some (.row sz _ _)=>(∃ n f,o[id]?=some (.row sz n f))∧ρ' id=ρ id
  |_=>True
 rmono:∀ b,R b→R' b
 rnew:∀ b,R' b→R b∨w.heap.size≤b∨∃ id,ρ id=some b
 pnew:∀ id b,ρ' id=some b→w.heap.size≤b∨∃ j,ρ j=some b
 size:w.heap.size≤w'.heap.size
 same:∀ b,b<w.heap.size→(∀ id,ρ id≠some b)→w'.heap[b]?=w.heap[b]?
 shape:∀ (b:Nat) (xs:Array Value) (ty:TypeId),w.heap[b]?=some (.cells xs ty (0,0))→∃ xs':Array Value,w'.heap[b]?=some (.cells xs' ty (0,0))∧xs'.size=xs.size
 os:w'.os=w.os
 tape:w'.tape=w.tape
 output:w'.output=w.output
theorem EX.ek {o ρ R w o' ρ' R' w'} (h:EX o ρ R w o' ρ' R' w') {m:Nat} (hm:m≤o.length):EK m o ρ R w o' ρ' R' w' :=
 ⟨fun id hid=>h.keep id (Nat.lt_of_lt_of_le hid hm),h.rmono,h.rnew,h.pnew,h.size,h.same,h.shape,h.os,h.tape,h.output⟩
theorem EK.trans {m:Nat} {o ρ R w o1 ρ1 R1 w1 o2 ρ2 R2 w2} (h:EK m o ρ R w o1 ρ1 R1 w1) (k:EK m o1 ρ1 R1 w1 o2 ρ2 R2 w2):EK m o ρ R w o2 ρ2 R2 w2 where
 keep id hid:=by
  have h1:=h.keep id hid
  have h2:=k.keep id hid
  split
  ·rename_i cs e
   rw [e] at h2
   obtain ⟨⟨cs',e'⟩,hr⟩:=h2
   rw [e'] at h1
   exact ⟨h1.1,hr.trans h1.2⟩
  ·rename_i sz n f e
   rw [e] at h2
   obtain ⟨⟨n',f',e'⟩,hr⟩:=h2
   rw [e'] at h1
   exact ⟨h1.1,hr.trans h1.2⟩
  ·trivial
 rmono b hb:=k.rmono b (h.rmono b hb)
 rnew b hb:=by
  rcases k.rnew b hb with h1|h1|⟨id,h1⟩
  ·exact h.rnew b h1
  ·exact .inr (.inl (Nat.le_trans h.size h1))
  ·rcases h.pnew id b h1 with h2|h2
   ·exact .inr (.inl h2)
   ·exact .inr (.inr h2)
 pnew id b hb:=by
  rcases k.pnew id b hb with h1|⟨j,h1⟩
  ·exact .inl (Nat.le_trans h.size h1)
  ·exact h.pnew j b h1
 size:=Nat.le_trans h.size k.size
 same b hb hn:=by
  refine (k.same b (Nat.lt_of_lt_of_le hb h.size) fun id hid=>?_).trans (h.same b hb hn)
  rcases h.pnew id b hid with h2|⟨j,h2⟩
  ·omega
  ·exact hn j h2
 shape b xs ty hb:=by
  obtain ⟨x1,e1,s1⟩:=h.shape b xs ty hb
  obtain ⟨x2,e2,s2⟩:=k.shape b x1 ty e1
  exact ⟨x2,e2,s2.trans s1⟩
 os:=k.os.trans h.os
 tape:=k.tape.trans h.tape
 output:=k.output.trans h.output
section
variable {P:Program} {TB:TypeId→TI} {ρ:Nat→Option Nat} {o:List Obj} {R:Nat→Prop} {w:World} {t:Fr} {a:Act} {Gl:List (Nat × Go.Obj)} {n:Nat} {π:List (Option Nat)} {fz:List Nat} {o':List Obj}
def ρw (ρ:Nat→Option Nat) (π:List (Option Nat)):Nat→Option Nat:=fun j=>match π[j]? with
 |some (some id)=>ρ id
 |_=>none
def Rw (R:Nat→Prop) (ρ:Nat→Option Nat) (fz:List Nat):Nat→Prop:=fun b=>R b∨∃ id,fz.contains id=true∧ρ id=some b
theorem idIs_spec {j id:Nat} (h:idIs π j id=true):π[j]?=some (some id):=by
 unfold idIs at h
 split at h
 ·rename_i i e
  rw [e,Nat.eq_of_beq_eq_true h]
 ·cases h
theorem idNew_spec {j:Nat} (h:idNew π j=true):π[j]?=some none:=by
 unfold idNew at h
 split at h
 ·assumption
 ·cases h
theorem ρw_is {j id:Nat} (h:π[j]?=some (some id)):ρw ρ π j=ρ id:=by unfold ρw; rw [h]
theorem lt_of_get {α:Type} {l:List α} {j:Nat} {x:α} (h:l[j]?=some x):j<l.length:=(List.getElem?_eq_some_iff.1 h).1
theorem DR.ext {R':Nat→Prop} {s m k:Nat} {f g:Nat→List AV} {y:Value} (h:DR R' w (.sl s m g) y) (hk:k=m) (he:∀ i,i<k→f i=g i):DR R' w (.sl s k f) y:=by
 subst hk
 cases h with
 |sl0=>exact .sl0 _ _ _ _
 |sl _ _ _ ad cap G h1 h2 h3 h4 h5=>exact .sl s k f ad cap G h1 h2 (fun i hi=>by rw [he i hi]; exact h3 i hi) h4 fun i hi j hj=>by rw [he i hi]; exact h5 i hi j hj
theorem Rw_mono:∀ b,R b→Rw R ρ fz b:=fun _ h=>.inl h
theorem DR.rw {v:AV} {y:Value} (h:DR R w v y):DR (Rw R ρ fz) w v y:=h.go Rw_mono fun _ _=>rfl
mutual
theorem rv_be (hl:π.length=o'.length):∀ (v u:AV),rv π fz o v u→beneath o'.length v=true
 |.undef,_,_|.int _ _,_,_|.bool _,_,_|.str _,_,_|.sl _ _ _,_,_|.ro _,_,_|.nils,_,_|.nilp,_,_|.nilf,_,_|.nili,_,_=>rfl|.ifc,_,_=>rfl
 |.row j s p k,u,h=>by
  cases u <;> simp only [rv] at h
  case row id sz off len =>
   obtain ⟨h1,_⟩:=of_cond_true h
   simp only [Bool.and_eq_true] at h1
   simp only [beneath,decide_eq_true_eq]; rw [← hl]; exact lt_of_get (idIs_spec h1.1.1)
  case nils =>
   obtain ⟨h1,_⟩:=of_cond_true h
   simp only [beneath,decide_eq_true_eq]; rw [← hl]; exact lt_of_get (idNew_spec h1)
 |.ptr j p,u,h=>by
  cases u <;> simp only [rv] at h
  obtain ⟨h1,_⟩:=of_cond_true h
  simp only [Bool.and_eq_true] at h1
  simp only [beneath,decide_eq_true_eq]; rw [← hl]; exact lt_of_get (idIs_spec h1.1.1)
 |.eptr j s i p,u,h=>by
  cases u <;> simp only [rv] at h
  obtain ⟨h1,_⟩:=of_cond_true h
  simp only [Bool.and_eq_true] at h1
  simp only [beneath,decide_eq_true_eq]; rw [← hl]; exact lt_of_get (idIs_spec h1.1.1.1)
 |.agg l,u,h=>by
  cases u <;> simp only [rv] at h
  simpa only [beneath] using rvL_be hl l _ (of_cond_true h).2
 |.tup l,u,h=>by
  cases u <;> simp only [rv] at h
  simpa only [beneath] using rvL_be hl l _ (of_cond_true h).2
 |.fn f l c,u,h=>by
  cases u <;> simp only [rv] at h
  obtain ⟨_,h2⟩:=of_cond_true h
  simp only [beneath,rvL_be hl l _ h2.1,rvL_be hl c _ h2.2]
  rfl
theorem rvL_be (hl:π.length=o'.length):∀ (l m:List AV),rvL π fz o l m→beneathL o'.length l=true
 |[],_,_=>rfl
 |v :: r,m,h=>by
  cases m with
  |nil=>simp only [rvL] at h
  |cons u s =>
   simp only [rvL] at h
   simp only [beneathL,rv_be hl v u h.1,rvL_be hl r s h.2]
   rfl
end
mutual
theorem rv_VR (hh:HR Gl o ρ R w) (hl:π.length=o'.length):∀ (v u:AV),rv π fz o v u→∀ y,TR ρ o R w u y→VR (ρw ρ π) (Rw R ρ fz) w v y∧beneath o'.length v=true
 |.undef,u,_,y,_=>⟨.undef y,rfl⟩
 |.int k a,u,h,y,ht=>by
  cases u <;> simp only [rv] at h
  obtain ⟨h1,h2⟩:=of_cond_true h
  have h1:k=_:=of_decide_eq_true h1
  subst h1
  obtain rfl:=h2.h
  cases ht.vr rfl with|data hd=>exact ⟨.data hd.rw,rfl⟩
 |.bool a,u,h,y,ht=>by
  cases u <;> simp only [rv] at h
  obtain rfl:=h.h
  cases ht.vr rfl with|data hd=>exact ⟨.data hd.rw,rfl⟩
 |.str a,u,h,y,ht=>by
  cases u <;> simp only [rv] at h
  obtain rfl:=h.h
  cases ht.vr rfl with|data hd=>exact ⟨.data hd.rw,rfl⟩
 |.sl s k f,u,h,y,ht=>by
  cases u <;> simp only [rv] at h
  case sl z m g =>
   obtain ⟨h1,h2⟩:=of_cond_true h
   obtain rfl:=Nat.eq_of_beq_eq_true h1
   cases ht.vr rfl with|data hd=>exact ⟨.data (hd.rw.ext h2.h.1 h2.h.2),rfl⟩
  case row id sz off len =>
   split at h
   ·rename_i s' m g e
    obtain ⟨h1,h2⟩:=of_cond_true h
    simp only [Bool.and_eq_true] at h1
    have hd:=frozen_DR hh ht e h1.1.1 h2.h.2.1
    have h3:sz=s:=(Nat.eq_of_beq_eq_true h1.1.1).symm.trans (Nat.eq_of_beq_eq_true h1.1.2)
    subst h3
    refine ⟨.data ((hd.go (fun b hb=>?_) fun _ _=>rfl).ext h2.h.1 h2.h.2.2),rfl⟩
    rcases hb with hb|hb
    ·exact .inl hb
    ·exact .inr ⟨id,h1.2,hb⟩
   ·exact h.elim
  case nils =>
   obtain rfl:=h.h
   cases ht.vr rfl with|data hd=>cases hd with|nils a=>exact ⟨.data (.sl0 _ _ _ _),rfl⟩
 |.ro cs,u,h,y,ht=>by
  cases u <;> simp only [rv] at h
  obtain rfl:=h.h
  cases ht.vr rfl with|data hd=>exact ⟨.data hd.rw,rfl⟩
 |.row j s p k,u,h,y,ht=>by
  cases u <;> simp only [rv] at h
  case row id sz off len =>
   obtain ⟨h1,h2⟩:=of_cond_true h
   simp only [Bool.and_eq_true] at h1
   obtain ⟨⟨h3,h4⟩,h5⟩:=h1
   have h3:=idIs_spec h3
   obtain rfl:=Nat.eq_of_beq_eq_true h4
   obtain ⟨rfl,rfl⟩:=h2.h
   refine ⟨?_,by simp only [beneath,decide_eq_true_eq]; rw [← hl]; exact lt_of_get h3⟩
   cases ht.vr h5 with
   |data hd=>cases hd
   |row h1 h2 h3' h4 h5'=>exact .row ((ρw_is h3).trans h1) h2 h3' h4 h5'
   |row0=>exact .row0 _ _ _ _
  case nils =>
   obtain ⟨h1,h2⟩:=of_cond_true h
   obtain ⟨rfl,rfl⟩:=h2.h
   refine ⟨?_,by simp only [beneath,decide_eq_true_eq]; rw [← hl]; exact lt_of_get (idNew_spec h1)⟩
   cases ht.vr rfl with|data hd=>cases hd with|nils a=>exact .row0 _ _ _ _
 |.ptr j p,u,h,y,ht=>by
  cases u <;> simp only [rv] at h
  obtain ⟨h1,_⟩:=of_cond_true h
  simp only [Bool.and_eq_true] at h1
  obtain ⟨⟨h3,h4⟩,h5⟩:=h1
  have h3:=idIs_spec h3
  obtain rfl:=Nat.eq_of_beq_eq_true h4
  refine ⟨?_,by simp only [beneath,decide_eq_true_eq]; rw [← hl]; exact lt_of_get h3⟩
  cases ht.vr h5 with
  |data hd=>cases hd
  |ptr h1=>exact .ptr ((ρw_is h3).trans h1)
 |.eptr j s i p,u,h,y,ht=>by
  cases u <;> simp only [rv] at h
  obtain ⟨h1,h2⟩:=of_cond_true h
  simp only [Bool.and_eq_true] at h1
  obtain ⟨⟨⟨h3,h4⟩,h6⟩,h5⟩:=h1
  have h3:=idIs_spec h3
  obtain rfl:=Nat.eq_of_beq_eq_true h4
  obtain rfl:=Nat.eq_of_beq_eq_true h6
  obtain rfl:=h2.h
  refine ⟨?_,by simp only [beneath,decide_eq_true_eq]; rw [← hl]; exact lt_of_get h3⟩
  cases ht.vr h5 with
  |data hd=>cases hd
  |eptr h1=>exact .eptr ((ρw_is h3).trans h1)
 |.nils,u,h,y,ht=>by
  cases u <;> simp only [rv] at h
  cases ht.vr rfl with|data hd=>exact ⟨.data hd.rw,rfl⟩
 |.nilp,u,h,y,ht=>by
  cases u <;> simp only [rv] at h
  cases ht.vr rfl with|data hd=>exact ⟨.data hd.rw,rfl⟩
 |.nilf,u,h,y,ht=>by
  cases u <;> simp only [rv] at h
  cases ht.vr rfl with|data hd=>exact ⟨.data hd.rw,rfl⟩
 |.nili,u,h,y,ht=>by
  cases u <;> simp only [rv] at h
  cases ht.vr rfl with|data hd=>exact ⟨.data hd.rw,rfl⟩
 |.ifc,u,h,y,ht=>by
  cases u <;> simp only [rv] at h
  cases ht.vr rfl with|data hd=>exact ⟨.data hd.rw,rfl⟩
 |.agg l,u,h,y,ht=>by
  cases u <;> simp only [rv] at h
  obtain ⟨h1,h2⟩:=of_cond_true h
  obtain ⟨g1,g2,g3⟩:=rvL_VR hh hl l _ h2
  cases ht.vr (by simpa only [live] using h1) with
  |data hd=>cases hd
  |agg _ xs k1 k2=>exact ⟨.agg l xs (k1.trans g1.symm) fun j hj=>g2 j hj _ (.of (liveL_iff.1 h1 _ (getD_mem (g1 ▸ hj))) (k2 j (g1 ▸ hj))),by simpa only [beneath] using g3⟩
 |.tup l,u,h,y,ht=>by
  cases u <;> simp only [rv] at h
  obtain ⟨h1,h2⟩:=of_cond_true h
  obtain ⟨g1,g2,g3⟩:=rvL_VR hh hl l _ h2
  cases ht.vr (by simpa only [live] using h1) with
  |data hd=>cases hd
  |tup _ xs k1 k2=>exact ⟨.tup l xs (k1.trans g1.symm) fun j hj=>g2 j hj _ (.of (liveL_iff.1 h1 _ (getD_mem (g1 ▸ hj))) (k2 j (g1 ▸ hj))),by simpa only [beneath] using g3⟩
 |.fn f l c,u,h,y,ht=>by
  cases u <;> simp only [rv] at h
  obtain ⟨h1,h2⟩:=of_cond_true h
  simp only [Bool.and_eq_true] at h1
  obtain ⟨⟨h3,h4⟩,h5⟩:=h1
  obtain rfl:=Nat.eq_of_beq_eq_true h3
  obtain ⟨g1,g2,g3⟩:=rvL_VR hh hl l _ h2.1
  obtain ⟨p1,p2,p3⟩:=rvL_VR hh hl c _ h2.2
  cases ht.vr (by simp only [live,h4,h5]; rfl) with
  |data hd=>cases hd
  |fn _ _ _ xs ys k1 k2 k3 k4=>exact ⟨.fn f l c xs ys (k1.trans g1.symm) (fun j hj=>g2 j hj _ (.of (liveL_iff.1 h4 _ (getD_mem (g1 ▸ hj))) (k2 j (g1 ▸ hj)))) (k3.trans p1.symm)
    (fun j hj=>p2 j hj _ (.of (liveL_iff.1 h5 _ (getD_mem (p1 ▸ hj))) (k4 j (p1 ▸ hj)))),by simp only [beneath,g3,p3]; rfl⟩
theorem rvL_VR (hh:HR Gl o ρ R w) (hl:π.length=o'.length):∀ (l m:List AV),rvL π fz o l m→l.length=m.length∧(∀ j,j<l.length→∀ y,TR ρ o R w (m.getD j .undef) y→VR (ρw ρ π) (Rw R ρ fz) w (l.getD j .undef) y)∧beneathL o'.length l=true
 |[],m,h=>by
  cases m with
  |nil=>exact ⟨rfl,fun j hj=>absurd hj (Nat.not_lt_zero _),rfl⟩
  |cons _ _=>simp only [rvL] at h
 |v :: r,m,h=>by
  cases m with
  |nil=>simp only [rvL] at h
  |cons u s =>
   simp only [rvL] at h
   obtain ⟨g1,g2,g3⟩:=rvL_VR hh hl r s h.2
   refine ⟨by simp [g1],fun j hj y hy=>?_,?_⟩
   ·cases j with
    |zero=>exact (rv_VR hh hl v u h.1 y (by simpa using hy)).1
    |succ j=>simpa using g2 j (by simpa using hj) y (by simpa using hy)
   ·simp only [beneathL,rv_be hl v u h.1,g3]
    rfl
end
theorem wkO_len:∀ {p:List (Option Nat)} {q:List Obj},wkO π fz o p q→p.length=q.length
 |[],[],_=>rfl
 |[],_ :: _,h=>by simp only [wkO] at h
 |none :: p,[],h=>by simp only [wkO] at h
 |some _ :: p,[],h=>by simp only [wkO] at h
 |none :: p,x :: r,h=>by
  cases x <;> simp only [wkO] at h
  simp [wkO_len h.2]
 |some id :: p,x :: r,h=>by
  simp only [wkO] at h
  simp [wkO_len h.2]
def wk1 (π:List (Option Nat)) (fz:List Nat) (o:List Obj):Option Nat→Obj→Prop
 |none,x=>∃ s f,x=.row s 0 f
 |some id,x=>match x,o[id]? with
  |.box cs,some (.box ds)=>rvL π fz o cs ds
  |.row s n f,some (.row sz m g)=>s=sz∧n=m∧∀ i,i<n→f i=g i
  |_,_=>False
theorem wkO_get:∀ {p:List (Option Nat)} {q:List Obj},wkO π fz o p q→∀ {j:Nat} {k:Option Nat} {x:Obj},p[j]?=some k→q[j]?=some x→wk1 π fz o k x
 |[],[],_,j,_,_,h1,_=>by simp at h1
 |[],_ :: _,h,_,_,_,_,_=>by simp only [wkO] at h
 |none :: p,[],h,_,_,_,_,_=>by simp only [wkO] at h
 |some _ :: p,[],h,_,_,_,_,_=>by simp only [wkO] at h
 |none :: p,x :: r,h,j,k,y,h1,h2=>by
  cases x <;> simp only [wkO] at h
  cases j with
  |zero =>
   simp at h1 h2
   subst h1 h2
   obtain ⟨h3,_⟩:=h
   obtain rfl:=h3.h
   exact ⟨_,_,rfl⟩
  |succ j=>exact wkO_get h.2 (by simpa using h1) (by simpa using h2)
 |some id :: p,x :: r,h,j,k,y,h1,h2=>by
  simp only [wkO] at h
  cases j with
  |zero =>
   simp at h1 h2
   subst h1 h2
   have h3:=h.1
   unfold wk1
   simp only
   split at h3
   ·rename_i e; rw [e]; exact h3
   ·rename_i e
    obtain ⟨g1,g2⟩:=of_cond_true h3
    rw [e]
    exact ⟨Nat.eq_of_beq_eq_true g1,g2.h.1,g2.h.2⟩
   ·exact h3.elim
  |succ j=>exact wkO_get h.2 (by simpa using h1) (by simpa using h2)
theorem wkN_once:∀ {p:List (Option Nat)},wkN fz p=true→∀ {i j id:Nat},p[i]?=some (some id)→p[j]?=some (some id)→i=j
 |[],_,i,_,_,h,_=>by simp at h
 |none :: p,h,i,j,id,h1,h2=>by
  cases i with
  |zero=>simp at h1
  |succ i=>cases j with
   |zero=>simp at h2
   |succ j=>exact congrArg Nat.succ (wkN_once (p:=p) (id:=id) (by simpa only [wkN] using h) (by simpa using h1) (by simpa using h2))
 |some k :: p,h,i,j,id,h1,h2=>by
  simp only [wkN,Bool.and_eq_true,Bool.not_eq_true'] at h
  have no:∀ q:Nat,p[q]?=some (some k)→False:=fun q hq=>by
   have:=List.mem_of_getElem? hq
   have h3:=h.1.1
   rw [List.contains_eq_mem] at h3
   simp [this] at h3
  cases i with
  |zero=>cases j with
   |zero=>rfl
   |succ j=>simp at h1 h2; subst h1; exact (no j h2).elim
  |succ i=>cases j with
   |zero=>simp at h1 h2; subst h2; exact (no i h1).elim
   |succ j=>exact congrArg Nat.succ (wkN_once (p:=p) (id:=id) h.2 (by simpa using h1) (by simpa using h2))
theorem wkN_fz:∀ {p:List (Option Nat)},wkN fz p=true→∀ {i id:Nat},p[i]?=some (some id)→fz.contains id=false
 |[],_,i,_,h=>by simp at h
 |none :: p,h,i,id,h1=>by
  cases i with
  |zero=>simp at h1
  |succ i=>exact wkN_fz (p:=p) (by simpa only [wkN] using h) (by simpa using h1)
 |some k :: p,h,i,id,h1=>by
  simp only [wkN,Bool.and_eq_true,Bool.not_eq_true'] at h
  cases i with
  |zero=>simp at h1; subst h1; exact h.1.2
  |succ i=>exact wkN_fz (p:=p) h.2 (by simpa using h1)
theorem wkM_get:∀ {m:Nat} {p:List (Option Nat)} {k:Nat},wkM m p k=true→∀ {i:Nat},i<m→p[i]?=some (some (i+k))
 |0,_,_,_,i,hi=>absurd hi (Nat.not_lt_zero _)
 |m+1,[],k,h,i,_=>by simp [wkM] at h
 |m+1,none :: p,k,h,i,_=>by simp [wkM] at h
 |m+1,some j :: p,k,h,i,hi=>by
  simp only [wkM,Bool.and_eq_true] at h
  cases i with
  |zero=>simp [Nat.eq_of_beq_eq_true h.1]
  |succ i =>
   have:=wkM_get h.2 (i:=i) (by omega)
   simp [this]
   omega
theorem wkT_get:∀ {L:List (Nat × AV)},wkT π fz o t L→∀ x,ofL L x=.undef∨rv π fz o (ofL L x) (t x)
 |[],_,x=>.inl rfl
 |(j,v) :: r,h,x=>by
  simp only [wkT] at h
  unfold ofL
  cases e:Nat.beq x j with
  |true=>rw [Nat.eq_of_beq_eq_true e]; exact .inr h.1
  |false=>exact wkT_get h.2 x
theorem wk_sound {m:Nat} {L:List (Nat × AV)} (hs:SR Gl ρ o R w t a n) (h:WkTo m t o L o'):∃ ρ' R',SR Gl ρ' o' R' w (ofL L) a n∧EK m o ρ R w o' ρ' R' w:=by
 obtain ⟨π,fz,hM,hN,hTt,hO⟩:=h.ex
 have hl:=wkO_len hO
 have hh:=hs.hh
 have inv:∀ {j b},ρw ρ π j=some b→∃ id,π[j]?=some (some id)∧ρ id=some b:=by
  intro j b h
  unfold ρw at h
  split at h
  ·rename_i id e; exact ⟨id,e,h⟩
  ·cases h
 refine ⟨ρw ρ π,Rw R ρ fz,⟨⟨?_,?_,?_,?_,?_,?_⟩,?_,hs.sz,hs.df⟩,⟨?_,Rw_mono,?_,?_,Nat.le_refl _,fun _ _ _=>rfl,fun _ xs _ h=>⟨xs,h,rfl⟩,rfl,rfl,rfl⟩⟩
 ·intro j b h
  obtain ⟨id,e,_⟩:=inv h
  rw [← hl]
  exact lt_of_get e
 ·intro j b h
  obtain ⟨id,_,h⟩:=inv h
  exact hh.lt id b h
 ·intro i j b h1 h2
  obtain ⟨id1,e1,h1⟩:=inv h1
  obtain ⟨id2,e2,h2⟩:=inv h2
  have:=hh.inj id1 id2 b h1 h2
  subst this
  exact wkN_once hN e1 e2
 ·intro b hb
  rcases hb with hb|⟨k,hk,hb⟩
  ·refine ⟨(hh.ro b hb).1,fun j h=>?_⟩
   obtain ⟨id,_,h⟩:=inv h
   exact (hh.ro b hb).2 id h
  ·refine ⟨hh.lt k b hb,fun j h=>?_⟩
   obtain ⟨id,e,h⟩:=inv h
   have:=hh.inj id k b h hb
   subst this
   rw [wkN_fz hN e] at hk
   cases hk
 ·intro j ob h
  have hj:j<π.length:=by rw [hl]; exact lt_of_get h
  have hk:=wkO_get hO (List.getElem?_eq_getElem hj) h
  cases hp:π[j] with
  |none =>
   rw [hp] at hk
   obtain ⟨s,f,rfl⟩:=hk
   refine .inl ⟨rfl,?_⟩
   unfold ρw
   rw [List.getElem?_eq_getElem hj,hp]
  |some id =>
   rw [hp] at hk
   have hr:ρw ρ π j=ρ id:=ρw_is (by rw [List.getElem?_eq_getElem hj,hp])
   unfold wk1 at hk
   simp only at hk
   split at hk
   ·rename_i cs ds e
    obtain ⟨b,xs,ty,h1,h2,h3,h4⟩:=hh.obj id _ e
    obtain ⟨g1,g2,g3⟩:=rvL_VR hh hl cs ds hk
    exact ⟨b,xs,ty,hr.trans h1,h2,h3.trans g1.symm,fun i hi=>⟨beneathL_iff.1 g3 _ (getD_mem hi),fun _=>g2 i hi _ (h4 i (g1 ▸ hi))⟩⟩
   ·rename_i s m f sz k g e
    obtain ⟨rfl,rfl,he⟩:=hk
    rcases hh.obj id _ e with ⟨h1,h2⟩|⟨b,xs,ty,h1,h2,h3,h4,h5⟩
    ·exact .inl ⟨h1,hr.trans h2⟩
    ·exact .inr ⟨b,xs,ty,hr.trans h1,h2,h3,fun i hi=>by rw [he i hi]; exact h4 i hi,fun i hi q hq=>by rw [he i hi]; exact (h5 i hi q hq).rw⟩
   ·exact hk.elim
 ·exact fun p hp=>⟨.inl (hh.gl p hp).1,(hh.gl p hp).2⟩
 ·intro x
  rcases wkT_get hTt x with h|h
  ·rw [h]; exact .undef
  ·exact ⟨rv_be hl _ _ h,fun _=>(rv_VR hh hl _ _ h _ (hs.hf x)).1⟩
 ·intro id hid
  have e:=wkM_get hM hid
  rw [Nat.add_zero] at e
  have hr:ρw ρ π id=ρ id:=ρw_is e
  split
  ·rename_i cs e2
   have hk:=wkO_get hO e e2
   unfold wk1 at hk
   simp only at hk
   split at hk
   ·rename_i e3; exact ⟨⟨_,e3⟩,hr⟩
   ·rename_i e4 _; cases e4
   ·exact hk.elim
  ·rename_i sz k f e2
   have hk:=wkO_get hO e e2
   unfold wk1 at hk
   simp only at hk
   split at hk
   ·rename_i e4 _; cases e4
   ·rename_i e4 e3
    cases e4
    obtain ⟨rfl,_⟩:=hk
    exact ⟨⟨_,_,e3⟩,hr⟩
   ·exact hk.elim
  ·trivial
 ·intro b hb
  rcases hb with hb|⟨k,_,hb⟩
  ·exact .inl hb
  ·exact .inr (.inr ⟨k,hb⟩)
 ·intro j b h
  obtain ⟨id,_,h⟩:=inv h
  exact .inr ⟨id,h⟩
end
end Go.Proofs.YtapeebjjljohdaaGreatDoor.Vc
end
section
/- Part S of the engine: code; a function's body. -/
namespace Go.Proofs.YtapeebjjljohdaaGreatDoor.Vc
def dstOk (n:Nat):Code→Bool
 |.region _ ops _=>ops.toList.all fun x=>match x.dst with
  |some d=>Nat.blt d n
  |none=>true
 |.seq a b=>dstOk n a && dstOk n b
 |.cond _ a b=>dstOk n a && dstOk n b
 |.block _ c=>dstOk n c
 |.loop c=>dstOk n c
 |_=>true
section
variable {P:Program} {TB:TypeId→TI} {ρ:Nat→Option Nat} {o:List Obj} {R:Nat→Prop} {w:World} {t:Fr} {a:Act} {Gl:List (Nat × Go.Obj)} {call:FuncId→List AV→List Obj→(AV→List Obj→Prop)→Prop} {n m:Nat}
theorem ops_dst {ops:Array Oper} {id:Nat} {d:Bool} (h:dstOk n (.region id ops d)=true):∀ x∈ops.toList,∀ d,x.dst=some d→d<n:=by
 intro x hx d hd
 have:=List.all_eq_true.1 h x hx
 simp only [hd,Nat.blt] at this
 exact Nat.le_of_ble_eq_true this
theorem EK.refl (m:Nat) (hm:m≤o.length):EK m o ρ R w o ρ R w:=(EX.refl o ρ R w).ek hm
theorem wkM_len:∀ {m k:Nat} {p:List (Option Nat)},wkM m p k=true→m≤p.length
 |0,_,_,_=>Nat.zero_le _
 |m+1,_,[],h=>by simp [wkM] at h
 |m+1,_,none :: p,h=>by simp [wkM] at h
 |m+1,_,some j :: p,h=>by
  simp only [wkM,Bool.and_eq_true] at h
  simpa using wkM_len h.2
theorem WkTo.len {L:List (Nat × AV)} {o':List Obj} (h:WkTo m t o L o'):m≤o'.length:=by
 obtain ⟨π,fz,hM,_,_,hO⟩:=h.ex
 rw [← wkO_len hO]
 exact wkM_len hM
theorem code_sound (hT:TOk P TB) (hC:CallOk P Gl call) (hm:P.follows .mixedOrders=true):∀ (c:Code) {ρ:Nat→Option Nat} {o:List Obj} {R:Nat→Prop} {w:World} {t:Fr} {a:Act} {Q:Exit→Fr→List Obj→Prop} {Q':Exit→Act→World→Prop},dstOk n c=true →
  pwp TB call (Dr TB call) m c t o Q→SR Gl ρ o R w t a n→m≤o.length→(∀ e t' o' ρ' R' w' a',Q e t' o'→SR Gl ρ' o' R' w' t' a' n→m≤o'.length→EK m o ρ R w o' ρ' R' w'→Q' e a' w')→c.wp P Q' a w:=by
 intro c
 induction c with
 |skip =>
  intro ρ o R w t a Q Q' _ h hs hl hq
  exact wp_skip (hq _ _ _ _ _ _ _ h hs hl (EK.refl m hl))
 |region id ops d =>
  intro ρ o R w t a Q Q' hd h hs hl hq
  have hd':=ops_dst hd
  cases d with
  |false =>
   exact wp_region_list (ops_sound hT hC ops.toList hs hd' h fun t' o' ρ' R' w' a' hK hs' hx=>hq _ _ _ _ _ _ _ hK hs' (Nat.le_trans hl hx.len) (hx.ek hl))
  |true =>
   exact dr_sound hT hC hm (fun x hx=>hd' x (Array.mem_toList_iff.2 hx)) hs h (fun t' o' ρ' R' w' a' hK hs' hx=>hq _ _ _ _ _ _ _ hK hs' (Nat.le_trans hl hx.len) (hx.ek hl)) id
 |seq x y ihx ihy =>
  intro ρ o R w t a Q Q' hd h hs hl hq
  simp only [dstOk,Bool.and_eq_true] at hd
  refine wp_seq ?_
  have h':Sq m (fun Q=>pwp TB call (Dr TB call) m x t o Q) (fun t o=>pwp TB call (Dr TB call) m y t o Q) Q:=h
  cases h' with
  |d h =>
   refine ihx hd.1 h hs hl fun e t' o' ρ' R' w' a' hQ hs' hl' hx=>?_
   cases e with
   |normal =>
    cases hQ with
    |rf h1=>exact ihy hd.2 h1 hs' hl' fun e t2 o2 ρ2 R2 w2 a2 hQ2 hs2 hl2 hx2=>hq _ _ _ _ _ _ _ hQ2 hs2 hl2 (hx.trans hx2)
    |go L o1 hw h1 =>
     obtain ⟨ρ1,R1,hs1,hx1⟩:=wk_sound hs' hw
     exact ihy hd.2 h1 hs1 hw.len fun e t2 o2 ρ2 R2 w2 a2 hQ2 hs2 hl2 hx2=>hq _ _ _ _ _ _ _ hQ2 hs2 hl2 ((hx.trans hx1).trans hx2)
   |_=>exact hq _ _ _ _ _ _ _ hQ hs' hl' hx
  |j X L g inv h k =>
   refine ihx hd.1 h hs hl fun e t' o' ρ' R' w' a' hQ hs' hl' hx=>?_
   cases e with
   |normal =>
    obtain ⟨x1,hi,hw⟩:=hQ
    obtain ⟨ρ1,R1,hs1,hx1⟩:=wk_sound hs' hw
    exact ihy hd.2 (k x1 hi) hs1 hw.len fun e t2 o2 ρ2 R2 w2 a2 hQ2 hs2 hl2 hx2=>hq _ _ _ _ _ _ _ hQ2 hs2 hl2 ((hx.trans hx1).trans hx2)
   |_=>exact hq _ _ _ _ _ _ _ hQ hs' hl' hx
 |cond c x y ihx ihy =>
  intro ρ o R w t a Q Q' hd h hs hl hq
  simp only [dstOk,Bool.and_eq_true] at hd
  simp only [pwp] at h
  split at h
  ·rename_i b e
   refine wp_cond_split (hs.hf.at e).bool (fun hb=>ihx hd.1 (h.t hb) hs hl hq) fun hb=>ihy hd.2 (h.f hb) hs hl hq
  ·exact h.elim
 |block id c ih =>
  intro ρ o R w t a Q Q' hd h hs hl hq
  refine wp_block (ih hd h hs hl fun e t' o' ρ' R' w' a' hQ hs' hl' hx=>?_)
  cases e with
  |exit j =>
   simp only [Exit.inBlock]
   cases hj:Nat.beq j id with
   |true =>
    rw [if_pos (Nat.eq_of_beq_eq_true hj)]
    simp only [hj,cond_true] at hQ
    exact hq _ _ _ _ _ _ _ hQ hs' hl' hx
   |false =>
    rw [if_neg (Nat.ne_of_beq_eq_false hj)]
    simp only [hj,cond_false] at hQ
    exact hq _ _ _ _ _ _ _ hQ hs' hl' hx
  |_=>exact hq _ _ _ _ _ _ _ hQ hs' hl' hx
 |loop c ih =>
  intro ρ o R w t a Q Q' hd h hs hl hq
  have h':Lp m t o fun t o K=>pwp TB call (Dr TB call) m c t o fun e t o=>match e with
   |.normal=>K t o
   |e=>Q e t o:=h
  obtain ⟨X,L,g,inv,μ,⟨x0,hi0,hw0⟩,hr⟩:=h'.ex
  obtain ⟨ρ0,R0,hs0,hx0⟩:=wk_sound hs hw0
  refine wp_loop_ghost (fun k a' w'=>∃ x ρ' R',μ x=k∧inv x∧SR Gl ρ' (g x) R' w' (ofL (L x)) a' n∧m≤(g x).length∧EK m o ρ R w (g x) ρ' R' w') (μ x0) ⟨x0,ρ0,R0,rfl,hi0,hs0,hw0.len,hx0⟩ ?_
  rintro k a' w' ⟨x,ρ',R',rfl,hi,hs',hl',hx⟩
  refine ih hd (hr x hi) hs' hl' fun e t2 o2 ρ2 R2 w2 a2 hQ hs2 hl2 hx2=>?_
  cases e with
  |normal =>
   obtain ⟨x',hi',hlt,hw⟩:=hQ
   obtain ⟨ρ3,R3,hs3,hx3⟩:=wk_sound hs2 hw
   exact ⟨μ x',hlt,x',ρ3,R3,rfl,hi',hs3,hw.len,(hx.trans hx2).trans hx3⟩
  |_=>exact hq _ _ _ _ _ _ _ hQ hs2 hl2 (hx.trans hx2)
 |exit id =>
  intro ρ o R w t a Q Q' _ h hs hl hq
  exact wp_exit (hq _ _ _ _ _ _ _ h hs hl (EK.refl m hl))
 |ret =>
  intro ρ o R w t a Q Q' _ h hs hl hq
  exact wp_ret (hq _ _ _ _ _ _ _ h hs hl (EK.refl m hl))
 |_ =>
  intro ρ o R w t a Q Q' _ h
  exact h.elim
/-! ### Results -/
theorem retL_run (hT:TOk P TB) (hs:SR Gl ρ o R w t a n):∀ (l:List ResultVar) {K:List AV→Prop},retL TB t o l K →
  ∃ vs ys,K vs∧(∀ f:ResultVar→Sem Value,(∀ u,f (.tmp u)=pure (a.tmps.getD u Go.undef))→(∀ x ty,f (.cell x ty)=(do loadVar ty (← asAddr (a.tmps.getD x Go.undef))))→(l.mapM f).run P w=.ok ys w)∧ys.length=vs.length∧∀ j,j<vs.length→TR ρ o R w (vs.getD j .undef) (ys.getD j Go.undef)
 |[],K,h=>⟨[],[],h,fun f _ _=>by simp,rfl,fun j hj=>absurd hj (Nat.not_lt_zero _)⟩
 |.tmp x :: r,K,h=>by
  obtain ⟨vs,ys,h1,h2,h3,h4⟩:=retL_run hT hs r h
  refine ⟨t x :: vs,a.tmps.getD x Go.undef :: ys,h1,fun f hf hc=>by simp [List.mapM_cons,hf,h2 f hf hc],by simp [h3],fun j hj=>?_⟩
  cases j with
  |zero=>simpa using hs.hf x
  |succ j=>simpa using h4 j (by simpa using hj)
 |.cell x ty :: r,K,h=>by
  simp only [retL] at h
  split at h
  ·rename_i cs e
   obtain ⟨ad,g,e1,e2,e3⟩:=cellsAt_mem hs.hh (hs.hf x) e
   obtain ⟨v,y,hK,hv,hr⟩:=loadV_run hT e2 e3 h
   obtain ⟨vs,ys,h1,h2,h3,h4⟩:=retL_run hT hs r hK
   refine ⟨v :: vs,y :: ys,h1,fun f hf hc=>by rw [List.mapM_cons,hc,e1]; simp [asAddr,hr,h2 f hf hc],by simp [h3],fun j hj=>?_⟩
   cases j with
   |zero=>simpa using hv
   |succ j=>simpa using h4 j (by simpa using hj)
  ·exact h.elim
theorem ret_run (hT:TOk P TB) (hs:SR Gl ρ o R w t a n) {fn:Func} {K:AV→List Obj→Prop} (h:retP TB fn t o K):∃ r x,K r o∧(results fn a.tmps).run P w=.ok x w∧TR ρ o R w r x:=by
 unfold retP at h
 obtain ⟨vs,ys,h1,h2,h3,h4⟩:=retL_run hT hs fn.results.toList h
 rw [forceL_eq] at h1
 have hr:(results fn a.tmps).run P w=.ok (if h:ys.toArray.size=1 then ys.toArray[0] else .tuple ys.toArray) w:=by
  unfold results
  rw [show fn.results=fn.results.toList.toArray by simp,List.mapM_toArray]
  simp only [Sem.run_bind,Sem.run_map]
  rw [h2]
  ·simp
  ·intro u; rfl
  ·intro x ty; rfl
 have tup:ys.length≠1→K (.tup vs) o→∃ r x,K r o∧(results fn a.tmps).run P w=.ok x w∧TR ρ o R w r x:=by
  intro hl hK
  refine ⟨.tup vs,.tuple ys.toArray,hK,by rw [hr,dif_neg (by simpa using hl)],?_,fun hlv=>?_⟩
  ·simp only [beneath,beneathL_iff]
   intro v hv
   obtain ⟨j,hj,rfl⟩:=List.mem_iff_getElem.1 hv
   have:=(h4 j hj).be
   rwa [List.getD_eq_getElem?_getD,List.getElem?_eq_getElem hj] at this
  ·simp only [live,liveL_iff] at hlv
   exact .tup vs ys.toArray (by simp [h3]) fun j hj=>by
    have:=(h4 j hj).vr (hlv _ (getD_mem hj))
    simpa [List.getD_eq_getElem?_getD,Array.getD_eq_getD_getElem?] using this
 split at h1
 ·rename_i v
  cases ys with
  |nil=>simp at h3
  |cons y r =>
   cases r with
   |nil =>
    have:=h4 0 (by simp)
    exact ⟨v,y,h1,by rw [hr]; simp,by simpa using this⟩
   |cons _ _=>simp at h3
 ·rename_i hne
  refine tup (fun hl=>?_) h1
  rw [h3] at hl
  obtain ⟨v,hv⟩:=List.length_eq_one_iff.1 hl
  exact hne v hv
/-! ### A function's body -/
theorem argF_at:∀ (vs:List AV) (i x:Nat),argF vs i x=if i≤x then vs.getD (x-i) .undef else .undef
 |[],i,x=>by unfold argF; split <;> simp
 |v :: r,i,x=>by
  unfold argF upd
  cases e:Nat.beq x i with
  |true=>rw [Nat.eq_of_beq_eq_true e]; simp
  |false =>
   have hne:=Nat.ne_of_beq_eq_false e
   rw [cond_false,argF_at r (i+1) x]
   by_cases h:i+1≤x
   ·rw [if_pos h,if_pos (by omega),show x-i=(x-(i+1))+1 by omega,List.getD_cons_succ]
   ·rw [if_neg h,if_neg (by omega)]
structure FnOk (P:Program) (f:FuncId) (fn:Func):Prop where
 at_:P.funcs[f]?=some fn
 name : (fn.name == "runtime.NumGoroutine") = false
 dst:(match fn.body with
  |some c=>dstOk fn.ntmps c
  |none=>false)=true
theorem FnOk.has {f:FuncId} {fn:Func} (h:FnOk P f fn):HasBody P f:=by
 cases hb:fn.body with
 |none=>have:=h.dst; rw [hb] at this; cases this
 |some c=>exact ⟨fn,c,h.at_,h.name,hb⟩
theorem body_sound (hT:TOk P TB) (hC:CallOk P Gl call) (hm:P.follows .mixedOrders=true) {f:FuncId} {fn:Func} (hf:FnOk P f fn) {vs:List AV} {xs:Array Value} {K:AV→List Obj→Prop} (h:bodyP TB call (Dr TB call) m fn vs o K) (hh:HR Gl o ρ R w) (ha:ArgsR ρ o R w vs xs)
  (hl:m≤o.length) (hn:vs.length≤fn.ntmps) :
  Calls P f xs w fun e w'=>∃ r x o' ρ' R',e=.returned x∧K r o'∧HR Gl o' ρ' R' w'∧TR ρ' o' R' w' r x∧m≤o'.length∧EK m o ρ R w o' ρ' R' w':=by
 unfold bodyP at h
 have hd:=hf.dst
 cases hb:fn.body with
 |none=>rw [hb] at h; exact h.elim
 |some c =>
  rw [hb] at h hd
  simp only at h hd
  refine calls_of_wp hf.at_ hb ?_
  have hs:SR Gl ρ o R w (argF vs 0) { tmps:=xs ++ Array.replicate (fn.ntmps-xs.size) Go.undef,defers:=[] } fn.ntmps:=by
   refine ⟨hh,fun x=>?_,by simp [ha.1]; omega,rfl⟩
   rw [argF_at,if_pos (Nat.zero_le _),Nat.sub_zero]
   by_cases hx:x<vs.length
   ·have h1:(xs ++ Array.replicate (fn.ntmps-xs.size) Go.undef).getD x Go.undef=xs.getD x Go.undef:=by
     simp only [Array.getD_eq_getD_getElem?]
     rw [Array.getElem?_append_left (by rw [ha.1]; exact hx)]
    show TR ρ o R w _ ((xs ++ Array.replicate (fn.ntmps-xs.size) Go.undef).getD x Go.undef)
    rw [h1]
    exact ha.2 x hx
   ·rw [List.getD_eq_getElem?_getD,List.getElem?_eq_none (by omega)]
    exact .undef
  refine code_sound hT hC hm c hd h hs hl fun e t' o' ρ' R' w' a' hQ hs' hl' hx=>?_
  have fin:Wk m t' o' (fun t o=>retP TB fn t o K)→a'.defers=[]∧∃ v,(results fn a'.tmps).run P w'=.ok v w'∧∃ r x o2 ρ' R',Ending.returned v=.returned x∧K r o2∧HR Gl o2 ρ' R' w'∧TR ρ' o2 R' w' r x∧m≤o2.length∧EK m o ρ R w o2 ρ' R' w':=by
   intro hW
   cases hW with
   |rf h1 =>
    obtain ⟨r,x,g1,g2,g3⟩:=ret_run hT hs' h1
    exact ⟨hs'.df,x,g2,r,x,o',ρ',R',rfl,g1,hs'.hh,g3,hl',hx⟩
   |go L o1 hw h1 =>
    obtain ⟨ρ1,R1,hs1,hx1⟩:=wk_sound hs' hw
    obtain ⟨r,x,g1,g2,g3⟩:=ret_run hT hs1 h1
    exact ⟨hs'.df,x,g2,r,x,o1,ρ1,R1,rfl,g1,hs1.hh,g3,hw.len,hx.trans hx1⟩
  cases e with
  |normal=>exact fin hQ
  |ret=>exact fin hQ
  |_=>exact hQ.elim
end
end Go.Proofs.YtapeebjjljohdaaGreatDoor.Vc
end
section
/- Part T of the engine: contracts of functions that take and give data. -/
namespace Go.Proofs.YtapeebjjljohdaaGreatDoor.Vc
mutual
def viewV (o:List Obj):AV→Option (AV × Bool × Prop)
 |.row id sz off len=>match o[id]? with
  |some (.row s n f)=>cond (Nat.beq s sz) (some (.sl sz len fun i=>f (off+i),true,off+len≤n)) none
  |_=>none
 |.ptr ..|.eptr ..=>none
 |.agg l=>match viewL o l with
  |some (l,b,p)=>some (.agg l,b,p)
  |none=>none
 |.tup l=>match viewL o l with
  |some (l,b,p)=>some (.tup l,b,p)
  |none=>none
 |.fn f c d=>match viewL o c,viewL o d with
  |some (c,b,p),some (d,b',q)=>some (.fn f c d,b || b',p∧q)
  |_,_=>none
 |.undef=>some (.undef,false,True)
 |.int k n=>some (.int k n,false,True)
 |.bool b=>some (.bool b,false,True)
 |.str s=>some (.str s,false,True)
 |.sl s n f=>some (.sl s n f,false,True)
 |.ro cs=>some (.ro cs,false,True)
 |.nils=>some (.nils,false,True)
 |.nilp=>some (.nilp,false,True)
 |.nilf=>some (.nilf,false,True)
 |.nili=>some (.nili,false,True)
 |.ifc=>some (.ifc,false,True)
def viewL (o:List Obj):List AV→Option (List AV × Bool × Prop)
 |[]=>some ([],false,True)
 |v :: r=>match viewV o v,viewL o r with
  |some (v,false,_),some (r,b',q)=>some (v :: r,b',q)
  |some (v,true,p),some (r,_,q)=>some (v :: r,true,p∧q)
  |_,_=>none
end
mutual
def scalV:AV→Bool
 |.sl ..|.ro ..|.row ..|.ptr ..|.eptr ..=>false
 |.agg l=>scalL l
 |.tup l=>scalL l
 |.fn _ c d=>scalL c && scalL d
 |_=>true
def scalL:List AV→Bool
 |[]=>true
 |v :: r=>scalV v && scalL r
end
theorem scalL_iff:∀ {l:List AV},scalL l=true ↔ ∀ v∈l,scalV v=true
 |[]=>by simp [scalL]
 |v :: r=>by simp [scalL,scalL_iff (l:=r)]
def nor:Nat→Option Nat:=fun _=>none
inductive PV (R:Nat→Prop) (w:World):AV→Value→Prop
 |data {v x} (h:DR R w v x):PV R w v x
 |undef (x):PV R w .undef x
 |agg (l:List AV) (xs:Array Value) (h1:xs.size=l.length) (h2:∀ j,j<l.length→PV R w (l.getD j .undef) (xs.getD j Go.undef)):PV R w (.agg l) (.agg xs)
 |tup (l:List AV) (xs:Array Value) (h1:xs.size=l.length) (h2:∀ j,j<l.length→PV R w (l.getD j .undef) (xs.getD j Go.undef)):PV R w (.tup l) (.tuple xs)
 |fn (f:FuncId) (l m:List AV) (xs ys:Array Value) (h1:xs.size=l.length) (h2:∀ j,j<l.length→PV R w (l.getD j .undef) (xs.getD j Go.undef))
   (h3:ys.size=m.length) (h4:∀ j,j<m.length→PV R w (m.getD j .undef) (ys.getD j Go.undef)):PV R w (.fn f l m) (.func (.func f) xs ys)
section
variable {P:Program} {TB:TypeId→TI} {ρ:Nat→Option Nat} {o:List Obj} {R R':Nat→Prop} {w w':World} {Gl:List (Nat × Go.Obj)} {call:FuncId→List AV→List Obj→(AV→List Obj→Prop)→Prop} {n m:Nat}
def Rall (R:Nat→Prop) (ρ:Nat→Option Nat):Nat→Prop:=fun b=>R b∨∃ id,ρ id=some b
mutual
theorem view_VR (hh:HR Gl o ρ R w):∀ (v u:AV) (b:Bool) (p:Prop),viewV o v=some (u,b,p)→p→∀ x,TR ρ o R w v x→PV (Rall R ρ) w u x∧(b=false→PV R w u x)
 |.row id sz off len,u,b,p,h,hp,x,ht=>by
  simp only [viewV] at h
  split at h
  ·rename_i s k f e
   cases hs:Nat.beq s sz with
   |false=>rw [hs] at h; cases h
   |true =>
    rw [hs] at h
    simp only [cond_true,Option.some.injEq,Prod.mk.injEq] at h
    obtain ⟨rfl,rfl,rfl⟩:=h
    refine ⟨.data ((frozen_DR hh ht e hs hp).go (fun c hc=>?_) fun _ _=>rfl),fun q=>by cases q⟩
    rcases hc with hc|hc
    ·exact .inl hc
    ·exact .inr ⟨_,hc⟩
  ·cases h
 |.ptr ..,_,_,_,h,_,_,_=>by simp [viewV] at h
 |.eptr ..,_,_,_,h,_,_,_=>by simp [viewV] at h
 |.agg l,u,b,p,h,hp,x,ht=>by
  simp only [viewV] at h
  split at h
  ·rename_i l' b' p' e
   simp only [Option.some.injEq,Prod.mk.injEq] at h
   obtain ⟨rfl,rfl,rfl⟩:=h
   obtain ⟨h1,h2,h3⟩:=viewL_VR hh l l' b' p' e hp
   have:=ht.vr (by simpa only [live] using h3)
   cases this with
   |data hd=>cases hd
   |agg _ xs k1 k2 =>
    have k3:∀ j,j<l.length→TR ρ o R w (l.getD j .undef) (xs.getD j Go.undef):=fun j hj=>.of (liveL_iff.1 h3 _ (getD_mem hj)) (k2 j hj)
    exact ⟨.agg _ _ (k1.trans h1.symm) fun j hj=>(h2 j (h1 ▸ hj) _ (k3 j (h1 ▸ hj))).1,fun q=>.agg _ _ (k1.trans h1.symm) fun j hj=>(h2 j (h1 ▸ hj) _ (k3 j (h1 ▸ hj))).2 q⟩
  ·cases h
 |.tup l,u,b,p,h,hp,x,ht=>by
  simp only [viewV] at h
  split at h
  ·rename_i l' b' p' e
   simp only [Option.some.injEq,Prod.mk.injEq] at h
   obtain ⟨rfl,rfl,rfl⟩:=h
   obtain ⟨h1,h2,h3⟩:=viewL_VR hh l l' b' p' e hp
   have:=ht.vr (by simpa only [live] using h3)
   cases this with
   |data hd=>cases hd
   |tup _ xs k1 k2 =>
    have k3:∀ j,j<l.length→TR ρ o R w (l.getD j .undef) (xs.getD j Go.undef):=fun j hj=>.of (liveL_iff.1 h3 _ (getD_mem hj)) (k2 j hj)
    exact ⟨.tup _ _ (k1.trans h1.symm) fun j hj=>(h2 j (h1 ▸ hj) _ (k3 j (h1 ▸ hj))).1,fun q=>.tup _ _ (k1.trans h1.symm) fun j hj=>(h2 j (h1 ▸ hj) _ (k3 j (h1 ▸ hj))).2 q⟩
  ·cases h
 |.fn f c d,u,b,p,h,hp,x,ht=>by
  simp only [viewV] at h
  split at h
  ·rename_i c' b1 p1 d' b2 p2 e1 e2
   simp only [Option.some.injEq,Prod.mk.injEq] at h
   obtain ⟨rfl,rfl,rfl⟩:=h
   obtain ⟨g1,g2,g3⟩:=viewL_VR hh c c' b1 p1 e1 hp.1
   obtain ⟨h1,h2,h3⟩:=viewL_VR hh d d' b2 p2 e2 hp.2
   have:=ht.vr (by simp only [live,g3,h3]; rfl)
   cases this with
   |data hd=>cases hd
   |fn _ _ _ xs ys k1 k2 q1 q2 =>
    have k3:∀ j,j<c.length→TR ρ o R w (c.getD j .undef) (xs.getD j Go.undef):=fun j hj=>.of (liveL_iff.1 g3 _ (getD_mem hj)) (k2 j hj)
    have q3:∀ j,j<d.length→TR ρ o R w (d.getD j .undef) (ys.getD j Go.undef):=fun j hj=>.of (liveL_iff.1 h3 _ (getD_mem hj)) (q2 j hj)
    refine ⟨.fn _ _ _ _ _ (k1.trans g1.symm) (fun j hj=>(g2 j (g1 ▸ hj) _ (k3 j (g1 ▸ hj))).1) (q1.trans h1.symm) fun j hj=>(h2 j (h1 ▸ hj) _ (q3 j (h1 ▸ hj))).1,fun q=>?_⟩
    rw [Bool.or_eq_false_iff] at q
    exact .fn _ _ _ _ _ (k1.trans g1.symm) (fun j hj=>(g2 j (g1 ▸ hj) _ (k3 j (g1 ▸ hj))).2 q.1) (q1.trans h1.symm) fun j hj=>(h2 j (h1 ▸ hj) _ (q3 j (h1 ▸ hj))).2 q.2
  ·cases h
 |.undef,u,b,p,h,_,x,_=>by
  simp only [viewV,Option.some.injEq,Prod.mk.injEq] at h
  obtain ⟨rfl,_,_⟩:=h
  exact ⟨.undef x,fun _=>.undef x⟩
 |.int k i,u,b,p,h,_,x,ht=>by
  simp only [viewV,Option.some.injEq,Prod.mk.injEq] at h
  obtain ⟨rfl,_,_⟩:=h
  cases ht.vr rfl with|data hd=>exact ⟨.data (hd.go (fun _ q=>.inl q) fun _ _=>rfl),fun _=>.data hd⟩
 |.bool i,u,b,p,h,_,x,ht=>by
  simp only [viewV,Option.some.injEq,Prod.mk.injEq] at h
  obtain ⟨rfl,_,_⟩:=h
  cases ht.vr rfl with|data hd=>exact ⟨.data (hd.go (fun _ q=>.inl q) fun _ _=>rfl),fun _=>.data hd⟩
 |.str i,u,b,p,h,_,x,ht=>by
  simp only [viewV,Option.some.injEq,Prod.mk.injEq] at h
  obtain ⟨rfl,_,_⟩:=h
  cases ht.vr rfl with|data hd=>exact ⟨.data (hd.go (fun _ q=>.inl q) fun _ _=>rfl),fun _=>.data hd⟩
 |.sl s i f,u,b,p,h,_,x,ht=>by
  simp only [viewV,Option.some.injEq,Prod.mk.injEq] at h
  obtain ⟨rfl,_,_⟩:=h
  cases ht.vr rfl with|data hd=>exact ⟨.data (hd.go (fun _ q=>.inl q) fun _ _=>rfl),fun _=>.data hd⟩
 |.ro cs,u,b,p,h,_,x,ht=>by
  simp only [viewV,Option.some.injEq,Prod.mk.injEq] at h
  obtain ⟨rfl,_,_⟩:=h
  cases ht.vr rfl with|data hd=>exact ⟨.data (hd.go (fun _ q=>.inl q) fun _ _=>rfl),fun _=>.data hd⟩
 |.nils,u,b,p,h,_,x,ht=>by
  simp only [viewV,Option.some.injEq,Prod.mk.injEq] at h
  obtain ⟨rfl,_,_⟩:=h
  cases ht.vr rfl with|data hd=>exact ⟨.data (hd.go (fun _ q=>.inl q) fun _ _=>rfl),fun _=>.data hd⟩
 |.nilp,u,b,p,h,_,x,ht=>by
  simp only [viewV,Option.some.injEq,Prod.mk.injEq] at h
  obtain ⟨rfl,_,_⟩:=h
  cases ht.vr rfl with|data hd=>exact ⟨.data (hd.go (fun _ q=>.inl q) fun _ _=>rfl),fun _=>.data hd⟩
 |.nilf,u,b,p,h,_,x,ht=>by
  simp only [viewV,Option.some.injEq,Prod.mk.injEq] at h
  obtain ⟨rfl,_,_⟩:=h
  cases ht.vr rfl with|data hd=>exact ⟨.data (hd.go (fun _ q=>.inl q) fun _ _=>rfl),fun _=>.data hd⟩
 |.nili,u,b,p,h,_,x,ht=>by
  simp only [viewV,Option.some.injEq,Prod.mk.injEq] at h
  obtain ⟨rfl,_,_⟩:=h
  cases ht.vr rfl with|data hd=>exact ⟨.data (hd.go (fun _ q=>.inl q) fun _ _=>rfl),fun _=>.data hd⟩
 |.ifc,u,b,p,h,_,x,ht=>by
  simp only [viewV,Option.some.injEq,Prod.mk.injEq] at h
  obtain ⟨rfl,_,_⟩:=h
  cases ht.vr rfl with|data hd=>exact ⟨.data (hd.go (fun _ q=>.inl q) fun _ _=>rfl),fun _=>.data hd⟩
theorem viewL_VR (hh:HR Gl o ρ R w):∀ (l k:List AV) (b:Bool) (p:Prop),viewL o l=some (k,b,p)→p→k.length=l.length∧(∀ j,j<l.length→∀ x,TR ρ o R w (l.getD j .undef) x→PV (Rall R ρ) w (k.getD j .undef) x∧(b=false→PV R w (k.getD j .undef) x))∧liveL o l=true
 |[],k,b,p,h,_=>by
  simp only [viewL,Option.some.injEq,Prod.mk.injEq] at h
  obtain ⟨rfl,_,_⟩:=h
  exact ⟨rfl,fun j hj=>absurd hj (Nat.not_lt_zero _),rfl⟩
 |v :: r,k,b,p,h,hp=>by
  simp only [viewL] at h
  split at h
  ·rename_i v' p1 r' b' q e1 e2
   simp only [Option.some.injEq,Prod.mk.injEq] at h
   obtain ⟨rfl,rfl,rfl⟩:=h
   obtain ⟨h1,h2,h3⟩:=viewL_VR hh r r' b' q e2 hp
   have hp1:p1:=view_true v v' p1 e1
   refine ⟨by simp [h1],fun j hj x hx=>?_,?_⟩
   ·cases j with
    |zero =>
     have:=view_VR hh v v' false p1 e1 hp1 x (by simpa using hx)
     exact ⟨by simpa using this.1,fun _=>by simpa using this.2 rfl⟩
    |succ j =>
     have:=h2 j (by simpa using hj) x (by simpa using hx)
     exact ⟨by simpa using this.1,fun q=>by simpa using this.2 q⟩
   ·simp only [liveL,h3,view_live v v' false p1 e1]
    rfl
  ·rename_i v' p1 r' b' q e1 e2
   simp only [Option.some.injEq,Prod.mk.injEq] at h
   obtain ⟨rfl,rfl,rfl⟩:=h
   obtain ⟨h1,h2,h3⟩:=viewL_VR hh r r' b' q e2 hp.2
   refine ⟨by simp [h1],fun j hj x hx=>?_,?_⟩
   ·refine ⟨?_,fun q=>by cases q⟩
    cases j with
    |zero=>simpa using (view_VR hh v v' true p1 e1 hp.1 x (by simpa using hx)).1
    |succ j=>simpa using (h2 j (by simpa using hj) x (by simpa using hx)).1
   ·simp only [liveL,h3,view_live v v' true p1 e1]
    rfl
  ·cases h
theorem view_live:∀ (v u:AV) (b:Bool) (p:Prop),viewV o v=some (u,b,p)→live o v=true
 |.row id sz off len,u,b,p,h=>by
  simp only [viewV] at h
  simp only [live]
  split at h
  ·rename_i s k f e
   cases hs:Nat.beq s sz with
   |false=>rw [hs] at h; cases h
   |true=>rw [e]; exact hs
  ·cases h
 |.ptr ..,_,_,_,h=>by simp [viewV] at h
 |.eptr ..,_,_,_,h=>by simp [viewV] at h
 |.agg l,u,b,p,h=>by
  simp only [viewV] at h
  split at h
  ·rename_i e; simpa only [live] using viewL_live l _ _ _ e
  ·cases h
 |.tup l,u,b,p,h=>by
  simp only [viewV] at h
  split at h
  ·rename_i e; simpa only [live] using viewL_live l _ _ _ e
  ·cases h
 |.fn _ l k,u,b,p,h=>by
  simp only [viewV] at h
  split at h
  ·rename_i e1 e2
   simp only [live,viewL_live l _ _ _ e1,viewL_live k _ _ _ e2]
   rfl
  ·cases h
 |.undef,_,_,_,_=>rfl|.int ..,_,_,_,_=>rfl|.bool _,_,_,_,_=>rfl|.str _,_,_,_,_=>rfl|.sl ..,_,_,_,_=>rfl|.ro _,_,_,_,_=>rfl|.nils,_,_,_,_=>rfl|.nilp,_,_,_,_=>rfl|.nilf,_,_,_,_=>rfl|.nili,_,_,_,_=>rfl|.ifc,_,_,_,_=>rfl
theorem viewL_live:∀ (l k:List AV) (b:Bool) (p:Prop),viewL o l=some (k,b,p)→liveL o l=true
 |[],_,_,_,_=>rfl
 |v :: r,k,b,p,h=>by
  simp only [viewL] at h
  split at h
  ·rename_i e1 e2; simp only [liveL,view_live v _ _ _ e1,viewL_live r _ _ _ e2]; rfl
  ·rename_i e1 e2; simp only [liveL,view_live v _ _ _ e1,viewL_live r _ _ _ e2]; rfl
  ·cases h
theorem view_true:∀ (v u:AV) (p:Prop),viewV o v=some (u,false,p)→p
 |.row id sz off len,u,p,h=>by
  simp only [viewV] at h
  split at h
  ·rename_i s k f e
   cases hs:Nat.beq s sz <;> rw [hs] at h <;> simp at h
  ·cases h
 |.ptr ..,_,_,h=>by simp [viewV] at h
 |.eptr ..,_,_,h=>by simp [viewV] at h
 |.agg l,u,p,h=>by
  simp only [viewV] at h
  split at h
  ·rename_i l' b' p' e
   simp only [Option.some.injEq,Prod.mk.injEq] at h
   obtain ⟨_,rfl,rfl⟩:=h
   exact viewL_true l _ _ e
  ·cases h
 |.tup l,u,p,h=>by
  simp only [viewV] at h
  split at h
  ·rename_i l' b' p' e
   simp only [Option.some.injEq,Prod.mk.injEq] at h
   obtain ⟨_,rfl,rfl⟩:=h
   exact viewL_true l _ _ e
  ·cases h
 |.fn _ l k,u,p,h=>by
  simp only [viewV] at h
  split at h
  ·rename_i c' b1 p1 d' b2 p2 e1 e2
   simp only [Option.some.injEq,Prod.mk.injEq,Bool.or_eq_false_iff] at h
   obtain ⟨_,⟨rfl,rfl⟩,rfl⟩:=h
   exact ⟨viewL_true l _ _ e1,viewL_true k _ _ e2⟩
  ·cases h
 |.undef,_,_,h|.int ..,_,_,h|.bool _,_,_,h|.str _,_,_,h|.sl ..,_,_,h|.ro _,_,_,h|.nils,_,_,h|.nilp,_,_,h|.nilf,_,_,h|.nili,_,_,h|.ifc,_,_,h=>by
  simp only [viewV,Option.some.injEq,Prod.mk.injEq] at h
  obtain ⟨_,_,rfl⟩:=h
  trivial
theorem viewL_true:∀ (l k:List AV) (p:Prop),viewL o l=some (k,false,p)→p
 |[],k,p,h=>by
  simp only [viewL,Option.some.injEq,Prod.mk.injEq] at h
  obtain ⟨_,_,rfl⟩:=h
  trivial
 |v :: r,k,p,h=>by
  simp only [viewL] at h
  split at h
  ·rename_i v' p1 r' b' q e1 e2
   simp only [Option.some.injEq,Prod.mk.injEq] at h
   obtain ⟨_,rfl,rfl⟩:=h
   exact viewL_true r _ _ e2
  ·rename_i v' p1 r' b' q e1 e2
   simp at h
  ·cases h
end
end
end Go.Proofs.YtapeebjjljohdaaGreatDoor.Vc
end
section
/- Part U of the engine: calls by contracts; a contract out of a body. -/
namespace Go.Proofs.YtapeebjjljohdaaGreatDoor.Vc
section
variable {P:Program} {TB:TypeId→TI} {ρ:Nat→Option Nat} {o:List Obj} {R R':Nat→Prop} {w w':World} {Gl:List (Nat × Go.Obj)} {call:FuncId→List AV→List Obj→(AV→List Obj→Prop)→Prop} {n m:Nat}
theorem PV.vr {v:AV} {x:Value} (h:PV R w v x):VR ρ R w v x:=by
 induction h with
 |data h=>exact .data h
 |undef x=>exact .undef x
 |agg l xs h1 _ ih=>exact .agg l xs h1 ih
 |tup l xs h1 _ ih=>exact .tup l xs h1 ih
 |fn f l m xs ys h1 _ h3 _ ih1 ih2=>exact .fn f l m xs ys h1 ih1 h3 ih2
theorem getD_of_mem {v:AV} {l:List AV} (h:v∈l):∃ j,j<l.length∧l.getD j .undef=v:=by
 obtain ⟨j,hj,rfl⟩:=List.mem_iff_getElem.1 h
 exact ⟨j,hj,by rw [List.getD_eq_getElem?_getD,List.getElem?_eq_getElem hj]; rfl⟩
theorem PV.live {v:AV} {x:Value} (h:PV R w v x) (o:List Obj):Vc.live o v=true:=by
 induction h with
 |data h=>exact DR_live h
 |undef x=>rfl
 |agg l xs h1 _ ih =>
  simp only [Vc.live,liveL_iff]
  intro v hv
  obtain ⟨j,hj,rfl⟩:=getD_of_mem hv
  exact ih j hj
 |tup l xs h1 _ ih =>
  simp only [Vc.live,liveL_iff]
  intro v hv
  obtain ⟨j,hj,rfl⟩:=getD_of_mem hv
  exact ih j hj
 |fn f l m xs ys h1 _ h3 _ ih1 ih2 =>
  simp only [Vc.live,Bool.and_eq_true,liveL_iff]
  refine ⟨fun v hv=>?_,fun v hv=>?_⟩
  ·obtain ⟨j,hj,rfl⟩:=getD_of_mem hv
   exact ih1 j hj
  ·obtain ⟨j,hj,rfl⟩:=getD_of_mem hv
   exact ih2 j hj
theorem PV.tr {v:AV} {x:Value} (h:PV R w v x):TR ρ o R w v x:=.of (h.live o) h.vr
theorem PV.go {v:AV} {x:Value} (hR:∀ b,R b→R' b) (hw:∀ b,R b→w'.heap[b]?=w.heap[b]?) (h:PV R w v x):PV R' w' v x:=by
 induction h with
 |data h=>exact .data (h.go hR hw)
 |undef x=>exact .undef x
 |agg l xs h1 _ ih=>exact .agg l xs h1 ih
 |tup l xs h1 _ ih=>exact .tup l xs h1 ih
 |fn f l m xs ys h1 _ h3 _ ih1 ih2=>exact .fn f l m xs ys h1 ih1 h3 ih2
theorem PV.scal {v:AV} {x:Value} (h:PV R w v x):scalV v=true→PV R' w' v x:=by
 induction h with
 |data h =>
  intro hs
  cases h with
  |sl0=>cases hs
  |sl=>cases hs
  |ro=>cases hs
  |undef _ _=>exact .undef _
  |int=>exact .data (.int _ _)
  |bool=>exact .data (.bool _)
  |str=>exact .data (.str _)
  |nils=>exact .data (.nils _)
  |nilp=>exact .data .nilp
  |nilf=>exact .data .nilf
  |nili=>exact .data .nili
  |ifc ty v=>exact .data (.ifc ty v)
 |undef x=>exact fun _=>.undef x
 |agg l xs h1 _ ih =>
  intro hs
  exact .agg l xs h1 fun j hj=>ih j hj (scalL_iff.1 (by simpa only [scalV] using hs) _ (getD_mem hj))
 |tup l xs h1 _ ih =>
  intro hs
  exact .tup l xs h1 fun j hj=>ih j hj (scalL_iff.1 (by simpa only [scalV] using hs) _ (getD_mem hj))
 |fn f l m xs ys h1 _ h3 _ ih1 ih2 =>
  intro hs
  simp only [scalV,Bool.and_eq_true] at hs
  exact .fn f l m xs ys h1 (fun j hj=>ih1 j hj (scalL_iff.1 hs.1 _ (getD_mem hj))) h3 fun j hj=>ih2 j hj (scalL_iff.1 hs.2 _ (getD_mem hj))
def ArgsV (R:Nat→Prop) (w:World) (us:List AV) (xs:Array Value):Prop:=xs.size=us.length∧∀ j,j<us.length→PV R w (us.getD j .undef) (xs.getD j Go.undef)
structure After (Gl:List (Nat × Go.Obj)) (R:Nat→Prop) (w:World) (R':Nat→Prop) (w':World):Prop where
 lt:∀ b,R' b→b<w'.heap.size
 rmono:∀ b,R b→R' b
 rnew:∀ b,R' b→R b∨w.heap.size≤b
 size:w.heap.size≤w'.heap.size
 same:∀ b,b<w.heap.size→w'.heap[b]?=w.heap[b]?
 os:w'.os=w.os
 tape:w'.tape=w.tape
 output:w'.output=w.output
structure Lone (Gl:List (Nat × Go.Obj)) (R:Nat→Prop) (w:World):Prop where
 lt:∀ b,R b→b<w.heap.size
 gl:∀ p,p∈Gl→R p.1∧w.heap[p.1]?=some p.2
theorem Lone.hr (h:Lone Gl R w):HR Gl [] nor R w:=⟨fun _ _ h=>(by cases h),fun _ _ h=>(by cases h),fun _ _ _ h=>(by cases h),fun b hb=>⟨h.lt b hb,fun _ h=>(by cases h)⟩,fun id ob h=>(by simp at h),h.gl⟩
structure Fits (P:Program) (Gl:List (Nat × Go.Obj)) (f:FuncId) (C:List AV→(AV→Prop)→Prop):Prop where
 has:HasBody P f
 mono:∀ us (K K':AV→Prop),(∀ r,K r→K' r)→C us K→C us K'
 ok:∀ us K,C us K→∀ R w xs,Lone Gl R w→ArgsV R w us xs→Calls P f xs w fun e w'=>∃ r x R',e=.returned x∧K r∧PV R' w' r x∧After Gl R w R' w'
abbrev Env:=List (FuncId × (List AV→(AV→Prop)→Prop))
def callE:Env→FuncId→List AV→List Obj→(AV→List Obj→Prop)→Prop
 |[],_,_,_,_=>False
 |(g,C) :: r,f,vs,o,K=>cond (Nat.beq f g) (match viewL o vs with
  |some (us,lent,p)=>Chk p∧C us fun u=>cond (!lent || scalV u) (K u o) False
  |none=>False) (callE r f vs o K)
theorem After.ex (hh:HR Gl o ρ R w) {R0 R1:Nat→Prop} (h:After Gl R0 w R1 w') {R2:Nat→Prop} (h1:∀ b,R b→R2 b) (h2:∀ b,R2 b→b<w'.heap.size∧(R b∨w.heap.size≤b)):EX o ρ R w o ρ R2 w'∧HR Gl o ρ R2 w':=by
 have hx:EX o ρ R w o ρ R2 w':=by
  refine ⟨Nat.le_refl _,(EX.refl o ρ R w).keep,h1,fun b hb=>?_,fun id b hb=>.inr ⟨id,hb⟩,h.size,fun b hb _=>h.same b hb,fun b xs ty hb=>⟨xs,?_,rfl⟩,h.os,h.tape,h.output⟩
  ·rcases (h2 b hb).2 with q|q
   ·exact .inl q
   ·exact .inr (.inl q)
  ·rw [h.same b (by exact (Array.getElem?_eq_some_iff.1 hb).1)]
   exact hb
 refine ⟨hx,hh.dom,fun id b hb=>Nat.lt_of_lt_of_le (hh.lt id b hb) h.size,hh.inj,fun b hb=>⟨(h2 b hb).1,fun id hid=>?_⟩,fun j ob ho=>(hh.obj j ob ho).go hx hh.ro rfl fun b hb=>h.same b (hh.lt j b hb),fun p hp=>⟨h1 _ (hh.gl p hp).1,?_⟩⟩
 ·rcases (h2 b hb).2 with q|q
  ·exact (hh.ro b q).2 id hid
  ·have:=hh.lt id b hid; omega
 ·rw [h.same _ (hh.ro _ (hh.gl p hp).1).1]
  exact (hh.gl p hp).2
theorem callE_ok {E:Env} (hE:∀ p,p∈E→Fits P Gl p.1 p.2):CallOk P Gl (callE E):=by
 induction E with
 |nil=>exact ⟨fun _ _ _ _ h=>h.elim,fun _ _ _ _ h=>h.elim,fun _ _ _ _ _ _ h=>h.elim⟩
 |cons q r ih =>
  obtain ⟨g,C⟩:=q
  have ih:=ih fun p hp=>hE p (List.mem_cons_of_mem _ hp)
  have hF:=hE (g,C) List.mem_cons_self
  refine ⟨fun f vs o K h=>?_,fun f vs o K h ρ R w xs hh ha=>?_,fun f vs o K K' hk h=>?_⟩
  ·unfold callE at h
   cases e:Nat.beq f g with
   |true=>rw [Nat.eq_of_beq_eq_true e]; exact hF.has
   |false=>rw [e] at h; exact ih.has _ _ _ _ h
  ·unfold callE at h
   cases e:Nat.beq f g with
   |false=>rw [e] at h; exact ih.ok _ _ _ _ h ρ R w xs hh ha
   |true =>
    rw [e] at h
    obtain rfl:=Nat.eq_of_beq_eq_true e
    simp only [cond_true] at h
    split at h
    ·rename_i us lent p ev
     obtain ⟨⟨hp⟩,hC⟩:=h
     obtain ⟨g1,g2,_⟩:=viewL_VR hh vs us lent p ev hp
     cases lent with
     |false =>
      refine (hF.ok us _ hC R w xs ⟨fun b hb=>(hh.ro b hb).1,hh.gl⟩ ⟨ha.1.trans g1.symm,fun j hj=>(g2 j (g1 ▸ hj) _ (ha.2 j (g1 ▸ hj))).2 rfl⟩).mono fun e w' he=>?_
      obtain ⟨r,x,R1,rfl,hK,hv,hA⟩:=he
      obtain ⟨k1,k2⟩:=hA.ex hh hA.rmono fun b hb=>⟨hA.lt b hb,hA.rnew b hb⟩
      exact ⟨r,x,o,ρ,R1,rfl,by simpa using hK,k2,hv.tr,k1⟩
     |true =>
      refine (hF.ok us _ hC (Rall R ρ) w xs ⟨fun b hb=>?_,fun p hp=>⟨.inl (hh.gl p hp).1,(hh.gl p hp).2⟩⟩ ⟨ha.1.trans g1.symm,fun j hj=>(g2 j (g1 ▸ hj) _ (ha.2 j (g1 ▸ hj))).1⟩).mono fun e w' he=>?_
      ·rcases hb with hb|⟨id,hb⟩
       ·exact (hh.ro b hb).1
       ·exact hh.lt id b hb
      ·obtain ⟨r,x,R1,rfl,hK,hv,hA⟩:=he
       simp only [Bool.not_true,Bool.false_or] at hK
       obtain ⟨hs,hK⟩:=of_cond_true hK
       obtain ⟨k1,k2⟩:=hA.ex hh (R2:=R) (fun _ hb=>hb) fun b hb=>⟨Nat.lt_of_lt_of_le (hh.ro b hb).1 hA.size,.inl hb⟩
       exact ⟨r,x,o,ρ,R,rfl,hK,k2,(hv.scal hs).tr,k1⟩
    ·exact h.elim
  ·unfold callE at h ⊢
   cases e:Nat.beq f g with
   |false=>rw [e] at h; exact ih.mono _ _ _ _ _ hk h
   |true =>
    rw [e] at h
    simp only [cond_true] at h ⊢
    split at h
    ·refine ⟨h.1,hF.mono _ _ _ (fun r hr=>?_) h.2⟩
     obtain ⟨h1,h2⟩:=of_cond_true hr
     rw [h1]
     exact hk _ _ h2
    ·exact h
def out (K:AV→Prop):AV→List Obj→Prop:=fun r o=>match viewV o r with
 |some (u,_,p)=>Chk p∧K u
 |none=>False
theorem fits_of_body (hT:TOk P TB) (hC:CallOk P Gl call) (hm:P.follows .mixedOrders=true) {f:FuncId} {fn:Func} (hf:FnOk P f fn) {C:List AV→(AV→Prop)→Prop} (hM:∀ us (K K':AV→Prop),(∀ r,K r→K' r)→C us K→C us K')
  (hb:∀ us K,C us K→us.length≤fn.ntmps∧bodyP TB call (Dr TB call) 0 fn us [] (out K)):Fits P Gl f C:=by
 refine ⟨hf.has,hM,fun us K h R w xs hL ha=>?_⟩
 obtain ⟨h1,h2⟩:=hb us K h
 refine (body_sound hT hC hm hf h2 hL.hr ⟨ha.1,fun j hj=>(ha.2 j hj).tr⟩ (Nat.zero_le _) h1).mono fun e w' he=>?_
 obtain ⟨r,x,o',ρ',R',rfl,hK,hh',hv,_,hx⟩:=he
 unfold out at hK
 split at hK
 ·rename_i u b p ev
  obtain ⟨⟨hp⟩,hK⟩:=hK
  have hu:=(view_VR hh' r u b p ev hp x hv).1
  refine ⟨u,x,Rall R' ρ',rfl,hK,hu,⟨fun b hb=>?_,fun b hb=>.inl (hx.rmono b hb),fun b hb=>?_,hx.size,fun b hb=>hx.same b hb fun _ q=>(by cases q),hx.os,hx.tape,hx.output⟩⟩
  ·rcases hb with hb|⟨id,hb⟩
   ·exact (hh'.ro b hb).1
   ·exact hh'.lt id b hb
  ·rcases hb with hb|⟨id,hb⟩
   ·rcases hx.rnew b hb with q|q|⟨_,q⟩
    ·exact .inl q
    ·exact .inr q
    ·cases q
   ·rcases hx.pnew id b hb with q|⟨_,q⟩
    ·exact .inr q
    ·cases q
 ·exact hK.elim
end
end Go.Proofs.YtapeebjjljohdaaGreatDoor.Vc
end
section
/- Part V of the engine: contracts by ghosts. -/
namespace Go.Proofs.YtapeebjjljohdaaGreatDoor.Vc
mutual
def exV:AV→AV→Prop
 |.sl s n f,.sl z m g=>cond (Nat.beq s z) (Chk (n=m∧∀ i,i<n→f i=g i)) False
 |.nils,.sl _ m _=>Chk (m=0)
 |.int k a,.int j b=>cond (sameK k j) (Chk (a=b)) False
 |.bool a,.bool b=>Chk (a=b)
 |.str a,.str b=>Chk (a=b)
 |.ro a,.ro b=>Chk (a=b)
 |.nils,.nils=>True
 |.nilp,.nilp=>True
 |.nilf,.nilf=>True
 |.nili,.nili=>True
 |.ifc,.ifc=>True
 |.agg l,.agg m=>exL l m
 |.tup l,.tup m=>exL l m
 |.fn f a c,.fn g b d=>cond (Nat.beq f g) (exL a b∧exL c d) False
 |_,.undef=>True
 |_,_=>False
def exL:List AV→List AV→Prop
 |[],[]=>True
 |a :: l,b :: m=>exV a b∧exL l m
 |_,_=>False
end
section
variable {P:Program} {TB:TypeId→TI} {R:Nat→Prop} {w:World} {Gl:List (Nat × Go.Obj)} {call:FuncId→List AV→List Obj→(AV→List Obj→Prop)→Prop}
theorem DR.ext' {s m k:Nat} {f g:Nat→List AV} {y:Value} (h:DR R w (.sl s m f) y) (hk:m=k) (he:∀ i,i<m→f i=g i):DR R w (.sl s k g) y:=h.ext hk.symm fun i hi=>(he i (hk ▸ hi)).symm
mutual
theorem exV_PV:∀ (u v:AV),exV u v→∀ x,PV R w u x→PV R w v x
 |u,.undef,_,x,_=>.undef x
 |u,.sl z m g,h,x,hp=>by
  cases u <;> simp only [exV] at h
  case sl s n f =>
   obtain ⟨h1,⟨h2⟩⟩:=of_cond_true h
   obtain rfl:=Nat.eq_of_beq_eq_true h1
   cases hp with|data hd=>exact .data (hd.ext' h2.1 h2.2)
  case nils =>
   obtain rfl:=h.h
   cases hp with|data hd=>cases hd; exact .data (.sl0 _ _ _ _)
 |u,.int j b,h,x,hp=>by
  cases u <;> simp only [exV] at h
  obtain ⟨h1,⟨rfl⟩⟩:=of_cond_true h
  obtain rfl:_=j:=of_decide_eq_true h1
  exact hp
 |u,.bool b,h,x,hp=>by
  cases u <;> simp only [exV] at h
  obtain ⟨rfl⟩:=h
  exact hp
 |u,.str b,h,x,hp=>by
  cases u <;> simp only [exV] at h
  obtain ⟨rfl⟩:=h
  exact hp
 |u,.ro b,h,x,hp=>by
  cases u <;> simp only [exV] at h
  obtain ⟨rfl⟩:=h
  exact hp
 |u,.nils,h,x,hp=>by cases u <;> simp only [exV] at h; exact hp
 |u,.nilp,h,x,hp=>by cases u <;> simp only [exV] at h; exact hp
 |u,.nilf,h,x,hp=>by cases u <;> simp only [exV] at h; exact hp
 |u,.nili,h,x,hp=>by cases u <;> simp only [exV] at h; exact hp
 |u,.ifc,h,x,hp=>by cases u <;> simp only [exV] at h; exact hp
 |u,.row ..,h,_,_=>by cases u <;> simp only [exV] at h
 |u,.ptr ..,h,_,_=>by cases u <;> simp only [exV] at h
 |u,.eptr ..,h,_,_=>by cases u <;> simp only [exV] at h
 |u,.agg m,h,x,hp=>by
  cases u <;> simp only [exV] at h
  cases hp with
  |data hd=>cases hd
  |agg l xs h1 h2 =>
   obtain ⟨g1,g2⟩:=exL_PV _ m h
   exact .agg m xs (h1.trans g1) fun j hj=>g2 j (g1 ▸ hj) _ (h2 j (g1 ▸ hj))
 |u,.tup m,h,x,hp=>by
  cases u <;> simp only [exV] at h
  cases hp with
  |data hd=>cases hd
  |tup l xs h1 h2 =>
   obtain ⟨g1,g2⟩:=exL_PV _ m h
   exact .tup m xs (h1.trans g1) fun j hj=>g2 j (g1 ▸ hj) _ (h2 j (g1 ▸ hj))
 |u,.fn g b d,h,x,hp=>by
  cases u <;> simp only [exV] at h
  obtain ⟨h0,hq⟩:=of_cond_true h
  obtain rfl:=Nat.eq_of_beq_eq_true h0
  cases hp with
  |data hd=>cases hd
  |fn _ l k xs ys h1 h2 h3 h4 =>
   obtain ⟨g1,g2⟩:=exL_PV _ b hq.1
   obtain ⟨k1,k2⟩:=exL_PV _ d hq.2
   exact .fn _ b d xs ys (h1.trans g1) (fun j hj=>g2 j (g1 ▸ hj) _ (h2 j (g1 ▸ hj))) (h3.trans k1) fun j hj=>k2 j (k1 ▸ hj) _ (h4 j (k1 ▸ hj))
theorem exL_PV:∀ (l m:List AV),exL l m→l.length=m.length∧∀ j,j<l.length→∀ x,PV R w (l.getD j .undef) x→PV R w (m.getD j .undef) x
 |[],[],_=>⟨rfl,fun j hj=>absurd hj (Nat.not_lt_zero _)⟩
 |[],_ :: _,h=>by simp only [exL] at h
 |_ :: _,[],h=>by simp only [exL] at h
 |a :: l,b :: m,h=>by
  simp only [exL] at h
  obtain ⟨g1,g2⟩:=exL_PV l m h.2
  refine ⟨by simp [g1],fun j hj x hx=>?_⟩
  cases j with
  |zero=>simpa using exV_PV a b h.1 x (by simpa using hx)
  |succ j=>simpa using g2 j (by simpa using hj) x (by simpa using hx)
end
def con {X:Type} (args:X→List AV) (pre:X→Prop) (post:X→(AV→Prop)→Prop):List AV→(AV→Prop)→Prop:=fun us K=>∃ x,exL us (args x)∧Chk (pre x)∧post x K
theorem fits {X:Type} {args:X→List AV} {pre:X→Prop} {post:X→(AV→Prop)→Prop} (hT:TOk P TB) (hC:CallOk P Gl call) (hm:P.follows .mixedOrders=true) {f:FuncId} {fn:Func} (hf:FnOk P f fn) (hM:∀ x (K K':AV→Prop),(∀ r,K r→K' r)→post x K→post x K')
  (hb:∀ x (K:AV→Prop),pre x→post x K→(args x).length≤fn.ntmps∧bodyP TB call (Dr TB call) 0 fn (args x) [] (out K)):Fits P Gl f (con args pre post):=by
 have h0:=fits_of_body hT hC hm hf (C:=fun us K=>∃ x,us=args x∧pre x∧post x K) (fun us K K' hk ⟨x,h1,h2,h3⟩=>⟨x,h1,h2,hM x K K' hk h3⟩) fun us K ⟨x,h1,h2,h3⟩=>h1 ▸ hb x K h2 h3
 refine ⟨h0.has,fun us K K' hk ⟨x,h1,h2,h3⟩=>⟨x,h1,h2,hM x K K' hk h3⟩,fun us K ⟨x,h1,h2,h3⟩ R w xs hL ha=>h0.ok (args x) K ⟨x,rfl,h2.h,h3⟩ R w xs hL ?_⟩
 obtain ⟨g1,g2⟩:=exL_PV (R:=R) (w:=w) us (args x) h1
 exact ⟨ha.1.trans g1,fun j hj=>g2 j (g1 ▸ hj) _ (ha.2 j (g1 ▸ hj))⟩
theorem apnd {n b:Nat} (hb:b≤64) (h:n*64≤140737488355328):n*b≤140737488355328:=Nat.le_trans (Nat.mul_le_mul_left _ hb) h
theorem wi64_eq (x:Int):IntKind.i64.wrap x=if x % 18446744073709551616≥9223372036854775808 then x % 18446744073709551616-18446744073709551616 else x % 18446744073709551616:=by
 simp [IntKind.wrap,IntKind.signed,IntKind.bits]
theorem wi64 {x:Int} (h1:-9223372036854775808≤x) (h2:x≤9223372036854775807):IntKind.i64.wrap x=x:=by
 rw [wi64_eq]
 split <;> omega
theorem wi64r (x:Int):-9223372036854775808≤IntKind.i64.wrap x∧IntKind.i64.wrap x≤9223372036854775807:=by
 rw [wi64_eq]
 split <;> omega
theorem wu64 {x:Int} (h1:0≤x) (h2:x≤18446744073709551615):IntKind.u64.wrap x=x:=by
 simp only [IntKind.wrap,IntKind.signed,IntKind.bits,Bool.false_and]
 simp only [Bool.false_eq_true,if_false]
 omega
end
/-! ### The walk's steps, with what they ask looked for at once -/
section
variable {p A B:Prop} {K:AV→Prop}
theorem vA (hA:A) (h:p:=by first|exact trivial|exact rfl|exact ⟨rfl,fun _ _=>rfl⟩|exact ⟨rfl,rfl⟩|omega|assumption|(refine ⟨?_,?_⟩ <;> omega)|(refine ⟨?_,?_,apnd ?_ ?_⟩; (focus omega); (focus omega); (focus decide); (focus omega))|(refine ⟨?_,apnd ?_ ?_⟩; (focus omega); (focus decide); (focus omega))|(refine ⟨?_,?_⟩; (focus omega); (focus exact trivial))|(simp <;> fail)):Chk p∧A:=⟨⟨h⟩,hA⟩
theorem vW (h:p:=by first|exact trivial|exact rfl|exact ⟨rfl,fun _ _=>rfl⟩|exact ⟨rfl,rfl⟩|omega|assumption|(refine ⟨?_,?_⟩ <;> omega)|(refine ⟨?_,?_,apnd ?_ ?_⟩; (focus omega); (focus omega); (focus decide); (focus omega))|(refine ⟨?_,apnd ?_ ?_⟩; (focus omega); (focus decide); (focus omega))|(refine ⟨?_,?_⟩; (focus omega); (focus exact trivial))|(simp <;> fail)):Chk p:=⟨h⟩
theorem vB {x:Int} (hK:K (.int .i64 x)) (h1:-9223372036854775808≤x:=by omega) (h2:x≤9223372036854775807:=by omega):Wr .i64 x K:=.ex (wi64 h1 h2) hK
theorem vT [Decidable p] (h:A) (hp:p:=by first|omega|assumption):Br (decide p) A B:=br_dT hp h
theorem vF [Decidable p] (h:B) (hp:¬ p:=by first|omega|assumption):Br (decide p) A B:=br_dF hp h
theorem vP {b:Bool} (h:A) (hb:b=true:=by assumption):Br b A B:=br_hT hb h
theorem vQ {b:Bool} (h:B) (hb:b=false:=by assumption):Br b A B:=br_hF hb h
theorem vS {m : Nat} {A : (Exit → Fr → List Obj → Prop) → Prop} {B : Fr → List Obj → Prop} {Q : Exit → Fr → List Obj → Prop} (h : A fun e t o => match e with
   |.normal=>Wk m t o B
   |e=>Q e t o):Sq m A B Q:=.d h
theorem vR {m:Nat} {t:Fr} {o:List Obj} {F:Fr→List Obj→Prop} (h:F t o):Wk m t o F:=.rf h
theorem vM {b:Bool} (h:b=true→A) (h':b=false→B):Br b A B:=.mk h h'
end
theorem wq {p:Prop} (h:p:=by repeat' ((conv=>whnf); first|with_reducible exact True.intro|exact vW|with_reducible refine And.intro ?_ ?_)):p:=h
end Go.Proofs.YtapeebjjljohdaaGreatDoor.Vc
end
