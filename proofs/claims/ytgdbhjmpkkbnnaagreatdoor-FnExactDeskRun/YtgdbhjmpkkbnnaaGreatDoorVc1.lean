/- Part HN of the engine: a nested row's open cell takes over rows. -/
import Derived.Laws.MakeOwn
import Derived.Tactics
import Derived.Orders
import Derived.Test.YtgdbhjmpkkbnnaaGreatDoorVc0
section
namespace Go.Proofs.YtgdbhjmpkkbnnaaGreatDoor.Vc
section
variable {P:Program} {TB:TypeId→TI} {ρ:Ix→Option Nat} {o:List Obj} {R:Nat→Prop} {w:World} {t:Fr} {a:Act} {Gl:List (Nat × Go.Obj)} {k id q s n i:Nat} {f:Nat→List AV} {us:List AV}
def ρin (ρ:Ix→Option Nat) (k id q:Nat):Ix→Option Nat:=fun x=>if x=.inn id q then ρ k else if x.id=k then none else ρ x
theorem ρin_q:ρin ρ k id q (.inn id q)=ρ k:=by unfold ρin; rw [if_pos rfl]
theorem ρin_ne {x:Ix} (h1:x≠.inn id q) (h2:x.id≠k):ρin ρ k id q x=ρ x:=by unfold ρin; rw [if_neg h1,if_neg h2]
theorem EX.mv1:EX o ρ R w (o.set k .dead) (ρin ρ k id q) R w where
  len:=by simp
  keep j hj:=by
    by_cases hk:k=j
    · subst hk
      rw [List.getElem?_set_self hj]
      trivial
    · rw [List.getElem?_set_ne hk]
      have e2:ρin ρ k id q j=ρ j:=ρin_ne (by intro h; cases h) (show j≠k from Ne.symm hk)
      rw [e2]
      split
      · rename_i h; exact ⟨⟨_,h⟩,rfl⟩
      · rename_i h; exact ⟨⟨_,_,h⟩,rfl⟩
      · rename_i h; exact ⟨⟨_,h,rfl⟩,rfl⟩
      · trivial
  rmono _ h:=h
  rnew _ h:=.inl h
  pnew x b h:=by
    unfold ρin at h
    split at h
    · exact .inr ⟨_,h⟩
    · split at h
      · cases h
      · exact .inr ⟨x,h⟩
  size:=Nat.le_refl _
  same _ _ _:=rfl
  shape _ ys _ h:=⟨ys,h,rfl⟩
  os:=rfl
  tape:=rfl
  output:=rfl
theorem row_ne {m:Nat} {g:Nat→List AV} {z:Nat} {x:Option (Nat × List AV)} (hk:o[k]?=some (.row z m g)) (hid:o[id]?=some (.nrow s n f x)):id≠k:=fun e=>by
  subst e
  rw [hk] at hid
  cases hid
theorem cell_ne {i i' s j q:Nat} (h:i'≠i) (hj:j<s) (h1:i*s≤q) (h2:q<i*s+s):i'*s+j≠q:=by
  rcases Nat.lt_or_ge i' i with hlt|hge
  · have:(i'+1)*s≤i*s:=Nat.mul_le_mul_right _ hlt
    rw [Nat.add_mul,Nat.one_mul] at this
    omega
  · have:(i+1)*s≤i'*s:=Nat.mul_le_mul_right _ (by omega)
    rw [Nat.add_mul,Nat.one_mul] at this
    omega
theorem HR.mv1 (hh:HR Gl o ρ R w) {m:Nat} {g:Nat→List AV} {z:Nat} (hk:o[k]?=some (.row z m g)) (hid:o[id]?=some (.nrow s n f (some (i,us)))) (h1:i*s≤q) (h2:q<i*s+s):HR Gl (o.set k .dead) (ρin ρ k id q) R w:=by
  have hx:=EX.mv1 (o:=o) (ρ:=ρ) (R:=R) (w:=w) (k:=k) (id:=id) (q:=q)
  have hne:=row_ne hk hid
  have hn:∀ (x:Ix) (b:Nat),ρin ρ k id q x=some b→(x=.inn id q∧ρ k=some b)∨(x≠.inn id q∧x.id≠k∧ρ x=some b):=by
    intro x b h
    unfold ρin at h
    split at h
    · rename_i e; exact .inl ⟨e,h⟩
    · rename_i e
      split at h
      · cases h
      · rename_i e2; exact .inr ⟨e,e2,h⟩
  refine ⟨?_,?_,?_,?_,?_,?_,?_⟩
  · intro x b h
    rw [List.length_set]
    rcases hn x b h with ⟨rfl,_⟩|⟨_,_,h⟩
    · exact (List.getElem?_eq_some_iff.1 hid).1
    · exact hh.dom x b h
  · intro j q' b h
    rcases hn _ b h with ⟨e,_⟩|⟨_,e,h⟩
    · cases e
      exact ⟨s,n,f,_,(List.getElem?_set_ne (Ne.symm hne)).trans hid⟩
    · obtain ⟨s',n',f',x',e'⟩:=hh.din j q' b h
      exact ⟨s',n',f',x',(List.getElem?_set_ne (show k≠j from Ne.symm e)).trans e'⟩
  · intro x b h
    rcases hn x b h with ⟨_,h⟩|⟨_,_,h⟩
    · exact hh.lt _ b h
    · exact hh.lt x b h
  · intro x y b hx' hy
    rcases hn x b hx' with ⟨x1,x2⟩|⟨x1,x2,x3⟩ <;> rcases hn y b hy with ⟨y1,y2⟩|⟨y1,y2,y3⟩
    · rw [x1,y1]
    · exact absurd (by rw [← hh.inj _ y b x2 y3]; rfl) y2
    · exact absurd (by rw [← hh.inj _ x b y2 x3]; rfl) x2
    · exact hh.inj x y b x3 y3
  · intro b hb
    refine ⟨(hh.ro b hb).1,fun x h=>?_⟩
    rcases hn x b h with ⟨_,h⟩|⟨_,_,h⟩
    · exact (hh.ro b hb).2 _ h
    · exact (hh.ro b hb).2 x h
  · intro j ob h
    by_cases hkj:k=j
    · subst hkj
      have hk':k<o.length:=(List.getElem?_eq_some_iff.1 hk).1
      rw [List.getElem?_set_self hk'] at h
      injection h with h
      subst h
      show ρin ρ k id q k=none
      unfold ρin
      rw [if_neg (by intro h; cases h),if_pos (show (k:Ix).id=k from rfl)]
    · rw [List.getElem?_set_ne hkj] at h
      by_cases hji:j=id
      · subst hji
        rw [hid] at h
        injection h with h
        subst h
        rcases hh.obj j _ hid with ⟨_,h0,_⟩|⟨b,xs,ty,g1,g2,g3,g4,g5,g6⟩
        · cases h0
        · refine .inr ⟨b,xs,ty,(ρin_ne (x:=(j:Ix)) (by intro h; cases h) hne).trans g1,g2,g3,g4,fun i' hi' hne' j' hj'=>(g5 i' hi' hne' j' hj').mv (fun _ h=>h) (ρin_ne (x:=.inn j _) ?_ hne),fun i' cs e=>⟨(g6 i' cs e).1,(g6 i' cs e).2.1,fun j' hj'=>((g6 i' cs e).2.2 j' hj').go hx hh.ro⟩⟩
          intro e
          injection e with _ e
          exact cell_ne (fun e2=>hne' (by rw [e2]; rfl)) hj' h1 h2 e
      · exact (hh.obj j ob h).go hx hh.ro (fun x hx=>ρin_ne (fun e=>hji (by rw [← hx,e]; rfl)) (by omega)) fun _ _ _ _=>rfl
  · exact hh.gl
theorem own1_set {v x:AV} {kk:Option Nat} {p:Prop} (h:own1 o v=some (x,kk,p)) (hk:kk≠some k):own1 (o.set k .dead) v=some (x,kk,p):=by
  unfold own1 at h ⊢
  split at h
  · rename_i j z off len
    split at h
    · rename_i s' n' f' e
      cases hb:(Nat.beq s' z && Nat.beq off 0) with
      | false=>rw [hb] at h; cases h
      | true =>
        rw [hb] at h
        simp only [cond_true,Option.some.injEq,Prod.mk.injEq] at h
        have hj:k≠j:=fun e2=>hk (by rw [← h.2.1,e2])
        rw [List.getElem?_set_ne hj,e]
        simp only [hb,cond_true,Option.some.injEq,Prod.mk.injEq]
        exact h
    · cases h
  all_goals first|exact h|cases h
theorem ownL_set:∀ (r:List AV) {xs:List AV} {ls:List Nat} {p:Prop},ownL o r=some (xs,ls,p)→ls.contains k=false→ownL (o.set k .dead) r=some (xs,ls,p)
  | [],_,_,_,h,_=>h
  | v :: r,xs,ls,p,h,hc=>by
    simp only [ownL] at h ⊢
    split at h
    · rename_i x p1 xs1 ls1 p2 e1 e2
      simp only [Option.some.injEq,Prod.mk.injEq] at h
      obtain ⟨rfl,rfl,rfl⟩:=h
      rw [own1_set e1 (by intro h; cases h),ownL_set r e2 hc]
    · rename_i x j p1 xs1 ls1 p2 e1 e2
      simp only [Option.some.injEq,Prod.mk.injEq] at h
      obtain ⟨rfl,rfl,rfl⟩:=h
      simp only [List.contains_cons,Bool.or_eq_false_iff,beq_eq_false_iff_ne] at hc
      rw [own1_set e1 (by intro h; injection h with h; exact hc.1 h.symm),ownL_set r e2 hc.2]
    · cases h
theorem absorb:∀ (cs:List AV) {o:List Obj} {ρ:Ix→Option Nat} {ds:List AV} {ks:List Nat} {p:Prop} {q0:Nat} {g:Nat→Value},HR Gl o ρ R w→o[id]?=some (.nrow s n f (some (i,us)))→ownL o cs=some (ds,ks,p)→p→ownN ks=true →
    i*s≤q0→q0+cs.length≤i*s+s→(∀ j,j<cs.length→TR ρ o R w (cs.getD j .undef) (g j)) →
    ∃ ρ',HR Gl (kill o ks) ρ' R w∧EX o ρ R w (kill o ks) ρ' R w∧(kill o ks)[id]?=some (.nrow s n f (some (i,us)))∧(∀ x:Ix,x.id=id→(∀ j,j<cs.length→x≠.inn id (q0+j))→ρ' x=ρ x)∧ds.length=cs.length ∧
      ∀ j,j<cs.length→NR ρ' R w id (q0+j) (ds.getD j .undef) (g j)
  | [],o,ρ,ds,ks,p,q0,g,hh,hid,ho,hp,hN,h1,h2,hT=>by
    simp only [ownL,Option.some.injEq,Prod.mk.injEq] at ho
    obtain ⟨rfl,rfl,rfl⟩:=ho
    exact ⟨ρ,hh,EX.refl _ _ _ _,hid,fun _ _ _=>rfl,rfl,fun j hj=>absurd hj (Nat.not_lt_zero _)⟩
  | v :: r,o,ρ,ds,ks,p,q0,g,hh,hid,ho,hp,hN,h1,h2,hT=>by
    simp only [ownL] at ho
    simp only [List.length_cons] at h2
    have hv:TR ρ o R w v (g 0):=by simpa using hT 0 (by simp)
    split at ho
    · rename_i x p1 xs1 ls1 p2 e1 e2
      simp only [Option.some.injEq,Prod.mk.injEq] at ho
      obtain ⟨rfl,rfl,rfl⟩:=ho
      obtain ⟨ρ',g1,g2,g3,g4,g5,g6⟩:=absorb r (q0:=q0+1) (g:=fun j=>g (j+1)) hh hid e2 hp hN (by omega) (by omega) fun j hj=>by simpa using hT (j+1) (by simpa using hj)
      refine ⟨ρ',g1,g2,g3,fun x hx hq=>g4 x hx fun j hj=>by have:=hq (j+1) (by simpa using hj); rwa [show q0+(j+1)=q0+1+j by omega] at this,by simp [g5],fun j hj=>?_⟩
      cases j with
      | zero =>
        left
        unfold own1 at e1
        split at e1
        · split at e1
          · rename_i e
            cases hs:(Nat.beq _ _ && Nat.beq _ 0) <;> rw [hs] at e1 <;> simp at e1
          · cases e1
        all_goals first
          | (simp only [Option.some.injEq,Prod.mk.injEq] at e1
             obtain ⟨rfl,_,_⟩:=e1
             cases hv.vr rfl with
             | data hd=>exact ⟨rfl,hd⟩)
          | cases e1
      | succ j =>
        have:=g6 j (by simpa using hj)
        rw [show q0+1+j=q0+(j+1) by omega] at this
        simpa using this
    · rename_i x k p1 xs1 ls1 p2 e1 e2
      simp only [Option.some.injEq,Prod.mk.injEq] at ho
      obtain ⟨rfl,rfl,rfl⟩:=ho
      simp only [ownN,Bool.and_eq_true,Bool.not_eq_true'] at hN
      obtain ⟨hp1,hp2⟩:=hp
      unfold own1 at e1
      split at e1
      · rename_i k' sz off len
        split at e1
        · rename_i s' m f' e
          cases hs:(Nat.beq s' sz && Nat.beq off 0) with
          | false=>rw [hs] at e1; cases e1
          | true =>
            rw [hs] at e1
            simp only [cond_true,Option.some.injEq,Prod.mk.injEq] at e1
            obtain ⟨rfl,rfl,rfl⟩:=e1
            rw [Bool.and_eq_true] at hs
            have hs1:=Nat.eq_of_beq_eq_true hs.1
            have hs2:=Nat.eq_of_beq_eq_true hs.2
            subst hs1 hs2
            have hne:=row_ne e hid
            have hm:=hh.mv1 (q:=q0) e hid h1 (by omega)
            have hid':(o.set k' .dead)[id]?=some (.nrow s n f (some (i,us))):=(List.getElem?_set_ne (Ne.symm hne)).trans hid
            obtain ⟨ρ',g1,g2,g3,g4,g5,g6⟩:=absorb r (q0:=q0+1) (g:=fun j=>g (j+1)) hm hid' (ownL_set r e2 hN.1) hp2 hN.2 (by omega) (by omega) fun j hj=>by
              have:TR ρ o R w (r.getD j .undef) (g (j+1)):=by simpa using hT (j+1) (by simpa using hj)
              exact this.go EX.mv1 hh.ro
            have hq0:ρ' (.inn id q0)=ρ k':=(g4 (.inn id q0) rfl fun j _ e=>by injection e with _ e; omega).trans ρin_q
            refine ⟨ρ',g1,EX.mv1.trans g2,g3,fun x hx hq=>(g4 x hx fun j hj=>?_).trans (ρin_ne ?_ (by omega)),by simp [g5],fun j hj=>?_⟩
            · have:=hq (j+1) (by simpa using hj)
              rwa [show q0+(j+1)=q0+1+j by omega] at this
            · exact hq 0 (by simp)
            · cases j with
              | zero =>
                right
                refine ⟨s',len,f',rfl,?_⟩
                rw [hp1]
                rcases hh.obj k' _ e with ⟨q1,q2⟩|⟨b',ys,ty',q1,q2,q3,q4,q5⟩
                · refine ⟨fun i' hi'=>by omega,?_⟩
                  rcases hv.row e (Nat.beq_refl _) with ⟨r1,a,ry⟩|⟨b,cs,ty,cap,ry,r2,_⟩
                  · exact .inl ⟨by omega,a,ry⟩
                  · rw [q2] at r2; cases r2
                · refine ⟨q4,?_⟩
                  rcases hv.row e (Nat.beq_refl _) with ⟨r1,a,ry⟩|⟨b,cs,ty,cap,ry,r2,r3,r4,r5,r6⟩
                  · exact .inl ⟨by omega,a,ry⟩
                  · rw [q1] at r2
                    injection r2 with r2
                    subst r2
                    rw [q2] at r3
                    injection r3 with r3
                    injection r3 with r3 _ _
                    subst r3
                    rw [Nat.zero_mul] at ry
                    rw [Nat.zero_add] at r5
                    exact .inr ⟨b',ys,ty',cap,by rw [← hp1]; exact ry,by rw [Nat.add_zero]; exact hq0.trans q1,q2,by omega,r5,r6,q5⟩
              | succ j =>
                have:=g6 j (by simpa using hj)
                rw [show q0+1+j=q0+(j+1) by omega] at this
                simpa using this
        · cases e1
      all_goals simp at e1
    · cases ho
theorem own1_setN {x:Option (Nat × List AV)} (hid:o[id]?=some (.nrow s n f x)) {ob:Obj} {v u:AV} {kk:Option Nat} {p:Prop} (h:own1 o v=some (u,kk,p)):own1 (o.set id ob) v=some (u,kk,p):=by
  unfold own1 at h ⊢
  split at h
  · rename_i j z off len
    split at h
    · rename_i s' n' f' e
      rw [List.getElem?_set_ne (row_ne e hid),e]
      exact h
    · cases h
  all_goals first|exact h|cases h
theorem ownL_setN {x:Option (Nat × List AV)} (hid:o[id]?=some (.nrow s n f x)) {ob:Obj}:∀ (r:List AV) {xs:List AV} {ls:List Nat} {p:Prop},ownL o r=some (xs,ls,p)→ownL (o.set id ob) r=some (xs,ls,p)
  | [],_,_,_,h=>h
  | v :: r,xs,ls,p,h=>by
    simp only [ownL] at h ⊢
    split at h
    · rename_i e1 e2
      rw [own1_setN hid e1,ownL_setN hid r e2]
      exact h
    · rename_i e1 e2
      rw [own1_setN hid e1,ownL_setN hid r e2]
      exact h
    · cases h
theorem ownL_len:∀ (r:List AV) {xs:List AV} {ls:List Nat} {p:Prop},ownL o r=some (xs,ls,p)→xs.length=r.length
  | [],_,_,_,h=>by
    simp only [ownL,Option.some.injEq,Prod.mk.injEq] at h
    rw [← h.1]
  | v :: r,xs,ls,p,h=>by
    simp only [ownL] at h
    split at h
    · rename_i e1 e2
      simp only [Option.some.injEq,Prod.mk.injEq] at h
      rw [← h.1,List.length_cons,List.length_cons,ownL_len r e2]
    · rename_i e1 e2
      simp only [Option.some.injEq,Prod.mk.injEq] at h
      rw [← h.1,List.length_cons,List.length_cons,ownL_len r e2]
    · cases h
theorem kill_set:∀ (ks:List Nat) (o:List Obj) (id:Nat) (ob:Obj),ks.contains id=false→kill (o.set id ob) ks=(kill o ks).set id ob
  | [],_,_,_,_=>rfl
  | k :: r,o,id,ob,h=>by
    simp only [List.contains_cons,Bool.or_eq_false_iff,beq_eq_false_iff_ne] at h
    rw [kill,kill,List.set_comm _ _ h.1,kill_set r _ id ob h.2]
theorem NR_one {q:Nat} {v:AV} {x:Value} (h:NR ρ R w id q v x):x.oneCell'=true:=by
  rcases h with ⟨_,h⟩|⟨_,_,_,_,_,⟨_,_,rfl⟩|⟨_,_,_,_,rfl,_⟩⟩
  · cases h <;> first|rfl|assumption
  · rfl
  · rfl
theorem HR.bare (hh:HR Gl o ρ R w) (hid:o[id]?=some (.nrow s n f none)) (hi:i<n):∃ us,HR Gl (o.set id (.nrow s n f (some (i,us)))) ρ R w∧EX o ρ R w (o.set id (.nrow s n f (some (i,us)))) ρ R w:=by
  rcases hh.obj id _ hid with ⟨h0,_⟩|⟨b,xs,ty,g1,g2,g3,g4,g5,g6⟩
  · omega
  · have hw:WR w w b xs xs ty:=⟨g2,g2,rfl,fun _ _=>rfl,rfl,rfl,rfl,rfl⟩
    refine ⟨List.replicate s .undef,HR.wr hh hw g1 hid ⟨_,_,_,rfl⟩ fun _=>.inr ⟨b,xs,ty,g1,g2,g3,g4,fun j hj _ l hl=>g5 j hj (by simp) l hl,fun i' cs e=>?_⟩,EX.wr hw g1 hid ⟨_,_,_,rfl⟩⟩
    injection e with e
    injection e with e1 e2
    subst e1 e2
    refine ⟨hi,by simp,fun j hj=>?_⟩
    rw [List.getD_eq_getElem?_getD,List.getElem?_replicate,if_pos hj]
    exact .undef
theorem own1_app {x:Obj} {v u:AV} {kk:Option Nat} {p:Prop} (h:own1 o v=some (u,kk,p)):own1 (o ++ [x]) v=some (u,kk,p)∧∀ k,kk=some k→k<o.length:=by
  unfold own1 at h ⊢
  split at h
  · rename_i j z off len
    split at h
    · rename_i s' n' f' e
      have hj:=(List.getElem?_eq_some_iff.1 e).1
      rw [List.getElem?_append_left hj,e]
      refine ⟨h,fun k hk=>?_⟩
      cases hb:(Nat.beq s' z && Nat.beq off 0) with
      | false=>rw [hb] at h; cases h
      | true =>
        rw [hb] at h
        simp only [cond_true,Option.some.injEq,Prod.mk.injEq] at h
        have:=h.2.1
        rw [hk] at this
        injection this with this
        omega
    · cases h
  all_goals first
    | (refine ⟨h,fun k hk=>?_⟩
       simp only [Option.some.injEq,Prod.mk.injEq] at h
       rw [← h.2.1] at hk
       cases hk)
    | cases h
theorem ownL_app {x:Obj}:∀ (r:List AV) {xs:List AV} {ls:List Nat} {p:Prop},ownL o r=some (xs,ls,p)→ownL (o ++ [x]) r=some (xs,ls,p)∧∀ k∈ls,k<o.length
  | [],_,_,_,h=>by
    refine ⟨h,fun k hk=>?_⟩
    simp only [ownL,Option.some.injEq,Prod.mk.injEq] at h
    rw [← h.2.1] at hk
    cases hk
  | v :: r,xs,ls,p,h=>by
    simp only [ownL] at h ⊢
    split at h
    · rename_i e1 e2
      rw [(own1_app e1).1,(ownL_app r e2).1]
      refine ⟨h,?_⟩
      simp only [Option.some.injEq,Prod.mk.injEq] at h
      rw [← h.2.1]
      exact (ownL_app (x:=x) r e2).2
    · rename_i e1 e2
      rw [(own1_app e1).1,(ownL_app r e2).1]
      refine ⟨h,?_⟩
      simp only [Option.some.injEq,Prod.mk.injEq] at h
      rw [← h.2.1]
      intro k hk
      rcases List.mem_cons.1 hk with rfl|hk
      · exact (own1_app (x:=x) e1).2 _ rfl
      · exact (ownL_app (x:=x) r e2).2 k hk
    · cases h
theorem kill_app:∀ (ks:List Nat) (o:List Obj) (x:Obj),(∀ k∈ks,k<o.length)→kill (o ++ [x]) ks=kill o ks ++ [x]
  | [],_,_,_=>rfl
  | k :: r,o,x,h=>by
    rw [kill,kill,List.set_append_left _ _ (h k List.mem_cons_self),kill_app r _ x fun j hj=>by rw [List.length_set]; exact h j (List.mem_cons_of_mem _ hj)]
end
end Go.Proofs.YtgdbhjmpkkbnnaaGreatDoor.Vc
end
section
/- Part I of the engine: operations that make or write memory. -/
namespace Go.Proofs.YtgdbhjmpkkbnnaaGreatDoor.Vc
section
variable {P:Program} {TB:TypeId→TI} {ρ:Ix→Option Nat} {o:List Obj} {R:Nat→Prop} {w:World} {t:Fr} {a:Act} {Gl:List (Nat × Go.Obj)}
def Goes (P:Program) (Gl:List (Nat × Go.Obj)) (ρ:Ix→Option Nat) (o:List Obj) (R:Nat→Prop) (w:World) (a:Act) (op:Op) (K:AV→List Obj→Prop):Prop :=
 ∀ (dst:Option Tmp) (ty:TypeId) (pos:String) (af:Array Edge) (g:Option (Nat × Bool)) (next:Act→World→Prop) (Q:Exit→Act→World→Prop),
  (∀ v y o' ρ' R' w',K v o'→HR Gl o' ρ' R' w'→TR ρ' o' R' w' v y→EX o ρ R w o' ρ' R' w'→next (a.put dst y) w')→Oper.wp P ⟨dst,op,ty,pos,af,g⟩ a w next Q
theorem goes_value {op:Op} {K:AV→List Obj→Prop} {y:Value} {w':World} (hr:∀ (dst:Option Tmp) (ty:TypeId) (pos:String) (af:Array Edge) (g:Option (Nat × Bool)),(execOp a.eval ⟨dst,op,ty,pos,af,g⟩).run P w=.ok (.value y) w')
  {v:AV} {o':List Obj} {ρ':Ix→Option Nat} {R':Nat→Prop} (hK:K v o') (hh:HR Gl o' ρ' R' w') (hv:TR ρ' o' R' w' v y) (hx:EX o ρ R w o' ρ' R' w'):Goes P Gl ρ o R w a op K:=by
 intro dst ty pos af g next Q hn
 unfold Oper.wp
 rw [hr,Oper.upon_value]
 exact hn v y o' ρ' R' w' hK hh hv hx
theorem goes_skip {op:Op} {K:AV→List Obj→Prop} {w':World} (hr:∀ (dst:Option Tmp) (ty:TypeId) (pos:String) (af:Array Edge) (g:Option (Nat × Bool)),(execOp a.eval ⟨dst,op,ty,pos,af,g⟩).run P w=.ok .skip w')
  {o':List Obj} {ρ':Ix→Option Nat} {R':Nat→Prop} (hK:K .undef o') (hh:HR Gl o' ρ' R' w') (hx:EX o ρ R w o' ρ' R' w'):Goes P Gl ρ o R w a op K:=by
 intro dst ty pos af g next Q hn
 unfold Oper.wp
 rw [hr,Oper.upon_skip]
 exact hn .undef Go.undef o' ρ' R' w' hK hh .undef hx
theorem box_new (hh:HR Gl o ρ R w) {cs:List AV} {xs:Array Value} (hc:CR ρ o R w cs xs) (ty:TypeId) {w':World} (hw:w'={ w with heap:=w.heap.push (.cells xs ty) }) :
  ∃ ρ',HR Gl (o ++ [.box cs]) ρ' R w'∧EX o ρ R w (o ++ [.box cs]) ρ' R w'∧TR ρ' (o ++ [.box cs]) R w' (.ptr o.length 0) (.pointer (some ⟨w.heap.size,0,none⟩)):=by
 subst hw
 have hx:=EX.new (w':={ w with heap:=w.heap.push (.cells xs ty) }) hh (.box cs) xs ty rfl rfl rfl rfl
 refine ⟨_,HR.new hh (.box cs) xs ty rfl rfl rfl rfl fun hx=>⟨w.heap.size,xs,ty,ρnew_at,by simp,hc.1,fun j hj=>(hc.2 j hj).go hx hh.ro⟩,hx,.of (by simp [live]) (.ptr ρnew_at)⟩
theorem g_box (_hT:TOk P TB) (hh:HR Gl o ρ R w) (hf:FR ρ o R w t a) {ty:TypeId} {x:Operand} {call} {K:AV→List Obj→Prop} (h:efP TB call (.box ty x) t o K):Goes P Gl ρ o R w a (.box ty x) K:=by
 simp only [efP] at h
 obtain ⟨hb,hK⟩:=of_cond_true h
 simp only [Bool.and_eq_true] at hb
 obtain ⟨ρ',h1,h2,h3⟩:=box_new hh (cells_CR hb.1.2 (hf.evv x)) ty rfl
 exact goes_value (y:=.pointer (some ⟨w.heap.size,0,none⟩)) (fun _ _ _ _ _=>by simp [execOp,Instr.box,newVar,newRow,newObj,Sem.run]) hK h1 h3 h2
theorem g_alloc (hT:TOk P TB) (hh:HR Gl o ρ R w) {ty:TypeId} {call} {K:AV→List Obj→Prop} (h:efP TB call (.alloc ty) t o K):Goes P Gl ρ o R w a (.alloc ty) K:=by
 simp only [efP] at h
 split at h
 ·exact h.elim
 ·rename_i hb
  obtain ⟨i,z,h1,h2,_,h3,h4,_⟩:=hT.info hb
  obtain ⟨ρ',g1,g2,g3⟩:=box_new hh (zero_CR h4) ty rfl
  exact goes_value (y:=.pointer (some ⟨w.heap.size,0,none⟩)) (fun _ _ _ _ _=>by simp [execOp,Instr.alloc,zeroValue,typeInfo,h1,h3,newVar,newRow,newObj,Sem.run]) h g1 g3 g2
theorem scal_one {v:AV} {y:Value} (hs:v.scal=true) (h:VR ρ R w v y):y.oneCell'=true:=by
 cases h with
 |data h=>cases h <;> first|rfl|cases hs|assumption
 |undef=>cases hs
 |agg=>cases hs
 |tup=>cases hs
 |_=>rfl
theorem DR_one {v:AV} {y:Value} (h:DR R w v y):y.oneCell'=true:=by cases h <;> first|rfl|assumption
theorem storeVar_run (hT:TOk P TB) {ty:TypeId} {b off:Nat} {y:Value} {xs:Array Value} {tz:TypeId} (hb:(TB ty).k≠.bad) (hw:w.heap[b]?=some (.cells xs tz (0,0))) (hy:y.cells.size=(TB ty).n) (ho:off+(TB ty).n≤xs.size)
  (h1:∀ v∈y.cells.toList,v.oneCell'=true):(storeVar ty ⟨b,off,none⟩ y).run P w=.ok () (w.setCells b off y.cells.toList):=by
 have hst:=run_storeCells_cells (P:=P) b off y.cells.toList 0 w (fun j hj=>by
  rw [Array.length_toList] at hj
  rw [Nat.add_zero,cell_block hw (by omega)]; rfl) (fun j hj=>by simp [World.frozen?,hw]) h1
 simp only [Nat.add_zero] at hst
 simp [storeVar,sizeOf_run hT hb,hy,hst]
theorem good_nb {ti:TI} (h:ti.good=true):ti.k≠.bad:=fun e=>by simp [TI.good,e] at h
theorem storeAt_run (hT:TOk P TB) {ty:TypeId} {b off:Nat} {y:Value} {xs:Array Value} {tz:TypeId} (hb:(TB ty).k≠.bad) (hw:w.heap[b]?=some (.cells xs tz (0,0))) (hy:y.cells.size=(TB ty).n) (ho:off+(TB ty).n≤xs.size)
  (h1:∀ v∈y.cells.toList,v.oneCell'=true):(Instr.storeAt ty (.pointer (some ⟨b,off,none⟩)) y).run P w=.ok () (w.setCells b off y.cells.toList):=by
 simp [Instr.storeAt,Instr.sureAddr,storeVar_run hT hb hw hy ho h1]
theorem toList_getD (xs:Array Value) (j:Nat):xs.toList.getD j Go.undef=xs.getD j Go.undef:=by
 rw [Array.getD_eq_getD_getElem?,List.getD_eq_getElem?_getD,Array.getElem?_toList]
theorem mem_getD {xs:Array Value} {v:Value} (h:v∈xs.toList):∃ j,j<xs.size∧v=xs.getD j Go.undef:=by
 obtain ⟨j,hj,e⟩:=List.getElem_of_mem h
 refine ⟨j,by simpa using hj,?_⟩
 rw [← toList_getD,List.getD_eq_getElem?_getD,List.getElem?_eq_getElem hj,← e]
 rfl
theorem g_store (hT:TOk P TB) (hh:HR Gl o ρ R w) (hf:FR ρ o R w t a) {ty:TypeId} {x z:Operand} {call} {K:AV→List Obj→Prop} (h:efP TB call (.store ty x z) t o K):Goes P Gl ρ o R w a (.store ty x z) K:=by
 simp only [efP] at h
 split at h
 ·rename_i id off e
  split at h
  ·rename_i cs eo
   obtain ⟨hb,hK⟩:=of_cond_true h
   simp only [Bool.and_eq_true] at hb
   obtain ⟨⟨⟨⟨q1,q2⟩,q3⟩,q4⟩,q5⟩:=hb
   have q1:=Nat.eq_of_beq_eq_true q1
   have q2:=Nat.le_of_ble_eq_true q2
   obtain ⟨b,e1,e2⟩:=(hf.at e).ptr eo
   obtain ⟨b',xs,tz,r1,r2,r3,r4⟩:=hh.obj id _ eo
   rw [e2] at r1
   injection r1 with r1
   subst r1
   have hc:=cells_CR q3 (hf.evv z)
   have hlen:(a.eval z).cells.toList.length=(TB ty).n:=by rw [Array.length_toList,hc.1,q1]
   obtain ⟨ys,s1,s2,s3,s4,s5,s6,s7,s8⟩:=setCells_facts (a.eval z).cells.toList off r2 (by rw [hlen]; omega)
   have hw:WR w (w.setCells b off (a.eval z).cells.toList) b xs ys tz:=⟨r2,s1,s2,s4,s5,s6,s7,s8⟩
   have hk:∃ ds,Obj.box cs=.box ds:=⟨_,rfl⟩
   have hob:EX o ρ R w (o.set id (.box (setCells cs off (ev t z).cells))) ρ R (w.setCells b off (a.eval z).cells.toList)→OB ρ (o.set id (.box (setCells cs off (ev t z).cells))) R (w.setCells b off (a.eval z).cells.toList) id (.box (setCells cs off (ev t z).cells)):=by
    intro hx
    refine ⟨b,ys,tz,e2,s1,by rw [s2,setCells_length]; exact r3,fun j hj=>?_⟩
    rw [setCells_length] at hj
    rw [setCells_getD _ _ _ _ (by omega),s3 j,hlen]
    by_cases g:off≤j∧j<off+(TB ty).n
    ·rw [if_pos (by omega),if_pos g,toList_getD]
     exact (hc.2 (j-off) (by omega)).go hx hh.ro
    ·rw [if_neg (by omega),if_neg g]
     exact (r4 j hj).go hx hh.ro
   have hrun:=storeAt_run (P:=P) hT (ty:=ty) (b:=b) (off:=off) (y:=a.eval z) (good_nb q5) r2 (by rw [hc.1,q1]) (by omega) (fun v hv=>by
    obtain ⟨j,hj,rfl⟩:=mem_getD hv
    have hj':j<(ev t z).cells.length:=by rw [← hc.1]; exact hj
    exact scal_one (List.all_eq_true.1 q4 _ (getD_mem hj')) ((hc.2 j hj').vr (cells_live (cellOk_live q3) _ (getD_mem hj'))))
   exact goes_skip (fun _ _ _ _ _=>by simp [execOp,e1,hrun]) hK (HR.wr hh hw e2 eo hk hob) (EX.wr hw e2 eo hk)
  ·exact h.elim
 ·rename_i id sz i off e
  split at h
  ·rename_i s n f eo
   split at h
   ·rename_i cs ks p ek
    obtain ⟨⟨hi,hp⟩,h⟩:=h
    obtain ⟨hb,hK⟩:=of_cond_true h
    simp only [Bool.and_eq_true,Bool.not_eq_true'] at hb
    obtain ⟨⟨⟨⟨⟨q1,q2⟩,q3⟩,q4⟩,q6⟩,q5⟩:=hb
    have q2:=Nat.eq_of_beq_eq_true q2
    have q3:=Nat.le_of_ble_eq_true q3
    obtain ⟨b,e1,e2⟩:=(hf.at e).eptr eo q1
    have q1:=Nat.eq_of_beq_eq_true q1
    subst q1
    rcases hh.obj id _ eo with ⟨h0,_⟩|⟨b',xs,tz,r1,r2,r3,r4,r5⟩
    ·omega
    ·rw [e2] at r1
     injection r1 with r1
     subst r1
     have hc:=cells_CR q4 (hf.evv z)
     obtain ⟨ρ',R',h1,h2,h3⟩:=kill_HR ks hh
     have eo':(kill o ks)[id]?=some (.row s n f):=by rw [kill_other ks o id q6]; exact eo
     have hid:id<o.length:=(List.getElem?_eq_some_iff.1 eo).1
     have e2':ρ' id=some b:=by
      have:=h2.keep id hid
      rw [eo'] at this
      exact this.2.trans e2
     obtain ⟨d1,d2⟩:=frzL_DR hh h2.rmono ek hp hc.2 h3
     have hlen:(a.eval z).cells.toList.length=(TB ty).n:=by rw [Array.length_toList,hc.1,← d1,q2]
     have hin:(i+1)*s≤n*s:=Nat.mul_le_mul_right _ hi
     rw [Nat.add_mul,Nat.one_mul] at hin
     obtain ⟨ys,s1,s2,s3,s4,s5,s6,s7,s8⟩:=setCells_facts (a.eval z).cells.toList (i*s+off) r2 (by rw [hlen]; omega)
     have hw:WR w (w.setCells b (i*s+off) (a.eval z).cells.toList) b xs ys tz:=⟨r2,s1,s2,s4,s5,s6,s7,s8⟩
     have hk:∃ m g,Obj.row s n f=.row s m g:=⟨_,_,rfl⟩
     have hfi:(f i).length=s:=r4 i hi
     have hob:EX (kill o ks) ρ' R' w ((kill o ks).set id (.row s n (setF f i (setCells (f i) off cs)))) ρ' R' (w.setCells b (i*s+off) (a.eval z).cells.toList) →
       OB ρ' ((kill o ks).set id (.row s n (setF f i (setCells (f i) off cs)))) R' (w.setCells b (i*s+off) (a.eval z).cells.toList) id (.row s n (setF f i (setCells (f i) off cs))):=by
      intro hx
      have hne:∀ c,R' c→(w.setCells b (i*s+off) (a.eval z).cells.toList).heap[c]?=w.heap[c]?:=fun c hc'=>s4 c fun e=>(h1.ro c hc').2 id (by rw [e]; exact e2')
      refine .inr ⟨b,ys,tz,e2',s1,by rw [s2]; exact r3,fun j hj=>?_,fun j hj l hl=>?_⟩
      ·unfold setF
       cases hji:Nat.beq j i with
       |true=>simp only [cond_true,setCells_length]; exact hfi
       |false=>simp only [cond_false]; exact r4 j hj
      ·rw [s3,hlen]
       unfold setF
       cases hji:Nat.beq j i with
       |true =>
        have hji:=Nat.eq_of_beq_eq_true hji
        subst hji
        simp only [cond_true]
        rw [setCells_getD _ _ _ _ (by rw [d1,← hc.1,← Array.length_toList,hlen]; omega)]
        have hdl:cs.length=(TB ty).n:=q2
        rw [hdl]
        by_cases g:off≤l∧l<off+(TB ty).n
        ·rw [if_pos g,if_pos (by omega),toList_getD,show j*s+l-(j*s+off)=l-off by omega]
         exact (d2 (l-off) (by omega)).go (fun _ h=>h) hne
        ·rw [if_neg g,if_neg (by omega)]
         exact (r5 j hj l hl).go h2.rmono (fun c hc'=>hne c (h2.rmono c hc'))
       |false =>
        simp only [cond_false]
        have hji':j≠i:=fun e=>by subst e; rw [Nat.beq_refl] at hji; cases hji
        rw [if_neg (by
         intro hg
         rcases Nat.lt_or_ge j i with hlt|hge
         ·have:(j+1)*s≤i*s:=Nat.mul_le_mul_right _ hlt
          rw [Nat.add_mul,Nat.one_mul] at this
          omega
         ·have:(i+1)*s≤j*s:=Nat.mul_le_mul_right _ (by omega)
          rw [Nat.add_mul,Nat.one_mul] at this
          omega)]
        exact (r5 j hj l hl).go h2.rmono (fun c hc'=>hne c (h2.rmono c hc'))
     have hrun:=storeAt_run (P:=P) hT (ty:=ty) (b:=b) (off:=i*s+off) (y:=a.eval z) (good_nb q5) r2 (by rw [← Array.length_toList,hlen]) (by omega) (fun v hv=>by
      obtain ⟨j,hj,rfl⟩:=mem_getD hv
      exact DR_one (d2 j (by rw [← hc.1]; exact hj)))
     exact goes_skip (fun _ _ _ _ _=>by simp [execOp,e1,hrun]) hK (HR.wr h1 hw e2' eo' hk hob) (h2.trans (EX.wr hw e2' eo' hk))
   ·exact h.elim
  ·rename_i s n f eo
   split at h
   ·rename_i cs ks p ek
    obtain ⟨⟨hi,hp⟩,h⟩:=h
    obtain ⟨hb,hK⟩:=of_cond_true h
    simp only [Bool.and_eq_true,Bool.not_eq_true'] at hb
    obtain ⟨⟨⟨⟨⟨⟨q1,q2⟩,q3⟩,q4⟩,q6⟩,q7⟩,q5⟩:=hb
    have q2:=Nat.eq_of_beq_eq_true q2
    have q3:=Nat.le_of_ble_eq_true q3
    obtain ⟨b,e1,e2⟩:=(hf.at e).eptrL (live_neptr eo q1)
    have q1:=Nat.eq_of_beq_eq_true q1
    subst q1
    rcases hh.obj id _ eo with ⟨h0,_⟩|⟨b',xs,tz,r1,r2,r3,r4,r5,_⟩
    ·omega
    ·rw [e2] at r1
     injection r1 with r1
     subst r1
     have hc:=cells_CR q4 (hf.evv z)
     obtain ⟨us,hA,xA⟩:=hh.bare eo hi
     have hid:id<o.length:=(List.getElem?_eq_some_iff.1 eo).1
     have hlc:cs.length=(ev t z).cells.length:=ownL_len _ ek
     obtain ⟨ρ',hB,xB,oB,pB,d1,d2⟩:=absorb (id:=id) (s:=s) (n:=n) (i:=i) (f:=f) (us:=us) (ev t z).cells (q0:=i*s+off) hA (by rw [List.getElem?_set_self hid]) (ownL_setN eo _ ek) hp q7 (by omega) (by rw [← hlc,q2]; omega) fun j hj=>(hc.2 j hj).go xA hh.ro
     have e2':ρ' id=some b:=(pB (id:Ix) rfl fun _ _ h=>by cases h).trans e2
     have hlen:(a.eval z).cells.toList.length=(TB ty).n:=by rw [Array.length_toList,hc.1,← hlc,q2]
     have hin:(i+1)*s≤n*s:=Nat.mul_le_mul_right _ hi
     rw [Nat.add_mul,Nat.one_mul] at hin
     obtain ⟨ys,s1,s2,s3,s4,s5,s6,s7,s8⟩:=setCells_facts (a.eval z).cells.toList (i*s+off) r2 (by rw [hlen]; omega)
     have hw:WR w (w.setCells b (i*s+off) (a.eval z).cells.toList) b xs ys tz:=⟨r2,s1,s2,s4,s5,s6,s7,s8⟩
     have hfi:(f i).length=s:=r4 i hi
     have hne:∀ c,R c→(w.setCells b (i*s+off) (a.eval z).cells.toList).heap[c]?=w.heap[c]?:=fun c hc'=>s4 c fun e=>(hB.ro c hc').2 id (by rw [e]; exact e2')
     have hni:∀ q c,ρ' (.inn id q)=some c→(w.setCells b (i*s+off) (a.eval z).cells.toList).heap[c]?=w.heap[c]?:=fun q c hc'=>s4 c fun e=>by
      have:=hB.inj _ _ b e2' (e ▸ hc')
      cases this
     have hob:OB ρ' ((kill (o.set id (.nrow s n f (some (i,us)))) ks).set id (.nrow s n (setF f i (setCells (f i) off cs)) none)) R (w.setCells b (i*s+off) (a.eval z).cells.toList) id (.nrow s n (setF f i (setCells (f i) off cs)) none):=by
      rcases hB.obj id _ oB with ⟨_,h0,_⟩|⟨b2,xs2,tz2,p1,p2,p3,p4,p5,_⟩
      ·cases h0
      rw [e2'] at p1
      injection p1 with p1
      subst p1
      rw [r2] at p2
      injection p2 with p2
      injection p2 with p2 _ _
      subst p2
      refine .inr ⟨b,ys,tz,e2',s1,by rw [s2]; exact r3,fun j hj=>?_,fun j hj _ l hl=>?_,fun _ _ h=>by cases h⟩
      ·unfold setF
       cases hji:Nat.beq j i with
       |true=>simp only [cond_true,setCells_length]; exact hfi
       |false=>simp only [cond_false]; exact r4 j hj
      ·rw [s3,hlen]
       unfold setF
       cases hji:Nat.beq j i with
       |true =>
        have hji:=Nat.eq_of_beq_eq_true hji
        subst hji
        simp only [cond_true]
        rw [setCells_getD _ _ _ _ (by rw [q2]; omega),q2]
        by_cases g:off≤l∧l<off+(TB ty).n
        ·rw [if_pos g,if_pos (by omega),toList_getD,show j*s+l-(j*s+off)=l-off by omega]
         have:=d2 (l-off) (by omega)
         rw [show j*s+off+(l-off)=j*s+l by omega] at this
         exact this.go (fun _ h=>h) hne rfl (hni _)
        ·rw [if_neg g,if_neg (by omega)]
         have hρ:ρ' (.inn id (j*s+l))=ρ (.inn id (j*s+l)):=pB (.inn id (j*s+l)) rfl fun j' hj' e=>by
          injection e with _ e
          rw [← hlc,q2] at hj'
          omega
         exact ((r5 j hj (by simp) l hl).mv (fun _ h=>h) hρ).go (fun _ h=>h) hne rfl (hni _)
       |false =>
        simp only [cond_false]
        have hji':j≠i:=fun e=>by subst e; rw [Nat.beq_refl] at hji; cases hji
        rw [if_neg (by
         intro hg
         exact cell_ne hji' hl (show i*s≤j*s+l by omega) (by omega) rfl)]
        exact (p5 j hj (fun e=>hji' (by simp at e; exact e.symm)) l hl).go (fun _ h=>h) hne rfl (hni _)
     have hrun:=storeAt_run (P:=P) hT (ty:=ty) (b:=b) (off:=i*s+off) (y:=a.eval z) (good_nb q5) r2 (by rw [← Array.length_toList,hlen]) (by omega) (fun v hv=>by
      obtain ⟨j,hj,rfl⟩:=mem_getD hv
      exact NR_one (d2 j (by rw [← hc.1]; exact hj)))
     have hset:(kill (o.set id (.nrow s n f (some (i,us)))) ks).set id (.nrow s n (setF f i (setCells (f i) off cs)) none)=(kill o ks).set id (.nrow s n (setF f i (setCells (f i) off cs)) none):=by
      rw [kill_set _ _ _ _ q6,List.set_set]
     have k1:=HR.wr hB (ob':=.nrow s n (setF f i (setCells (f i) off cs)) none) hw e2' oB ⟨_,_,_,rfl⟩ fun _=>hob
     have k2:=(xA.trans xB).trans (EX.wr (R:=R) (ob':=.nrow s n (setF f i (setCells (f i) off cs)) none) hw e2' oB ⟨_,_,_,rfl⟩)
     rw [hset] at k1 k2
     exact goes_skip (fun _ _ _ _ _=>by simp [execOp,e1,hrun]) hK k1 k2
   ·exact h.elim
  ·exact h.elim
 ·exact h.elim
theorem fill_elems (hh:HR Gl o ρ R w) (hf:FR ρ o R w t a) {n:Nat} {z0:List AV} {R':Nat→Prop} (hR:∀ b,R b→R' b):∀ (ps:List (Nat × Operand)) (j:Nat) {es:List (List AV)} {ks:List Nat} {p:Prop} (xs:Array Value),
  elemsOf o n t ps j=some (es,ks,p)→p→(∀ k∈ks,∀ b,ρ (k:Nat)=some b→R' b)→(j+ps.length)*n≤xs.size →
  es.length=ps.length∧∃ ys,Instr.fill (fun i=>some (i*n,n)) xs (ps.map fun p=>(p.1,a.eval p.2))=some ys∧ys.size=xs.size∧(∀ k,k<j*n→ys.getD k Go.undef=xs.getD k Go.undef) ∧
   ∀ i,i<es.length→(es.getD i z0).length=n∧∀ l,l<n→DR R' w ((es.getD i z0).getD l .undef) (ys.getD ((j+i)*n+l) Go.undef)
 |[],j,es,ks,p,xs,h,_,_,_=>by
  simp only [elemsOf,Option.some.injEq,Prod.mk.injEq] at h
  obtain ⟨rfl,rfl,rfl⟩:=h
  exact ⟨rfl,xs,rfl,rfl,fun _ _=>rfl,fun i hi=>by simp at hi⟩
 |(i,x) :: r,j,es,ks,p,xs,h,hp,hk,hs=>by
  simp only [elemsOf] at h
  cases hb:(Nat.beq i j && Nat.beq (ev t x).cells.length n && cellOk o (ev t x)) with
  |false=>rw [hb] at h; cases h
  |true =>
   rw [hb] at h
   simp only [cond_true] at h
   simp only [Bool.and_eq_true] at hb
   obtain ⟨⟨b1,b2⟩,b3⟩:=hb
   have b1:=Nat.eq_of_beq_eq_true b1
   have b2:=Nat.eq_of_beq_eq_true b2
   subst b1
   split at h
   ·rename_i cs ks1 p1 es1 ls q e1 e2
    simp only [Option.some.injEq,Prod.mk.injEq] at h
    obtain ⟨rfl,rfl,rfl⟩:=h
    simp only [List.length_cons] at hs
    have hc:=cells_CR b3 (hf.evv x)
    obtain ⟨d1,d2⟩:=frzL_DR hh hR e1 hp.1 hc.2 fun k hk'=>hk k (List.mem_append_left _ hk')
    have hsz:(i+(r.length+1))*n=(i+1+r.length)*n:=by congr 1; omega
    obtain ⟨f1,f2⟩:=fold_set (a.eval x).cells.toList 0 xs (i*n)
    have hy:(a.eval x).cells.toList.length=n:=by rw [Array.length_toList,hc.1,b2]
    have hin:(i+1)*n≤xs.size:=Nat.le_trans (Nat.mul_le_mul_right _ (by omega)) hs
    rw [Nat.add_mul,Nat.one_mul] at hin
    obtain ⟨g1,ys,g2,g3,g4,g5⟩:=fill_elems hh hf hR r (i+1) (((a.eval x).cells.toList.zipIdx).foldl (fun cs (p:Value × Nat)=>cs.setIfInBounds (i*n+p.2) p.1) xs) e2 hp.2 (fun k hk'=>hk k (List.mem_append_right _ hk')) (by rw [f1,← hsz]; exact hs)
    refine ⟨by simp [g1],ys,?_,g3.trans f1,fun k hk'=>?_,fun m hm=>?_⟩
    ·simp only [List.map_cons,Instr.fill]
     have hy':(a.eval x).cells.size=n:=by rw [hc.1,b2]
     rw [if_neg (by rw [Bool.or_eq_true,decide_eq_true_eq,decide_eq_true_eq]; omega)]
     rw [← Array.foldl_toList,Array.toList_zipIdx]
     exact g2
    ·rw [g4 k (by rw [Nat.add_mul]; omega),f2 k (by rw [hy]; omega),if_neg (by omega)]
    ·cases m with
     |zero =>
      simp only [List.getD_cons_zero,Nat.add_zero]
      refine ⟨by rw [d1,b2],fun l hl=>?_⟩
      rw [g4 _ (by rw [Nat.add_mul]; omega),f2 _ (by rw [hy]; omega),hy,if_pos (by omega),toList_getD,show i*n+l-(i*n+0)=l by omega]
      exact d2 l (by omega)
     |succ m =>
      have:=g5 m (by simpa using hm)
      simp only [List.getD_cons_succ]
      rw [show i+(m+1)=i+1+m by omega]
      exact this
   ·cases h
theorem chW_or {n:Nat} {ps:Array (Nat × Operand)} {A:Prop} {B:List AV→List Nat→Prop→Prop} (h:chW o n t ps A B) :
  A∨∃ x cs ks p,ps.toList=[(0,x)]∧ownL o (ev t x).cells=some (cs,ks,p)∧cs.length=n∧ownN ks=true∧B cs ks p:=by
 unfold chW at h
 split at h
 ·rename_i x e
  split at h
  ·rename_i cs k ks p ek
   cases hb:(Nat.beq cs.length n && ownN (k :: ks)) with
   |false=>rw [hb] at h; exact .inl h
   |true =>
    rw [hb] at h
    cases h with
    |l h=>exact .inl h
    |r h =>
     rw [Bool.and_eq_true] at hb
     exact .inr ⟨x,cs,_,p,e,ek,Nat.eq_of_beq_eq_true hb.1,hb.2,h⟩
  ·exact .inl h
 ·exact .inl h
theorem fill_one {n:Nat} {y:Value} (xs:Array Value) (hy:y.cells.size=n) (hs:n≤xs.size):∃ ys,Instr.fill (fun i=>some (i*n,n)) xs [(0,y)]=some ys∧ys.size=xs.size∧∀ l,l<n→ys.getD l Go.undef=y.cells.getD l Go.undef:=by
 obtain ⟨f1,f2⟩:=fold_set y.cells.toList 0 xs (0*n)
 have hl:y.cells.toList.length=n:=by rw [Array.length_toList,hy]
 refine ⟨((y.cells.toList.zipIdx).foldl (fun cs (p:Value × Nat)=>cs.setIfInBounds (0*n+p.2) p.1) xs),?_,f1,fun l hl'=>?_⟩
 ·simp only [Instr.fill]
  rw [if_neg (by rw [Bool.or_eq_true,decide_eq_true_eq,decide_eq_true_eq]; omega)]
  rw [← Array.foldl_toList,Array.toList_zipIdx]
 ·rw [f2 l (by omega),if_pos (by omega),toList_getD,show l-(0*n+0)=l by omega]
theorem g_buildSlice (hT:TOk P TB) (hh:HR Gl o ρ R w) (hf:FR ρ o R w t a) {ty:TypeId} {len:Nat} {ps:Array (Nat × Operand)} {call} {K:AV→List Obj→Prop} (h:efP TB call (.buildSlice ty len ps) t o K):Goes P Gl ρ o R w a (.buildSlice ty len ps) K:=by
 simp only [efP] at h
 split at h
 ·rename_i e he
  obtain ⟨hu,hb⟩:=hT.slice he
  obtain ⟨ie,ze,i1,i2,_,i3,i4,_⟩:=hT.info hb
  have hsz:=sizeOf_run hT hb w
  cases h0:Nat.beq len 0 with
  |true =>
   rw [h0] at h
   simp only [cond_true] at h
   obtain ⟨hp,hK⟩:=of_cond_true h
   have h0:=Nat.eq_of_beq_eq_true h0
   subst h0
   have hp:ps=#[]:=by simpa using hp
   subst hp
   refine goes_value (y:=.slice (some ⟨w.heap.size,0,none⟩) 0 0) (w':={ w with heap:=w.heap.push (.cells #[] e) }) (fun _ _ _ _ _=>?_) hK (hh.grows ?_) (.dat (.nils _)) (EX.grows ?_)
   ·simp [execOp,Instr.buildSlice,run_underlying hu,hsz,Instr.fill,newRow,newObj,Sem.run]
    rw [show (Array.map (fun _=>default) (Array.range 0):Array Value)=#[] from Array.eq_empty_of_size_eq_zero (by simp)]
   all_goals exact ⟨by simp,fun b hb=>by rw [Array.getElem?_push_lt (by omega),Array.getElem?_eq_getElem hb],rfl,rfl,rfl⟩
  |false =>
   rw [h0] at h
   simp only [cond_false] at h
   obtain ⟨hq,h⟩:=of_cond_true h
   simp only [Bool.and_eq_true] at hq
   have q1:=Nat.eq_of_beq_eq_true hq.1.1
   have q2:=Nat.le_of_ble_eq_true hq.1.2
   have q3:=Nat.le_of_ble_eq_true hq.2
   split at h
   ·rename_i es ks p ek
    rcases chW_or h with ⟨⟨hp⟩,hK⟩|h
    rotate_left
    ·obtain ⟨x,cs,ks',p',hps,eo,hcl,hkn,⟨hp⟩,hK⟩:=h
     rw [hps] at ek
     simp only [elemsOf] at ek
     cases hcb:(Nat.beq 0 0 && Nat.beq (ev t x).cells.length (TB e).n && cellOk o (ev t x)) with
     |false=>rw [hcb] at ek; cases ek
     |true =>
      simp only [Bool.and_eq_true] at hcb
      obtain ⟨⟨_,hcn⟩,hok⟩:=hcb
      have hcn:=Nat.eq_of_beq_eq_true hcn
      have hc:=cells_CR hok (hf.evv x)
      have hl1:len=1:=by rw [← q1,← Array.length_toList,hps]; rfl
      subst hl1
      have hy:(a.eval x).cells.size=(TB e).n:=hc.1.trans hcn
      obtain ⟨ys,y1,y2,y3⟩:=fill_one ((Array.range (1*(TB e).n)).map (ze.cells[· % ze.cells.size]!)) hy (by simp)
      have hys:ys.size=1*(TB e).n:=by rw [y2]; simp
      have hrun:∀ (dst:Option Tmp) (tz:TypeId) (pos:String) (af:Array Edge) (g:Option (Nat × Bool)),(execOp a.eval ⟨dst,.buildSlice ty 1 ps,tz,pos,af,g⟩).run P w=.ok (.value (.slice (some ⟨w.heap.size,0,none⟩) 1 1)) { w with heap:=w.heap.push (.cells ys e) }:=by
       intro dst tz pos af g
       have h24:¬ 1*(TB e).n > 2 ^ 24:=by omega
       have hn0:¬ 1*(TB e).n=0:=by omega
       have y1':Instr.fill (fun i=>some (i*(TB e).n,(TB e).n)) ((Array.range (1*(TB e).n)).map fun x=>ze.cells[x % ze.cells.size]!) (List.map (fun x=>(x.1,a.eval x.2)) ps.toList)=some ys:=by rw [hps]; exact y1
       rw [Nat.one_mul] at y1'
       simp only [execOp,Instr.buildSlice,Sem.run_bind,run_underlying hu,Result.andThen_ok,hsz,if_neg h24,if_neg hn0,Sem.run_pure,zeroValue,typeInfo,run_program,i1,i3]
       simp [y1',newRow,newObj,Sem.run]
      generalize hw1:({ w with heap:=w.heap.push (.cells ys e) }:World)=w1 at hrun
      have hheap:w1.heap=w.heap.push (.cells ys e (0,0)):=by rw [← hw1]
      have hos:w1.os=w.os:=by rw [← hw1]
      have htp:w1.tape=w.tape:=by rw [← hw1]
      have hou:w1.output=w.output:=by rw [← hw1]
      have hnew:w1.heap[w.heap.size]?=some (.cells ys e (0,0)):=by rw [hheap]; simp
      have hx1:=EX.new hh (.nrow (TB e).n 1 (fun _=>cs) (some (0,List.replicate (TB e).n .undef))) ys e hheap hos htp hou
      have hA:=HR.new hh (.nrow (TB e).n 1 (fun _=>cs) (some (0,List.replicate (TB e).n .undef))) ys e hheap hos htp hou fun _=>.inr ⟨w.heap.size,ys,e,ρnew_at,hnew,by rw [hys]; exact Nat.le_refl _,fun _ _=>hcl,fun i hi hne=>(hne (by
       obtain rfl:i=0:=by omega
       rfl)).elim,fun i' cs' eq=>by
       injection eq with eq
       injection eq with e1 e2
       subst e1 e2
       refine ⟨by omega,by simp,fun j hj=>?_⟩
       rw [List.getD_eq_getElem?_getD,List.getElem?_replicate,if_pos hj]
       exact .undef⟩
      obtain ⟨ka,kb⟩:=ownL_app (x:=.nrow (TB e).n 1 (fun _=>cs) (some (0,List.replicate (TB e).n .undef))) _ eo
      have hget:∀ (l:List Obj) (ob:Obj),l.length=o.length→(l ++ [ob])[o.length]?=some ob:=fun l ob hl=>by rw [← hl,List.getElem?_append_right (Nat.le_refl _)]; simp
      obtain ⟨ρ',hB,xB,oB,pB,d1,d2⟩:=absorb (id:=o.length) (s:=(TB e).n) (n:=1) (i:=0) (f:=fun _=>cs) (us:=List.replicate (TB e).n .undef) (ev t x).cells (q0:=0) (g:=fun j=>(a.eval x).cells.getD j Go.undef) hA (hget _ _ rfl) ka hp hkn (by omega) (by omega) fun j hj=>(hc.2 j hj).go hx1 hh.ro
      have hbk:ρ' o.length=some w.heap.size:=(pB (o.length:Ix) rfl fun _ _ h=>by cases h).trans ρnew_at
      have hw:WR w1 w1 w.heap.size ys ys e:=⟨hnew,hnew,rfl,fun _ _=>rfl,rfl,rfl,rfl,rfl⟩
      have k1:=HR.wr hB (ob':=.nrow (TB e).n 1 (fun _=>cs) none) hw hbk oB ⟨_,_,_,rfl⟩ fun _=>.inr ⟨w.heap.size,ys,e,hbk,hnew,by rw [hys]; exact Nat.le_refl _,fun _ _=>hcl,fun i hi _ j hj=>by
       have hi0:i=0:=by omega
       subst hi0
       rw [show 0*(TB e).n+j=j by omega,y3 j hj]
       have:=d2 j (by omega)
       rwa [show 0+j=j by omega] at this,fun _ _ h=>by cases h⟩
      have k2:=(hx1.trans xB).trans (EX.wr (R:=R) (ob':=.nrow (TB e).n 1 (fun _=>cs) none) hw hbk oB ⟨_,_,_,rfl⟩)
      have hset:(kill (o ++ [.nrow (TB e).n 1 (fun _=>cs) (some (0,List.replicate (TB e).n .undef))]) ks').set o.length (.nrow (TB e).n 1 (fun _=>cs) none)=kill o ks' ++ [.nrow (TB e).n 1 (fun _=>cs) none]:=by
       rw [kill_app _ _ _ kb,List.set_append_right _ _ (by rw [kill_length]; exact Nat.le_refl _),kill_length]
       simp
      rw [hset] at k1 k2
      refine goes_value hrun hK k1 (.of ?_ ?_) k2
      ·exact live_nrow (hget _ _ (kill_length _ _)) (Nat.beq_refl _)
      ·have:=VR.row (R:=R) (id:=o.length) (sz:=(TB e).n) (off:=0) (len:=1) (cap:=1) hbk hnew (Nat.le_refl _) (by rw [hys,Nat.zero_add]; exact Nat.le_refl _) (by omega)
       rwa [Nat.zero_mul] at this
    obtain ⟨ρ',R',h1,h2,h3⟩:=kill_HR ks hh
    have hlen:ps.toList.length=len:=by rw [Array.length_toList,q1]
    have hpos:0<len:=Nat.pos_of_ne_zero fun e=>by rw [e] at h0; cases h0
    obtain ⟨g1,ys,g2,g3,g4,g5⟩:=fill_elems hh hf h2.rmono ps.toList 0 ((Array.range (len*(TB e).n)).map (ze.cells[· % ze.cells.size]!)) ek hp h3 (by simp [hlen])
    have hys:ys.size=len*(TB e).n:=by rw [g3]; simp
    have hrun:∀ (dst:Option Tmp) (tz:TypeId) (pos:String) (af:Array Edge) (g:Option (Nat × Bool)),(execOp a.eval ⟨dst,.buildSlice ty len ps,tz,pos,af,g⟩).run P w=.ok (.value (.slice (some ⟨w.heap.size,0,none⟩) len len)) { w with heap:=w.heap.push (.cells ys e) }:=by
     intro dst tz pos af g
     have h24:¬ len*(TB e).n > 2 ^ 24:=by omega
     have hn0:¬ len*(TB e).n=0:=by
      have:1*1≤len*(TB e).n:=Nat.mul_le_mul hpos q3
      omega
     have g2':Instr.fill (fun i=>some (i*(TB e).n,(TB e).n)) ((Array.range (len*(TB e).n)).map fun x=>ze.cells[x % ze.cells.size]!) (List.map (fun x=>(x.1,a.eval x.2)) ps.toList)=some ys:=g2
     simp only [execOp,Instr.buildSlice,Sem.run_bind,run_underlying hu,Result.andThen_ok,hsz,if_neg h24,if_neg hn0,Sem.run_pure,zeroValue,typeInfo,run_program,i1,i3]
     simp [g2',newRow,newObj,Sem.run]
    have hob:EX (kill o ks) ρ' R' w (kill o ks ++ [.row (TB e).n len fun i=>es.getD i (TB e).z]) (ρnew ρ' (kill o ks).length w.heap.size) R' { w with heap:=w.heap.push (.cells ys e) } →
      OB (ρnew ρ' (kill o ks).length w.heap.size) (kill o ks ++ [.row (TB e).n len fun i=>es.getD i (TB e).z]) R' { w with heap:=w.heap.push (.cells ys e) } (kill o ks).length (.row (TB e).n len fun i=>es.getD i (TB e).z):=by
     intro hx
     have hne:∀ c,R' c→({ w with heap:=w.heap.push (.cells ys e) }:World).heap[c]?=w.heap[c]?:=fun c hc=>hx.same c (h1.ro c hc).1 (h1.ro c hc).2
     refine .inr ⟨w.heap.size,ys,e,ρnew_at,by simp,by omega,fun m hm=>(g5 m (by omega)).1,fun m hm l hl=>?_⟩
     have:=(g5 m (by omega)).2 l hl
     rw [Nat.zero_add] at this
     exact this.go (fun _ h=>h) hne
    have hlk:=kill_length ks o
    refine goes_value hrun hK (HR.new h1 _ ys e rfl rfl rfl rfl hob) (.of ?_ ?_) (h2.trans (EX.new h1 _ ys e rfl rfl rfl rfl))
    ·simp [live,← hlk]
    ·have:=VR.row (ρ:=ρnew ρ' (kill o ks).length w.heap.size) (R:=R') (w:={ w with heap:=w.heap.push (.cells ys e) }) (id:=(kill o ks).length) (sz:=(TB e).n) (off:=0) (len:=len) (b:=w.heap.size) (cs:=ys) (ty:=e) (cap:=len) ρnew_at (by simp) (Nat.le_refl _) (by rw [hys,Nat.zero_add]; exact Nat.le_refl _) (by have:=Nat.le_trans (Nat.le_mul_of_pos_right len q3) q2; omega)
     rw [Nat.zero_mul,show AV.row (kill o ks).length (TB e).n 0 len=AV.row o.length (TB e).n 0 len by rw [hlk]] at this
     exact this
   ·exact h.elim
 ·exact h.elim
theorem g_makeSlice (hT:TOk P TB) (hh:HR Gl o ρ R w) (hf:FR ρ o R w t a) {ty:TypeId} {x y:Operand} {call} {K:AV→List Obj→Prop} (h:efP TB call (.makeSlice ty x y) t o K):Goes P Gl ρ o R w a (.makeSlice ty x y) K:=by
 simp only [efP] at h
 split at h
 ·rename_i e n m he e1 e2
  obtain ⟨⟨rfl,h0,h63,hby⟩,hK⟩:=h
  obtain ⟨hu,hb⟩:=hT.slice he
  obtain ⟨ie,ze,i1,i2,i5,i3,i4,_⟩:=hT.info hb
  obtain ⟨z1,z2⟩:=zOk_CR (R:=R) (w:=w) _ _ i4
  have hn:(TB e).n=(TB e).z.length:=(hT.zlen hb).symm
  have hrun:=run_make (P:=P) w ty e ie ze hu i1 i3 .i64 .i64 n n h0 (Int.le_refl _) (by rw [i5]; exact hby) h63
  have hxs:(madeCells ze.cells (n.toNat*ie.size)).size=n.toNat*(TB e).n:=by simp [madeCells,i2]
  have hob:EX o ρ R w (o ++ [.row (TB e).n n.toNat fun _=>(TB e).z]) (ρnew ρ o.length w.heap.size) R { w with heap:=w.heap.push (.cells (madeCells ze.cells (n.toNat*ie.size)) e) } →
    OB (ρnew ρ o.length w.heap.size) (o ++ [.row (TB e).n n.toNat fun _=>(TB e).z]) R { w with heap:=w.heap.push (.cells (madeCells ze.cells (n.toNat*ie.size)) e) } o.length (.row (TB e).n n.toNat fun _=>(TB e).z):=by
   intro hx
   have hne:∀ c,R c→({ w with heap:=w.heap.push (.cells (madeCells ze.cells (n.toNat*ie.size)) e) }:World).heap[c]?=w.heap[c]?:=fun c hc=>hx.same c (hh.ro c hc).1 (hh.ro c hc).2
   refine .inr ⟨w.heap.size,madeCells ze.cells (n.toNat*ie.size),e,ρnew_at,by simp,by rw [hxs]; exact Nat.le_refl _,fun _ _=>hn.symm,fun i hi j hj=>?_⟩
   have hin:(i+1)*(TB e).n≤n.toNat*(TB e).n:=Nat.mul_le_mul_right _ hi
   rw [Nat.add_mul,Nat.one_mul] at hin
   have hze:ze.cells.size=(TB e).n:=by rw [hn,← z1,Array.length_toList]
   have hg:(madeCells ze.cells (n.toNat*ie.size)).getD (i*(TB e).n+j) Go.undef=ze.cells.getD j Go.undef:=by
    rw [Array.getD_eq_getD_getElem?,Array.getD_eq_getD_getElem?]
    simp only [madeCells,i2]
    rw [Array.getElem?_map,Array.getElem?_range,if_pos (by omega)]
    simp only [Option.map_some,Option.getD_some,hze]
    rw [Nat.mul_comm i,Nat.mul_add_mod,Nat.mod_eq_of_lt hj]
    rw [getElem!_pos ze.cells j (by omega),Array.getElem?_eq_getElem (by omega)]
    rfl
   rw [hg]
   have:=z2 j (by omega)
   rw [toList_getD] at this
   exact this.go (fun _ h=>h) hne
  refine goes_value (y:=.slice (some ⟨w.heap.size,0,none⟩) n.toNat n.toNat) (w':={ w with heap:=w.heap.push (.cells (madeCells ze.cells (n.toNat*ie.size)) e) }) (fun dst tz pos af g=>?_) hK (HR.new hh _ (madeCells ze.cells (n.toNat*ie.size)) e rfl rfl rfl rfl hob) (.of ?_ ?_) (EX.new hh _ (madeCells ze.cells (n.toNat*ie.size)) e rfl rfl rfl rfl)
  ·simp only [execOp,(hf.at e1).int,(hf.at e2).int,Sem.run_bind,hrun]
   rfl
  ·simp [live]
  ·have:=VR.row (ρ:=ρnew ρ o.length w.heap.size) (R:=R) (w:={ w with heap:=w.heap.push (.cells (madeCells ze.cells (n.toNat*ie.size)) e) }) (id:=o.length) (sz:=(TB e).n) (off:=0) (len:=n.toNat) (b:=w.heap.size) (cs:=madeCells ze.cells (n.toNat*ie.size)) (ty:=e) (cap:=n.toNat) ρnew_at (by simp) (Nat.le_refl _) (by rw [hxs,Nat.zero_add]; exact Nat.le_refl _) (by omega)
   rw [Nat.zero_mul] at this
   exact this
 ·exact h.elim
end
end Go.Proofs.YtgdbhjmpkkbnnaaGreatDoor.Vc
end
section
/- Part J of the engine: append. -/
namespace Go.Proofs.YtgdbhjmpkkbnnaaGreatDoor.Vc
section
variable {P:Program} {TB:TypeId→TI} {ρ:Ix→Option Nat} {o:List Obj} {R:Nat→Prop} {w:World} {t:Fr} {a:Act} {Gl:List (Nat × Go.Obj)}
theorem src_cells {tx e':TypeId} (hk:P.underlying tx=some (.slice e')) {n m cap:Nat} (hn:1≤n) {ad:Addr} {g:Nat→List AV} {G:Nat→Nat→Value} (h4:∀ i,i<m→∀ j,j<n→w.cell? (ad.add (i*n+j))=some (G i j))
  (h5:∀ i,i<m→∀ j,j<n→DR R w ((g i).getD j .undef) (G i j)) :
  ∃ news:List Value,Src P n tx (.slice (some ad) m cap) m news w∧∀ i,i<m→∀ j,j<n→DR R w ((g i).getD j .undef) (news.getD (i*n+j) Go.undef):=by
 refine ⟨(List.range (m*n)).map fun k=>G (k / n) (k % n),Src.ofSlice w hk ad m cap _ (by simp) (fun k u hu=>?_) (fun u hu=>?_),fun i hi j hj=>?_⟩
 ·rw [List.getElem?_map] at hu
  by_cases hk':k<m*n
  ·rw [List.getElem?_range hk'] at hu
   simp at hu
   subst hu
   have h1:k / n<m:=Nat.div_lt_of_lt_mul (by rw [Nat.mul_comm]; exact hk')
   have h2:k % n<n:=Nat.mod_lt _ (by omega)
   have:=h4 _ h1 _ h2
   rwa [Nat.div_add_mod' k n] at this
  ·rw [List.getElem?_eq_none (by simpa using hk')] at hu
   simp at hu
 ·obtain ⟨k,hk',rfl⟩:=List.mem_map.1 hu
  have hk':k<m*n:=by simpa using hk'
  exact DR_one (h5 _ (Nat.div_lt_of_lt_mul (by rw [Nat.mul_comm]; exact hk')) _ (Nat.mod_lt _ (by omega)))
 ·have hin:(i+1)*n≤m*n:=Nat.mul_le_mul_right _ hi
  rw [Nat.add_mul,Nat.one_mul] at hin
  have e:((List.range (m*n)).map fun k=>G (k / n) (k % n)).getD (i*n+j) Go.undef=G i j:=by
   rw [List.getD_eq_getElem?_getD,List.getElem?_map,List.getElem?_range (by omega)]
   simp only [Option.map_some,Option.getD_some]
   rw [Nat.mul_comm i n,Nat.mul_add_div (by omega),Nat.div_eq_of_lt hj,Nat.mul_add_mod,Nat.mod_eq_of_lt hj,Nat.add_zero]
  rw [e]
  exact h5 i hi j hj
theorem src_none {tx e':TypeId} (hk:P.underlying tx=some (.slice e')) {n cap:Nat} (b:Option Addr):Src P n tx (.slice b 0 cap) 0 [] w:=by
 cases b with
 |none=>exact Src.ofNil w hk cap
 |some ad=>exact Src.ofSlice w hk ad 0 cap [] (by simp) (fun _ _ h=>by simp at h) (fun _ h=>by cases h)
theorem src_ok (hh:HR Gl o ρ R w) {tx e':TypeId} (hk:P.underlying tx=some (.slice e')) {n m lo hi:Nat} (hn:1≤n) {g:Nat→List AV} {v:AV} {y:Value} (h:srcOf o n v=some (m,g,lo,hi)) (hl:lo≤hi) (hv:TR ρ o R w v y) :
  ∃ news:List Value,Src P n tx y m news w∧(∀ i,i<m→(g i).length=n)∧∀ i,i<m→∀ j,j<n→DR R w ((g i).getD j .undef) (news.getD (i*n+j) Go.undef):=by
 unfold srcOf at h
 split at h
 ·simp only [Option.some.injEq,Prod.mk.injEq] at h
  obtain ⟨rfl,rfl,rfl,rfl⟩:=h
  obtain ⟨b,rfl⟩:=hv.nils
  exact ⟨[],src_none hk b,fun i hi=>absurd hi (Nat.not_lt_zero _),fun i hi=>absurd hi (Nat.not_lt_zero _)⟩
 ·rename_i s m' g'
  cases hs:Nat.beq s n with
  |false=>rw [hs] at h; cases h
  |true =>
   rw [hs] at h
   simp only [cond_true,Option.some.injEq,Prod.mk.injEq] at h
   obtain ⟨rfl,rfl,rfl,rfl⟩:=h
   have hs:=Nat.eq_of_beq_eq_true hs
   subst hs
   obtain ⟨b,c,rfl,hd⟩:=hv.sl
   cases hd with
   |sl0=>exact ⟨[],src_none hk b,fun i hi=>absurd hi (Nat.not_lt_zero _),fun i hi=>absurd hi (Nat.not_lt_zero _)⟩
   |sl _ _ _ ad cap G h1 h2 h3 h4 h5 =>
    obtain ⟨news,q1,q2⟩:=src_cells hk hn h4 h5
    exact ⟨news,q1,h3,q2⟩
 ·rename_i id sz off len
  split at h
  ·rename_i s m' f e
   cases hs:(Nat.beq s sz && Nat.beq s n) with
   |false=>rw [hs] at h; cases h
   |true =>
    rw [hs] at h
    simp only [cond_true,Option.some.injEq,Prod.mk.injEq] at h
    obtain ⟨rfl,rfl,rfl,rfl⟩:=h
    rw [Bool.and_eq_true] at hs
    rcases hv.row e hs.1 with ⟨h0,b,rfl⟩|⟨b,cs,ty,cap,rfl,hr,hc,h1,h2⟩
    ·subst h0
     exact ⟨[],src_none hk b,fun i hi=>absurd hi (Nat.not_lt_zero _),fun i hi=>absurd hi (Nat.not_lt_zero _)⟩
    ·have hs1:=Nat.eq_of_beq_eq_true hs.1
     have hs2:=Nat.eq_of_beq_eq_true hs.2
     subst hs1 hs2
     rcases hh.obj id _ e with ⟨h3,_⟩|⟨b',xs,ty',q1,q2,q3,q4,q5⟩
     ·have:len=0:=by omega
      subst this
      exact ⟨[],src_none hk _,fun i hi=>absurd hi (Nat.not_lt_zero _),fun i hi=>absurd hi (Nat.not_lt_zero _)⟩
     ·rw [hr] at q1
      injection q1 with q1
      subst q1
      rw [hc] at q2
      injection q2 with q2
      injection q2 with q2 q6 q7
      subst q2
      obtain ⟨news,p1,p2⟩:=src_cells (w:=w) (R:=R) (ad:=⟨b,off*s,none⟩) (m:=len) (cap:=cap) (g:=fun i=>f (off+i)) (G:=fun i j=>cs.getD ((off+i)*s+j) Go.undef) hk hn (fun i hi j hj=>by
       rw [Addr.add_mid,show off*s+(i*s+j)=(off+i)*s+j by rw [Nat.add_mul]; omega]
       refine cell_block hc ?_
       have:(off+i+1)*s≤m'*s:=Nat.mul_le_mul_right _ (by omega)
       rw [Nat.add_mul,Nat.one_mul] at this
       omega) (fun i hi j hj=>q5 (off+i) (by omega) j hj)
      exact ⟨news,p1,fun i hi=>q4 _ (by omega),p2⟩
  ·cases h
 ·cases h
/-! ### A local object under a new number; an empty row -/
def ρmove (ρ:Ix→Option Nat) (id n:Nat):Ix→Option Nat:=fun x=>if x.id=id then none else if x.id=n then ρ (x.at id) else ρ x
theorem ρmove_ne {id n:Nat} {x:Ix} (h1:x.id≠id) (h2:x.id≠n):ρmove ρ id n x=ρ x:=by unfold ρmove; rw [if_neg h1,if_neg h2]
theorem ρmove_old {id n:Nat} {x:Ix} (h:x.id=id):ρmove ρ id n x=none:=by unfold ρmove; rw [if_pos h]
theorem ρmove_new {id n:Nat} {x:Ix} (h:x.id=n) (hn:n≠id):ρmove ρ id n x=ρ (x.at id):=by unfold ρmove; rw [if_neg (by omega),if_pos h]
theorem EX.move (_hh:HR Gl o ρ R w) {id:Nat} (_hid:id<o.length) (ob:Obj):EX o ρ R w (o.set id .dead ++ [ob]) (ρmove ρ id o.length) R w where
 len:=by simp
 keep j hj:=by
  rw [List.getElem?_append_left (by simpa using hj)]
  by_cases hji:id=j
  ·subst hji
   rw [List.getElem?_set_self hj]
   trivial
  ·rw [List.getElem?_set_ne hji]
   have e:ρmove ρ id o.length j=ρ j:=ρmove_ne (show j≠id from Ne.symm hji) (show j≠o.length by omega)
   rw [e]
   split
   ·rename_i h; exact ⟨⟨_,h⟩,rfl⟩
   ·rename_i h; exact ⟨⟨_,_,h⟩,rfl⟩
   ·rename_i h; exact ⟨⟨_,h,rfl⟩,rfl⟩
   ·trivial
 rmono _ h:=h
 rnew _ h:=.inl h
 pnew j b h:=by
  unfold ρmove at h
  split at h
  ·cases h
  ·split at h
   ·exact .inr ⟨_,h⟩
   ·exact .inr ⟨j,h⟩
 size:=Nat.le_refl _
 same _ _ _:=rfl
 shape _ ys _ h:=⟨ys,h,rfl⟩
 os:=rfl
 tape:=rfl
 output:=rfl
theorem HR.move (hh:HR Gl o ρ R w) {id:Nat} (hid:id<o.length) {ob:Obj} (hob:EX o ρ R w (o.set id .dead ++ [ob]) (ρmove ρ id o.length) R w→OB (ρmove ρ id o.length) (o.set id .dead ++ [ob]) R w o.length ob)
  (hd:∀ s n f x,o[id]?=some (.nrow s n f x)→∃ s n f x,ob=.nrow s n f x):HR Gl (o.set id .dead ++ [ob]) (ρmove ρ id o.length) R w:=by
 have hx:=EX.move hh hid ob
 have hn:∀ (x:Ix) (b:Nat),ρmove ρ id o.length x=some b→x.id≠id∧((x.id=o.length∧ρ (x.at id)=some b)∨(x.id<o.length∧ρ x=some b)):=by
  intro j b h
  unfold ρmove at h
  split at h
  ·cases h
  ·rename_i h1
   split at h
   ·rename_i h2; exact ⟨h1,.inl ⟨h2,h⟩⟩
   ·exact ⟨h1,.inr ⟨hh.dom j b h,h⟩⟩
 refine ⟨?_,?_,?_,?_,?_,?_,hh.gl⟩
 ·intro j b h
  simp only [List.length_append,List.length_set,List.length_cons,List.length_nil]
  rcases (hn j b h).2 with ⟨h,_⟩|⟨h,_⟩ <;> omega
 ·intro j q b h
  obtain ⟨h1,⟨h2,h3⟩|⟨h2,h3⟩⟩:=hn _ b h
  ·cases h2
   obtain ⟨s,n,f,x,e⟩:=hh.din id q b h3
   obtain ⟨s,n,f,x,rfl⟩:=hd _ _ _ _ e
   exact ⟨s,n,f,x,by rw [List.getElem?_append_right (by simp)]; simp⟩
  ·obtain ⟨s,n,f,x,e⟩:=hh.din j q b h3
   refine ⟨s,n,f,x,?_⟩
   rw [List.getElem?_append_left (by rw [List.length_set]; exact h2),List.getElem?_set_ne (show id≠j from Ne.symm h1)]
   exact e
 ·intro j b h
  rcases (hn j b h).2 with ⟨_,h⟩|⟨_,h⟩
  ·exact hh.lt _ b h
  ·exact hh.lt j b h
 ·intro i j b hi hj
  obtain ⟨i1,i2⟩:=hn i b hi
  obtain ⟨j1,j2⟩:=hn j b hj
  rcases i2 with ⟨i2,i3⟩|⟨i2,i3⟩ <;> rcases j2 with ⟨j2,j3⟩|⟨j2,j3⟩
  ·have h1:=hh.inj _ _ b i3 j3
   have h2:=congrArg (fun x=>Ix.at x o.length) h1
   simp only [Ix.at_at] at h2
   have e1:=Ix.at_self i
   have e2:=Ix.at_self j
   rw [i2] at e1
   rw [j2] at e2
   rw [← e1,← e2]
   exact h2
  ·exact absurd (by rw [← hh.inj _ j b i3 j3,Ix.at_id]) j1
  ·exact absurd (by rw [← hh.inj _ i b j3 i3,Ix.at_id]) i1
  ·exact hh.inj i j b i3 j3
 ·intro b hb
  refine ⟨(hh.ro b hb).1,fun j h=>?_⟩
  rcases (hn j b h).2 with ⟨_,h⟩|⟨_,h⟩
  ·exact (hh.ro b hb).2 _ h
  ·exact (hh.ro b hb).2 j h
 ·intro j ob' h
  by_cases hj:j<o.length
  ·rw [List.getElem?_append_left (by simpa using hj)] at h
   by_cases hji:id=j
   ·subst hji
    rw [List.getElem?_set_self hj] at h
    injection h with h
    subst h
    exact ρmove_old rfl
   ·rw [List.getElem?_set_ne hji] at h
    exact (hh.obj j ob' h).go hx hh.ro (fun x hx=>ρmove_ne (by omega) (by omega)) fun _ _ _ _=>rfl
  ·have hj':j=o.length:=by
    have:=(List.getElem?_eq_some_iff.1 h).1
    simp at this
    omega
   subst hj'
   rw [List.getElem?_append_right (by simp)] at h
   simp at h
   subst h
   exact hob hx
theorem EX.emptyO (ob:Obj):EX o ρ R w (o ++ [ob]) ρ R w where
 len:=by simp
 keep j hj:=by
  rw [List.getElem?_append_left hj]
  exact (EX.refl o ρ R w).keep j hj
 rmono _ h:=h
 rnew _ h:=.inl h
 pnew j b h:=.inr ⟨j,h⟩
 size:=Nat.le_refl _
 same _ _ _:=rfl
 shape _ ys _ h:=⟨ys,h,rfl⟩
 os:=rfl
 tape:=rfl
 output:=rfl
theorem HR.emptyO (hh:HR Gl o ρ R w) (ob0:Obj) (h0:ρ o.length=none→OB ρ (o ++ [ob0]) R w o.length ob0):HR Gl (o ++ [ob0]) ρ R w:=by
 refine ⟨fun j b h=>?_,fun j q b h=>?_,hh.lt,hh.inj,hh.ro,fun j ob h=>?_,hh.gl⟩
 ·have:=hh.dom j b h
  simp; omega
 ·obtain ⟨s,n,f,x,e⟩:=hh.din j q b h
  exact ⟨s,n,f,x,by rw [List.getElem?_append_left (List.getElem?_eq_some_iff.1 e).1]; exact e⟩
 ·by_cases hj:j<o.length
  ·rw [List.getElem?_append_left hj] at h
   exact (hh.obj j ob h).go (EX.emptyO ob0) hh.ro (fun _ _=>rfl) fun _ _ _ _=>rfl
  ·have hj':j=o.length:=by
    have:=(List.getElem?_eq_some_iff.1 h).1
    simp at this
    omega
   subst hj'
   rw [List.getElem?_append_right (Nat.le_refl _)] at h
   simp at h
   subst h
   refine h0 ?_
   cases e:ρ o.length with
   |none=>rfl
   |some b=>exact absurd (hh.dom _ b e) (Nat.lt_irrefl _)
theorem EX.empty (sz:Nat) (f:Nat→List AV):EX o ρ R w (o ++ [.row sz 0 f]) ρ R w:=EX.emptyO _
theorem HR.empty (hh:HR Gl o ρ R w) (sz:Nat) (f:Nat→List AV):HR Gl (o ++ [.row sz 0 f]) ρ R w:=hh.emptyO _ fun h=>.inl ⟨rfl,h⟩
theorem HR.emptyN (hh:HR Gl o ρ R w) (sz:Nat) (f:Nat→List AV):HR Gl (o ++ [.nrow sz 0 f none]) ρ R w:=hh.emptyO _ fun h=>.inl ⟨rfl,rfl,h⟩
end
end Go.Proofs.YtgdbhjmpkkbnnaaGreatDoor.Vc
end
section
/- Part KN of the engine: a nested row behind a nested row. -/
namespace Go.Proofs.YtgdbhjmpkkbnnaaGreatDoor.Vc
section
variable {P:Program} {TB:TypeId→TI} {ρ:Ix→Option Nat} {o:List Obj} {R:Nat→Prop} {w:World} {t:Fr} {a:Act} {Gl:List (Nat × Go.Obj)}
def ρapp (ρ:Ix→Option Nat) (id jd N off B:Nat):Ix→Option Nat:=fun x=>if x.id=id∨x.id=jd then none else if x.id=N then (match x with
 |.ob _=>some B
 |.inn _ q=>if q<off then ρ (.inn id q) else ρ (.inn jd (q-off))) else ρ x
theorem ρapp_ne {id jd N off B:Nat} {x:Ix} (h1:x.id≠id) (h2:x.id≠jd) (h3:x.id≠N):ρapp ρ id jd N off B x=ρ x:=by
 unfold ρapp
 rw [if_neg (by omega),if_neg h3]
theorem ρapp_ob {id jd N off B:Nat} (h1:N≠id) (h2:N≠jd):ρapp ρ id jd N off B (N:Ix)=some B:=by
 unfold ρapp
 rw [if_neg (show ¬ ((N:Ix).id=id∨(N:Ix).id=jd) from fun h=>h.elim h1 h2),if_pos (show (N:Ix).id=N from rfl)]
theorem ρapp_in {id jd N off B q:Nat} (h1:N≠id) (h2:N≠jd):ρapp ρ id jd N off B (.inn N q)=if q<off then ρ (.inn id q) else ρ (.inn jd (q-off)):=by
 unfold ρapp
 rw [if_neg (show ¬ ((Ix.inn N q).id=id∨(Ix.inn N q).id=jd) from fun h=>h.elim h1 h2),if_pos (show (Ix.inn N q).id=N from rfl)]
structure AppW (w w':World) (B:Nat) (xs':Array Value) (ty:TypeId):Prop where
 new:w'.heap[B]?=some (.cells xs' ty (0,0))
 size:w.heap.size≤w'.heap.size
 same:∀ b,b<w.heap.size→b≠B→w'.heap[b]?=w.heap[b]?
 shape:∀ (xs:Array Value) (t0:TypeId),w.heap[B]?=some (.cells xs t0 (0,0))→t0=ty∧xs'.size=xs.size
 os:w'.os=w.os
 tape:w'.tape=w.tape
 output:w'.output=w.output
theorem EX.app {id jd B off:Nat} {ob:Obj} {xs':Array Value} {ty:TypeId} {w':World} (hB:ρ id=some B∨B=w.heap.size) (hw:AppW w w' B xs' ty) :
  EX o ρ R w ((o.set id .dead).set jd .dead ++ [ob]) (ρapp ρ id jd o.length off B) R w' where
 len:=by simp
 keep j hj:=by
  rw [List.getElem?_append_left (by simpa using hj)]
  by_cases h2:jd=j
  ·subst h2
   rw [List.getElem?_set_self (by simpa using hj)]
   trivial
  ·rw [List.getElem?_set_ne h2]
   by_cases h1:id=j
   ·subst h1
    rw [List.getElem?_set_self hj]
    trivial
   ·rw [List.getElem?_set_ne h1]
    have e:ρapp ρ id jd o.length off B j=ρ j:=ρapp_ne (show j≠id by omega) (show j≠jd by omega) (show j≠o.length by omega)
    rw [e]
    split
    ·rename_i h; exact ⟨⟨_,h⟩,rfl⟩
    ·rename_i h; exact ⟨⟨_,_,h⟩,rfl⟩
    ·rename_i h; exact ⟨⟨_,h,rfl⟩,rfl⟩
    ·trivial
 rmono _ h:=h
 rnew _ h:=.inl h
 pnew x b h:=by
  unfold ρapp at h
  split at h
  ·cases h
  ·split at h
   ·split at h
    ·injection h with h
     subst h
     rcases hB with hB|hB
     ·exact .inr ⟨_,hB⟩
     ·exact .inl (by omega)
    ·split at h
     ·exact .inr ⟨_,h⟩
     ·exact .inr ⟨_,h⟩
   ·exact .inr ⟨x,h⟩
 size:=hw.size
 same b hb hn:=hw.same b hb fun e=>by
  rcases hB with hB|hB
  ·exact hn id (by rw [e]; exact hB)
  ·omega
 shape b ys t0 h:=by
  by_cases e:b=B
  ·subst e
   obtain ⟨rfl,h2⟩:=hw.shape ys t0 h
   exact ⟨xs',hw.new,h2⟩
  ·exact ⟨ys,(hw.same b (Array.getElem?_eq_some_iff.1 h).1 e).trans h,rfl⟩
 os:=hw.os
 tape:=hw.tape
 output:=hw.output
theorem HR.app (hh:HR Gl o ρ R w) {id jd B s n m:Nat} {f g:Nat→List AV} {xs':Array Value} {ty:TypeId} {w':World} (hid:o[id]?=some (.nrow s n f none)) (hjd:o[jd]?=some (.nrow s m g none)) (hne:id≠jd)
  (hB:ρ id=some B∨B=w.heap.size) (hw:AppW w w' B xs' ty) (hlen:(n+m)*s≤xs'.size) (hf:∀ i,i<n→(f i).length=s) (hg:∀ i,i<m→(g i).length=s)
  (hc1:∀ i,i<n→∀ j,j<s→NR ρ R w id (i*s+j) ((f i).getD j .undef) (xs'.getD (i*s+j) Go.undef))
  (hc2:∀ i,i<m→∀ j,j<s→NR ρ R w jd (i*s+j) ((g i).getD j .undef) (xs'.getD ((n+i)*s+j) Go.undef)) :
  HR Gl ((o.set id .dead).set jd .dead ++ [.nrow s (n+m) (appF n f g) none]) (ρapp ρ id jd o.length (n*s) B) R w':=by
 have hx:EX o ρ R w ((o.set id .dead).set jd .dead ++ [.nrow s (n+m) (appF n f g) none]) (ρapp ρ id jd o.length (n*s) B) R w':=EX.app hB hw
 have hid':=(List.getElem?_eq_some_iff.1 hid).1
 have hjd':=(List.getElem?_eq_some_iff.1 hjd).1
 have hl:((o.set id .dead).set jd .dead).length=o.length:=by simp
 have hlast:((o.set id .dead).set jd .dead ++ [Obj.nrow s (n+m) (appF n f g) none])[o.length]?=some (.nrow s (n+m) (appF n f g) none):=by
  rw [List.getElem?_append_right (by rw [hl]; exact Nat.le_refl _),hl]; simp
 have hold:∀ j,j<o.length→j≠id→j≠jd→((o.set id .dead).set jd .dead ++ [Obj.nrow s (n+m) (appF n f g) none])[j]?=o[j]?:=fun j h1 h2 h3=>by
  rw [List.getElem?_append_left (by rw [hl]; exact h1),List.getElem?_set_ne (Ne.symm h3),List.getElem?_set_ne (Ne.symm h2)]
 -- where a block comes from
 have hn:∀ (x:Ix) (b:Nat),ρapp ρ id jd o.length (n*s) B x=some b→(x=(o.length:Ix)∧b=B)∨(∃ q,x=.inn o.length q∧q<n*s∧ρ (.inn id q)=some b)∨(∃ q,x=.inn o.length q∧n*s≤q∧ρ (.inn jd (q-n*s))=some b)∨(x.id<o.length∧x.id≠id∧x.id≠jd∧ρ x=some b):=by
  intro x b h
  unfold ρapp at h
  split at h
  ·cases h
  ·rename_i h1
   split at h
   ·rename_i h2
    split at h
    ·injection h with h
     exact .inl ⟨by rw [← h2]; rfl,h.symm⟩
    ·rename_i j q
     have h2:j=o.length:=h2
     subst h2
     split at h
     ·rename_i h3; exact .inr (.inl ⟨q,rfl,h3,h⟩)
     ·rename_i h3; exact .inr (.inr (.inl ⟨q,rfl,by omega,h⟩))
   ·exact .inr (.inr (.inr ⟨hh.dom x b h,fun e=>h1 (.inl e),fun e=>h1 (.inr e),h⟩))
 have notB:∀ (x:Ix),x≠(id:Ix)→∀ b,ρ x=some b→b≠B:=fun x hx' b hb e=>by
  rcases hB with hB|hB
  ·exact hx' (hh.inj _ _ b hb (e ▸ hB))
  ·have:=hh.lt x b hb; omega
 have hne':∀ c,R c→w'.heap[c]?=w.heap[c]?:=fun c hc=>hx.same c (hh.ro c hc).1 (hh.ro c hc).2
 refine ⟨?_,?_,?_,?_,?_,?_,?_⟩
 ·intro x b h
  rw [List.length_append,hl]
  rcases hn x b h with ⟨rfl,_⟩|⟨q,rfl,_⟩|⟨q,rfl,_⟩|⟨h,_⟩
  ·exact Nat.lt_succ_self _
  ·exact Nat.lt_succ_self _
  ·exact Nat.lt_succ_self _
  ·exact Nat.lt_of_lt_of_le h (Nat.le_add_right _ _)
 ·intro j q b h
  rcases hn _ b h with ⟨e,_⟩|⟨q',e,_⟩|⟨q',e,_⟩|⟨h1,h2,h3,h4⟩
  ·cases e
  ·cases e; exact ⟨_,_,_,_,hlast⟩
  ·cases e; exact ⟨_,_,_,_,hlast⟩
  ·obtain ⟨s',n',f',x',e⟩:=hh.din j q b h4
   exact ⟨s',n',f',x',(hold j h1 h2 h3).trans e⟩
 ·intro x b h
  rcases hn x b h with ⟨_,rfl⟩|⟨q,_,_,h⟩|⟨q,_,_,h⟩|⟨_,_,_,h⟩
  ·exact (Array.getElem?_eq_some_iff.1 hw.new).1
  ·exact Nat.lt_of_lt_of_le (hh.lt _ b h) hw.size
  ·exact Nat.lt_of_lt_of_le (hh.lt _ b h) hw.size
  ·exact Nat.lt_of_lt_of_le (hh.lt _ b h) hw.size
 ·intro x y b hx1 hy1
  have nB:∀ (z:Ix),z≠(id:Ix)→ρ z=some b→b=B→False:=fun z hz h e=>notB z hz b h e
  rcases hn x b hx1 with ⟨rfl,x2⟩|⟨q,rfl,x2,x3⟩|⟨q,rfl,x2,x3⟩|⟨x1,x2,x3,x4⟩ <;> rcases hn y b hy1 with ⟨rfl,y2⟩|⟨q',rfl,y2,y3⟩|⟨q',rfl,y2,y3⟩|⟨y1,y2,y3,y4⟩
  ·rfl
  ·exact (nB _ (by intro h; cases h) y3 x2).elim
  ·exact (nB _ (by intro h; cases h) y3 x2).elim
  ·exact (nB _ (fun h=>y2 (by rw [h]; rfl)) y4 x2).elim
  ·exact (nB _ (by intro h; cases h) x3 y2).elim
  ·have:=hh.inj _ _ b x3 y3
   injection this with _ e
   rw [e]
  ·have:=hh.inj _ _ b x3 y3
   injection this with e _
   exact absurd e hne
  ·exact absurd (by rw [← hh.inj _ _ b x3 y4]; rfl) y2
  ·exact (nB _ (by intro h; cases h) x3 y2).elim
  ·have:=hh.inj _ _ b x3 y3
   injection this with e _
   exact absurd e.symm hne
  ·have:=hh.inj _ _ b x3 y3
   injection this with _ e
   rw [show q=q' by omega]
  ·exact absurd (by rw [← hh.inj _ _ b x3 y4]; rfl) y3
  ·exact (nB _ (fun h=>x2 (by rw [h]; rfl)) x4 y2).elim
  ·exact absurd (by rw [← hh.inj _ _ b y3 x4]; rfl) x2
  ·exact absurd (by rw [← hh.inj _ _ b y3 x4]; rfl) x3
  ·exact hh.inj x y b x4 y4
 ·intro b hb
  obtain ⟨h1,h2⟩:=hh.ro b hb
  refine ⟨Nat.lt_of_lt_of_le h1 hw.size,fun x h=>?_⟩
  rcases hn x b h with ⟨_,e⟩|⟨q,_,_,h⟩|⟨q,_,_,h⟩|⟨_,_,_,h⟩
  ·rcases hB with hB|hB
   ·exact h2 id (by rw [e]; exact hB)
   ·omega
  ·exact h2 _ h
  ·exact h2 _ h
  ·exact h2 _ h
 ·intro j ob h
  by_cases hj:j<o.length
  ·by_cases h2:j=jd
   ·subst h2
    rw [List.getElem?_append_left (by rw [hl]; exact hj),List.getElem?_set_self (by simpa using hj)] at h
    injection h with h
    subst h
    show ρapp ρ id j o.length (n*s) B j=none
    unfold ρapp
    rw [if_pos (.inr rfl)]
   ·by_cases h1:j=id
    ·subst h1
     rw [List.getElem?_append_left (by rw [hl]; exact hj),List.getElem?_set_ne (Ne.symm h2),List.getElem?_set_self hj] at h
     injection h with h
     subst h
     show ρapp ρ j jd o.length (n*s) B j=none
     unfold ρapp
     rw [if_pos (.inl rfl)]
    ·rw [hold j hj h1 h2] at h
     exact (hh.obj j ob h).go hx hh.ro (fun x hx=>ρapp_ne (by omega) (by omega) (by omega)) fun x b hxj hb=>hw.same b (hh.lt x b hb) (notB x (fun e=>h1 (by rw [← hxj,e]; rfl)) b hb)
  ·have hj':j=o.length:=by
    have:=(List.getElem?_eq_some_iff.1 h).1
    simp at this
    omega
   subst hj'
   rw [hlast] at h
   injection h with h
   subst h
   have hob:ρapp ρ id jd o.length (n*s) B (o.length:Ix)=some B:=ρapp_ob (by omega) (by omega)
   have hin1:∀ q,q<n*s→ρapp ρ id jd o.length (n*s) B (.inn o.length q)=ρ (.inn id q):=fun q hq=>by
    rw [ρapp_in (by omega) (by omega),if_pos hq]
   have hin2:∀ q,ρapp ρ id jd o.length (n*s) B (.inn o.length (n*s+q))=ρ (.inn jd q):=fun q=>by
    rw [ρapp_in (by omega) (by omega),if_neg (by omega),show n*s+q-n*s=q by omega]
   refine .inr ⟨B,xs',ty,hob,hw.new,hlen,fun i hi=>?_,fun i hi _ l hl'=>?_,fun _ _ h=>by cases h⟩
   ·unfold appF
    cases hb:Nat.blt i n with
    |true=>exact hf i (by simp [Nat.blt] at hb; omega)
    |false=>exact hg _ (by
      have:¬ i<n:=fun h=>by
       have:Nat.blt i n=true:=by simp [Nat.blt]; omega
       rw [this] at hb; cases hb
      omega)
   ·unfold appF
    cases hb:Nat.blt i n with
    |true =>
     have hi':i<n:=by simp [Nat.blt] at hb; omega
     have hil:(i+1)*s≤n*s:=Nat.mul_le_mul_right _ hi'
     rw [Nat.add_mul,Nat.one_mul] at hil
     have hq:=hin1 (i*s+l) (by omega)
     exact ((hc1 i hi' l hl').mv (fun _ h=>h) hq).go (fun _ h=>h) hne' rfl fun b hb'=>by
      rw [hq] at hb'
      exact hw.same b (hh.lt _ b hb') (notB _ (by intro h; cases h) b hb')
    |false =>
     have hi':¬ i<n:=fun h=>by
      have:Nat.blt i n=true:=by simp [Nat.blt]; omega
      rw [this] at hb; cases hb
     have hq:=hin2 ((i-n)*s+l)
     have e:n*s+((i-n)*s+l)=i*s+l:=by rw [← Nat.add_assoc,← Nat.add_mul,show n+(i-n)=i by omega]
     rw [e] at hq
     have h2:=hc2 (i-n) (by omega) l hl'
     rw [show n+(i-n)=i by omega] at h2
     exact (h2.mv (fun _ h=>h) hq).go (fun _ h=>h) hne' rfl fun b hb'=>by
      rw [hq] at hb'
      exact hw.same b (hh.lt _ b hb') (notB _ (by intro h; cases h) b hb')
 ·intro p hp
  obtain ⟨h1,h2⟩:=hh.gl p hp
  exact ⟨h1,(hne' _ h1).trans h2⟩
end
end Go.Proofs.YtgdbhjmpkkbnnaaGreatDoor.Vc
end
section
/- Part K of the engine: append, the operation. -/
namespace Go.Proofs.YtgdbhjmpkkbnnaaGreatDoor.Vc
section
variable {P:Program} {TB:TypeId→TI} {ρ:Ix→Option Nat} {o:List Obj} {R:Nat→Prop} {w:World} {t:Fr} {a:Act} {Gl:List (Nat × Go.Obj)}
theorem append_getD {l m:List Value} {j:Nat}:(l ++ m).getD j Go.undef=if j<l.length then l.getD j Go.undef else m.getD (j-l.length) Go.undef:=by
 rw [List.getD_eq_getElem?_getD,List.getElem?_append]
 split
 ·rw [← List.getD_eq_getElem?_getD]
 ·rw [← List.getD_eq_getElem?_getD]
theorem appF_DR {R':Nat→Prop} {w':World} {n len m:Nat} {f g:Nat→List AV} {C:Nat→Value} (hf1:∀ i,i<len→(f i).length=n) (hg1:∀ i,i<m→(g i).length=n) (hf2:∀ i,i<len→∀ j,j<n→DR R' w' ((f i).getD j .undef) (C (i*n+j)))
  (hg2:∀ i,i<m→∀ j,j<n→DR R' w' ((g i).getD j .undef) (C ((len+i)*n+j))) :
  (∀ i,i<len+m→(appF len f g i).length=n)∧∀ i,i<len+m→∀ j,j<n→DR R' w' ((appF len f g i).getD j .undef) (C (i*n+j)):=by
 have key:∀ i,i<len+m→(appF len f g i).length=n∧∀ j,j<n→DR R' w' ((appF len f g i).getD j .undef) (C (i*n+j)):=by
  intro i hi
  unfold appF
  cases hb:Nat.blt i len with
  |true =>
   have hb:i<len:=by simp [Nat.blt] at hb; omega
   exact ⟨hf1 i hb,hf2 i hb⟩
  |false =>
   have hb:¬ i<len:=by
    intro h
    have:Nat.blt i len=true:=by simp [Nat.blt]; omega
    rw [this] at hb; cases hb
   refine ⟨hg1 _ (by omega),fun j hj=>?_⟩
   have:=hg2 (i-len) (by omega) j hj
   rwa [show len+(i-len)=i by omega] at this
 exact ⟨fun i hi=>(key i hi).1,fun i hi=>(key i hi).2⟩
theorem app_grow (hT:TOk P TB) {ty tx e:TypeId} (he:(TB ty).k=.slice e) {o1:List Obj} {ρ1:Ix→Option Nat} {R1:Nat→Prop} (hh1:HR Gl o1 ρ1 R1 w) (hx1:EX o ρ R w o1 ρ1 R1 w) (hlen:o1.length=o.length)
  {len cap m:Nat} {base:Option Addr} {f g:Nat→List AV} {y:Value} {olds news:List Value} (hs:Src P (TB e).n tx y m news w) (hg1:∀ i,i<m→(g i).length=(TB e).n) (hg2:∀ i,i<m→∀ j,j<(TB e).n→DR R1 w ((g i).getD j .undef) (news.getD (i*(TB e).n+j) Go.undef))
  (hol:olds.length=len*(TB e).n) (hold:(Builtin.firstCells (TB e).n len (.slice base len cap)).run P w.drew=.ok olds.toArray w.drew) (hf1:∀ i,i<len→(f i).length=(TB e).n)
  (hf2:∀ i,i<len→∀ j,j<(TB e).n→DR R1 w ((f i).getD j .undef) (olds.getD (i*(TB e).n+j) Go.undef)) (_hn:1≤(TB e).n) (hgr:cap<len+m) (hby:1≤(TB e).bytes) (hb:(len+m)*(TB e).bytes≤140737488355328) (tz:TypeId) :
  ∃ w' cap' ρ',(Builtin.append_ #[ty,tx] tz #[.slice base len cap,y]).run P w=.ok (.slice (some ⟨w.heap.size,0,none⟩) (len+m) cap') w'∧HR Gl (o1 ++ [.row (TB e).n (len+m) (appF len f g)]) ρ' R1 w' ∧
   TR ρ' (o1 ++ [.row (TB e).n (len+m) (appF len f g)]) R1 w' (.row o.length (TB e).n 0 (len+m)) (.slice (some ⟨w.heap.size,0,none⟩) (len+m) cap')∧EX o ρ R w (o1 ++ [.row (TB e).n (len+m) (appF len f g)]) ρ' R1 w':=by
 obtain ⟨hu,hbd⟩:=hT.slice he
 obtain ⟨ie,ze,i1,i2,i5,i3,i4,_⟩:=hT.info hbd
 have h63:len+m≤140737488355328:=Nat.le_trans (Nat.le_mul_of_pos_right _ hby) hb
 have hrun:=run_append_grow_src (P:=P) w ty tx tz e ie ze hu i1 i3 base len cap olds (by rw [i2]; exact hold) y m news (by rw [i2]; exact hs) hgr (by omega) (by rw [i5]; exact growslice_fits hgr hb)
 have hcap:=grownCap_ge w (len+m) cap e
 generalize hxs:(olds ++ news).toArray ++ Builtin.zeroCells ze.cells (grownCap w (len+m) cap e-(len+m))=xs at hrun
 have hze:ze.cells.size=(TB e).n:=by
  obtain ⟨z1,_⟩:=zOk_CR (R:=R) (w:=w) _ _ i4
  rw [← hT.zlen hbd,← z1,Array.length_toList]
 have hnl:news.length=m*(TB e).n:=hs.newsLen
 have hsize:xs.size=grownCap w (len+m) cap e*(TB e).n:=by
  rw [← hxs,Array.size_append,size_zeroCells,hze]
  simp only [List.size_toArray,List.length_append,hol,hnl]
  rw [← Nat.add_mul,← Nat.add_mul]
  congr 1
  omega
 have hC:∀ k,k<(len+m)*(TB e).n→xs.getD k Go.undef=(olds ++ news).getD k Go.undef:=by
  intro k hk
  have hk2:k<(olds ++ news).length:=by rw [List.length_append,hol,hnl,← Nat.add_mul]; exact hk
  rw [← hxs,Array.getD_eq_getD_getElem?,Array.getElem?_append_left (by simpa using hk2),List.getElem?_toArray,← List.getD_eq_getElem?_getD]
 generalize hw':w.drew.alloc (.cells xs e)=w' at hrun
 have hheap:w'.heap=w.heap.push (.cells xs e (0,0)):=by rw [← hw']; rfl
 have hos:w'.os=w.os:=by rw [← hw']; rfl
 have htp:w'.tape=w.tape:=by rw [← hw']; rfl
 have hou:w'.output=w.output:=by rw [← hw']; rfl
 have hx2:=EX.new hh1 (.row (TB e).n (len+m) (appF len f g)) xs e hheap hos htp hou
 have hne:∀ c,R1 c→w'.heap[c]?=w.heap[c]?:=fun c hc=>hx2.same c (hh1.ro c hc).1 (hh1.ro c hc).2
 obtain ⟨k1,k2⟩:=appF_DR (R':=R1) (w':=w') (n:=(TB e).n) (len:=len) (m:=m) (f:=f) (g:=g) (C:=fun k=>(olds ++ news).getD k Go.undef) hf1 hg1 (fun i hi j hj=>by
  have hin:(i+1)*(TB e).n≤len*(TB e).n:=Nat.mul_le_mul_right _ hi
  rw [Nat.add_mul,Nat.one_mul] at hin
  show DR R1 w' _ ((olds ++ news).getD (i*(TB e).n+j) Go.undef)
  rw [append_getD,if_pos (by omega)]
  exact (hf2 i hi j hj).go (fun _ h=>h) hne) (fun i hi j hj=>by
  show DR R1 w' _ ((olds ++ news).getD ((len+i)*(TB e).n+j) Go.undef)
  rw [append_getD,if_neg (by rw [hol,Nat.add_mul]; omega),hol,show (len+i)*(TB e).n+j-len*(TB e).n=i*(TB e).n+j by rw [Nat.add_mul]; omega]
  exact (hg2 i hi j hj).go (fun _ h=>h) hne)
 have hid:ρnew ρ1 o1.length w.heap.size o1.length=some w.heap.size:=ρnew_at
 have hnew:w'.heap[w.heap.size]?=some (.cells xs e (0,0)):=by rw [hheap]; simp
 refine ⟨w',grownCap w (len+m) cap e,ρnew ρ1 o1.length w.heap.size,hrun,HR.new hh1 _ xs e hheap hos htp hou fun _=>.inr ⟨w.heap.size,xs,e,hid,hnew,by rw [hsize]; exact Nat.mul_le_mul_right _ hcap,k1,fun i hi j hj=>?_⟩,.of ?_ ?_,hx1.trans hx2⟩
 ·have hin:(i+1)*(TB e).n≤(len+m)*(TB e).n:=Nat.mul_le_mul_right _ hi
  rw [Nat.add_mul,Nat.one_mul] at hin
  rw [hC _ (by omega)]
  exact k2 i hi j hj
 ·simp [live,← hlen]
 ·have:=VR.row (R:=R1) (id:=o1.length) (sz:=(TB e).n) (off:=0) (len:=len+m) hid hnew hcap (by rw [hsize,Nat.zero_add]; exact Nat.le_refl _) (grownCap_le_maxLen w _ _ _ (by show len+m≤9223372036854775807; omega))
  rw [Nat.zero_mul,hlen] at this
  rw [hlen]
  exact this
theorem app_grow_run (hT:TOk P TB) {ty tx e:TypeId} (he:(TB ty).k=.slice e) {len cap m:Nat} {base:Option Addr} {y:Value} {olds news:List Value} (hs:Src P (TB e).n tx y m news w)
  (hol:olds.length=len*(TB e).n) (hold:(Builtin.firstCells (TB e).n len (.slice base len cap)).run P w.drew=.ok olds.toArray w.drew) (hgr:cap<len+m) (hby:1≤(TB e).bytes) (hb:(len+m)*(TB e).bytes≤140737488355328) (tz:TypeId) :
  ∃ w' cap' xs,(Builtin.append_ #[ty,tx] tz #[.slice base len cap,y]).run P w=.ok (.slice (some ⟨w.heap.size,0,none⟩) (len+m) cap') w'∧w'.heap=w.heap.push (.cells xs e (0,0))∧w'.os=w.os∧w'.tape=w.tape∧w'.output=w.output ∧
   len+m≤cap'∧xs.size=cap'*(TB e).n∧cap'≤9223372036854775807∧∀ k,k<(len+m)*(TB e).n→xs.getD k Go.undef=(olds ++ news).getD k Go.undef:=by
 obtain ⟨hu,hbd⟩:=hT.slice he
 obtain ⟨ie,ze,i1,i2,i5,i3,i4,_⟩:=hT.info hbd
 have h63:len+m≤140737488355328:=Nat.le_trans (Nat.le_mul_of_pos_right _ hby) hb
 have hrun:=run_append_grow_src (P:=P) w ty tx tz e ie ze hu i1 i3 base len cap olds (by rw [i2]; exact hold) y m news (by rw [i2]; exact hs) hgr (by omega) (by rw [i5]; exact growslice_fits hgr hb)
 have hcap:=grownCap_ge w (len+m) cap e
 generalize hxs:(olds ++ news).toArray ++ Builtin.zeroCells ze.cells (grownCap w (len+m) cap e-(len+m))=xs at hrun
 have hze:ze.cells.size=(TB e).n:=by
  obtain ⟨z1,_⟩:=zOk_CR (R:=fun _=>False) (w:=w) _ _ i4
  rw [← hT.zlen hbd,← z1,Array.length_toList]
 have hnl:news.length=m*(TB e).n:=hs.newsLen
 have hsize:xs.size=grownCap w (len+m) cap e*(TB e).n:=by
  rw [← hxs,Array.size_append,size_zeroCells,hze]
  simp only [List.size_toArray,List.length_append,hol,hnl]
  rw [← Nat.add_mul,← Nat.add_mul]
  congr 1
  omega
 have hC:∀ k,k<(len+m)*(TB e).n→xs.getD k Go.undef=(olds ++ news).getD k Go.undef:=by
  intro k hk
  have hk2:k<(olds ++ news).length:=by rw [List.length_append,hol,hnl,← Nat.add_mul]; exact hk
  rw [← hxs,Array.getD_eq_getD_getElem?,Array.getElem?_append_left (by simpa using hk2),List.getElem?_toArray,← List.getD_eq_getElem?_getD]
 exact ⟨_,_,xs,hrun,rfl,rfl,rfl,rfl,hcap,hsize,grownCap_le_maxLen w _ _ _ (by show len+m≤9223372036854775807; omega),hC⟩
theorem srcN_ok (hh:HR Gl o ρ R w) {tx e':TypeId} (hk:P.underlying tx=some (.slice e')) {s m jd:Nat} (hn:1≤s) {g:Nat→List AV} (e:o[jd]?=some (.nrow s m g none)) {y:Value} (hv:TR ρ o R w (.row jd s 0 m) y) :
  ∃ news:List Value,Src P s tx y m news w∧(∀ i,i<m→(g i).length=s)∧∀ i,i<m→∀ j,j<s→NR ρ R w jd (i*s+j) ((g i).getD j .undef) (news.getD (i*s+j) Go.undef):=by
 rcases hv.rowL (live_nrow e (Nat.beq_refl _)) with ⟨h0,b,rfl⟩|⟨b,cs,ty,cap,rfl,hr,hc,h1,h2,_⟩
 ·subst h0
  exact ⟨[],src_none hk b,fun i hi=>absurd hi (Nat.not_lt_zero _),fun i hi=>absurd hi (Nat.not_lt_zero _)⟩
 ·rcases hh.obj jd _ e with ⟨h3,_⟩|⟨b',xs,ty',q1,q2,q3,q4,q5,_⟩
  ·subst h3
   exact ⟨[],src_none hk _,fun i hi=>absurd hi (Nat.not_lt_zero _),fun i hi=>absurd hi (Nat.not_lt_zero _)⟩
  ·rw [hr] at q1
   injection q1 with q1
   subst q1
   rw [hc] at q2
   injection q2 with q2
   injection q2 with q2 q6 q7
   subst q2
   rw [Nat.zero_mul]
   have hcell:∀ k,k<m*s→w.cell? ((⟨b,0,none⟩:Addr).add k)=some (cs.getD k Go.undef):=fun k hk=>by
    rw [Addr.add_mid,Nat.zero_add]
    exact cell_block hc (by omega)
   have hdm:∀ k,k<m*s→k / s<m∧k % s<s:=fun k hk=>⟨Nat.div_lt_of_lt_mul (by rw [Nat.mul_comm]; exact hk),Nat.mod_lt _ (by omega)⟩
   refine ⟨(List.range (m*s)).map fun k=>cs.getD k Go.undef,Src.ofSlice w hk ⟨b,0,none⟩ m cap _ (by simp) (fun k u hu=>?_) (fun u hu=>?_),q4,fun i hi j hj=>?_⟩
   ·rw [List.getElem?_map] at hu
    by_cases hk':k<m*s
    ·rw [List.getElem?_range hk'] at hu
     simp at hu
     subst hu
     rw [hcell k hk']
     simp [Array.getD_eq_getD_getElem?]
    ·rw [List.getElem?_eq_none (by simpa using hk')] at hu
     simp at hu
   ·obtain ⟨k,hk',rfl⟩:=List.mem_map.1 hu
    have hk':k<m*s:=by simpa using hk'
    have:=NR_one (q5 (k / s) (hdm k hk').1 (by simp) (k % s) (hdm k hk').2)
    rwa [Nat.div_add_mod' k s] at this
   ·have hin:(i+1)*s≤m*s:=Nat.mul_le_mul_right _ hi
    rw [Nat.add_mul,Nat.one_mul] at hin
    have e:((List.range (m*s)).map fun k=>cs.getD k Go.undef).getD (i*s+j) Go.undef=cs.getD (i*s+j) Go.undef:=by
     rw [List.getD_eq_getElem?_getD,List.getElem?_map,List.getElem?_range (by omega)]
     rfl
    rw [e]
    exact q5 i hi (by simp) j hj
theorem app_zero (hT:TOk P TB) {ty tx e:TypeId} (he:(TB ty).k=.slice e) {y:Value} (hs:Src P (TB e).n tx y 0 [] w) (b:Option Addr) (tz:TypeId):(Builtin.append_ #[ty,tx] tz #[.slice b 0 0,y]).run P w=.ok (.slice b 0 0) w:=by
 obtain ⟨hu,hbd⟩:=hT.slice he
 obtain ⟨ie,ze,i1,i2,_⟩:=hT.info hbd
 have h1:=hs.cells
 rw [← i2] at h1
 rcases hs.kind with ⟨e',hk⟩|hk <;> cases b <;> simp [Builtin.append_,run_underlying hu,run_underlying hk,sizeOf,typeInfo,i1,hs.len,h1,storeCells]
theorem first_none {n:Nat} (b:Option Addr) (c:Nat) (w:World):(Builtin.firstCells n 0 (.slice b 0 c)).run P w=.ok (([]:List Value).toArray) w:=by
 cases b with
 |none=>simp [Builtin.firstCells]
 |some ad=>exact run_firstCells_some w n 0 ad 0 c [] (by simp) (fun _ _ h=>by simp at h)
theorem append_exec {dst:Option Tmp} {as:Array Operand} {ts:Array TypeId} {tz:TypeId} {pos:String} {af:Array Edge} {g:Option (Nat × Bool)} {x y:Operand} {y':Value} {w':World} (ha:as=#[x,y]) (h:(Builtin.append_ ts tz #[a.eval x,a.eval y]).run P w=.ok y' w') :
  (execOp a.eval ⟨dst,.call { callee:=.builtin .append,args:=as,argTypes:=ts },tz,pos,af,g⟩).run P w=.ok (.value y') w':=by
 subst ha
 simp [execOp,resolve,invoke,builtin,h]
theorem g_append (hT:TOk P TB) (hh:HR Gl o ρ R w) (hf:FR ρ o R w t a) {as:Array Operand} {ts:Array TypeId} {call} {K:AV→List Obj→Prop} (h:efP TB call (.call { callee:=.builtin .append,args:=as,argTypes:=ts }) t o K) :
  Goes P Gl ρ o R w a (.call { callee:=.builtin .append,args:=as,argTypes:=ts }) K:=by
 simp only [efP] at h
 split at h
 ·rename_i s x ty tx ea et
  obtain ⟨os,ox,hax,es,ex⟩:=two_of_map ea
  have hts:ts=#[ty,tx]:=by
   obtain ⟨l⟩:=ts
   simp only at et
   rw [et]
  subst hts
  split at h
  ·rename_i e e' he he'
   obtain ⟨hut,_⟩:=hT.slice he'
   split at h
   ·rename_i m g lo hi hsrc
    obtain ⟨hq,hX⟩:=of_cond_true h
    clear h
    rw [Bool.and_eq_true] at hq
    have q1:=Nat.le_of_ble_eq_true hq.1
    have q2:=Nat.le_of_ble_eq_true hq.2
    have hvx:=hf.at ex
    split at hX
    ·obtain ⟨⟨hl,hby⟩,hK⟩:=hX
     obtain ⟨news,s1,s2,s3⟩:=src_ok hh hut q2 hsrc hl hvx
     obtain ⟨b,ey⟩:=(hf.at es).nils
     by_cases hm:m=0
     ·subst hm
      have:news=[]:=List.eq_nil_of_length_eq_zero (by rw [s1.newsLen]; simp)
      subst this
      exact goes_value (fun _ _ _ _ _=>append_exec hax (by rw [ey]; exact app_zero hT he s1 b _)) hK (hh.empty _ _) (.of (by simp [live]) (.row0 _ _ _ _)) (EX.empty _ _)
     ·intro dst tz pos af gd next Q hn
      obtain ⟨w',cap',ρ',r1,r2,r3,r4⟩:=app_grow (f:=fun _=>[]) (len:=0) (cap:=0) (base:=b) (olds:=[]) hT he hh (EX.refl o ρ R w) rfl s1 s2 s3 (by simp) (first_none b 0 _) (fun i hi=>absurd hi (Nat.not_lt_zero _)) (fun i hi=>absurd hi (Nat.not_lt_zero _)) q2 (by omega) q1 (by rw [Nat.zero_add]; exact hby) tz
      have hF:appF 0 (fun _=>([]:List AV)) g=g:=by funext i; rfl
      rw [hF,Nat.zero_add] at r2 r3 r4
      unfold Oper.wp
      rw [append_exec hax (by rw [ey]; exact r1),Oper.upon_value]
      rw [Nat.zero_add]
      exact hn _ _ _ _ _ _ hK r2 r3 r4
    ·rename_i id sz off len
     split at hX
     ·rename_i s n f eo
      obtain ⟨hq',hY⟩:=of_cond_true hX
      clear hX
      obtain ⟨⟨hl,hln,hby⟩,hK⟩:=hY
      simp only [Bool.and_eq_true] at hq'
      obtain ⟨⟨g1,g2⟩,g3⟩:=hq'
      have g1':=Nat.eq_of_beq_eq_true g1
      have g2':=Nat.eq_of_beq_eq_true g2
      have g3':=Nat.eq_of_beq_eq_true g3
      subst g1' g3'
      obtain ⟨news,s1,s2,s3⟩:=src_ok hh hut q2 hsrc hl hvx
      have hid:id<o.length:=(List.getElem?_eq_some_iff.1 eo).1
      have hR1:∀ b,R b→Radd R ρ id b:=fun b hb=>.inl hb
      have mono:∀ {u:AV} {z:Value},DR R w u z→DR (Radd R ρ id) w u z:=fun h=>h.go hR1 fun _ _=>rfl
      have hlen1:(o.set id .dead).length=o.length:=by simp
      have grow:∀ {cap:Nat} {base:Option Addr} {olds:List Value},a.eval os=.slice base len cap→olds.length=len*(TB e).n→(Builtin.firstCells (TB e).n len (.slice base len cap)).run P w.drew=.ok olds.toArray w.drew→(∀ i,i<len→(f i).length=(TB e).n) →
        (∀ i,i<len→∀ j,j<(TB e).n→DR R w ((f i).getD j .undef) (olds.getD (i*(TB e).n+j) Go.undef))→cap<len+m→Goes P Gl ρ o R w a (.call { callee:=.builtin .append,args:=as,argTypes:=#[ty,tx] }) K:=by
       intro cap base olds ey ho hfc hf1 hf2 hgr dst tz pos af gd next Q hn
       obtain ⟨w',cap',ρ',r1,r2,r3,r4⟩:=app_grow (f:=f) hT he (hh.frz id) (EX.frz id) hlen1 s1 s2 (fun i hi j hj=>mono (s3 i hi j hj)) ho hfc hf1 (fun i hi j hj=>mono (hf2 i hi j hj)) q2 hgr q1 hby tz
       unfold Oper.wp
       rw [append_exec hax (by rw [ey]; exact r1),Oper.upon_value]
       rw [g2'] at hK
       exact hn _ _ _ _ _ _ hK r2 r3 r4
      rcases (hf.at es).row eo g1 with ⟨h0,b,ey⟩|⟨b,cs,tz0,cap,ey,hr,hc,h1,h2,h9⟩
      ·subst h0
       by_cases hm:m=0
       ·subst hm
        have:news=[]:=List.eq_nil_of_length_eq_zero (by rw [s1.newsLen]; simp)
        subst this
        refine goes_value (fun _ _ _ _ _=>append_exec hax (by rw [ey]; exact app_zero hT he s1 b _)) hK ((hh.frz id).empty _ _) (.of (by simp [live]) (.row0 _ _ _ _)) ((EX.frz id).trans (EX.empty _ _))
       ·exact grow (cap:=0) (base:=b) (olds:=[]) ey (by simp) (first_none b 0 _) (fun i hi=>absurd hi (Nat.not_lt_zero _)) (fun i hi=>absurd hi (Nat.not_lt_zero _)) (by omega)
      ·rcases hh.obj id _ eo with ⟨h3,h4⟩|⟨b',xs,tz',p1,p2,p3,p4,p5⟩
       ·rw [hr] at h4; cases h4
       ·rw [hr] at p1
        injection p1 with p1
        subst p1
        rw [hc] at p2
        injection p2 with p2
        injection p2 with p2 p6 p7
        subst p2 p6
        rw [Nat.zero_mul] at ey
        rw [Nat.zero_add] at h2
        rw [g2'] at p3 p4 p5 h2
        have hin:∀ i,i<n→(i+1)*(TB e).n≤n*(TB e).n:=fun i hi=>Nat.mul_le_mul_right _ hi
        by_cases hroom:len+m≤cap
        ·have hcap:cap*(TB e).n≤cs.size:=h2
         have hnl:news.length=m*(TB e).n:=s1.newsLen
         have hW:len*(TB e).n+news.length≤cs.size:=by
          rw [hnl,← Nat.add_mul]
          exact Nat.le_trans (Nat.mul_le_mul_right _ hroom) hcap
         obtain ⟨ie,ze,i1,i2,_⟩:=hT.info (hT.slice he).2
         have hid2:ρmove ρ id o.length o.length=some b:=(ρmove_new (n:=o.length) (x:=(o.length:Ix)) rfl (Nat.ne_of_gt hid)).trans hr
         have hm1:=HR.move hh hid (ob:=.row (TB e).n len f) (fun _=>.inr ⟨b,cs,tz0,hid2,hc,Nat.le_trans (Nat.mul_le_mul_right _ hln) p3,fun i hi=>p4 i (by omega),fun i hi j hj=>p5 i (by omega) j hj⟩) fun _ _ _ _ e=>by rw [eo] at e; cases e
         have hx1:=EX.move hh hid (.row (TB e).n len f)
         have hex:(o.set id .dead ++ [Obj.row (TB e).n len f])[o.length]?=some (.row (TB e).n len f):=by
          rw [List.getElem?_append_right (by simp)]; simp
         have hset:∀ ob',(o.set id .dead ++ [Obj.row (TB e).n len f]).set o.length ob'=o.set id .dead ++ [ob']:=by
          intro ob'
          rw [List.set_append_right _ _ (by simp)]
          simp
         obtain ⟨ys,c1,c2,c3,c4,c5,c6,c7,c8⟩:=setCells_facts news (len*(TB e).n) hc hW
         have hw:WR w (w.setCells b (len*(TB e).n) news) b cs ys tz0:=⟨hc,c1,c2,c4,c5,c6,c7,c8⟩
         have hx2:=EX.wr (o:=o.set id .dead ++ [Obj.row (TB e).n len f]) (R:=R) (ob':=.row (TB e).n (len+m) (appF len f g)) hw hid2 hex ⟨_,_,rfl⟩
         have hm2:=HR.wr hm1 (ob':=.row (TB e).n (len+m) (appF len f g)) hw hid2 hex ⟨_,_,rfl⟩ fun _=>.inr (by
          have hne:∀ c,R c→(w.setCells b (len*(TB e).n) news).heap[c]?=w.heap[c]?:=fun c hR=>c4 c fun e=>(hh.ro c hR).2 id (e ▸ hr)
          obtain ⟨k1,k2⟩:=appF_DR (R':=R) (w':=w.setCells b (len*(TB e).n) news) (n:=(TB e).n) (len:=len) (m:=m) (f:=f) (g:=g) (C:=fun k=>ys.getD k Go.undef) (fun i hi=>p4 i (by omega)) s2 (fun i hi j hj=>by
           have h8:(i+1)*(TB e).n≤len*(TB e).n:=Nat.mul_le_mul_right _ hi
           rw [Nat.add_mul,Nat.one_mul] at h8
           show DR R _ _ (ys.getD (i*(TB e).n+j) Go.undef)
           rw [c3,if_neg (by omega)]
           exact (p5 i (by omega) j hj).go (fun _ h=>h) hne) (fun i hi j hj=>by
           have h8:(i+1)*(TB e).n≤m*(TB e).n:=Nat.mul_le_mul_right _ hi
           rw [Nat.add_mul,Nat.one_mul] at h8
           show DR R _ _ (ys.getD ((len+i)*(TB e).n+j) Go.undef)
           rw [c3,Nat.add_mul,if_pos (by omega),show len*(TB e).n+i*(TB e).n+j-len*(TB e).n=i*(TB e).n+j by omega]
           exact (s3 i hi j hj).go (fun _ h=>h) hne)
          exact ⟨b,ys,tz0,hid2,c1,by rw [c2]; exact Nat.le_trans (Nat.mul_le_mul_right _ hroom) hcap,k1,k2⟩)
         rw [hset] at hx2 hm2
         have hrun:∀ tz,(Builtin.append_ #[ty,tx] tz #[.slice (some ⟨b,0,none⟩) len cap,a.eval ox]).run P w=.ok (.slice (some ⟨b,0,none⟩) (len+m) cap) (w.setCells b (len*(TB e).n) news):=fun tz=>by
          have:=run_append_room_src (P:=P) w ty tx tz e ie (hT.slice he).1 i1 b 0 len cap (a.eval ox) m news (by rw [i2]; exact s1) hroom (fun j hj=>by rw [i2,cell_block hc (by omega)]; rfl) (fun j hj=>by simp [World.frozen?,hc])
          rwa [i2,Nat.zero_add] at this
         rw [g2'] at hK
         refine goes_value (fun _ _ _ _ _=>append_exec hax (by rw [ey]; exact hrun _)) hK hm2 (.of ?_ ?_) (hx1.trans hx2)
         ·simp [live]
         ·have:=VR.row (R:=R) (id:=o.length) (sz:=(TB e).n) (off:=0) (len:=len+m) hid2 c1 hroom (by rw [c2,Nat.zero_add]; exact hcap) h9
          rwa [Nat.zero_mul] at this
        ·refine grow (cap:=cap) (base:=some ⟨b,0,none⟩) (olds:=(List.range (len*(TB e).n)).map fun k=>cs.getD k Go.undef) ey (by simp) ?_ (fun i hi=>p4 i (by omega)) (fun i hi j hj=>?_) (by omega)
         ·refine run_firstCells_some w.drew (TB e).n len ⟨b,0,none⟩ len cap _ (by simp) fun j v hv=>?_
          rw [List.getElem?_map] at hv
          by_cases hj:j<len*(TB e).n
          ·rw [List.getElem?_range hj] at hv
           simp at hv
           subst hv
           rw [Addr.add_mid,Nat.zero_add]
           have:len*(TB e).n≤n*(TB e).n:=Nat.mul_le_mul_right _ hln
           have h10:=cell_block (w:=w.drew) hc (Nat.lt_of_lt_of_le hj (Nat.le_trans this p3))
           rw [h10]
           simp [Array.getD_eq_getD_getElem?]
          ·rw [List.getElem?_eq_none (by simpa using hj)] at hv; simp at hv
         ·have h7:=hin i (by omega)
          have h8:(i+1)*(TB e).n≤len*(TB e).n:=Nat.mul_le_mul_right _ hi
          rw [Nat.add_mul,Nat.one_mul] at h8
          have h9:((List.range (len*(TB e).n)).map fun k=>cs.getD k Go.undef).getD (i*(TB e).n+j) Go.undef=cs.getD (i*(TB e).n+j) Go.undef:=by
           rw [List.getD_eq_getElem?_getD,List.getElem?_map,List.getElem?_range (by omega)]
           rfl
          rw [h9]
          exact p5 i (by omega) j hj
     ·exact hX.elim
    ·exact hX.elim
   ·split at h
    ·rename_i id sz off len jd sy oy ly _
     split at h
     ·rename_i s n f r m g eo ej
      obtain ⟨hq,hX⟩:=of_cond_true h
      clear h
      simp only [Bool.and_eq_true,Bool.not_eq_true'] at hq
      obtain ⟨⟨⟨⟨⟨⟨⟨⟨hb1,hn1⟩,g1⟩,g2⟩,g3⟩,g4⟩,g5⟩,g6⟩,g7⟩:=hq
      have hb1:=Nat.le_of_ble_eq_true hb1
      have hn1:=Nat.le_of_ble_eq_true hn1
      have g1:=Nat.eq_of_beq_eq_true g1
      have g2:=Nat.eq_of_beq_eq_true g2
      have g3:=Nat.eq_of_beq_eq_true g3
      have g4:=Nat.eq_of_beq_eq_true g4
      have g5:=Nat.eq_of_beq_eq_true g5
      have g6:=Nat.eq_of_beq_eq_true g6
      have hne:id≠jd:=fun e=>by subst e; rw [Nat.beq_refl] at g7; cases g7
      subst g1 g3 g4 g6 g5
      obtain ⟨⟨hln,hlm,hby⟩,hK⟩:=hX
      subst hln hlm
      rw [g2] at eo ej hK
      have hvs:=hf.at es
      have hvx:=hf.at ex
      rw [g2] at hvs hvx
      obtain ⟨news,s1,s2,s3⟩:=srcN_ok hh hut hn1 ej hvx
      have hnl:news.length=ly*(TB e).n:=s1.newsLen
      have hlo:((o.set id .dead).set jd .dead).length=o.length:=by simp
      have hlast:((o.set id .dead).set jd .dead ++ [Obj.nrow (TB e).n (len+ly) (appF len f g) none])[o.length]?=some (.nrow (TB e).n (len+ly) (appF len f g) none):=by
       rw [List.getElem?_append_right (by rw [hlo]; exact Nat.le_refl _),hlo]; simp
      have hid:=(List.getElem?_eq_some_iff.1 eo).1
      have hjd:=(List.getElem?_eq_some_iff.1 ej).1
      -- the machine's two ways,put together
      have fin:∀ {B:Nat} {xs':Array Value} {w':World} {cap:Nat} {tz0:TypeId},(ρ id=some B∨B=w.heap.size)→AppW w w' B xs' tz0→(∀ tz,(Builtin.append_ #[ty,tx] tz #[a.eval os,a.eval ox]).run P w=.ok (.slice (some ⟨B,0,none⟩) (len+ly) cap) w')→len+ly≤cap→cap*(TB e).n≤xs'.size→cap≤9223372036854775807 →
        (∀ i,i<len→(f i).length=(TB e).n)→(∀ i,i<len→∀ j,j<(TB e).n→NR ρ R w id (i*(TB e).n+j) ((f i).getD j .undef) (xs'.getD (i*(TB e).n+j) Go.undef)) →
        (∀ i,i<ly→∀ j,j<(TB e).n→xs'.getD ((len+i)*(TB e).n+j) Go.undef=news.getD (i*(TB e).n+j) Go.undef)→Goes P Gl ρ o R w a (.call { callee:=.builtin .append,args:=as,argTypes:=#[ty,tx] }) K:=by
       intro B xs' w' cap tz0 hB hw hrun hcap hsz h63 hf1 hf2 hg2
       have hlen:(len+ly)*(TB e).n≤xs'.size:=Nat.le_trans (Nat.mul_le_mul_right _ hcap) hsz
       refine goes_value (fun _ _ _ _ _=>append_exec hax (hrun _)) hK (HR.app hh eo ej hne hB hw hlen hf1 s2 hf2 fun i hi j hj=>by rw [hg2 i hi j hj]; exact s3 i hi j hj) (.of (live_nrow hlast (Nat.beq_refl _)) ?_) (EX.app hB hw)
       have:=VR.row (R:=R) (id:=o.length) (sz:=(TB e).n) (off:=0) (len:=len+ly) (ρapp_ob (ρ:=ρ) (off:=len*(TB e).n) (B:=B) (show o.length≠id by omega) (show o.length≠jd by omega)) hw.new hcap (by rw [Nat.zero_add]; exact hsz) h63
       rwa [Nat.zero_mul] at this
      have grow:∀ {cap:Nat} {base:Option Addr} {olds:List Value},a.eval os=.slice base len cap→olds.length=len*(TB e).n→(Builtin.firstCells (TB e).n len (.slice base len cap)).run P w.drew=.ok olds.toArray w.drew→(∀ i,i<len→(f i).length=(TB e).n) →
        (∀ i,i<len→∀ j,j<(TB e).n→NR ρ R w id (i*(TB e).n+j) ((f i).getD j .undef) (olds.getD (i*(TB e).n+j) Go.undef))→cap<len+ly→Goes P Gl ρ o R w a (.call { callee:=.builtin .append,args:=as,argTypes:=#[ty,tx] }) K:=by
       intro cap base olds ey ho hfc hf1 hf2 hgr dst tz pos af gd next Q hnx
       obtain ⟨w',cap',xs,r1,r2,r3,r4,r5,r6,r7,r8,r9⟩:=app_grow_run hT he s1 ho hfc hgr hb1 hby tz
       have hw:AppW w w' w.heap.size xs e:=⟨by rw [r2]; simp,by rw [r2]; simp,fun b hb _=>by rw [r2,Array.getElem?_push_lt (by omega),Array.getElem?_eq_getElem hb],fun _ _ h=>by simp at h,r3,r4,r5⟩
       have hlen:(len+ly)*(TB e).n≤xs.size:=by rw [r7]; exact Nat.mul_le_mul_right _ r6
       have k1:=HR.app hh eo ej hne (.inr rfl) hw hlen hf1 s2 (fun i hi j hj=>by
        have hin:(i+1)*(TB e).n≤len*(TB e).n:=Nat.mul_le_mul_right _ hi
        have hin2:len*(TB e).n≤(len+ly)*(TB e).n:=Nat.mul_le_mul_right _ (by omega)
        rw [Nat.add_mul,Nat.one_mul] at hin
        rw [r9 _ (by omega),append_getD,if_pos (by omega)]
        exact hf2 i hi j hj) fun i hi j hj=>by
        have hin:(i+1)*(TB e).n≤ly*(TB e).n:=Nat.mul_le_mul_right _ hi
        rw [Nat.add_mul,Nat.one_mul] at hin
        rw [r9 _ (by rw [Nat.add_mul,Nat.add_mul]; omega),append_getD,if_neg (by rw [ho,Nat.add_mul]; omega),ho,show (len+i)*(TB e).n+j-len*(TB e).n=i*(TB e).n+j by rw [Nat.add_mul]; omega]
        exact s3 i hi j hj
       unfold Oper.wp
       rw [append_exec hax (by rw [ey]; exact r1),Oper.upon_value]
       refine hnx _ _ _ _ _ _ hK k1 (.of (live_nrow hlast (Nat.beq_refl _)) ?_) (EX.app (.inr rfl) hw)
       have:=VR.row (R:=R) (id:=o.length) (sz:=(TB e).n) (off:=0) (len:=len+ly) (ρapp_ob (ρ:=ρ) (off:=len*(TB e).n) (B:=w.heap.size) (show o.length≠id by omega) (show o.length≠jd by omega)) hw.new r6 (by rw [Nat.zero_add,r7]; exact Nat.le_refl _) r8
       rwa [Nat.zero_mul] at this
      rcases hvs.rowL (live_nrow eo (Nat.beq_refl _)) with ⟨h0,b,ey⟩|⟨b,cs,tz0,cap,ey,hr,hc,h1,h2,h9⟩
      ·subst h0
       by_cases hm:ly=0
       ·subst hm
        have:news=[]:=List.eq_nil_of_length_eq_zero (by rw [hnl]; simp)
        subst this
        have hK':K (.row o.length (TB e).n 0 0) ((o.set id .dead).set jd .dead ++ [.nrow (TB e).n 0 (appF 0 f g) none]):=hK
        have k1:=((hh.frz id).frz jd).emptyN (TB e).n (appF 0 f g)
        have k2:=(EX.frz (o:=o) (ρ:=ρ) (R:=R) (w:=w) id).trans ((EX.frz jd).trans (EX.emptyO (.nrow (TB e).n 0 (appF 0 f g) none)))
        refine goes_value (fun _ _ _ _ _=>append_exec hax (by rw [ey]; exact app_zero hT he s1 b _)) hK' k1 (.of (live_nrow hlast (Nat.beq_refl _)) (.row0 _ _ _ _)) k2
       ·exact grow (cap:=0) (base:=b) (olds:=[]) ey (by simp) (first_none b 0 _) (fun i hi=>absurd hi (Nat.not_lt_zero _)) (fun i hi=>absurd hi (Nat.not_lt_zero _)) (by omega)
      ·rcases hh.obj id _ eo with ⟨_,_,h4⟩|⟨b',xs,tz',p1,p2,p3,p4,p5,_⟩
       ·rw [hr] at h4; cases h4
       ·rw [hr] at p1
        injection p1 with p1
        subst p1
        rw [hc] at p2
        injection p2 with p2
        injection p2 with p2 p6 p7
        subst p2 p6
        rw [Nat.zero_mul] at ey
        rw [Nat.zero_add] at h2
        by_cases hroom:len+ly≤cap
        ·have hW:len*(TB e).n+news.length≤cs.size:=by
          rw [hnl,← Nat.add_mul]
          exact Nat.le_trans (Nat.mul_le_mul_right _ hroom) h2
         obtain ⟨ie,ze,i1,i2,_⟩:=hT.info (hT.slice he).2
         obtain ⟨ys,c1,c2,c3,c4,c5,c6,c7,c8⟩:=setCells_facts news (len*(TB e).n) hc hW
         have hw:AppW w (w.setCells b (len*(TB e).n) news) b ys tz0:=⟨c1,by rw [c5]; exact Nat.le_refl _,fun c _ hcb=>c4 c hcb,fun zs t0 hz=>by
          rw [hc] at hz
          injection hz with hz
          injection hz with z1 z2 _
          subst z1 z2
          exact ⟨rfl,c2⟩,c6,c7,c8⟩
         have hrun:∀ tz,(Builtin.append_ #[ty,tx] tz #[a.eval os,a.eval ox]).run P w=.ok (.slice (some ⟨b,0,none⟩) (len+ly) cap) (w.setCells b (len*(TB e).n) news):=fun tz=>by
          have:=run_append_room_src (P:=P) w ty tx tz e ie (hT.slice he).1 i1 b 0 len cap (a.eval ox) ly news (by rw [i2]; exact s1) hroom (fun j hj=>by rw [i2,cell_block hc (by omega)]; rfl) (fun j hj=>by simp [World.frozen?,hc])
          rw [ey]
          rwa [i2,Nat.zero_add] at this
         refine fin (.inl hr) hw hrun hroom (by rw [c2]; exact h2) h9 p4 (fun i hi j hj=>?_) fun i hi j hj=>?_
         ·have h8:(i+1)*(TB e).n≤len*(TB e).n:=Nat.mul_le_mul_right _ hi
          rw [Nat.add_mul,Nat.one_mul] at h8
          rw [c3,if_neg (by omega)]
          exact p5 i hi (by simp) j hj
         ·have h8:(i+1)*(TB e).n≤ly*(TB e).n:=Nat.mul_le_mul_right _ hi
          rw [Nat.add_mul,Nat.one_mul] at h8
          rw [c3,Nat.add_mul,if_pos (by omega),show len*(TB e).n+i*(TB e).n+j-len*(TB e).n=i*(TB e).n+j by omega]
        ·refine grow (cap:=cap) (base:=some ⟨b,0,none⟩) (olds:=(List.range (len*(TB e).n)).map fun k=>cs.getD k Go.undef) ey (by simp) ?_ p4 (fun i hi j hj=>?_) (by omega)
         ·refine run_firstCells_some w.drew (TB e).n len ⟨b,0,none⟩ len cap _ (by simp) fun j v hv=>?_
          rw [List.getElem?_map] at hv
          by_cases hj:j<len*(TB e).n
          ·rw [List.getElem?_range hj] at hv
           simp at hv
           subst hv
           rw [Addr.add_mid,Nat.zero_add]
           have h10:=cell_block (w:=w.drew) hc (Nat.lt_of_lt_of_le hj p3)
           rw [h10]
           simp [Array.getD_eq_getD_getElem?]
          ·rw [List.getElem?_eq_none (by simpa using hj)] at hv; simp at hv
         ·have h8:(i+1)*(TB e).n≤len*(TB e).n:=Nat.mul_le_mul_right _ hi
          rw [Nat.add_mul,Nat.one_mul] at h8
          have h9:((List.range (len*(TB e).n)).map fun k=>cs.getD k Go.undef).getD (i*(TB e).n+j) Go.undef=cs.getD (i*(TB e).n+j) Go.undef:=by
           rw [List.getD_eq_getElem?_getD,List.getElem?_map,List.getElem?_range (by omega)]
           rfl
          rw [h9]
          exact p5 i hi (by simp) j hj
     ·exact h.elim
    ·exact h.elim
  ·exact h.elim
 ·exact h.elim
end
end Go.Proofs.YtgdbhjmpkkbnnaaGreatDoor.Vc
end
section
/- Part L of the engine: calls; one operation; a region's operations, one after the other. -/
namespace Go.Proofs.YtgdbhjmpkkbnnaaGreatDoor.Vc
theorem forceL_eq:∀ (l:List AV) (K:List AV→Prop),forceL l K=K l
 |[],K=>rfl
 |v :: r,K=>by
  unfold forceL
  rw [forceL_eq r]
  cases v <;> rfl
theorem forceN_eq:∀ (n:Nat) (K:Nat→Prop),forceN n K=K n
 |0,_=>rfl
 |1,_=>rfl
 |2,_=>rfl
 |3,_=>rfl
 |4,_=>rfl
 |5,_=>rfl
 |6,_=>rfl
 |7,_=>rfl
 |8,_=>rfl
 |9,_=>rfl
 |10,_=>rfl
 |11,_=>rfl
 |12,_=>rfl
 |13,_=>rfl
 |14,_=>rfl
 |15,_=>rfl
 |_+16,_=>rfl
theorem force_eq (v:AV) (K:AV→Prop):force v K=K v:=by
 cases v <;> simp only [force,forceN_eq,forceL_eq]
theorem forceO_eq:∀ (o:List Obj) (K:List Obj→Prop),forceO o K=K o
 |[],K=>rfl
 |x :: r,K=>by
  unfold forceO
  rw [forceO_eq r]
  cases x with
  |box cs=>exact forceL_eq cs _
  |row s n f=>rfl
  |nrow s n f x =>
   cases x with
   |none=>rfl
   |some p=>exact forceL_eq p.2 _
  |dead=>rfl
section
variable {P:Program} {TB:TypeId→TI} {ρ:Ix→Option Nat} {o:List Obj} {R:Nat→Prop} {w:World} {t:Fr} {a:Act} {Gl:List (Nat × Go.Obj)} {call:FuncId→List AV→List Obj→(AV→List Obj→Prop)→Prop}
def Rets (P:Program) (Gl:List (Nat × Go.Obj)) (ρ:Ix→Option Nat) (o:List Obj) (R:Nat→Prop) (w:World) (f:FuncId) (xs:Array Value) (K:AV→List Obj→Prop):Prop :=
 Calls P f xs w fun e w'=>∃ r x o' ρ' R',e=.returned x∧K r o'∧HR Gl o' ρ' R' w'∧TR ρ' o' R' w' r x∧EX o ρ R w o' ρ' R' w'
def ArgsR (ρ:Ix→Option Nat) (o:List Obj) (R:Nat→Prop) (w:World) (vs:List AV) (xs:Array Value):Prop:=xs.size=vs.length∧∀ j,j<vs.length→TR ρ o R w (vs.getD j .undef) (xs.getD j Go.undef)
def HasBody (P : Program) (f : FuncId) : Prop := ∃ fn c, P.funcs[f]? = some fn ∧ (fn.name == "runtime.NumGoroutine") = false ∧ fn.body = some c
structure CallOk (P:Program) (Gl:List (Nat × Go.Obj)) (call:FuncId→List AV→List Obj→(AV→List Obj→Prop)→Prop):Prop where
 has:∀ f vs o K,call f vs o K→HasBody P f
 ok:∀ f vs o K,call f vs o K→∀ ρ R w xs,HR Gl o ρ R w→ArgsR ρ o R w vs xs→Rets P Gl ρ o R w f xs K
 mono:∀ f vs o (K K':AV→List Obj→Prop),(∀ r o',K r o'→K' r o')→call f vs o K→call f vs o K'
theorem FR.args (hf:FR ρ o R w t a) (as:Array Operand):ArgsR ρ o R w (as.toList.map (ev t)) (as.map a.eval):=by
 refine ⟨by simp,fun j hj=>?_⟩
 simp only [List.length_map,Array.length_toList] at hj
 have:=hf.evv (as[j]'hj)
 simpa [List.getD_eq_getElem?_getD,Array.getD_eq_getD_getElem?,hj] using this
theorem ArgsR.app {vs us:List AV} {xs ys:Array Value} (h:ArgsR ρ o R w vs xs) (k:ArgsR ρ o R w us ys):ArgsR ρ o R w (vs ++ us) (xs ++ ys):=by
 refine ⟨by simp [h.1,k.1],fun j hj=>?_⟩
 rw [List.length_append] at hj
 by_cases hjv:j<vs.length
 ·have h1:(vs ++ us).getD j .undef=vs.getD j .undef:=by simp [List.getD_eq_getElem?_getD,List.getElem?_append_left hjv]
  have h2:(xs ++ ys).getD j Go.undef=xs.getD j Go.undef:=by simp only [Array.getD_eq_getD_getElem?]; rw [Array.getElem?_append_left (by rw [h.1]; exact hjv)]
  rw [h1,h2]
  exact h.2 j hjv
 ·have h1:(vs ++ us).getD j .undef=us.getD (j-vs.length) .undef:=by simp [List.getD_eq_getElem?_getD,List.getElem?_append_right (Nat.le_of_not_lt hjv)]
  have h2:(xs ++ ys).getD j Go.undef=ys.getD (j-vs.length) Go.undef:=by simp only [Array.getD_eq_getD_getElem?]; rw [Array.getElem?_append_right (by rw [h.1]; omega),h.1]
  rw [h1,h2]
  exact k.2 _ (by omega)
theorem run_enter {f:FuncId} (h:HasBody P f) (args:Array Value) (w:World):(callFunc f args).run P w=.ok (.enter f args) w:=by
 obtain ⟨fn,c,h1,h2,h3⟩:=h
 have h2' : fn.name ≠ "runtime.NumGoroutine" := by simpa using h2
 simp [callFunc,h1,h2',h3]
theorem goes_enter {op:Op} {f:FuncId} {xs:Array Value} {K:AV→List Obj→Prop} (hr:∀ (dst:Option Tmp) (ty:TypeId) (pos:String) (af:Array Edge) (g:Option (Nat × Bool)),(execOp a.eval ⟨dst,op,ty,pos,af,g⟩).run P w=.ok (.enter f xs) w)
  (h:Rets P Gl ρ o R w f xs K):Goes P Gl ρ o R w a op K:=by
 intro dst ty pos af g next Q hn
 unfold Oper.wp
 rw [hr,Oper.upon_enter]
 refine Calls.mono h fun e w' he=>?_
 obtain ⟨r,x,o',ρ',R',rfl,h1,h2,h3,h4⟩:=he
 exact hn r x o' ρ' R' w' h1 h2 h3 h4
theorem TR.fnv {f:FuncId} {first cap:List AV} {y:Value} (h:TR ρ o R w (.fn f first cap) y) (hl:(liveL o first && liveL o cap)=true):∃ xs ys,y=.func (.func f) xs ys∧ArgsR ρ o R w first xs∧ArgsR ρ o R w cap ys:=by
 have hl':live o (.fn f first cap)=true:=by simpa [live] using hl
 rw [Bool.and_eq_true] at hl
 have hv:=h.vr hl'
 cases hv with
 |data h=>cases h
 |fn f l m xs ys h1 h2 h3 h4=>exact ⟨xs,ys,rfl,⟨h1,fun j hj=>.of (liveL_iff.1 hl.1 _ (getD_mem hj)) (h2 j hj)⟩,⟨h3,fun j hj=>.of (liveL_iff.1 hl.2 _ (getD_mem hj)) (h4 j hj)⟩⟩
theorem ef_sound (hT:TOk P TB) (hC:CallOk P Gl call) (hh:HR Gl o ρ R w) (hf:FR ρ o R w t a) {op:Op} {K:AV→List Obj→Prop} (h:efP TB call op t o K):Goes P Gl ρ o R w a op K:=by
 cases op with
 |box ty x=>exact g_box hT hh hf h
 |alloc ty=>exact g_alloc hT hh h
 |store ty x y=>exact g_store hT hh hf h
 |buildSlice ty n ps=>exact g_buildSlice hT hh hf h
 |makeSlice ty l c=>exact g_makeSlice hT hh hf h
 |call c =>
  obtain ⟨callee,args,ats⟩:=c
  cases callee with
  |builtin b =>
   cases b with
   |append=>exact g_append hT hh hf h
   |_=>simp [efP] at h
  |value x =>
   cases x with
   |func f =>
    simp only [efP,forceL_eq] at h
    refine goes_enter (f:=f) (xs:=args.map a.eval) (fun _ _ _ _ _=>?_) (hC.ok _ _ _ _ h ρ R w _ hh (hf.args args))
    have:=run_enter (hC.has _ _ _ _ h) (args.map a.eval) w
    simp only [execOp,resolve,Deferred.ofValue,Act.eval,invoke]
    simpa using this
   |tmp x =>
    simp only [efP] at h
    split at h
    ·rename_i f first cap hx
     obtain ⟨hl,h⟩:=of_cond_true h
     rw [forceL_eq] at h
     obtain ⟨xs,ys,hy,h1,h2⟩:=((hx ▸ hf x:TR ρ o R w (.fn f first cap) _)).fnv hl
     refine goes_enter (f:=f) (xs:=xs ++ args.map a.eval ++ ys) (fun _ _ _ _ _=>?_) (hC.ok _ _ _ _ h ρ R w _ hh ((h1.app (hf.args args)).app h2))
     have:=run_enter (hC.has _ _ _ _ h) (xs ++ args.map a.eval ++ ys) w
     have he:a.eval (.tmp x)=.func (.func f) xs ys:=hy
     simp only [execOp,resolve,he,Deferred.ofValue,invoke]
     simpa using this
    ·exact h.elim
   |const v=>simp [efP] at h
   |global g=>simp [efP] at h
  |invoke r n=>simp [efP] at h
 |_=>simp [efP] at h
end
end Go.Proofs.YtgdbhjmpkkbnnaaGreatDoor.Vc
end
section
/- Part M of the engine: one operation of a region; a region whose order is given. -/
namespace Go.Proofs.YtgdbhjmpkkbnnaaGreatDoor.Vc
section
variable {P:Program} {TB:TypeId→TI} {ρ:Ix→Option Nat} {o:List Obj} {R:Nat→Prop} {w:World} {t:Fr} {a:Act} {Gl:List (Nat × Go.Obj)} {call:FuncId→List AV→List Obj→(AV→List Obj→Prop)→Prop} {n:Nat}
structure SR (Gl:List (Nat × Go.Obj)) (ρ:Ix→Option Nat) (o:List Obj) (R:Nat→Prop) (w:World) (t:Fr) (a:Act) (n:Nat):Prop where
 hh:HR Gl o ρ R w
 hf:FR ρ o R w t a
 sz:a.tmps.size=n
 df:a.defers=[]
def putF (t:Fr) (d:Option Tmp) (v:AV):Fr:=match d with
 |some d=>upd t d v
 |none=>t
theorem put_getD {d:Tmp} {y:Value} (hd:d<a.tmps.size) (x:Nat):(a.put (some d) y).tmps.getD x Go.undef=if x=d then y else a.tmps.getD x Go.undef:=by
 simp only [Act.put,Array.getD_eq_getD_getElem?]
 by_cases h:x=d
 ·subst h; simp [hd]
 ·rw [if_neg h,Array.getElem?_setIfInBounds_ne (Ne.symm h)]
theorem FR.go {o':List Obj} {ρ':Ix→Option Nat} {R':Nat→Prop} {w':World} (hf:FR ρ o R w t a) (hx:EX o ρ R w o' ρ' R' w') (hh:HR Gl o ρ R w):FR ρ' o' R' w' t a:=fun x=>(hf x).go hx hh.ro
theorem FR.put (hf:FR ρ o R w t a) {dst:Option Tmp} {v:AV} {y:Value} (hd:∀ d,dst=some d→d<a.tmps.size) (hv:TR ρ o R w v y):FR ρ o R w (putF t dst v) (a.put dst y):=by
 cases dst with
 |none=>exact hf
 |some d =>
  intro x
  rw [put_getD (hd d rfl)]
  show TR ρ o R w (upd t d v x) _
  unfold upd
  cases h:Nat.beq x d with
  |true=>rw [if_pos (Nat.eq_of_beq_eq_true h)]; exact hv
  |false=>rw [if_neg (Nat.ne_of_beq_eq_false h)]; exact hf x
theorem SR.put (hs:SR Gl ρ o R w t a n) {dst:Option Tmp} {v:AV} {y:Value} (hd:∀ d,dst=some d→d<n) {o':List Obj} {ρ':Ix→Option Nat} {R':Nat→Prop} {w':World} (hh:HR Gl o' ρ' R' w') (hx:EX o ρ R w o' ρ' R' w') (hv:TR ρ' o' R' w' v y) :
  SR Gl ρ' o' R' w' (putF t dst v) (a.put dst y) n:=by
 refine ⟨hh,(hs.hf.go hx hs.hh).put (by rw [hs.sz]; exact hd) hv,?_,?_⟩
 ·cases dst <;> simp [Act.put,hs.sz]
 ·cases dst <;> simp [Act.put,hs.df]
def runP (TB:TypeId→TI) (call:FuncId→List AV→List Obj→(AV→List Obj→Prop)→Prop) (op:Op) (t:Fr) (o:List Obj) (K:AV→List Obj→Prop):Prop:=match isRd op with
 |true=>rdP TB op t o fun v=>K v o
 |false=>efP TB call op t o K
theorem opP_eq (full:Array Oper) (x:Oper) (t:Fr) (o:List Obj) (K:Fr→List Obj→Prop):opP TB call full x t o K=match x.guard with
  |none=>runP TB call x.op t o fun v o'=>K (putF t x.dst v) o'
  |some (j,want)=>match (((full[j]?).bind (·.dst)).map t).getD .undef with
   |.bool b=>Br b (cond want (runP TB call x.op t o fun v o'=>K (putF t x.dst v) o') (K (putF t x.dst (.tup [])) o)) (cond want (K (putF t x.dst (.tup [])) o) (runP TB call x.op t o fun v o'=>K (putF t x.dst v) o'))
   |.tup []=>K (putF t x.dst (.tup [])) o
   |_=>False:=by
 obtain ⟨dst,op,ty,pos,af,g⟩:=x
 cases dst <;> simp only [opP,runP,force_eq,forceO_eq,putF] <;> rfl
theorem run_sound (hT:TOk P TB) (hC:CallOk P Gl call) (hs:SR Gl ρ o R w t a n) {op:Op} {K:AV→List Obj→Prop} (h:runP TB call op t o K):Goes P Gl ρ o R w a op K:=by
 unfold runP at h
 cases hr:isRd op with
 |true =>
  rw [hr] at h
  obtain ⟨v,y,hK,hv,hx⟩:=rd_sound hT hs.hh hs.hf hr h
  exact goes_value hx hK hs.hh hv (EX.refl _ _ _ _)
 |false =>
  rw [hr] at h
  exact ef_sound hT hC hs.hh hs.hf h
theorem yielded_of (hs:SR Gl ρ o R w t a n) {full:Array Oper} {j:Nat} {b:Bool} (h:(((full[j]?).bind (·.dst)).map t).getD .undef=.bool b):yielded full a.tmps j=some b:=by
 unfold yielded
 cases hd:(full[j]?).bind (·.dst) with
 |none=>rw [hd] at h; simp at h
 |some d =>
  rw [hd] at h
  simp only [Option.map_some,Option.getD_some] at h
  have h1:a.tmps.getD d Go.undef=.bool b:=by
   have:=hs.hf d
   rw [h] at this
   exact this.bool
  simp only [Option.bind_some]
  cases h3:a.tmps[d]? with
  |none=>rw [Array.getD_eq_getD_getElem?,h3] at h1; simp [undef] at h1
  |some u =>
   rw [Array.getD_eq_getD_getElem?,h3] at h1
   simp only [Option.getD_some] at h1
   subst h1
   rfl
theorem yielded_not (hs:SR Gl ρ o R w t a n) {full:Array Oper} {j:Nat} (h:(((full[j]?).bind (·.dst)).map t).getD .undef=.tup []):yielded full a.tmps j=none:=by
 unfold yielded
 cases hd:(full[j]?).bind (·.dst) with
 |none=>rfl
 |some d =>
  rw [hd] at h
  simp only [Option.map_some,Option.getD_some] at h
  have h1:∃ xs,a.tmps.getD d Go.undef=.tuple xs:=by
   have:=hs.hf d
   rw [h] at this
   obtain ⟨xs,e,_⟩:=this.tup rfl
   exact ⟨xs,e⟩
  obtain ⟨xs,h1⟩:=h1
  simp only [Option.bind_some]
  cases h3:a.tmps[d]? with
  |none=>rfl
  |some u =>
   rw [Array.getD_eq_getD_getElem?,h3] at h1
   simp only [Option.getD_some] at h1
   subst h1
   rfl
theorem op_sound (hT:TOk P TB) (hC:CallOk P Gl call) (hs:SR Gl ρ o R w t a n) {full:Array Oper} {x:Oper} {K:Fr→List Obj→Prop} (hd:∀ d,x.dst=some d→d<n) (h:opP TB call full x t o K) {next:Act→World→Prop} {Q:Exit→Act→World→Prop}
  (hn:∀ t' o' ρ' R' w' a',K t' o'→SR Gl ρ' o' R' w' t' a' n→EX o ρ R w o' ρ' R' w'→next a' w') :
  if Region.wanted x (yielded full a.tmps) then x.wp P a w next Q∨(x.asks P a w∧LetsOut Q) else next (a.put x.dst Go.undef) w:=by
 rw [opP_eq] at h
 have go:runP TB call x.op t o (fun v o'=>K (putF t x.dst v) o')→x.wp P a w next Q:=by
  intro h
  obtain ⟨dst,op,ty,pos,af,g⟩:=x
  exact run_sound hT hC hs h dst ty pos af g next Q fun v y o' ρ' R' w' hK hh hv hx=>hn _ o' ρ' R' w' _ hK (hs.put hd hh hx hv) hx
 have skip:K (putF t x.dst (.tup [])) o→next (a.put x.dst Go.undef) w:=fun h=>hn _ o ρ R w _ h (hs.put hd hs.hh (EX.refl _ _ _ _) ⟨rfl,fun _=>.tup [] #[] rfl fun j hj=>absurd hj (Nat.not_lt_zero _)⟩) (EX.refl _ _ _ _)
 split at h
 ·rename_i hg
  have:Region.wanted x (yielded full a.tmps)=true:=by simp [Region.wanted,hg]
  rw [if_pos this]
  exact .inl (go h)
 ·rename_i j want hg
  split at h
  ·rename_i b hb
   have hy:=yielded_of hs hb
   have hw:Region.wanted x (yielded full a.tmps)=(b == want):=by
    unfold Region.wanted
    simp only [hg,hy]
    cases b <;> cases want <;> rfl
   cases b <;> cases want
   ·rw [hw,if_pos (by rfl)]; exact .inl (go (h.f rfl))
   ·rw [hw,if_neg (by simp)]; exact skip (h.f rfl)
   ·rw [hw,if_neg (by simp)]; exact skip (h.t rfl)
   ·rw [hw,if_pos (by rfl)]; exact .inl (go (h.t rfl))
  ·rename_i hb
   have hy:=yielded_not hs hb
   have hw:Region.wanted x (yielded full a.tmps)=false:=by
    unfold Region.wanted
    simp only [hg,hy]
    rfl
   rw [hw,if_neg (by simp)]
   exact skip h
  ·exact h.elim
theorem ops_sound (hT:TOk P TB) (hC:CallOk P Gl call) {full:Array Oper} {Q:Exit→Act→World→Prop}:∀ (l:List Oper) {ρ:Ix→Option Nat} {o:List Obj} {R:Nat→Prop} {w:World} {t:Fr} {a:Act} {K:Fr→List Obj→Prop},SR Gl ρ o R w t a n →
  (∀ x∈l,∀ d,x.dst=some d→d<n)→opsP TB call full l t o K→(∀ t' o' ρ' R' w' a',K t' o'→SR Gl ρ' o' R' w' t' a' n→EX o ρ R w o' ρ' R' w'→Q .normal a' w')→wpList P full Q l a w
 |[],ρ,o,R,w,t,a,_K,hs,_,h,hn=>hn t o ρ R w a h hs (EX.refl _ _ _ _)
 |x :: r,_ρ,_o,_R,_w,_t,_a,_K,hs,hd,h,hn=>op_sound hT hC hs (hd x List.mem_cons_self) h fun _t' _o' _ρ' _R' _w' _a' hK hs' hx=>ops_sound hT hC r hs' (fun y hy=>hd y (List.mem_cons_of_mem _ hy)) hK fun t2 o2 ρ2 R2 w2 a2 hK2 hs2 hx2=>hn t2 o2 ρ2 R2 w2 a2 hK2 hs2 (hx.trans hx2)
end
end Go.Proofs.YtgdbhjmpkkbnnaaGreatDoor.Vc
end
section
/- Part N of the engine: what an operation looks at: its operands' slots, and the local objects that they lead to. -/
namespace Go.Proofs.YtgdbhjmpkkbnnaaGreatDoor.Vc
mutual
def ids:AV→List Nat
 |.row id _ _ _=>[id]
 |.ptr id _=>[id]
 |.eptr id _ _ _=>[id]
 |.agg l=>idsL l
 |.tup l=>idsL l
 |.fn _ l m=>idsL l ++ idsL m
 |_=>[]
def idsL:List AV→List Nat
 |[]=>[]
 |v :: r=>ids v ++ idsL r
end
def bare:Op→Bool
 |.move _|.assign _|.pick ..|.binOp ..|.unOp ..=>true
 |_=>false
def idsOf (t:Fr):List Operand→List Nat
 |[]=>[]
 |x :: r=>ids (ev t x) ++ idsOf t r
def opIds (op:Op) (t:Fr):List Nat:=cond (bare op) [] (idsOf t op.operands.toList)
def keep (fl:List Nat) (o o':List Obj):Prop:=∀ id,id∈fl→o'[id]?=o[id]?
theorem keep.mono {fl gl:List Nat} {o o':List Obj} (h:keep fl o o') (k:∀ i,i∈gl→i∈fl):keep gl o o':=fun i hi=>h i (k i hi)
theorem keep.refl (fl:List Nat) (o:List Obj):keep fl o o:=fun _ _=>rfl
mutual
theorem live_keep {o o':List Obj}:∀ v:AV,keep (ids v) o o'→live o' v=live o v
 |.row id _ _ _,h=>by simp only [live,h id (by simp [ids])]
 |.ptr id _,h=>by simp only [live,h id (by simp [ids])]
 |.eptr id _ _ _,h=>by simp only [live,h id (by simp [ids])]
 |.agg l,h=>by simp only [live]; exact liveL_keep l (h.mono fun i hi=>by simpa [ids] using hi)
 |.tup l,h=>by simp only [live]; exact liveL_keep l (h.mono fun i hi=>by simpa [ids] using hi)
 |.fn _ l m,h=>by
  simp only [live]
  rw [liveL_keep l (h.mono fun i hi=>by simp [ids,hi]),liveL_keep m (h.mono fun i hi=>by simp [ids,hi])]
 |.undef,_=>rfl|.int ..,_=>rfl|.bool _,_=>rfl|.str _,_=>rfl|.sl ..,_=>rfl|.ro _,_=>rfl|.nils,_=>rfl|.nilp,_=>rfl|.nilf,_=>rfl|.nili,_=>rfl|.ifc,_=>rfl
theorem liveL_keep {o o':List Obj}:∀ l:List AV,keep (idsL l) o o'→liveL o' l=liveL o l
 |[],_=>rfl
 |v :: r,h=>by
  simp only [liveL]
  rw [live_keep v (h.mono fun i hi=>by simp [idsL,hi]),liveL_keep r (h.mono fun i hi=>by simp [idsL,hi])]
end
section
variable {TB:TypeId→TI} {o o':List Obj} {t t':Fr} {call:FuncId→List AV→List Obj→(AV→List Obj→Prop)→Prop}
theorem cellsAt_keep {v:AV} (h:keep (ids v) o o'):cellsAt o' v=cellsAt o v:=by
 cases v <;> simp only [cellsAt]
 rw [h _ (by simp [ids])]
theorem cellOk_keep {v:AV} (h:keep (ids v) o o'):cellOk o' v=cellOk o v:=by
 have:=live_keep v h
 cases v <;> simp only [cellOk] at this ⊢ <;> first|rfl|exact this
theorem buildCells_keep {fs:List (Nat × TypeId)}:∀ {ps:List (Nat × Operand)} {cs:List AV},keep (idsOf t (ps.map (·.2))) o o'→buildCells TB o' fs t cs ps=buildCells TB o fs t cs ps
 |[],cs,_=>rfl
 |(i,x) :: r,cs,h=>by
  have h1:keep (ids (ev t x)) o o':=h.mono fun i hi=>by simp [idsOf,hi]
  have h2:keep (idsOf t (r.map (·.2))) o o':=h.mono fun i hi=>by simp [idsOf,hi]
  simp only [buildCells]
  split
  ·rw [cellOk_keep h1,buildCells_keep h2]
  ·rfl
theorem rd_keep {op:Op} (h:keep (opIds op t) o o') (K:AV→Prop):rdP TB op t o' K=rdP TB op t o K:=by
 cases op with
 |move x=>rfl
 |assign x=>rfl
 |pick a b c=>rfl
 |binOp b ty x y tz=>rfl
 |unOp u ty x=>cases u <;> rfl
 |build ty ps =>
  have h1:keep (idsOf t (ps.toList.map (·.2))) o o':=h
  simp only [rdP,buildCells_keep h1]
 |load ty x =>
  have h1:keep (ids (ev t x)) o o':=h.mono fun i hi=>by simp [opIds,bare,idsOf,Op.operands,hi]
  simp only [rdP]
  generalize ev t x=v at h1
  have h2:=cellsAt_keep h1
  cases v <;> simp only at h2 ⊢ <;> first|rfl|rw [h2]|rw [h1 _ (by simp [ids])]
 |nilCheck x =>
  have h1:keep (ids (ev t x)) o o':=h.mono fun i hi=>by simp [opIds,bare,idsOf,Op.operands,hi]
  simp only [rdP]
  generalize ev t x=v at h1
  have h2:=live_keep v h1
  cases v <;> first|rfl|(simp only; rw [h2])
 |fieldAddr ty x f =>
  have h1:keep (ids (ev t x)) o o':=h.mono fun i hi=>by simp [opIds,bare,idsOf,Op.operands,hi]
  simp only [rdP]
  generalize ev t x=v at h1
  have h2:=live_keep v h1
  cases v <;> first|rfl|(simp only; rw [h2])
 |indexAddr ty x i =>
  have h1:keep (ids (ev t x)) o o':=h.mono fun i hi=>by simp [opIds,bare,idsOf,Op.operands,hi]
  simp only [rdP]
  generalize ev t x=v at h1
  have h2:=live_keep v h1
  generalize (TB ty).k=k1
  generalize ev t i=u
  cases k1 <;> cases v <;> cases u <;> first|rfl|(simp only; rw [h2])
 |index ty x i=>rfl
 |convert s d x =>
  have h1:keep (ids (ev t x)) o o':=h.mono fun i hi=>by simp [opIds,bare,idsOf,Op.operands,hi]
  simp only [rdP]
  generalize ev t x=v at h1
  generalize (TB s).k=k1
  generalize (TB d).k=k2
  cases k1 <;> cases v <;> cases k2 <;> first|rfl|(simp only; rw [h1 _ (by simp [ids])])
 |slice ty x lo hi mx =>
  have h1:keep (ids (ev t x)) o o':=h.mono fun i hi=>by simp [opIds,bare,idsOf,Op.operands,hi]
  cases mx with
  |some m=>rfl
  |none =>
   simp only [rdP]
   generalize ev t x=v at h1
   have h2:=live_keep v h1
   generalize (TB ty).k=k1
   cases k1 <;> cases v <;> first|rfl|(simp only; rw [h2])
 |field ty x f =>
  have h1:keep (ids (ev t x)) o o':=h.mono fun i hi=>by simp [opIds,bare,idsOf,Op.operands,hi]
  simp only [rdP]
  generalize ev t x=v at h1
  generalize (TB ty).k=k1
  cases k1 <;> cases v <;> first|rfl|(simp only; rw [liveL_keep _ (h1.mono fun i hi=>by simpa [ids] using hi)])
 |extract x i =>
  have h1:keep (ids (ev t x)) o o':=h.mono fun i hi=>by simp [opIds,bare,idsOf,Op.operands,hi]
  simp only [rdP]
  generalize ev t x=v at h1
  cases v with
  |tup l =>
   simp only
   rw [liveL_keep l (h1.mono fun i hi=>by simpa [ids] using hi)]
  |_=>rfl
 |makeFunc fn first cap =>
  cases fn with
  |func f =>
   have hl:∀ (xs:List Operand),keep (idsOf t xs) o o'→liveL o' (xs.map (ev t))=liveL o (xs.map (ev t)):=by
    intro xs hk
    refine liveL_keep _ (hk.mono fun i hi=>?_)
    induction xs with
    |nil=>exact hi
    |cons x r ih =>
     simp only [List.map_cons,idsL,List.mem_append] at hi
     simp only [idsOf,List.mem_append]
     rcases hi with hi|hi
     ·exact .inl hi
     ·exact .inr (ih (hk.mono fun i hi=>by simp [idsOf,hi]) hi)
   have h0:keep (idsOf t (first.toList ++ cap.toList)) o o':=by simpa [opIds,bare,Op.operands] using h
   have ha:∀ (l m:List Operand),idsOf t (l ++ m)=idsOf t l ++ idsOf t m:=by
    intro l m
    induction l with
    |nil=>rfl
    |cons x r ih=>simp [idsOf,ih]
   rw [ha] at h0
   simp only [rdP]
   rw [hl _ (h0.mono fun i hi=>List.mem_append_left _ hi),hl _ (h0.mono fun i hi=>List.mem_append_right _ hi)]
  |_=>rfl
 |call c =>
  obtain ⟨callee,args,ats⟩:=c
  cases callee with
  |builtin b =>
   cases b with
   |len =>
    have h0:keep (idsOf t args.toList) o o':=by simpa [opIds,bare,Op.operands,Call.operands] using h
    simp only [rdP]
    split
    all_goals first|rfl|skip
    rename_i id sz off n ty e1 e2
    have:∀ l:List Operand,l.map (ev t)=[.row id sz off n]→keep (idsOf t l) o o'→live o' (.row id sz off n)=live o (.row id sz off n):=by
     intro l hl hk
     cases l with
     |nil=>cases hl
     |cons x r =>
      simp only [List.map_cons,List.cons.injEq] at hl
      refine live_keep _ (hk.mono fun i hi=>?_)
      rw [← hl.1] at hi
      simp [idsOf,hi]
    rw [this _ e1 h0]
   |_=>rfl
  |_=>rfl
 |_=>rfl
end
end Go.Proofs.YtgdbhjmpkkbnnaaGreatDoor.Vc
end
section
/- Part O of the engine: an operation looks at its operands alone; a reading one yields one value. -/
namespace Go.Proofs.YtgdbhjmpkkbnnaaGreatDoor.Vc
section
variable {TB:TypeId→TI} {o o':List Obj} {t t':Fr} {call:FuncId→List AV→List Obj→(AV→List Obj→Prop)→Prop}
def agree (t t':Fr) (l:List Operand):Prop:=∀ x,x∈l→ev t' x=ev t x
theorem agree.map {l:List Operand} (h:agree t t' l):l.map (ev t')=l.map (ev t):=List.map_congr_left fun x hx=>h x hx
theorem buildCells_ev {fs:List (Nat × TypeId)}:∀ {ps:List (Nat × Operand)} {cs:List AV},agree t t' (ps.map (·.2))→buildCells TB o fs t' cs ps=buildCells TB o fs t cs ps
  | [],cs,_=>rfl
  | (i,x) :: r,cs,h=>by
    have h1:ev t' x=ev t x:=h x (by simp)
    have h2:agree t t' (r.map (·.2)):=fun y hy=>h y (by simp only [List.map_cons,List.mem_cons]; exact .inr hy)
    simp only [buildCells,h1]
    split
    · rw [buildCells_ev h2]
    · rfl
theorem elemsOf_ev {n:Nat}:∀ {ps:List (Nat × Operand)} {j:Nat},agree t t' (ps.map (·.2))→elemsOf o n t' ps j=elemsOf o n t ps j
  | [],j,_=>rfl
  | (i,x) :: r,j,h=>by
    have h1:ev t' x=ev t x:=h x (by simp)
    have h2:agree t t' (r.map (·.2)):=fun y hy=>h y (by simp only [List.map_cons,List.mem_cons]; exact .inr hy)
    simp only [elemsOf,h1,elemsOf_ev h2]
theorem bound_ev {x:Option Operand} {d:Int} (h:agree t t' x.toList):bound t' x d=bound t x d:=by
  cases x with
  | none=>rfl
  | some x=>simp only [bound,h x (by simp)]
theorem rd_ev {op:Op} (h:agree t t' op.operands.toList) (K:AV→Prop):rdP TB op t' o K=rdP TB op t o K:=by
  cases op with
  | move x=>simp only [rdP,h x (by simp [Op.operands])]
  | assign x=>simp only [rdP,h x (by simp [Op.operands])]
  | pick a b c=>simp only [rdP,h a (by simp [Op.operands]),h b (by simp [Op.operands]),h c (by simp [Op.operands])]
  | binOp b ty x y tz=>simp only [rdP,h x (by simp [Op.operands]),h y (by simp [Op.operands])]
  | unOp u ty x=>cases u <;> simp only [rdP,h x (by simp [Op.operands])]
  | build ty ps=>simp only [rdP,buildCells_ev (TB:=TB) (o:=o) (ps:=ps.toList) h]
  | load ty x=>simp only [rdP,h x (by simp [Op.operands])]
  | nilCheck x=>simp only [rdP,h x (by simp [Op.operands])]
  | fieldAddr ty x f=>simp only [rdP,h x (by simp [Op.operands])]
  | indexAddr ty x i=>simp only [rdP,h x (by simp [Op.operands]),h i (by simp [Op.operands])]
  | index ty x i=>simp only [rdP,h x (by simp [Op.operands]),h i (by simp [Op.operands])]
  | convert s d x=>simp only [rdP,h x (by simp [Op.operands])]
  | slice ty x lo hi mx =>
    cases mx with
    | some m=>rfl
    | none =>
      have h1:∀ d,bound t' lo d=bound t lo d:=fun d=>bound_ev fun y hy=>h y (by simp [Op.operands] at hy ⊢; simp [hy])
      have h2:∀ d,bound t' hi d=bound t hi d:=fun d=>bound_ev fun y hy=>h y (by simp [Op.operands] at hy ⊢; simp [hy])
      simp only [rdP,h x (by simp [Op.operands]),h1,h2]
  | extract x i=>simp only [rdP,h x (by simp [Op.operands])]
  | field ty x f=>simp only [rdP,h x (by simp [Op.operands])]
  | makeFunc fn first cap =>
    cases fn with
    | func f =>
      have h1:agree t t' first.toList:=fun y hy=>h y (by simp [Op.operands] at hy ⊢; exact .inl hy)
      have h2:agree t t' cap.toList:=fun y hy=>h y (by simp [Op.operands] at hy ⊢; exact .inr hy)
      simp only [rdP,h1.map,h2.map]
    | _=>rfl
  | call c =>
    obtain ⟨callee,args,ats⟩:=c
    cases callee with
    | builtin b =>
      have h1:agree t t' args.toList:=fun y hy=>h y (by simpa [Op.operands,Call.operands] using hy)
      cases b <;> simp only [rdP,h1.map]
    | _=>rfl
  | _=>rfl
theorem ef_ev {op:Op} (h:agree t t' op.operands.toList) (K:AV→List Obj→Prop):efP TB call op t' o K=efP TB call op t o K:=by
  cases op with
  | box ty x=>simp only [efP,h x (by simp [Op.operands])]
  | alloc ty=>rfl
  | store ty x y=>simp only [efP,h x (by simp [Op.operands]),h y (by simp [Op.operands])]
  | buildSlice ty n ps =>
    have hc:∀ (k:Nat) (A:Prop) (B:List AV→List Nat→Prop→Prop),chW o k t' ps A B=chW o k t ps A B:=by
      intro k A B
      have h':∀ x,x∈ps.toList.map (·.2)→ev t' x=ev t x:=h
      unfold chW
      split
      · rename_i x e
        rw [h' x (by rw [e]; simp)]
      · rfl
    simp only [efP,elemsOf_ev (o:=o) (ps:=ps.toList) h,hc]
  | makeSlice ty x y=>simp only [efP,h x (by simp [Op.operands]),h y (by simp [Op.operands])]
  | call c =>
    obtain ⟨callee,args,ats⟩:=c
    cases callee with
    | builtin b =>
      have h1:agree t t' args.toList:=fun y hy=>h y (by simpa [Op.operands,Call.operands] using hy)
      cases b <;> simp only [efP,h1.map]
    | value x =>
      have h1:agree t t' args.toList:=fun y hy=>h y (by simp only [Op.operands,Call.operands,Array.toList_append,List.mem_append]; exact .inr hy)
      cases x with
      | func f=>simp only [efP,h1.map]
      | tmp z =>
        have h2:t' z=t z:=h (.tmp z) (by simp [Op.operands,Call.operands])
        simp only [efP,h1.map,h2]
      | _=>rfl
    | _=>rfl
  | _=>rfl
theorem Br.mono {x:Bool} {A B A' B':Prop} (h:Br x A B) (ha:A→A') (hb:B→B'):Br x A' B':=⟨fun q=>ha (h.t q),fun q=>hb (h.f q)⟩
theorem loadV_det {ti:TI} {cs:List AV} {K:AV→Prop} (h:loadV ti cs K):∃ v,K v∧∀ K':AV→Prop,K' v→loadV ti cs K':=by
  unfold loadV at h
  split at h
  · rename_i fs e
    obtain ⟨hb,h⟩:=of_cond_true h
    exact ⟨_,h,fun K' h'=>by unfold loadV; rw [e]; simp only [hb,cond_true]; exact h'⟩
  · exact h.elim
  · rename_i e1 e2
    split at h
    · exact ⟨_,h,fun K' h'=>by
        unfold loadV
        split
        · rename_i fs e; exact absurd e (e1 _)
        · rename_i e; exact absurd e e2
        · exact h'⟩
    · exact h.elim
theorem Wr.det {k:IntKind} {x:Int} {K:AV→Prop} (h:Wr k x K):∃ v,K v∧∀ K':AV→Prop,K' v→Wr k x K':=by
  cases h with
  | ex h hK=>exact ⟨_,hK,fun K' h'=>.ex h h'⟩
  | wr hK=>exact ⟨_,hK,fun K' h'=>.wr h'⟩
theorem binP_det {op:BinOp} {x y:AV} {K:AV→Prop} (h:binP op x y K):∃ v,K v∧∀ K':AV→Prop,K' v→binP op x y K':=by
  unfold binP at h
  split at h
  · cases op <;> simp only [binP] at h ⊢ <;> first
      | exact ⟨_,h.2,fun K' h'=>⟨h.1,h'⟩⟩
      | (obtain ⟨v,h1,h2⟩:=h.2.det
         exact ⟨v,h1,fun K' h'=>⟨h.1,h2 K' h'⟩⟩)
      | (obtain ⟨hb,h⟩:=of_cond_true h
         first
          | (obtain ⟨v,h1,h2⟩:=h.det
             exact ⟨v,h1,fun K' h'=>by simp only [hb,cond_true]; exact h2 K' h'⟩)
          | (obtain ⟨v,h1,h2⟩:=h.2.det
             exact ⟨v,h1,fun K' h'=>by simp only [hb,cond_true]; exact ⟨h.1,h2 K' h'⟩⟩)
          | exact ⟨_,h.2,fun K' h'=>by simp only [hb,cond_true]; exact ⟨h.1,h'⟩⟩
          | exact ⟨_,h,fun K' h'=>by simp only [hb,cond_true]; exact h'⟩)
  · cases op <;> simp only [binP] at h ⊢ <;> first
      | exact h.elim
      | exact ⟨_,h.2,fun K' h'=>⟨h.1,h'⟩⟩
      | exact ⟨_,h,fun K' h'=>h'⟩
  · exact h.elim
theorem ifcP_det {k:TK} {b:BinOp} {c r:Bool} {K:AV→Prop} (h:ifcP k b c r K):∃ v,K v∧∀ K':AV→Prop,K' v→ifcP k b c r K':=by
  unfold ifcP at h
  split at h
  · obtain ⟨rfl,h⟩:=of_cond_true h; exact ⟨_,h,fun K' h'=>h'⟩
  · obtain ⟨rfl,h⟩:=of_cond_true h; exact ⟨_,h,fun K' h'=>h'⟩
  · exact h.elim
theorem rd_det {op:Op} {K:AV→Prop} (h:rdP TB op t o K):∃ v,K v∧∀ K':AV→Prop,K' v→rdP TB op t o K':=by
  cases op with
  | move x=>exact ⟨_,h,fun K' h'=>h'⟩
  | assign x=>exact ⟨_,h,fun K' h'=>h'⟩
  | pick a b c =>
    simp only [rdP] at h ⊢
    split at h
    · rename_i x e
      cases x with
      | true=>exact ⟨_,h.t rfl,fun K' h'=>⟨fun _=>h',fun q=>(by cases q)⟩⟩
      | false=>exact ⟨_,h.f rfl,fun K' h'=>⟨fun q=>(by cases q),fun _=>h'⟩⟩
    · exact h.elim
  | binOp b ty x y tz =>
    simp only [rdP] at h ⊢
    split at h
    · rename_i xs ys e1 e2
      split at h <;> try exact h.elim
      all_goals
        split at h
        · exact ⟨_,h,fun K' h'=>by first|exact h'|(simp [*]; done)|(simp only [*]; exact h')⟩
        · exact h.elim
    · rename_i p q e1 e2
      split at h <;> try exact h.elim
      all_goals exact ⟨_,h,fun K' h'=>by first|exact h'|(simp [*]; done)|(simp only [*]; exact h')⟩
    · exact ifcP_det h
    · exact ifcP_det h
    · rename_i e1 e2
      obtain ⟨v,h1,h2⟩:=binP_det h
      exact ⟨v,h1,fun K' h'=>h2 K' h'⟩
  | unOp u ty x =>
    cases u <;> simp only [rdP] at h ⊢ <;> try exact h.elim
    all_goals
      split at h
      · first|exact h.det|exact ⟨_,h,fun K' h'=>h'⟩
      · exact h.elim
  | build ty ps =>
    simp only [rdP] at h ⊢
    split at h
    · split at h
      · exact ⟨_,h,fun K' h'=>by first|exact h'|(simp [*]; done)|(simp only [*]; exact h')⟩
      · exact h.elim
    · exact h.elim
  | load ty x =>
    simp only [rdP] at h ⊢
    split at h
    · split at h
      · obtain ⟨h0,h⟩:=h
        obtain ⟨hb,h⟩:=of_cond_true h
        obtain ⟨v,h1,h2⟩:=loadV_det h
        exact ⟨v,h1,fun K' h'=>by simp only [hb,cond_true]; exact ⟨h0,h2 K' h'⟩⟩
      · obtain ⟨h0,h⟩:=h
        obtain ⟨hb,h⟩:=of_cond_true h
        obtain ⟨v,h1,h2⟩:=loadV_det h
        exact ⟨v,h1,fun K' h'=>by simp only [hb,cond_true]; exact ⟨h0,h2 K' h'⟩⟩
      · exact h.elim
    · rename_i e1
      split at h
      · obtain ⟨v,h1,h2⟩:=loadV_det h
        exact ⟨v,h1,fun K' h'=>h2 K' h'⟩
      · exact h.elim
  | nilCheck x =>
    simp only [rdP] at h ⊢
    split at h
    · obtain ⟨hb,h⟩:=of_cond_true h
      exact ⟨_,h,fun K' h'=>by simp only [hb,cond_true]; exact h'⟩
    · exact ⟨_,h,fun K' h'=>h'⟩
    · obtain ⟨hb,h⟩:=of_cond_true h
      exact ⟨_,h,fun K' h'=>by simp only [hb,cond_true]; exact h'⟩
    · exact h.elim
  | fieldAddr ty x f =>
    simp only [rdP] at h ⊢
    split at h
    · split at h
      · obtain ⟨hb,h⟩:=of_cond_false h
        simp only [hb,cond_false]
        split at h
        · exact ⟨_,h,fun K' h'=>h'⟩
        · obtain ⟨hb,h⟩:=of_cond_true h
          exact ⟨_,h,fun K' h'=>by simp only [hb,cond_true]; exact h'⟩
        · obtain ⟨hb,h⟩:=of_cond_true h
          exact ⟨_,h,fun K' h'=>by simp only [hb,cond_true]; exact h'⟩
        · exact h.elim
      · exact h.elim
    · exact h.elim
  | indexAddr ty x i =>
    simp only [rdP] at h ⊢
    split at h
    · split at h
      · obtain ⟨h0,h⟩:=h
        obtain ⟨hb,h⟩:=of_cond_true h
        exact ⟨_,h,fun K' h'=>by simp only [hb,cond_true]; exact ⟨h0,h'⟩⟩
      · obtain ⟨h0,h⟩:=h
        obtain ⟨hb,h⟩:=of_cond_true h
        exact ⟨_,h,fun K' h'=>by simp only [hb,cond_true]; exact ⟨h0,h'⟩⟩
      · exact h.elim
    · exact h.elim
  | index ty x i =>
    simp only [rdP] at h ⊢
    split at h
    · exact ⟨_,h.2,fun K' h'=>⟨h.1,h'⟩⟩
    · exact h.elim
  | convert s d x =>
    simp only [rdP] at h ⊢
    split at h
    · exact h.det
    · exact ⟨_,h,fun K' h'=>h'⟩
    · split at h
      · split at h
        · obtain ⟨hb,h⟩:=of_cond_true h
          exact ⟨_,h.2,fun K' h'=>by simp only [hb,cond_true]; exact ⟨h.1,h'⟩⟩
        · exact h.elim
      · exact h.elim
    · exact h.elim
  | slice ty x lo hi mx =>
    cases mx with
    | some m=>exact h.elim
    | none =>
      simp only [rdP] at h ⊢
      split at h
      · split at h
        · exact ⟨_,h.2,fun K' h'=>⟨h.1,h'⟩⟩
        · exact h.elim
      · split at h
        · obtain ⟨h0,h⟩:=h
          obtain ⟨hb,h⟩:=of_cond_true h
          exact ⟨_,h,fun K' h'=>by simp only [hb,cond_true]; exact ⟨h0,h'⟩⟩
        · exact h.elim
      · split at h
        · obtain ⟨h0,h⟩:=h
          obtain ⟨hb,h⟩:=of_cond_true h
          exact ⟨_,h,fun K' h'=>by simp only [hb,cond_true]; exact ⟨h0,h'⟩⟩
        · exact h.elim
      · exact h.elim
  | field ty x f =>
    simp only [rdP] at h ⊢
    split at h
    · split at h
      · obtain ⟨hb,h⟩:=of_cond_true h
        obtain ⟨v,h1,h2⟩:=loadV_det h
        exact ⟨v,h1,fun K' h'=>by simp only [hb,cond_true]; exact h2 K' h'⟩
      · exact h.elim
    · exact h.elim
  | extract x i =>
    simp only [rdP] at h ⊢
    split at h
    · split at h
      · obtain ⟨hb,h⟩:=of_cond_true h
        exact ⟨_,h,fun K' h'=>by simp only [hb,cond_true]; exact h'⟩
      · exact h.elim
    · exact h.elim
  | makeFunc fn first cap =>
    cases fn with
    | func f =>
      simp only [rdP] at h ⊢
      obtain ⟨hb,h⟩:=of_cond_true h
      exact ⟨_,h,fun K' h'=>by simp only [hb,cond_true]; exact h'⟩
    | _=>exact h.elim
  | call c =>
    obtain ⟨callee,args,ats⟩:=c
    cases callee with
    | builtin b =>
      cases b with
      | len =>
        simp only [rdP] at h ⊢
        split at h
        · split at h
          · rename_i e1; exact ⟨_,h,fun K' h'=>h'⟩
          · exact h.elim
        · split at h
          · obtain ⟨hb,h⟩:=of_cond_true h
            exact ⟨_,h,fun K' h'=>by simp only [hb,cond_true]; exact h'⟩
          · exact h.elim
        · split at h
          · exact ⟨_,h,fun K' h'=>h'⟩
          · exact h.elim
        · split at h
          · exact ⟨_,h,fun K' h'=>h'⟩
          · exact h.elim
        · exact h.elim
      | max =>
        simp only [rdP] at h ⊢
        split at h
        · exact ⟨_,h,fun K' h'=>h'⟩
        · exact h.elim
      | min =>
        simp only [rdP] at h ⊢
        split at h
        · exact ⟨_,h,fun K' h'=>h'⟩
        · exact h.elim
      | _=>exact h.elim
    | _=>exact h.elim
  | _=>exact h.elim
end
end Go.Proofs.YtgdbhjmpkkbnnaaGreatDoor.Vc
end
