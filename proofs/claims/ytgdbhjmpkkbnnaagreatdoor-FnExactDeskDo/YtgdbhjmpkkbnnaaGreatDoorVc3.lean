/- Part EG: what bodies with local objects are proved by. -/
import Derived.Test.YtgdbhjmpkkbnnaaGreatDoorVc2
section
namespace Go.Proofs.YtgdbhjmpkkbnnaaGreatDoor.Vc
open Go.Proofs
set_option maxRecDepth 10000
abbrev GG (f:FuncId) (C:GC):Prop:=∀ Gl,GOk Gl→FitsG Tryz.prog Gl f C
theorem fitX (E:Env) (hE:∀ p,p∈E→FF p.1 p.2) (G:EnvG) (hG:∀ p,p∈G→GG p.1 p.2) {X:Type} {args:X→List AV} {pre:X→Prop} {post:X→(AV→Prop)→Prop} {f:FuncId} (fn:Func) (hf:FnOk Tryz.prog f fn) (hM:∀ x (K K':AV→Prop),(∀ r,K r→K' r)→post x K→post x K')
  (hb:∀ x (K:AV→Prop),pre x→post x K→(args x).length≤fn.ntmps∧bodyP (lookT TT) (callX E G) (Dr (lookT TT) (callX E G)) 0 fn (args x) [] (out K)):FF f (con args pre post):=fun Gl h=>fits tOk (callX_ok (fun p hp=>hE p hp Gl h) fun p hp=>hG p hp Gl h) mixed hf hM hb
theorem fitG (E:Env) (hE:∀ p,p∈E→FF p.1 p.2) (G:EnvG) (hG:∀ p,p∈G→GG p.1 p.2) {X:Type} {args:X→List AV} {objs:X→List Obj} {pre:X→Prop} {post:X→(AV→List Obj→Prop)→Prop} {f:FuncId} (fn:Func) (hf:FnOk Tryz.prog f fn)
  (hM:∀ x (K K':AV→List Obj→Prop),(∀ r o',K r o'→K' r o')→post x K→post x K')
  (hb:∀ x (K:AV→List Obj→Prop),pre x→post x K→(args x).length≤fn.ntmps∧bodyP (lookT TT) (callX E G) (Dr (lookT TT) (callX E G)) (objs x).length fn (args x) (objs x) (outG (objs x).length K)):GG f (conG args objs pre post):=fun Gl h=>fitsG tOk (callX_ok (fun p hp=>hE p hp Gl h) fun p hp=>hG p hp Gl h) mixed hf hM hb
theorem fitXE (E:Env) (hE:∀ p,p∈E→FF p.1 p.2) (G:EnvG) (hG:∀ p,p∈G→GG p.1 p.2) {X:Type} {args:X→List AV} {pre:X→Prop} {post:X→(AV→Prop)→Prop} {f:FuncId} (fn:Func) (hf:FnOk Tryz.prog f fn) (hM:∀ x (K K':AV→Prop),(∀ r,K r→K' r)→post x K→post x K')
  (hb:∀ x (K:AV→Prop),pre x→post x K→(args x).length≤fn.ntmps∧bodyP (lookT TT) (callX E G) (Dr (lookT TT) (callX E G)) 0 fn (args x) [] (outE K)):FF f (con args pre post):=fun Gl h=>fitsE tOk (callX_ok (fun p hp=>hE p hp Gl h) fun p hp=>hG p hp Gl h) mixed hf hM hb
def u8r (n:Int):Prop:=0≤n∧n<256
end Go.Proofs.YtgdbhjmpkkbnnaaGreatDoor.Vc
end
section
/- Part W: small functions. -/
namespace Go.Proofs.YtgdbhjmpkkbnnaaGreatDoor.Vc
open Go.Proofs
set_option maxRecDepth 10000
/-! ### szIntS, szMarkS -/
def C34:List AV→(AV→Prop)→Prop:=con (X:=List Int × Int) (fun x=>[slI x.1,.int .i64 x.2]) (fun x=>x.1.length<9223372036854775808∧0≤x.2∧x.2≤9223372036854775807) fun x K=>K (.int .i64 (if x.2-x.1.length<0 then -1 else x.2-x.1.length))
theorem F34:FF 107 C34:=by
 refine fitE [] (by simp) Tryz.f107 ⟨rfl,by decide +kernel,by decide +kernel⟩ (fun _ _ _ hk h=>hk _ h) ?_
 rintro ⟨l,n⟩ K ⟨h1,h2,h3⟩ h
 refine ⟨Nat.le_of_ble_eq_true rfl,?_⟩
 dsimp only at h1 h2 h3 h ⊢
 repeat' (first|refine vz ?_|(conv=>whnf); first|with_reducible first|refine Sp.mk ?_ ?_|refine br_d (fun _=>?_) fun _=>?_|refine vM (fun _=>?_) fun _=>?_)
 ·rw [if_pos (by omega)] at h
  exact h
 ·rw [if_neg (by omega)] at h
  exact h
end Go.Proofs.YtgdbhjmpkkbnnaaGreatDoor.Vc
end
section
/- Part X: the program's small functions. -/
namespace Go.Proofs.YtgdbhjmpkkbnnaaGreatDoor.Vc
open Go.Proofs
set_option maxRecDepth 10000
/-! ### people and crowds -/
abbrev people (p:Int):Prop:=1≤p∧p≤6
def pw (p:Int):Int:=2 ^ p.toNat
abbrev crowd (p c:Int):Prop:=people p∧0≤c∧c<pw p
theorem people_cases {p:Int} (h:people p):p=1∨p=2∨p=3∨p=4∨p=5∨p=6:=by have:=h.1; have:=h.2; omega
theorem pw_sh {p:Int} (h:people p):1*2 ^ min p.toNat IntKind.i64.bits=pw p:=by
 rcases people_cases h with rfl|rfl|rfl|rfl|rfl|rfl <;> rfl
theorem pw_le {p:Int} (h:people p):2≤pw p∧pw p≤64:=by
 rcases people_cases h with rfl|rfl|rfl|rfl|rfl|rfl <;> decide
theorem wsh {p:Int} (h:people p):IntKind.i64.wrap (1*2 ^ min p.toNat IntKind.i64.bits)=1*2 ^ min p.toNat IntKind.i64.bits:=by
 have:=pw_le h
 exact wi64 (by rw [pw_sh h]; omega) (by rw [pw_sh h]; omega)
def C61:List AV→(AV→Prop)→Prop:=con (X:=Int) (fun p=>[.int .i64 p]) i64r fun p K=>K (.bool (decide (people p)))
theorem F61:FF 140 C61:=by
 refine fitE [] (by simp) Tryz.f140 ⟨rfl,by decide +kernel,by decide +kernel⟩ (fun _ _ _ hk h=>hk _ h) ?_
 intro p K h1 h
 refine ⟨Nat.le_of_ble_eq_true rfl,?_⟩
 repeat' (first|refine vz ?_|(conv=>whnf); first|with_reducible first|refine Sp.mk ?_ ?_|refine br_d (fun _=>?_) fun _=>?_|refine vM (fun _=>?_) fun _=>?_)
 all_goals
  first|exact yesD h (by omega)|exact yesT h (by omega)|exact yesF h (by omega)|exact yesN h (by omega)
def C54:List AV→(AV→Prop)→Prop:=con (X:=Int × Int) (fun x=>[.int .i64 x.1,.int .i64 x.2]) (fun x=>i64r x.1∧i64r x.2) fun x K=>K (.bool (decide (crowd x.1 x.2)))
theorem F54:FF 139 C54:=by
 refine fitE [(140,C61)] (by simp only [List.mem_cons,List.not_mem_nil,or_false]; rintro _ rfl <;> first|exact F61) Tryz.f139 ⟨rfl,by decide +kernel,by decide +kernel⟩ (fun _ _ _ hk h=>hk _ h) ?_
 rintro ⟨p,c⟩ K ⟨h1,h2⟩ h
 refine ⟨Nat.le_of_ble_eq_true rfl,?_⟩
 dsimp only at h h1 h2 ⊢
 repeat' (first|refine vz ?_|(conv=>whnf); first|with_reducible first|refine Sp.mk ?_ ?_|refine br_d (fun _=>?_) fun _=>?_|refine vM (fun _=>?_) fun _=>?_)
 refine ⟨p,?_,⟨h1⟩,?_⟩
 ·exact wq
 repeat' (first|refine vz ?_|(conv=>whnf); first|with_reducible refine Wr.ex (wsh (by assumption)) ?_|with_reducible first|refine Sp.mk ?_ ?_|refine br_d (fun _=>?_) fun _=>?_|refine vM (fun _=>?_) fun _=>?_)
 ·rw [pw_sh (by assumption)]
  first|exact yesD h (by omega)|exact yesT h (by omega)|exact yesF h (by omega)|exact yesN h (by omega)
 ·first|exact yesD h (by omega)|exact yesT h (by omega)|exact yesF h (by omega)|exact yesN h (by omega)
 ·first|exact yesD h (by omega)|exact yesT h (by omega)|exact yesF h (by omega)|exact yesN h (by omega)
def C35:List AV→(AV→Prop)→Prop:=con (X:=Int × Int × Int) (fun x=>[.int .i64 x.1,.int .i64 x.2.1,.int .i64 x.2.2]) (fun _=>True) fun x K=>K (.bool (decide (x.2.1≤x.1∧x.1≤x.2.2)))
theorem F35:FF 74 C35:=by
 refine fitE [] (by simp) Tryz.f74 ⟨rfl,by decide +kernel,by decide +kernel⟩ (fun _ _ _ hk h=>hk _ h) ?_
 rintro ⟨n,l,u⟩ K _ h
 refine ⟨Nat.le_of_ble_eq_true rfl,?_⟩
 dsimp only at h ⊢
 repeat' (first|refine vz ?_|(conv=>whnf); first|with_reducible first|refine Sp.mk ?_ ?_|refine br_d (fun _=>?_) fun _=>?_|refine vM (fun _=>?_) fun _=>?_)
 all_goals
  first|exact yesD h (by omega)|exact yesT h (by omega)|exact yesF h (by omega)|exact yesN h (by omega)
def C62:=C54
theorem F62:FF 114 C62:=by
 refine fitE [(74,C35)] (by simp only [List.mem_cons,List.not_mem_nil,or_false]; rintro _ rfl <;> first|exact F35) Tryz.f114 ⟨rfl,by decide +kernel,by decide +kernel⟩ (fun _ _ _ hk h=>hk _ h) ?_
 rintro ⟨p,c⟩ K ⟨h1,h2⟩ h
 refine ⟨Nat.le_of_ble_eq_true rfl,?_⟩
 dsimp only at h h1 h2 ⊢
 repeat' (first|refine vz ?_|(conv=>whnf); first|with_reducible first|refine Sp.mk ?_ ?_|refine br_d (fun _=>?_) fun _=>?_|refine vM (fun _=>?_) fun _=>?_)
 refine ⟨(p,1,6),?_,⟨trivial⟩,?_⟩
 ·exact wq
 dsimp only
 repeat' (first|refine vz ?_|(conv=>whnf); first|with_reducible refine Wr.ex (wsh (by assumption)) ?_|with_reducible refine Wr.ex (wi64 (by rw [pw_sh (by assumption)]; have:=pw_le (by assumption); omega) (by rw [pw_sh (by assumption)]; have:=pw_le (by assumption); omega)) ?_|with_reducible first|refine Sp.mk ?_ ?_|refine br_d (fun _=>?_) fun _=>?_|refine vM (fun _=>?_) fun _=>?_)
 ·refine ⟨(c,0,pw p-1),?_,⟨trivial⟩,?_⟩
  ·repeat' ((conv=>whnf); first|with_reducible exact True.intro|exact vW|with_reducible refine And.intro ?_ ?_)
   exact ⟨by rw [pw_sh (by assumption)]⟩
  dsimp only
  repeat' (first|refine vz ?_|(conv=>whnf); first|with_reducible first|refine Sp.mk ?_ ?_|refine br_d (fun _=>?_) fun _=>?_|refine vM (fun _=>?_) fun _=>?_)
  first|exact yesD h (by omega)|exact yesT h (by omega)|exact yesF h (by omega)|exact yesN h (by omega)
 ·first|exact yesD h (by omega)|exact yesT h (by omega)|exact yesF h (by omega)|exact yesN h (by omega)
/-! ### Heads -/
def headsF:Nat→Nat→Nat
 |0,_=>0
 |f+1,m=>m % 2+headsF f (m / 2)
def heads (m:Nat):Nat:=headsF 64 m
theorem headsF_succ:∀ (f m:Nat),m<2 ^ f→headsF (f+1) m=headsF f m
 |0,m,h=>by
  have:m=0:=by simpa using h
  subst this; rfl
 |f+1,m,h=>by
  rw [headsF,headsF_succ f (m / 2) (by rw [Nat.pow_succ] at h; omega)]
  rfl
theorem heads_step {m:Nat} (h:m<2 ^ 64):heads m=m % 2+heads (m / 2):=by
 unfold heads
 rw [headsF,← headsF_succ 63 (m / 2) (by omega)]
theorem headsF_le:∀ (f m:Nat),headsF f m≤f
 |0,_=>Nat.le_refl _
 |f+1,m=>by
  have:=headsF_le f (m / 2)
  rw [headsF]; omega
theorem heads_le (m:Nat):heads m≤64:=headsF_le 64 m
theorem tmod2 (m:Nat):Int.tmod (m:Int) 2=((m % 2:Nat):Int):=by rw [Int.tmod_eq_emod_of_nonneg (by omega)]; omega
theorem tdiv2 (m:Nat):Int.tdiv (m:Int) 2=((m / 2:Nat):Int):=by rw [Int.tdiv_eq_ediv_of_nonneg (by omega)]; omega
def C48:List AV→(AV→Prop)→Prop:=con (X:=Int) (fun c=>[.int .i64 c]) i64r fun c K=>K (.int .i64 (heads c.toNat))
theorem F48:FF 113 C48:=by
 refine fitE [] (by simp) Tryz.f113 ⟨rfl,by decide +kernel,by decide +kernel⟩ (fun _ _ _ hk h=>hk _ h) ?_
 intro c K h1 h
 refine ⟨Nat.le_of_ble_eq_true rfl,?_⟩
 repeat' (first|refine vz ?_|(conv=>whnf); first|with_reducible first|refine Sp.mk ?_ ?_|refine br_d (fun _=>?_) fun _=>?_|refine vM (fun _=>?_) fun _=>?_)
 refine Lp.mk ⟨Int × Nat,fun x=>[(0,.int .i64 x.1),(3,.int .i64 x.2)],fun _=>[],fun x=>(x.1=c∨0≤x.1)∧x.1≤9223372036854775807∧x.2+heads x.1.toNat=heads c.toNat,fun x=>x.1.toNat,⟨(c,0),⟨.inl rfl,h1.2,Nat.zero_add _⟩,⟨⟨[],[],rfl,rfl,?_,?_⟩⟩⟩,?_⟩
 ·exact wq
 ·exact wq
 rintro ⟨d,s⟩ ⟨i1,i2,i3⟩
 dsimp only at i1 i2 i3 ⊢
 have hs:=heads_le c.toNat
 repeat' (first|refine vz ?_|(conv=>whnf); first|with_reducible refine Wr.ex (wi64 (by have:=tmod2 d.toNat; rw [Int.toNat_of_nonneg (by omega)] at this; omega) (by have:=tmod2 d.toNat; rw [Int.toNat_of_nonneg (by omega)] at this; omega)) ?_|with_reducible refine Wr.ex (wi64 (by have:=tdiv2 d.toNat; rw [Int.toNat_of_nonneg (by omega)] at this; omega) (by have:=tdiv2 d.toNat; rw [Int.toNat_of_nonneg (by omega)] at this; omega)) ?_|with_reducible first|refine Sp.mk ?_ ?_|refine br_d (fun _=>?_) fun _=>?_|refine vM (fun _=>?_) fun _=>?_)
 ·have e1:=tmod2 d.toNat
  have e2:=tdiv2 d.toNat
  rw [Int.toNat_of_nonneg (by omega)] at e1 e2
  have e3:=heads_step (m:=d.toNat) (by omega)
  refine ⟨((d.toNat / 2:Nat),s+d.toNat % 2),⟨.inr (by omega),?_,?_⟩,?_,⟨⟨[],[],rfl,rfl,?_,?_⟩⟩⟩
  ·show ((d.toNat / 2:Nat):Int)≤_
   omega
  ·show s+d.toNat % 2+heads ((d.toNat / 2:Nat):Int).toNat=_
   rw [Int.toNat_natCast]
   omega
  ·show ((d.toNat / 2:Nat):Int).toNat<d.toNat
   omega
  ·exact wq
  ·exact wq
 ·have:d.toNat=0:=by omega
  rw [this] at i3
  have e:heads 0=0:=by decide
  rw [← i3,e,Nat.add_zero] at h
  exact h
end Go.Proofs.YtgdbhjmpkkbnnaaGreatDoor.Vc
end
section
/- Part DA: deeds and their texts. -/
namespace Go.Proofs.YtgdbhjmpkkbnnaaGreatDoor.Vc
open Go.Proofs
set_option maxRecDepth 20000
/-! ### l1Number -/
theorem num_small {n:Int} (h0:0≤n) (h:n<10):num n=⟨#[UInt8.ofNat (48+n.toNat)]⟩:=by
 unfold num
 rw [Lib.decDigits,dif_pos (by omega)]
theorem num_big {n:Int} (h:¬ n<10):num n=num (n / 10) ++ ⟨#[UInt8.ofNat (48+n.toNat % 10)]⟩:=by
 unfold num
 rw [Lib.decDigits,dif_neg (by omega),show (n / 10).toNat=n.toNat / 10 by omega]
 simp [ByteArray.ext_iff]
theorem num_size {n:Int} (h0:0≤n) (h:n<100):(num n).size≤2:=by
 have hk:∀ k,k<100→(Lib.decDigits k).length≤2:=by decide +kernel
 have:=hk n.toNat (by omega)
 show (Lib.decDigits n.toNat).toArray.size≤2
 simpa using this
theorem dec_len (u:Nat):(Lib.decDigits u).length≤u+1:=by
 induction u using Nat.strongRecOn with
 |_ u ih =>
  rw [Lib.decDigits]
  split
  ·simp
  ·have:=ih (u / 10) (by omega)
   simp only [List.length_append,List.length_cons,List.length_nil]
   omega
theorem num_le (n:Int):(num n).size≤n.toNat+1:=by
 have:=dec_len n.toNat
 show (Lib.decDigits n.toNat).toArray.size≤_
 simpa using this
theorem str1 (x:Int) (d:List AV):(strOf 1 fun i=>(fun i=>[[AV.int IntKind.u8 x]].getD i d) (0+i))=⟨#[UInt8.ofNat x.toNat]⟩:=rfl
def C106k (k:Nat):List AV→(AV→Prop)→Prop:=con (X:=Int) (fun n=>[.int .i64 n]) (fun n=>n.toNat<k∧0≤n∧n≤9223372036854775807) fun n K=>K (.str (num n))
theorem F106k:∀ k,FF 72 (C106k k):=by
 intro k
 induction k with
 |zero=>exact fitE [] (by simp) Tryz.f72 ⟨rfl,by decide +kernel,by decide +kernel⟩ (fun _ _ _ hk h=>hk _ h) fun x K h=>absurd h.1 (Nat.not_lt_zero _)
 |succ k ih =>
  refine fitE [(72,C106k k)] (by simp only [List.mem_cons,List.not_mem_nil,or_false]; rintro _ rfl; exact ih) Tryz.f72 ⟨rfl,by decide +kernel,by decide +kernel⟩ (fun _ _ _ hk h=>hk _ h) ?_
  intro n K ⟨h0,h1,h2⟩ h
  refine ⟨Nat.le_of_ble_eq_true rfl,?_⟩
  repeat' (first|refine vz ?_|(conv=>whnf); first|with_reducible first|refine Sp.mk ?_ ?_|refine br_d (fun _=>?_) fun _=>?_|refine vM (fun _=>?_) fun _=>?_)
  ·(conv=>whnf)
   rw [if_neg (by omega:¬ 0 > n)]
   repeat' ((conv=>whnf); first|refine ⟨Chk.mk ⟨by decide,by decide,fun i hi=>by obtain rfl:i=0:=by omega; exact ⟨_,rfl⟩⟩,?_⟩|refine vA ?_|with_reducible first|refine v8 ?_|refine Ch.l ?_|refine Sp.mk ?_ ?_|refine vS ?_|refine vR ?_|refine vB ?_|refine br_nt ?_|refine br_tt ?_|refine br_ff ?_|refine vP ?_|refine vQ ?_|refine vT ?_|refine vF ?_|refine br_and ?_|refine br_or ?_|refine br_d (fun _=>?_) fun _=>?_|refine vM (fun _=>?_) fun _=>?_)
   rw [str1,show (48+n).toNat=48+n.toNat by omega,← num_small h1 (by omega)]
   exact h
  ·refine Dr.mk ⟨(.rd 0 (.rd 1 (.rd 3 (.rd 4 (.rd 5 (.rd 6 (.ef 2 (.ef 7 (.rd 8 (.rd 9 (.rd 10 .dn))) .no) (.ef 7 (.rd 8 (.ef 2 (.rd 9 (.rd 10 .dn)) .no)) .no)))))))),by decide +kernel,?_⟩
   repeat' (first|refine vz ?_|(conv=>whnf); first|with_reducible first|refine Sp.mk ?_ ?_|refine br_d (fun _=>?_) fun _=>?_|refine vM (fun _=>?_) fun _=>?_)
   (conv=>whnf)
   rw [Int.tdiv_eq_ediv_of_nonneg h1]
   repeat' (first|refine vz ?_|(conv=>whnf); first|with_reducible first|refine Sp.mk ?_ ?_|refine br_d (fun _=>?_) fun _=>?_|refine vM (fun _=>?_) fun _=>?_)
   (conv=>whnf)
   rw [Int.tmod_eq_emod_of_nonneg h1]
   repeat' ((conv=>whnf); first|refine ⟨Chk.mk ⟨by decide,by decide,fun i hi=>by obtain rfl:i=0:=by omega; exact ⟨_,rfl⟩⟩,?_⟩|refine vA ?_|with_reducible first|refine v8 ?_|refine Ch.l ?_|refine Sp.mk ?_ ?_|refine vS ?_|refine vR ?_|refine vB ?_|refine br_nt ?_|refine br_tt ?_|refine br_ff ?_|refine vP ?_|refine vQ ?_|refine vT ?_|refine vF ?_|refine br_and ?_|refine br_or ?_|refine br_d (fun _=>?_) fun _=>?_|refine vM (fun _=>?_) fun _=>?_)
   all_goals
    refine ⟨n / 10,?_,⟨by omega,by omega,by omega⟩,?_⟩
    ·exact wq
    have hsz:(num (n / 10)).size+1≤9223372036854775807:=by have:=num_le (n / 10); omega
    repeat' ((conv=>whnf); first|refine ⟨Chk.mk (by rw [str1]; exact hsz),?_⟩|refine ⟨Chk.mk ⟨by decide,by decide,fun i hi=>by obtain rfl:i=0:=by omega; exact ⟨_,rfl⟩⟩,?_⟩|refine vA ?_|with_reducible first|refine v8 ?_|refine Ch.l ?_|refine Sp.mk ?_ ?_|refine vS ?_|refine vR ?_|refine vB ?_|refine br_nt ?_|refine br_tt ?_|refine br_ff ?_|refine vP ?_|refine vQ ?_|refine vT ?_|refine vF ?_|refine br_and ?_|refine br_or ?_|refine br_d (fun _=>?_) fun _=>?_|refine vM (fun _=>?_) fun _=>?_)
    rw [str1,show (48+n % 10).toNat=48+n.toNat % 10 by omega,← num_big (by omega)]
    exact h
def C106:List AV→(AV→Prop)→Prop:=con (X:=Int) (fun n=>[.int .i64 n]) (fun n=>0≤n∧n≤9223372036854775807) fun n K=>K (.str (num n))
theorem F106:FF 72 C106:=fun Gl hG=>fits_rec (fun n=>n.toNat) fun k=>F106k k Gl hG
end Go.Proofs.YtgdbhjmpkkbnnaaGreatDoor.Vc
end
section
/- Part Y: houses. -/
namespace Go.Proofs.YtgdbhjmpkkbnnaaGreatDoor.Vc
open Go.Proofs
set_option maxRecDepth 10000
set_option maxHeartbeats 4000000
def C64:List AV→(AV→Prop)→Prop:=con (X:=Nat) (fun x=>[.int .u64 x]) (fun x=>x<64) fun x K=>K (.int .i64 (heads x))
theorem F64:FF 210 C64:=by
 refine fitE [] (by simp) Tryz.f210 ⟨rfl,by decide +kernel,by decide +kernel⟩ (fun _ _ _ hk h=>hk _ h) ?_
 intro x K h1 h
 refine ⟨Nat.le_of_ble_eq_true rfl,?_⟩
 repeat' ((conv=>whnf); first|with_reducible refine Wr.wr ?_|refine vA ?_|with_reducible first|refine v8 ?_|refine Ch.l ?_|refine Sp.mk ?_ ?_|refine vS ?_|refine vR ?_|refine vB ?_|refine br_nt ?_|refine br_tt ?_|refine br_ff ?_|refine vP ?_|refine vQ ?_|refine vT ?_|refine vF ?_|refine br_and ?_|refine br_or ?_|refine br_d (fun _=>?_) fun _=>?_|refine vM (fun _=>?_) fun _=>?_)
 refine Eq.mp (congrArg (fun z=>K (AV.int IntKind.i64 z)) ?_) h
 clear h K
 revert x
 decide +kernel
def C58:=C64
theorem F58:FF 188 C58:=by
 refine fitE [(210,C64)] (by simp only [List.mem_cons,List.not_mem_nil,or_false]; rintro _ rfl <;> first|exact F64) Tryz.f188 ⟨rfl,by decide +kernel,by decide +kernel⟩ (fun _ _ _ hk h=>hk _ h) ?_
 intro x K h1 h
 refine ⟨Nat.le_of_ble_eq_true rfl,?_⟩
 repeat' (first|refine vz ?_|(conv=>whnf); first|with_reducible first|refine Sp.mk ?_ ?_|refine br_d (fun _=>?_) fun _=>?_|refine vM (fun _=>?_) fun _=>?_)
 refine ⟨x,?_,⟨h1⟩,?_⟩
 ·exact wq
 repeat' (first|refine vz ?_|(conv=>whnf); first|with_reducible first|refine Sp.mk ?_ ?_|refine br_d (fun _=>?_) fun _=>?_|refine vM (fun _=>?_) fun _=>?_)
 exact h
def C50:List AV→(AV→Prop)→Prop:=con (X:=Int) (fun c=>[.int .i64 c]) (fun c=>0≤c∧c<64) fun c K=>K (.int .i64 (heads c.toNat))
theorem F50:FF 167 C50:=by
 refine fitE [(188,C58)] (by simp only [List.mem_cons,List.not_mem_nil,or_false]; rintro _ rfl <;> first|exact F58) Tryz.f167 ⟨rfl,by decide +kernel,by decide +kernel⟩ (fun _ _ _ hk h=>hk _ h) ?_
 rintro x K ⟨h1,h2⟩ h
 refine ⟨Nat.le_of_ble_eq_true rfl,?_⟩
 repeat' (first|refine vz ?_|(conv=>whnf); first|with_reducible refine Wr.ex (wu64 (by omega) (by omega)) ?_|with_reducible first|refine Sp.mk ?_ ?_|refine br_d (fun _=>?_) fun _=>?_|refine vM (fun _=>?_) fun _=>?_)
 refine ⟨x.toNat,?_,⟨by show x.toNat<64; omega⟩,?_⟩
 ·exact wq
 repeat' (first|refine vz ?_|(conv=>whnf); first|with_reducible first|refine Sp.mk ?_ ?_|refine br_d (fun _=>?_) fun _=>?_|refine vM (fun _=>?_) fun _=>?_)
 exact h
/-! ### Houses -/
structure House where
 p:Int
 bs:List Int
def House.i64 (h:House):Prop:=i64r h.p∧∀ b∈h.bs,i64r b
def enH (h:House):AV:=.agg [.int .i64 h.p,slI h.bs]
abbrev houseOk (h:House):Prop:=people h.p∧h.bs.length≤4∧∀ b∈h.bs,crowd h.p b∧b≠0
theorem getD_mem' {α:Type} {l:List α} {i:Nat} {d:α} (h:i<l.length):l.getD i d∈l:=by
 rw [List.getD_eq_getElem?_getD,List.getElem?_eq_getElem h]
 exact List.getElem_mem h
theorem all_of_getD {α:Type} {l:List α} {d:α} {p:α→Prop} (h:∀ i,i<l.length→p (l.getD i d)):∀ b∈l,p b:=by
 intro b hb
 obtain ⟨i,hi,rfl⟩:=List.mem_iff_getElem.1 hb
 have:=h i hi
 rwa [List.getD_eq_getElem?_getD,List.getElem?_eq_getElem hi] at this
def C57:List AV→(AV→Prop)→Prop:=con (X:=House) (fun h=>[enH h]) (fun h=>h.i64∧h.bs.length<9223372036854775808) fun h K=>K (.bool (decide (houseOk h)))
theorem F57:FF 118 C57:=by
 refine fitE [(139,C54),(140,C61)] (by simp only [List.mem_cons,List.not_mem_nil,or_false]; rintro _ (rfl|rfl) <;> first|exact F54|exact F61) Tryz.f118 ⟨rfl,by decide +kernel,by decide +kernel⟩ (fun _ _ _ hk h=>hk _ h) ?_
 rintro ⟨p,bs⟩ K ⟨⟨h1,h2⟩,h3⟩ h
 refine ⟨Nat.le_of_ble_eq_true rfl,?_⟩
 dsimp only at h h1 h2 h3 ⊢
 replace h:K (.bool (decide (people p∧bs.length≤4∧∀ b∈bs,crowd p b∧b≠0))):=h
 repeat' (first|refine vz ?_|(conv=>whnf); first|with_reducible first|refine Sp.mk ?_ ?_|refine br_d (fun _=>?_) fun _=>?_|refine vM (fun _=>?_) fun _=>?_)
 refine Lp.mk ⟨Nat,fun i=>[(1,.ptr 0 0),(2,.bool false),(6,slI bs),(7,.int .i64 bs.length),(8,.int .i64 i)],fun _=>[.box [.int .i64 p,slI bs]],fun i=>i≤bs.length∧∀ j,j<i→crowd p (bs.getD j 0)∧bs.getD j 0≠0,fun i=>bs.length-i,⟨0,⟨Nat.zero_le _,fun j hj=>absurd hj (Nat.not_lt_zero _)⟩,⟨⟨[some 0],[],rfl,rfl,?_,?_⟩⟩⟩,?_⟩
 ·exact wq
 ·exact wq
 rintro i ⟨i1,i2⟩
 dsimp only
 repeat' (first|refine vz ?_|(conv=>whnf); first|with_reducible first|refine Sp.mk ?_ ?_|refine br_d (fun _=>?_) fun _=>?_|refine vM (fun _=>?_) fun _=>?_)
 ·refine ⟨(p,bs.getD i 0),?_,⟨h1,h2 _ (getD_mem' (by omega))⟩,?_⟩
  ·exact wq
  dsimp only
  repeat' (first|refine vz ?_|(conv=>whnf); first|with_reducible first|refine Sp.mk ?_ ?_|refine br_d (fun _=>?_) fun _=>?_|refine vM (fun _=>?_) fun _=>?_)
  ·rename_i e
   have e:bs.getD i 0=0:=e
   exact yesF h fun q=>(q.2.2 _ (getD_mem' (by omega))).2 e
  ·rename_i e
   have e:¬ bs.getD i 0=0:=e
   refine ⟨i+1,⟨by omega,fun j hj=>?_⟩,by omega,⟨⟨[some 0],[],rfl,rfl,?_,?_⟩⟩⟩
   ·by_cases hji:j=i
    ·subst hji
     exact ⟨by assumption,e⟩
    ·exact i2 j (by omega)
   ·exact wq
   ·exact wq
  ·rename_i e
   exact yesF h fun q=>e (q.2.2 _ (getD_mem' (by omega))).1
 ·refine ⟨p,?_,⟨h1⟩,?_⟩
  ·exact wq
  have i3:∀ b∈bs,crowd p b∧b≠0:=all_of_getD fun j hj=>i2 j (by omega)
  repeat' (first|refine vz ?_|(conv=>whnf); first|with_reducible first|refine Sp.mk ?_ ?_|refine br_d (fun _=>?_) fun _=>?_|refine vM (fun _=>?_) fun _=>?_)
  ·exact yesD h ⟨fun q=>by have:=q.2.1; omega,fun q=>⟨by assumption,by omega,i3⟩⟩
  ·rename_i e
   exact yesF h fun q=>e q.1
def C55:=C57
theorem F55:FF 102 C55:=by
 refine fitE [(114,C62),(74,C35)] (by simp only [List.mem_cons,List.not_mem_nil,or_false]; rintro _ (rfl|rfl) <;> first|exact F62|exact F35) Tryz.f102 ⟨rfl,by decide +kernel,by decide +kernel⟩ (fun _ _ _ hk h=>hk _ h) ?_
 rintro ⟨p,bs⟩ K ⟨⟨h1,h2⟩,h3⟩ h
 refine ⟨Nat.le_of_ble_eq_true rfl,?_⟩
 dsimp only at h h1 h2 h3 ⊢
 replace h:K (.bool (decide (people p∧bs.length≤4∧∀ b∈bs,crowd p b∧b≠0))):=h
 repeat' (first|refine vz ?_|(conv=>whnf); first|with_reducible first|refine Sp.mk ?_ ?_|refine br_d (fun _=>?_) fun _=>?_|refine vM (fun _=>?_) fun _=>?_)
 refine Lp.mk ⟨Nat,fun i=>[(1,.ptr 0 0),(2,.bool false),(3,.int .i64 i)],fun _=>[.box [.int .i64 p,slI bs]],fun i=>i≤bs.length∧∀ j,j<i→crowd p (bs.getD j 0)∧bs.getD j 0≠0,fun i=>bs.length-i,⟨0,⟨Nat.zero_le _,fun j hj=>absurd hj (Nat.not_lt_zero _)⟩,⟨⟨[some 0],[],rfl,rfl,?_,?_⟩⟩⟩,?_⟩
 ·exact wq
 ·exact wq
 rintro i ⟨i1,i2⟩
 dsimp only
 repeat' (first|refine vz ?_|(conv=>whnf); first|with_reducible first|refine Sp.mk ?_ ?_|refine br_d (fun _=>?_) fun _=>?_|refine vM (fun _=>?_) fun _=>?_)
 ·refine Dr.mk ⟨(.rd 0 (.rd 1 (.rd 2 (.rd 3 (.rd 4 (.rd 5 (.rd 6 (.ef 7 (.rd 8 (.rd 9 (.rd 10 (.rd 11 (.rd 12 (.rd 13 (.rd 14 (.rd 15 (.rd 16 .dn))))))))) .no)))))))),by decide +kernel,?_⟩
  repeat' (first|refine vz ?_|(conv=>whnf); first|with_reducible first|refine Sp.mk ?_ ?_|refine br_d (fun _=>?_) fun _=>?_|refine vM (fun _=>?_) fun _=>?_)
  refine ⟨(p,bs.getD i 0),?_,⟨h1,h2 _ (getD_mem' (by omega))⟩,?_⟩
  ·exact wq
  dsimp only
  repeat' (first|refine vz ?_|(conv=>whnf); first|with_reducible first|refine Sp.mk ?_ ?_|refine br_d (fun _=>?_) fun _=>?_|refine vM (fun _=>?_) fun _=>?_)
  ·rename_i e
   have e:bs.getD i 0=0:=e
   exact yesF h fun q=>(q.2.2 _ (getD_mem' (by omega))).2 e
  ·rename_i e
   have e:¬ bs.getD i 0=0:=e
   refine ⟨i+1,⟨by omega,fun j hj=>?_⟩,by omega,⟨⟨[some 0],[],rfl,rfl,?_,?_⟩⟩⟩
   ·by_cases hji:j=i
    ·subst hji
     exact ⟨by assumption,e⟩
    ·exact i2 j (by omega)
   ·exact wq
   ·exact wq
  ·rename_i e
   exact yesF h fun q=>e (q.2.2 _ (getD_mem' (by omega))).1
 ·refine ⟨(p,1,6),?_,⟨trivial⟩,?_⟩
  ·exact wq
  have i3:∀ b∈bs,crowd p b∧b≠0:=all_of_getD fun j hj=>i2 j (by omega)
  dsimp only
  repeat' (first|refine vz ?_|(conv=>whnf); first|with_reducible first|refine Sp.mk ?_ ?_|refine br_d (fun _=>?_) fun _=>?_|refine vM (fun _=>?_) fun _=>?_)
  ·exact yesD h ⟨fun q=>by have:=q.2.1; omega,fun q=>⟨by assumption,by omega,i3⟩⟩
  ·rename_i e
   exact yesF h fun q=>e q.1
/-! ### Terms -/
def stepP (bs:List Int) (m:Mark) (k:Nat):Option Nat :=
 if m.kind=0∧0≤m.at_∧m.at_<bs.length∧1≤m.need∧m.need≤heads (bs.getD m.at_.toNat 0).toNat then some (k+1)
 else if (m.kind=1∨m.kind=2)∧m.at_=0∧m.need=0∧2≤k then some (k-1) else none
def walkP (h:List Int):List Mark→Nat→Option Nat
 |[],k=>some k
 |m :: r,k=>(stepP h m k).bind (walkP h r)
abbrev termOk (h:House) (t:List Mark):Prop:=houseOk h∧t.length≤9∧walkP h.bs t 0=some 1
theorem walkP_app (h:List Int):∀ (l m:List Mark) (k:Nat),walkP h (l ++ m) k=(walkP h l k).bind (walkP h m)
 |[],m,k=>rfl
 |x :: l,m,k=>by
  simp only [List.cons_append,walkP]
  cases stepP h x k with
  |none=>rfl
  |some j=>exact walkP_app h l m j
theorem take_succ' {α:Type} {l:List α} {i:Nat} (d:α) (h:i<l.length):l.take (i+1)=l.take i ++ [l.getD i d]:=by
 rw [List.take_add_one,List.getD_eq_getElem?_getD,List.getElem?_eq_getElem h]
 rfl
theorem walkP_take {h:List Int} {t:List Mark} {i k:Nat} (hi:i<t.length) (hk:walkP h (t.take i) 0=some k):walkP h (t.take (i+1)) 0=stepP h (t.getD i default) k:=by
 rw [take_succ' default hi,walkP_app,hk]
 simp only [Option.bind_some,walkP]
 cases stepP h (t.getD i default) k <;> rfl
theorem walkP_none {h:List Int} {t:List Mark} {i:Nat} (hk:walkP h (t.take i) 0=none):walkP h t 0=none:=by
 rw [← List.take_append_drop i t,walkP_app,hk]
 rfl
theorem walkP_le (h:List Int):∀ (l:List Mark) (k j:Nat),walkP h l k=some j→j≤k+l.length
 |[],k,j,e=>by injection e with e; simp [e]
 |m :: l,k,j,e=>by
  simp only [walkP] at e
  cases e1:stepP h m k with
  |none=>rw [e1] at e; cases e
  |some i =>
   rw [e1] at e
   have:=walkP_le h l i j e
   have:i≤k+1:=by
    unfold stepP at e1
    split at e1
    ·injection e1 with e1; omega
    ·split at e1
     ·injection e1 with e1; omega
     ·cases e1
   simp only [List.length_cons]
   omega
def Mark.i64 (m:Mark):Prop:=i64r m.kind∧i64r m.at_∧i64r m.need
def termI (h:House) (t:List Mark):Prop:=h.i64∧h.bs.length<9223372036854775808∧(∀ m∈t,m.i64)∧t.length<9223372036854775808
def C38:List AV→(AV→Prop)→Prop:=con (X:=House × List Mark) (fun x=>[enH x.1,slM x.2]) (fun x=>termI x.1 x.2) fun x K=>K (.bool (decide (termOk x.1 x.2)))
theorem F38:FF 143 C38:=by
 refine fitE [(118,C57),(167,C50)] (by simp only [List.mem_cons,List.not_mem_nil,or_false]; rintro _ (rfl|rfl) <;> first|exact F57|exact F50) Tryz.f143 ⟨rfl,by decide +kernel,by decide +kernel⟩ (fun _ _ _ hk h=>hk _ h) ?_
 rintro ⟨⟨p,bs⟩,t⟩ K ⟨h1,h2,h3,h4⟩ h
 refine ⟨Nat.le_of_ble_eq_true rfl,?_⟩
 dsimp only at h h1 h2 h3 h4 ⊢
 repeat' (first|refine vz ?_|(conv=>whnf); first|with_reducible first|refine Sp.mk ?_ ?_|refine br_d (fun _=>?_) fun _=>?_|refine vM (fun _=>?_) fun _=>?_)
 refine ⟨⟨p,bs⟩,?_,⟨h1,h2⟩,?_⟩
 ·exact wq
 repeat' (first|refine vz ?_|(conv=>whnf); first|with_reducible first|refine Sp.mk ?_ ?_|refine br_d (fun _=>?_) fun _=>?_|refine vM (fun _=>?_) fun _=>?_)
 ·rename_i e
  exact yesF h fun q=>by
   have e0:t.length=0:=by omega
   have:t=[]:=List.eq_nil_of_length_eq_zero e0
   subst this
   have:=q.2.2
   simp [walkP] at this
 ·exact yesF h fun q=>by have:=q.2.1; omega
 ·rename_i hO _ _
  refine Lp.mk ⟨Nat × Nat,fun x=>[(2,.ptr 0 0),(4,.bool false),(5,.int .i64 x.2),(21,slM t),(22,.int .i64 t.length),(23,.int .i64 x.1)],fun _=>[.box [.int .i64 p,slI bs]],fun x=>x.1≤t.length∧walkP bs (t.take x.1) 0=some x.2,fun x=>t.length-x.1,⟨(0,0),⟨Nat.zero_le _,rfl⟩,⟨⟨[some 0],[],rfl,rfl,?_,?_⟩⟩⟩,?_⟩
  ·exact wq
  ·exact wq
  rintro ⟨i,k⟩ ⟨i1,i2⟩
  dsimp only at i1 i2 ⊢
  have kle:k≤9:=by
   have:=walkP_le bs _ _ _ i2
   simp only [List.length_take] at this
   omega
  have bad:i<t.length→stepP bs (t.getD i default) k=none→¬ termOk ⟨p,bs⟩ t:=fun hi e q=>by
   have:=walkP_none (h:=bs) (t:=t) (i:=i+1) (by rw [walkP_take hi i2,e])
   rw [q.2.2] at this
   cases this
  have good:∀ k',i<t.length→stepP bs (t.getD i default) k=some k'→walkP bs (t.take (i+1)) 0=some k':=fun k' hi e=>by rw [walkP_take hi i2,e]
  repeat' (first|refine vz ?_|(conv=>whnf); first|with_reducible first|refine Sp.mk ?_ ?_|refine br_d (fun _=>?_) fun _=>?_|refine vM (fun _=>?_) fun _=>?_)
  ·refine Dr.mk ⟨(.rd 0 (.rd 1 (.rd 2 (.rd 3 (.rd 4 (.rd 5 (.rd 6 (.rd 7 (.rd 8 (.rd 9 (.rd 10 (.rd 11 (.rd 12 (.rd 13 (.rd 14 (.rd 15 (.rd 16 (.rd 17 (.rd 18 (.rd 19 (.rd 20 (.rd 21 (.rd 22 (.rd 23 (.rd 24 (.ef 25 (.rd 26 (.rd 27 .dn)) .no)))))))))))))))))))))))))),by decide +kernel,?_⟩
   repeat' (first|refine vz ?_|(conv=>whnf); first|with_reducible first|refine Sp.mk ?_ ?_|refine br_d (fun _=>?_) fun _=>?_|refine vM (fun _=>?_) fun _=>?_)
   all_goals try (refine yesF h (bad (by omega) ?_); simp only [Int.toNat_natCast] at *; unfold stepP; rw [if_neg (by omega),if_neg (by omega)]; done)
   have g1:¬ (t.getD i default).at_<0:=by assumption
   have g2:¬ (t.getD i default).at_≥bs.length:=by assumption
   have g3:¬ (t.getD i default).need<1:=by assumption
   have g4:(t.getD i default).kind=0:=by assumption
   have hb:(t.getD i default).at_.toNat<bs.length:=by omega
   have hc:=(hO.2.2 _ (getD_mem' (d:=0) hb)).1
   have hp:=pw_le hO.1
   refine ⟨bs.getD (t.getD i default).at_.toNat 0,?_,⟨⟨hc.2.1,Int.lt_of_lt_of_le hc.2.2 hp.2⟩⟩,?_⟩
   ·exact wq
   repeat' (first|refine vz ?_|(conv=>whnf); first|with_reducible first|refine Sp.mk ?_ ?_|refine br_d (fun _=>?_) fun _=>?_|refine vM (fun _=>?_) fun _=>?_)
   ·refine yesF h (bad (by omega) ?_)
    rename_i e
    replace e:(t.getD i default).need > heads (bs.getD (t.getD i default).at_.toNat 0).toNat:=e
    unfold stepP
    rw [if_neg (by omega),if_neg (by omega)]
   ·rename_i e
    replace e:¬ (t.getD i default).need > heads (bs.getD (t.getD i default).at_.toNat 0).toNat:=e
    refine ⟨(i+1,k+1),⟨by omega,good (k+1) (by omega) (by unfold stepP; rw [if_pos (by omega)])⟩,by show t.length-(i+1)<t.length-i; omega,⟨⟨[some 0],[],rfl,rfl,?_,?_⟩⟩⟩
    ·exact wq
    ·exact wq
  all_goals try (refine yesF h (bad (by omega) ?_); simp only [Int.toNat_natCast] at *; unfold stepP; rw [if_neg (by omega),if_neg (by omega)]; done)
  ·refine ⟨(i+1,k-1),⟨by omega,good (k-1) (by omega) (by simp only [Int.toNat_natCast] at *; unfold stepP; rw [if_neg (by omega),if_pos (by omega)])⟩,by show t.length-(i+1)<t.length-i; omega,⟨⟨[some 0],[],rfl,rfl,?_,?_⟩⟩⟩
   ·exact wq
   ·exact wq
  ·refine ⟨(i+1,k-1),⟨by omega,good (k-1) (by omega) (by simp only [Int.toNat_natCast] at *; unfold stepP; rw [if_neg (by omega),if_pos (by omega)])⟩,by show t.length-(i+1)<t.length-i; omega,⟨⟨[some 0],[],rfl,rfl,?_,?_⟩⟩⟩
   ·exact wq
   ·exact wq
  ·have e:walkP bs t 0=some k:=by rw [List.take_of_length_le (by omega)] at i2; exact i2
   refine yesD h ⟨fun q=>?_,fun q=>⟨hO,by show t.length≤9; omega,by show walkP bs t 0=some 1; rw [e,show k=1 by omega]⟩⟩
   have:=q.2.2
   rw [e] at this
   injection this with this
   omega
 ·rename_i e
  exact yesF h fun q=>e q.1
end Go.Proofs.YtgdbhjmpkkbnnaaGreatDoor.Vc
end
section
/- Part Z: terms. -/
namespace Go.Proofs.YtgdbhjmpkkbnnaaGreatDoor.Vc
open Go.Proofs
set_option maxRecDepth 10000
set_option maxHeartbeats 4000000
def C33:=C38
theorem F33:FF 108 C33:=by
 refine fitE [(74,C35),(113,C48),(102,C55)] (by simp only [List.mem_cons,List.not_mem_nil,or_false]; rintro _ (rfl|rfl|rfl) <;> first|exact F35|exact F48|exact F55) Tryz.f108 ⟨rfl,by decide +kernel,by decide +kernel⟩ (fun _ _ _ hk h=>hk _ h) ?_
 rintro ⟨⟨p,bs⟩,t⟩ K ⟨h1,h2,h3,h4⟩ h
 refine ⟨Nat.le_of_ble_eq_true rfl,?_⟩
 dsimp only at h h1 h2 h3 h4 ⊢
 repeat' (first|refine vz ?_|(conv=>whnf); first|with_reducible first|refine Sp.mk ?_ ?_|refine br_d (fun _=>?_) fun _=>?_|refine vM (fun _=>?_) fun _=>?_)
 refine Lp.mk ⟨Nat × Nat,fun x=>[(1,slM t),(2,.ptr 0 0),(4,.bool false),(5,.int .i64 x.2),(6,.int .i64 x.1)],fun _=>[.box [.int .i64 p,slI bs]],fun x=>x.1≤t.length∧walkP bs (t.take x.1) 0=some x.2,fun x=>t.length-x.1,⟨(0,0),⟨Nat.zero_le _,rfl⟩,⟨⟨[some 0],[],rfl,rfl,?_,?_⟩⟩⟩,?_⟩
 ·exact wq
 ·exact wq
 rintro ⟨i,k⟩ ⟨i1,i2⟩
 dsimp only at i1 i2 ⊢
 have kle:k≤i:=by
  have:=walkP_le bs _ _ _ i2
  simp only [List.length_take] at this
  omega
 have bad:i<t.length→stepP bs (t.getD i default) k=none→¬ termOk ⟨p,bs⟩ t:=fun hi e q=>by
  have:=walkP_none (h:=bs) (t:=t) (i:=i+1) (by rw [walkP_take hi i2,e])
  rw [q.2.2] at this
  cases this
 have good:∀ k',i<t.length→stepP bs (t.getD i default) k=some k'→walkP bs (t.take (i+1)) 0=some k':=fun k' hi e=>by rw [walkP_take hi i2,e]
 repeat' (first|refine vz ?_|(conv=>whnf); first|with_reducible first|refine Sp.mk ?_ ?_|refine br_d (fun _=>?_) fun _=>?_|refine vM (fun _=>?_) fun _=>?_)
 ·refine Dr.mk ⟨(.rd 0 (.rd 1 (.rd 2 (.rd 3 (.rd 4 (.rd 5 (.rd 6 (.rd 7 (.rd 8 (.rd 9 (.rd 10 (.rd 11 (.rd 12 (.rd 13 (.rd 14 (.rd 15 (.ef 16 (.rd 17 (.rd 18 (.rd 19 (.rd 20 (.rd 21 (.rd 22 (.rd 23 (.rd 24 (.rd 25 (.rd 26 (.rd 27 (.rd 28 (.rd 29 (.rd 30 (.rd 31 (.rd 32 (.ef 33 (.ef 34 (.rd 35 (.rd 36 .dn)) .no) .no))))))))))))))))) .no))))))))))))))))),by decide +kernel,?_⟩
  repeat' (first|refine vz ?_|(conv=>whnf); first|with_reducible first|refine Sp.mk ?_ ?_|refine br_d (fun _=>?_) fun _=>?_|refine vM (fun _=>?_) fun _=>?_)
  refine ⟨((t.getD (i:Int).toNat default).at_,0,bs.length-1),?_,⟨trivial⟩,?_⟩
  ·exact wq
  dsimp only
  repeat' (first|refine vz ?_|(conv=>whnf); first|with_reducible first|refine Sp.mk ?_ ?_|refine br_d (fun _=>?_) fun _=>?_|refine vM (fun _=>?_) fun _=>?_)
  ·rename_i g1
   have hb:(t.getD (i:Int).toNat default).at_.toNat<bs.length:=by omega
   refine ⟨bs.getD (t.getD (i:Int).toNat default).at_.toNat 0,?_,⟨h1.2 _ (getD_mem' hb)⟩,?_⟩
   ·exact wq
   repeat' (first|refine vz ?_|(conv=>whnf); first|with_reducible first|refine Sp.mk ?_ ?_|refine br_d (fun _=>?_) fun _=>?_|refine vM (fun _=>?_) fun _=>?_)
   refine ⟨((t.getD (i:Int).toNat default).need,1,heads (bs.getD (t.getD (i:Int).toNat default).at_.toNat 0).toNat),?_,⟨trivial⟩,?_⟩
   ·exact wq
   dsimp only
   repeat' (first|refine vz ?_|(conv=>whnf); first|with_reducible first|refine Sp.mk ?_ ?_|refine br_d (fun _=>?_) fun _=>?_|refine vM (fun _=>?_) fun _=>?_)
   ·refine ⟨(i+1,k+1),⟨by omega,good (k+1) (by omega) (by simp only [Int.toNat_natCast] at *; unfold stepP; rw [if_pos (by omega)])⟩,by show t.length-(i+1)<t.length-i; omega,⟨⟨[some 0],[],rfl,rfl,?_,?_⟩⟩⟩
    ·exact wq
    ·exact wq
   all_goals try (refine yesF h (bad (by omega) ?_); simp only [Int.toNat_natCast] at *; unfold stepP; rw [if_neg (by omega),if_neg (by omega)]; done)
  all_goals try (refine yesF h (bad (by omega) ?_); simp only [Int.toNat_natCast] at *; unfold stepP; rw [if_neg (by omega),if_neg (by omega)]; done)
  ·refine ⟨(i+1,k-1),⟨by omega,good (k-1) (by omega) (by simp only [Int.toNat_natCast] at *; unfold stepP; rw [if_neg (by omega),if_pos (by omega)])⟩,by show t.length-(i+1)<t.length-i; omega,⟨⟨[some 0],[],rfl,rfl,?_,?_⟩⟩⟩
   ·exact wq
   ·exact wq
  ·refine ⟨(i+1,k-1),⟨by omega,good (k-1) (by omega) (by simp only [Int.toNat_natCast] at *; unfold stepP; rw [if_neg (by omega),if_pos (by omega)])⟩,by show t.length-(i+1)<t.length-i; omega,⟨⟨[some 0],[],rfl,rfl,?_,?_⟩⟩⟩
   ·exact wq
   ·exact wq
 ·refine ⟨⟨p,bs⟩,?_,⟨h1,h2⟩,?_⟩
  ·exact wq
  have e:walkP bs t 0=some k:=by rw [List.take_of_length_le (by omega)] at i2; exact i2
  repeat' (first|refine vz ?_|(conv=>whnf); first|with_reducible first|refine Sp.mk ?_ ?_|refine br_d (fun _=>?_) fun _=>?_|refine vM (fun _=>?_) fun _=>?_)
  ·rename_i hO hk
   exact yesD h ⟨fun q=>by have:=q.2.1; omega,fun q=>⟨hO,by show t.length≤9; omega,by show walkP bs t 0=some 1; rw [e,show k=1 by omega]⟩⟩
  ·rename_i hO hk
   refine yesF h fun q=>?_
   have:=q.2.2
   rw [e] at this
   injection this with this
   omega
  ·rename_i hO
   exact yesF h fun q=>hO q.1
end Go.Proofs.YtgdbhjmpkkbnnaaGreatDoor.Vc
end
section
/- Part ZA: terms, plain: parts, and what a term says. -/
namespace Go.Proofs.YtgdbhjmpkkbnnaaGreatDoor.Vc
def band (a b:Int):Int:=bitop .i64 .and a b
theorem band_comm (a b:Int):band a b=band b a:=by
 unfold band bitop
 simp only [BitVec.and_comm]
theorem band_small:∀ a,a<64→∀ b,b<64→0≤band (a:Nat) (b:Nat)∧band (a:Nat) (b:Nat)<64:=by decide +kernel
theorem band_lt {a b:Int} (h1:0≤a) (h2:a<64) (h3:0≤b) (h4:b<64):0≤band a b∧band a b<64:=by
 have:=band_small a.toNat (by omega) b.toNat (by omega)
 rwa [Int.toNat_of_nonneg h1,Int.toNat_of_nonneg h3] at this
def cnt (bs:List Int) (c:Int) (m:Mark):Bool:=decide ((heads (band (bs.getD m.at_.toNat 0) c).toNat:Int)≥m.need)
def stepS (bs:List Int) (c:Int) (m:Mark) (s:List Bool):List Bool :=
 if m.kind=0 then cnt bs c m :: s
 else match s with
  |b :: a :: r=>(if m.kind=2 then a || b else a && b) :: r
  |s=>s
def runS (bs:List Int) (c:Int):List Mark→List Bool→List Bool
 |[],s=>s
 |m :: t,s=>runS bs c t (stepS bs c m s)
def says (bs:List Int) (c:Int) (t:List Mark):Bool:=(runS bs c t []).headD false
section
variable {bs:List Int} {c:Int}
theorem runS_app:∀ (l m:List Mark) (s:List Bool),runS bs c (l ++ m) s=runS bs c m (runS bs c l s)
 |[],_,_=>rfl
 |_ :: l,m,_=>runS_app l m _
theorem stepP_kind {m:Mark} {k j:Nat} (h:stepP bs m k=some j):(m.kind=0∧j=k+1)∨(m.kind≠0∧(m.kind=1∨m.kind=2)∧2≤k∧j=k-1):=by
 unfold stepP at h
 split at h
 ·injection h with h; exact .inl ⟨by omega,h.symm⟩
 ·split at h
  ·injection h with h; exact .inr ⟨by omega,by omega,by omega,h.symm⟩
  ·cases h
theorem stepP_more {m:Mark} {k j:Nat} (d:Nat) (h:stepP bs m k=some j):stepP bs m (k+d)=some (j+d):=by
 unfold stepP at h ⊢
 split at h
 ·rename_i h1; injection h with h; rw [if_pos h1,← h]; congr 1; omega
 ·rename_i h1
  split at h
  ·rename_i h2; injection h with h; rw [if_neg h1,if_pos (by omega),← h]; congr 1; omega
  ·cases h
theorem stepP_less {m:Mark} {k j:Nat} (d:Nat) (h:stepP bs m (k+d)=some (j+d)) (hj:1≤j):stepP bs m k=some j:=by
 unfold stepP at h ⊢
 split at h
 ·rename_i h1; injection h with h; rw [if_pos h1]; congr 1; omega
 ·rename_i h1
  split at h
  ·rename_i h2; injection h with h; rw [if_neg h1,if_pos (by omega)]; congr 1; omega
  ·cases h
theorem runS_frame:∀ (l:List Mark) (s r:List Bool) (j:Nat),walkP bs l s.length=some j→runS bs c l (s ++ r)=runS bs c l s ++ r∧(runS bs c l s).length=j
 |[],s,r,j,h=>by injection h with h; exact ⟨rfl,h⟩
 |m :: l,s,r,j,h=>by
  simp only [walkP] at h
  cases e:stepP bs m s.length with
  |none=>rw [e] at h; cases h
  |some k =>
   rw [e] at h
   simp only [Option.bind_some] at h
   have hs:stepS bs c m (s ++ r)=stepS bs c m s ++ r∧(stepS bs c m s).length=k:=by
    rcases stepP_kind e with ⟨h1,h2⟩|⟨h1,_,h3,h2⟩
    ·unfold stepS; rw [if_pos h1,if_pos h1]; exact ⟨rfl,by simp [h2]⟩
    ·unfold stepS; rw [if_neg h1,if_neg h1]
     match s,h3 with
     |x :: y :: z,_=>exact ⟨rfl,by simp [h2]⟩
   show runS bs c l (stepS bs c m (s ++ r))=runS bs c l (stepS bs c m s) ++ r∧(runS bs c l (stepS bs c m s)).length=j
   rw [hs.1]
   exact runS_frame l _ r j (by rw [hs.2]; exact h)
theorem walk_shift (d:Nat):∀ (l:List Mark) (k j:Nat),walkP bs l (k+d)=some (j+d)→(∀ n,n≤l.length→∀ q,walkP bs (l.take n) (k+d)=some q→n=0∨d+1≤q)→walkP bs l k=some j
 |[],k,j,h,_=>by
  simp only [walkP,Option.some.injEq] at h ⊢
  omega
 |m :: l,k,j,h,hn=>by
  simp only [walkP] at h ⊢
  cases e:stepP bs m (k+d) with
  |none=>rw [e] at h; cases h
  |some q =>
   rw [e] at h
   simp only [Option.bind_some] at h
   have h1:=hn 1 (by simp) q (by simp [walkP,e])
   have hq:q=(q-d)+d:=by omega
   rw [hq] at e h
   have e':=stepP_less d e (by omega)
   rw [e']
   simp only [Option.bind_some]
   refine walk_shift d l (q-d) j h fun n hl q' hq'=>?_
   have:=hn (n+1) (by simpa using hl) q' (by simp only [List.take_succ_cons,walkP]; rw [hq,e] at *; simpa using hq')
   omega
theorem walk_prefix {t:List Mark} {k:Nat} (h:walkP bs t 0=some k) (i:Nat):∃ q,walkP bs (t.take i) 0=some q:=by
 cases e:walkP bs (t.take i) 0 with
 |some q=>exact ⟨q,rfl⟩
 |none=>rw [walkP_none e] at h; cases h
end
open Go.Proofs
set_option maxRecDepth 10000
set_option maxHeartbeats 4000000
structure St where
 bs:List Int
 t:List Mark
 e:Nat
 k:Nat
def starts (x:St) (s:Nat):Prop:=s≤x.e∧walkP x.bs (x.t.take s) 0=some (x.k-1)∧∀ j,s<j→j≤x.e+1→∀ q,walkP x.bs (x.t.take j) 0=some q→x.k≤q
def C56:List AV→(AV→Prop)→Prop:=con (X:=St) (fun x=>[slM x.t,.int .i64 x.e]) (fun x=>x.e<x.t.length∧x.t.length<4611686018427387904∧1≤x.k∧walkP x.bs (x.t.take (x.e+1)) 0=some x.k) fun x K=>∀ s:Nat,starts x s→K (.int .i64 s)
theorem F56:FF 138 C56:=by
 refine fitE [] (by simp) Tryz.f138 ⟨rfl,by decide +kernel,by decide +kernel⟩ (fun _ _ _ hk h s hs=>hk _ (h s hs)) ?_
 rintro ⟨bs,t,e,k⟩ K ⟨h1,h2,h3,h4⟩ h
 refine ⟨Nat.le_of_ble_eq_true rfl,?_⟩
 dsimp only at h h1 h2 h3 h4 ⊢
 repeat' (first|refine vz ?_|(conv=>whnf); first|with_reducible first|refine Sp.mk ?_ ?_|refine br_d (fun _=>?_) fun _=>?_|refine vM (fun _=>?_) fun _=>?_)
 refine Lp.mk ⟨Nat × Nat,fun x=>[(0,slM t),(5,.int .i64 x.2),(6,.int .i64 (x.1-1))],fun _=>[],fun x=>x.1≤e+1∧walkP bs (t.take x.1) 0=some (k-1+x.2)∧∀ j,x.1<j→j≤e+1→∀ q,walkP bs (t.take j) 0=some q→k≤q,fun x=>x.1,⟨(e+1,1),⟨Nat.le_refl _,by rw [h4]; congr 1; omega,fun j h1 h2=>by omega⟩,⟨⟨[],[],rfl,rfl,?_,?_⟩⟩⟩,?_⟩
 ·exact wq
 ·exact wq
 rintro ⟨a,n⟩ ⟨i1,i2,i3⟩
 dsimp only at i1 i2 i3 ⊢
 have nle:n≤e+2:=by
  have:=walkP_le bs _ _ _ i2
  simp only [List.length_take] at this
  omega
 have a1:0<n→1≤a:=fun hn=>by
  rcases Nat.eq_zero_or_pos a with rfl|h
  ·simp only [List.take_zero,walkP,Option.some.injEq] at i2; omega
  ·exact h
 have above:∀ j,a-1<j→0<n→j≤e+1→∀ q,walkP bs (t.take j) 0=some q→k≤q:=fun j hj hn hje q hq=>by
  by_cases hja:j=a
  ·subst hja; rw [i2] at hq; injection hq with hq; omega
  ·exact i3 j (by omega) hje q hq
 have back:0<n→∃ q,walkP bs (t.take (a-1)) 0=some q∧stepP bs (t.getD (a-1) default) q=some (k-1+n):=fun hn=>by
  have:=a1 hn
  obtain ⟨q,hq⟩:=walk_prefix i2 (a-1)
  rw [List.take_take,Nat.min_eq_left (by omega)] at hq
  refine ⟨q,hq,?_⟩
  rw [← walkP_take (by omega) hq,show a-1+1=a by omega]
  exact i2
 repeat' ((conv=>whnf); first|((with_reducible refine And.intro (Chk.mk ?_) ?_); focus (have:=a1 (by omega); omega))|refine vA ?_|with_reducible first|refine v8 ?_|refine Ch.l ?_|refine Sp.mk ?_ ?_|refine vS ?_|refine vR ?_|refine vB ?_|refine br_nt ?_|refine br_tt ?_|refine br_ff ?_|refine vP ?_|refine vQ ?_|refine vT ?_|refine vF ?_|refine br_and ?_|refine br_or ?_|refine br_d (fun _=>?_) fun _=>?_|refine vM (fun _=>?_) fun _=>?_)
 ·rename_i hn hk
  have hn:0<n:=by omega
  have ha:=a1 hn
  obtain ⟨q,q1,q2⟩:=back hn
  have e1:((a:Int)-1).toNat=a-1:=by omega
  rw [e1] at hk
  rcases stepP_kind q2 with ⟨_,g⟩|⟨g,_⟩
  ·refine ⟨(a-1,n-1),⟨by show a-1≤e+1; omega,by show walkP bs (t.take (a-1)) 0=some (k-1+(n-1)); rw [q1]; congr 1; omega,fun j hj hje=>above j hj hn hje⟩,by show a-1<a; omega,⟨⟨[],[],rfl,rfl,?_,?_⟩⟩⟩
   ·exact wq
   ·exact wq
  ·exact absurd hk g
 ·rename_i hn hk
  have hn:0<n:=by omega
  have ha:=a1 hn
  obtain ⟨q,q1,q2⟩:=back hn
  have e1:((a:Int)-1).toNat=a-1:=by omega
  rw [e1] at hk
  rcases stepP_kind q2 with ⟨g,_⟩|⟨_,_,_,g⟩
  ·exact absurd g hk
  ·refine ⟨(a-1,n+1),⟨by show a-1≤e+1; omega,by show walkP bs (t.take (a-1)) 0=some (k-1+(n+1)); rw [q1]; congr 1; omega,fun j hj hje=>above j hj hn hje⟩,by show a-1<a; omega,⟨⟨[],[],rfl,rfl,?_,?_⟩⟩⟩
   ·exact wq
   ·exact wq
 ·rename_i hn
  have hn:n=0:=by omega
  subst hn
  have:=h a ⟨?_,i2,i3⟩
  ·exact (congrArg (fun z=>K (AV.int IntKind.i64 z)) (by omega:(a:Int)=a-1+1)) ▸ this
  ·show a≤e
   rcases Nat.lt_or_ge e a with h5|h5
   ·have:a=e+1:=by omega
    subst this
    rw [h4] at i2
    injection i2 with i2
    omega
   ·exact h5
end Go.Proofs.YtgdbhjmpkkbnnaaGreatDoor.Vc
end
section
/- Part ZB: what a term says, by the reference. -/
namespace Go.Proofs.YtgdbhjmpkkbnnaaGreatDoor.Vc
open Go.Proofs
set_option maxRecDepth 10000
set_option maxHeartbeats 4000000
section
variable {bs:List Int} {c:Int}
theorem walk_pos {l:List Mark} {m:Mark} {k:Nat} (h:walkP bs (l ++ [m]) 0=some k):1≤k:=by
 rw [walkP_app] at h
 cases e:walkP bs l 0 with
 |none=>rw [e] at h; cases h
 |some q =>
  rw [e] at h
  simp only [Option.bind_some,walkP] at h
  cases e2:stepP bs m q with
  |none=>rw [e2] at h; cases h
  |some j =>
   rw [e2] at h
   simp only [Option.bind_some,Option.some.injEq] at h
   subst h
   rcases stepP_kind e2 with ⟨_,h⟩|⟨_,_,_,h⟩ <;> omega
theorem walk_zero {l:List Mark} (h:walkP bs l 0=some 0):l=[]:=by
 rcases List.eq_nil_or_concat l with rfl|⟨l',m,rfl⟩
 ·rfl
 ·have:=walk_pos (bs:=bs) (by simpa using h)
  omega
theorem last_mark {t:List Mark} (h:walkP bs t 0=some 1):∃ n m q,t.length=n+1∧t.getD n default=m∧t=t.take n ++ [m]∧walkP bs (t.take n) 0=some q∧stepP bs m q=some 1:=by
 have hl:t≠[]:=by rintro rfl; simp [walkP] at h
 have hpos:0<t.length:=List.length_pos_iff.2 hl
 refine ⟨t.length-1,t.getD (t.length-1) default,?_⟩
 obtain ⟨q,hq⟩:=walk_prefix h (t.length-1)
 have h1:=take_succ' (l:=t) (i:=t.length-1) default (by omega)
 rw [show t.length-1+1=t.length by omega,List.take_length] at h1
 refine ⟨q,by omega,rfl,h1,hq,?_⟩
 have:=walkP_take (i:=t.length-1) (by omega) hq
 rw [show t.length-1+1=t.length by omega,List.take_length] at this
 rw [← this]; exact h
theorem says_body {t:List Mark} {n:Nat} (h:walkP bs t 0=some 1) (hn:t.length=n+1) (hk:(t.getD n default).kind=0):says bs c t=cnt bs c (t.getD n default):=by
 obtain ⟨n',m,q,h1,h2,h3,h4,h5⟩:=last_mark h
 obtain rfl:n'=n:=by omega
 rw [h2] at hk ⊢
 rcases stepP_kind h5 with ⟨_,hq⟩|⟨hq,_⟩
 ·have:q=0:=by omega
  subst this
  have:=walk_zero h4
  rw [h3,this]
  simp [says,runS,stepS,hk]
 ·exact absurd hk hq
theorem says_split {t:List Mark} {n s:Nat} (h:walkP bs t 0=some 1) (hn:t.length=n+1) (hk:(t.getD n default).kind≠0):walkP bs (t.take n) 0=some 2∧1≤n ∧
  (starts ⟨bs,t,n-1,2⟩ s→s<n∧1≤s∧walkP bs (t.take s) 0=some 1∧walkP bs ((t.take n).drop s) 0=some 1 ∧
   says bs c t=(if (t.getD n default).kind=2 then says bs c (t.take s) || says bs c ((t.take n).drop s) else says bs c (t.take s) && says bs c ((t.take n).drop s))):=by
 obtain ⟨n',m,q,h1,h2,h3,h4,h5⟩:=last_mark h
 obtain rfl:n'=n:=by omega
 rw [h2] at hk ⊢
 rcases stepP_kind h5 with ⟨hq,_⟩|⟨_,_,hq2,hq⟩
 ·exact absurd hq hk
 ·have:q=2:=by omega
  subst this
  have hn1:1≤n':=by
   rcases Nat.eq_zero_or_pos n' with rfl|h0
   ·simp [walkP] at h4
   ·exact h0
  refine ⟨h4,hn1,fun hs=>?_⟩
  obtain ⟨s1,s2,s3⟩:=hs
  dsimp only at s1 s2 s3
  have hs1:1≤s:=by
   rcases Nat.eq_zero_or_pos s with rfl|h0
   ·simp [walkP] at s2
   ·exact h0
  have e1:t.take n'=t.take s ++ (t.take n').drop s:=by
   have:=(List.take_append_drop s (t.take n')).symm
   rwa [List.take_take,Nat.min_eq_left (by omega)] at this
  have w2:walkP bs ((t.take n').drop s) 1=some 2:=by
   rw [e1,walkP_app,s2] at h4
   exact h4
  have w3:walkP bs ((t.take n').drop s) 0=some 1:=by
   refine walk_shift 1 _ 0 1 w2 fun j hj q hq=>?_
   rcases Nat.eq_zero_or_pos j with h0|h0
   ·exact .inl h0
   ·right
    simp only [List.length_drop,List.length_take] at hj
    refine s3 (s+j) (by omega) (by omega) q ?_
    have:t.take (s+j)=t.take s ++ ((t.take n').drop s).take j:=by
     rw [List.take_add,List.take_drop,List.take_drop,List.take_take,Nat.min_eq_left (by omega)]
    rw [this,walkP_app,s2]
    exact hq
  refine ⟨by omega,hs1,s2,w3,?_⟩
  have f1:=runS_frame (bs:=bs) (c:=c) (t.take s) [] [] 1 s2
  have f2:=runS_frame (bs:=bs) (c:=c) ((t.take n').drop s) [] (runS bs c (t.take s) []) 1 w3
  obtain ⟨v1,hv1⟩:=List.length_eq_one_iff.1 f1.2
  obtain ⟨v2,hv2⟩:=List.length_eq_one_iff.1 f2.2
  have hr:runS bs c t []=stepS bs c m [v2,v1]:=by
   rw [h3,runS_app,e1,runS_app]
   have:=f2.1
   rw [List.nil_append] at this
   rw [this,hv2,hv1]
   rfl
  unfold says
  rw [hr,hv1,hv2]
  unfold stepS
  rw [if_neg hk]
  simp only [List.headD_cons]
end
theorem take_ext {t:List Mark} {l s:Nat} (hs:s≤t.length):s-l=((t.take s).drop l).length∧∀ i,i<s-l→encM (t.getD (l+i) default)=encM (((t.take s).drop l).getD i default):=by
 refine ⟨by simp [Nat.min_eq_left hs],fun i hi=>?_⟩
 congr 1
 simp only [List.getD_eq_getElem?_getD,List.getElem?_drop]
 rw [List.getElem?_take_of_lt (by omega)]
theorem take_ext0 {t:List Mark} {s:Nat} (hs:s≤t.length):s-0=(t.take s).length∧∀ i,i<s-0→encM (t.getD (0+i) default)=encM ((t.take s).getD i default):=by
 have:=take_ext (l:=0) hs
 rwa [List.drop_zero] at this
structure Sy where
 p:Int
 bs:List Int
 t:List Mark
 c:Int
def sayOk (x:Sy):Prop:=x.t.length<4611686018427387904∧walkP x.bs x.t 0=some 1∧(∀ b∈x.bs,0≤b∧b<64)∧0≤x.c∧x.c<64
def C36k (k:Nat):List AV→(AV→Prop)→Prop:=con (X:=Sy) (fun x=>[house x.p x.bs,slM x.t,.int .i64 x.c]) (fun x=>x.t.length<k∧sayOk x) fun x K=>K (.bool (says x.bs x.c x.t))
theorem F36k:∀ k,FF 111 (C36k k):=by
 intro k
 induction k with
 |zero=>exact fitE [] (by simp) Tryz.f111 ⟨rfl,by decide +kernel,by decide +kernel⟩ (fun _ _ _ hk h=>hk _ h) fun x K h=>absurd h.1 (Nat.not_lt_zero _)
 |succ k ih =>
  refine fitE [(111,C36k k),(113,C48),(138,C56)] (by simp only [List.mem_cons,List.not_mem_nil,or_false]; rintro _ (rfl|rfl|rfl) <;> first|exact ih|exact F48|exact F56) Tryz.f111 ⟨rfl,by decide +kernel,by decide +kernel⟩ (fun _ _ _ hk h=>hk _ h) ?_
  rintro ⟨p,bs,t,c⟩ K ⟨h0,h1,h2,h3,h4,h5⟩ h
  refine ⟨Nat.le_of_ble_eq_true rfl,?_⟩
  dsimp only at h h0 h1 h2 h3 h4 h5 ⊢
  obtain ⟨n,m,q,g1,g2,g3,g4,g5⟩:=last_mark h2
  have hn:((t.length:Int)-1).toNat=n:=by omega
  have hat:(t.getD ((t.length:Int)-1).toNat default).kind=0→0≤(t.getD ((t.length:Int)-1).toNat default).at_∧(t.getD ((t.length:Int)-1).toNat default).at_<bs.length:=by
   rw [hn,g2]
   intro hk
   unfold stepP at g5
   split at g5
   ·omega
   ·rw [if_neg (by omega)] at g5; cases g5
  repeat' (first|refine vz ?_|(conv=>whnf); first|with_reducible first|refine Sp.mk ?_ ?_|refine br_d (fun _=>?_) fun _=>?_|refine vM (fun _=>?_) fun _=>?_)
  ·rename_i hk
   have hb:=hat hk
   refine Dr.mk ⟨(.rd 0 (.rd 1 (.rd 2 (.rd 3 (.rd 4 (.rd 5 (.rd 6 (.rd 7 (.rd 8 (.rd 9 (.rd 10 (.rd 12 (.rd 13 (.rd 14 (.rd 15 (.rd 16 (.ef 11 (.rd 17 (.rd 18 .dn)) .no))))))))))))))))),by decide +kernel,?_⟩
   repeat' (first|refine vz ?_|(conv=>whnf); first|with_reducible first|refine Sp.mk ?_ ?_|refine br_d (fun _=>?_) fun _=>?_|refine vM (fun _=>?_) fun _=>?_)
   have hb2:=h3 _ (getD_mem' (l:=bs) (i:=(t.getD ((t.length:Int)-1).toNat default).at_.toNat) (d:=0) (by omega))
   have hb3:=band_lt hb2.1 hb2.2 h4 h5
   rw [band_comm] at hb3
   refine ⟨band c (bs.getD (t.getD ((t.length:Int)-1).toNat default).at_.toNat 0),?_,⟨by unfold i64r; omega⟩,?_⟩
   ·exact wq
   repeat' (first|refine vz ?_|(conv=>whnf); first|with_reducible first|refine Sp.mk ?_ ?_|refine br_d (fun _=>?_) fun _=>?_|refine vM (fun _=>?_) fun _=>?_)
   rw [says_body h2 g1 (by rw [← hn]; exact hk),← hn] at h
   unfold cnt at h
   rw [band_comm] at h
   exact h
  rename_i hk
  rw [hn] at hk
  obtain ⟨k1,k2,_⟩:=says_split (c:=c) (s:=0) h2 g1 hk
  refine ⟨⟨bs,t,n-1,2⟩,?_,⟨⟨by show n-1<t.length; omega,h1,(by decide:1≤2),by show walkP bs (t.take (n-1+1)) 0=some 2; rw [show n-1+1=n by omega]; exact k1⟩⟩,?_⟩
  ·dsimp only
   repeat' ((conv=>whnf); first|with_reducible exact True.intro|exact vW|with_reducible refine And.intro ?_ ?_)
  intro s hs
  obtain ⟨_,_,k3⟩:=says_split (c:=c) (s:=s) h2 g1 hk
  obtain ⟨s1,s2,s3,s4,s5⟩:=k3 hs
  rw [s5] at h
  have l1:(t.take s).length=s:=by rw [List.length_take]; omega
  have l2:((t.take n).drop s).length=n-s:=by simp; omega
  have e2:((t.length:Int)-1).toNat-s=((t.take n).drop s).length∧∀ i,i<((t.length:Int)-1).toNat-s→encM (t.getD (s+i) default)=encM (((t.take n).drop s).getD i default):=by
   rw [hn]
   exact take_ext (by omega)
  repeat' (first|refine vz ?_|(conv=>whnf); first|with_reducible first|refine Sp.mk ?_ ?_|refine br_d (fun _=>?_) fun _=>?_|refine vM (fun _=>?_) fun _=>?_)
  ·rename_i hk2
   rw [hn] at hk2
   rw [if_pos hk2] at h
   refine Dr.mk ⟨(.rd 0 (.rd 1 (.rd 2 (.rd 3 (.rd 4 (.ef 5 (.rd 6 (.rd 7 (.rd 8 (.rd 9 (.rd 10 (.rd 11 (.rd 12 (.ef 13 (.rd 14 (.rd 15 .dn)) .no)))))))) .no)))))),by decide +kernel,?_⟩
   repeat' (first|refine vz ?_|(conv=>whnf); first|with_reducible first|refine Sp.mk ?_ ?_|refine br_d (fun _=>?_) fun _=>?_|refine vM (fun _=>?_) fun _=>?_)
   refine ⟨⟨p,bs,t.take s,c⟩,?_,⟨by show (t.take s).length<k; rw [l1]; omega,by show (t.take s).length<_; rw [l1]; omega,s3,h3,h4,h5⟩,?_⟩
   ·repeat' ((conv=>whnf); first|with_reducible exact True.intro|exact vW|with_reducible refine And.intro ?_ ?_)
    all_goals exact Chk.mk (take_ext0 (by omega))
   dsimp only
   repeat' (first|refine vz ?_|(conv=>whnf); first|with_reducible first|refine Sp.mk ?_ ?_|refine br_d (fun _=>?_) fun _=>?_|refine vM (fun _=>?_) fun _=>?_)
   ·rename_i hv
    rw [hv,Bool.true_or] at h
    exact h
   rename_i hv
   rw [hv,Bool.false_or] at h
   refine ⟨⟨p,bs,(t.take n).drop s,c⟩,?_,⟨by show ((t.take n).drop s).length<k; rw [l2]; omega,by show ((t.take n).drop s).length<_; rw [l2]; omega,s4,h3,h4,h5⟩,?_⟩
   ·repeat' ((conv=>whnf); first|with_reducible exact True.intro|exact vW|with_reducible refine And.intro ?_ ?_)
    all_goals exact Chk.mk e2
   dsimp only
   repeat' (first|refine vz ?_|(conv=>whnf); first|with_reducible first|refine Sp.mk ?_ ?_|refine br_d (fun _=>?_) fun _=>?_|refine vM (fun _=>?_) fun _=>?_)
   exact h
  ·rename_i hk2
   rw [hn] at hk2
   rw [if_neg hk2] at h
   refine Dr.mk ⟨(.rd 0 (.rd 1 (.rd 2 (.rd 3 (.rd 4 (.ef 5 (.rd 6 (.rd 7 (.rd 8 (.rd 9 (.rd 10 (.rd 11 (.rd 12 (.ef 13 (.rd 14 (.rd 15 .dn)) .no)))))))) .no)))))),by decide +kernel,?_⟩
   repeat' (first|refine vz ?_|(conv=>whnf); first|with_reducible first|refine Sp.mk ?_ ?_|refine br_d (fun _=>?_) fun _=>?_|refine vM (fun _=>?_) fun _=>?_)
   refine ⟨⟨p,bs,t.take s,c⟩,?_,⟨by show (t.take s).length<k; rw [l1]; omega,by show (t.take s).length<_; rw [l1]; omega,s3,h3,h4,h5⟩,?_⟩
   ·repeat' ((conv=>whnf); first|with_reducible exact True.intro|exact vW|with_reducible refine And.intro ?_ ?_)
    all_goals exact Chk.mk (take_ext0 (by omega))
   dsimp only
   repeat' (first|refine vz ?_|(conv=>whnf); first|with_reducible first|refine Sp.mk ?_ ?_|refine br_d (fun _=>?_) fun _=>?_|refine vM (fun _=>?_) fun _=>?_)
   ·rename_i hv
    rw [hv,Bool.true_and] at h
    refine ⟨⟨p,bs,(t.take n).drop s,c⟩,?_,⟨by show ((t.take n).drop s).length<k; rw [l2]; omega,by show ((t.take n).drop s).length<_; rw [l2]; omega,s4,h3,h4,h5⟩,?_⟩
    ·repeat' ((conv=>whnf); first|with_reducible exact True.intro|exact vW|with_reducible refine And.intro ?_ ?_)
     all_goals exact Chk.mk e2
    dsimp only
    repeat' (first|refine vz ?_|(conv=>whnf); first|with_reducible first|refine Sp.mk ?_ ?_|refine br_d (fun _=>?_) fun _=>?_|refine vM (fun _=>?_) fun _=>?_)
    exact h
   rename_i hv
   rw [hv,Bool.false_and] at h
   exact h
def C36:List AV→(AV→Prop)→Prop:=con (X:=Sy) (fun x=>[house x.p x.bs,slM x.t,.int .i64 x.c]) sayOk fun x K=>K (.bool (says x.bs x.c x.t))
theorem F36:FF 111 C36:=fun Gl hG=>fits_rec (fun x=>x.t.length) fun k=>F36k k Gl hG
end Go.Proofs.YtgdbhjmpkkbnnaaGreatDoor.Vc
end
section
/- Part TA: the texts of terms, and how they are read; plain. -/
namespace Go.Proofs.YtgdbhjmpkkbnnaaGreatDoor.Vc
/-! ### Bytes -/
def bys (s:ByteArray):List Int:=s.data.toList.map fun b=>(b.toNat:Int)
theorem bys_app (a b:ByteArray):bys (a ++ b)=bys a ++ bys b:=by
 show List.map _ (a ++ b).data.toList=_
 rw [ByteArray.data_append,Array.toList_append,List.map_append]
 rfl
theorem bys_len (s:ByteArray):(bys s).length=s.size:=by
 show (List.map _ s.data.toList).length=s.data.size
 rw [List.length_map,Array.length_toList]
theorem bys_at {s:ByteArray} {i:Nat} (h:i<s.size):(bys s)[i]?=some (bt s i):=by
 have h':i<s.data.size:=h
 simp [bys,bt,Array.getElem?_eq_getElem h']
def rem (s:ByteArray) (i:Nat):List Int:=(bys s).drop i
theorem rem_len (s:ByteArray) (i:Nat):(rem s i).length=s.size-i:=by rw [rem,List.length_drop,bys_len]
theorem rem_lt {s:ByteArray} {i:Nat} (h:i<s.size):rem s i=bt s i :: rem s (i+1):=by
 rw [rem,List.drop_eq_getElem?_toList_append,bys_at h]
 rfl
theorem rem_ge {s:ByteArray} {i:Nat} (h:s.size≤i):rem s i=[]:=List.drop_eq_nil_of_le (by rw [bys_len]; exact h)
theorem bt_u8 (s:ByteArray) (i:Nat):0≤bt s i∧bt s i≤255:=by
 unfold bt
 have:=(s.data.getD i 0).toNat_lt
 omega
/-! ### How a term is read -/
abbrev PR:=Option (List Mark × List Int)
def loopF (rd:List Int→PR) (sign kind:Int):Nat→List Mark→List Int→PR
 |0,t,s=>some (t,s)
 |_+1,t,[]=>some (t,[])
 |k+1,t,c :: s=>if c=sign then (rd s).bind fun q=>loopF rd sign kind k (t ++ q.1 ++ [⟨kind,0,0⟩]) q.2 else some (t,c :: s)
def joinP (rd:List Int→PR) (sign kind:Int) (s:List Int):PR:=(rd s).bind fun q=>loopF rd sign kind q.2.length q.1 q.2
def bothP (rd:List Int→PR):List Int→PR:=joinP rd 38 1
def eitherP (rd:List Int→PR):List Int→PR:=joinP (bothP rd) 124 2
def closeP:PR→PR
 |some (t,c :: s)=>if c=41 then some (t,s) else none
 |_=>none
def atomP (lo:Int) (b:Int):List Int→PR
 |d :: s=>if 65≤b∧b≤68∧lo≤d∧d≤57 then some ([⟨0,b-65,d-48⟩],s) else none
 |[]=>none
def partF (lo:Int):Nat→List Int→PR
 |0=>fun _=>none
 |f+1=>fun s=>match s with
  |[]=>none
  |b :: r=>if b=40 then closeP (eitherP (partF lo f) r) else atomP lo b r
def fair (rd:List Int→PR):Prop:=∀ s t r,rd s=some (t,r)→1≤t.length∧t.length+r.length≤s.length
theorem loopF_fair {rd:List Int→PR} (h:fair rd) (sign kind:Int):∀ k t s u r,loopF rd sign kind k t s=some (u,r)→t.length≤u.length∧u.length+r.length≤t.length+s.length
 |0,t,s,u,r,e=>by
  simp only [loopF,Option.some.injEq,Prod.mk.injEq] at e
  obtain ⟨rfl,rfl⟩:=e
  omega
 |k+1,t,[],u,r,e=>by
  simp only [loopF,Option.some.injEq,Prod.mk.injEq] at e
  obtain ⟨rfl,rfl⟩:=e
  omega
 |k+1,t,c :: s,u,r,e=>by
  unfold loopF at e
  split at e
  ·cases e1:rd s with
   |none=>rw [e1] at e; cases e
   |some q =>
    rw [e1] at e
    have h1:=h s q.1 q.2 e1
    have h2:=loopF_fair h sign kind k _ _ u r e
    simp only [List.length_append,List.length_cons,List.length_nil] at h2 ⊢
    omega
  ·simp only [Option.some.injEq,Prod.mk.injEq] at e
   obtain ⟨rfl,rfl⟩:=e
   omega
theorem joinP_fair {rd:List Int→PR} (h:fair rd) (sign kind:Int):fair (joinP rd sign kind):=fun s t r e=>by
 unfold joinP at e
 cases e1:rd s with
 |none=>rw [e1] at e; cases e
 |some q =>
  rw [e1] at e
  have h1:=h s q.1 q.2 e1
  have h2:=loopF_fair h sign kind _ _ _ t r e
  omega
theorem partF_fair (lo:Int):∀ f,fair (partF lo f)
 |0=>fun s t r e=>by cases e
 |f+1=>fun s t r e=>by
  unfold partF at e
  cases s with
  |nil=>cases e
  |cons b s =>
   dsimp only at e
   split at e
   ·have hf:=joinP_fair (joinP_fair (partF_fair lo f) 38 1) 124 2
    unfold closeP at e
    split at e
    ·rename_i t' c s' e1
     split at e
     ·simp only [Option.some.injEq,Prod.mk.injEq] at e
      obtain ⟨rfl,rfl⟩:=e
      have:=hf _ _ _ e1
      simp only [List.length_cons] at this ⊢
      omega
     ·cases e
    ·cases e
   ·unfold atomP at e
    split at e
    ·split at e
     ·simp only [Option.some.injEq,Prod.mk.injEq] at e
      obtain ⟨rfl,rfl⟩:=e
      simp only [List.length_cons,List.length_nil]
      omega
     ·cases e
    ·cases e
theorem bothP_fair (lo:Int) (f:Nat):fair (bothP (partF lo f)):=joinP_fair (partF_fair lo f) 38 1
theorem eitherP_fair (lo:Int) (f:Nat):fair (eitherP (partF lo f)):=joinP_fair (bothP_fair lo f) 124 2
theorem loopF_stop {rd:List Int→PR} {sign kind:Int} {k:Nat} {t:List Mark} {s:List Int} (h:s.head?≠some sign):loopF rd sign kind k t s=some (t,s):=by
 cases k with
 |zero=>rfl
 |succ k=>cases s with
  |nil=>rfl
  |cons c s =>
   unfold loopF
   rw [if_neg (fun e=>h (by rw [e]; rfl))]
theorem loopF_fuel {rd:List Int→PR} (h:fair rd) {sign kind:Int}:∀ k j t s,s.length≤k→s.length≤j→loopF rd sign kind k t s=loopF rd sign kind j t s
 |0,j,t,s,h1,_=>by
  have:s=[]:=List.eq_nil_of_length_eq_zero (by omega)
  subst this
  rw [loopF_stop (by simp),loopF_stop (by simp)]
 |k+1,j,t,[],_,_=>by rw [loopF_stop (by simp),loopF_stop (by simp)]
 |k+1,0,t,c :: s,_,h2=>by simp at h2
 |k+1,j+1,t,c :: s,h1,h2=>by
  unfold loopF
  split
  ·cases e1:rd s with
   |none=>rfl
   |some q =>
    have:=h s q.1 q.2 e1
    simp only [List.length_cons] at h1 h2
    exact loopF_fuel h k j _ _ (by omega) (by omega)
  ·rfl
theorem loopF_more {rd:List Int→PR} (h:fair rd) {sign kind:Int} {t u:List Mark} {s r:List Int} (e:rd s=some (u,r)):loopF rd sign kind (sign :: s).length t (sign :: s)=loopF rd sign kind r.length (t ++ u ++ [⟨kind,0,0⟩]) r:=by
 have h1:=h s u r e
 rw [List.length_cons,loopF,if_pos rfl,e]
 exact loopF_fuel h _ _ _ _ (by show r.length≤_; omega) (Nat.le_refl _)
/-! ### The text -/
structure Pt where
 s:ByteArray
 o:Bool
 n:Int
 deriving Inhabited
def letter (a:Int):ByteArray:=⟨#[UInt8.ofNat (65+a.toNat)]⟩
def wrapT (s:ByteArray) (b:Bool):ByteArray:=if b=true then ⟨#[40]⟩ ++ s ++ ⟨#[41]⟩ else s
def join2 (k:Int) (a b:Pt):Pt:=if k=2 then ⟨a.s ++ ⟨#[124]⟩ ++ wrapT b.s b.o,true,a.n+b.n+1⟩ else ⟨wrapT a.s a.o ++ ⟨#[38]⟩ ++ wrapT b.s (decide (b.n > 1)),false,a.n+b.n+1⟩
def stepT (m:Mark) (st:List Pt):List Pt:=if m.kind=0 then ⟨letter m.at_ ++ num m.need,false,1⟩ :: st else match st with
 |b :: a :: r=>join2 m.kind a b :: r
 |s=>s
def runT:List Mark→List Pt→List Pt
 |[],s=>s
 |m :: t,s=>runT t (stepT m s)
def partT (t:List Mark):Pt:=(runT t []).headD default
def textT (t:List Mark):ByteArray:=(partT t).s
theorem runT_app:∀ (l m:List Mark) (s:List Pt),runT (l ++ m) s=runT m (runT l s)
 |[],_,_=>rfl
 |_ :: l,m,_=>runT_app l m _
section
variable {bs:List Int}
theorem runT_frame:∀ (l:List Mark) (s r:List Pt) (j:Nat),walkP bs l s.length=some j→runT l (s ++ r)=runT l s ++ r∧(runT l s).length=j
 |[],s,r,j,h=>by injection h with h; exact ⟨rfl,h⟩
 |m :: l,s,r,j,h=>by
  simp only [walkP] at h
  cases e:stepP bs m s.length with
  |none=>rw [e] at h; cases h
  |some k =>
   rw [e] at h
   simp only [Option.bind_some] at h
   have hs:stepT m (s ++ r)=stepT m s ++ r∧(stepT m s).length=k:=by
    rcases stepP_kind e with ⟨h1,h2⟩|⟨h1,_,h3,h2⟩
    ·unfold stepT; rw [if_pos h1,if_pos h1]; exact ⟨rfl,by simp [h2]⟩
    ·unfold stepT; rw [if_neg h1,if_neg h1]
     match s,h3 with
     |x :: y :: z,_=>exact ⟨rfl,by simp [h2]⟩
   show runT l (stepT m (s ++ r))=runT l (stepT m s) ++ r∧(runT l (stepT m s)).length=j
   rw [hs.1]
   exact runT_frame l _ r j (by rw [hs.2]; exact h)
theorem runT_one {l:List Mark} (h:walkP bs l 0=some 1) (r:List Pt):runT l r=partT l :: r:=by
 have h1:=runT_frame l [] r 1 h
 obtain ⟨v,hv⟩:=List.length_eq_one_iff.1 h1.2
 rw [List.nil_append] at h1
 rw [h1.1]
 unfold partT
 rw [hv]
 rfl
theorem partT_node {l r:List Mark} {m:Mark} (hl:walkP bs l 0=some 1) (hr:walkP bs r 0=some 1) (hm:m.kind≠0):partT (l ++ r ++ [m])=join2 m.kind (partT l) (partT r):=by
 show (runT (l ++ r ++ [m]) []).headD default=_
 rw [runT_app,runT_app,runT_one hl,runT_one hr]
 simp [runT,stepT,hm]
theorem partT_leaf {m:Mark} (hm:m.kind=0):partT [m]=⟨letter m.at_ ++ num m.need,false,1⟩:=by
 show (runT [m] []).headD default=_
 simp [runT,stepT,hm]
inductive Tr (bs:List Int):List Mark→Prop
 |leaf (m:Mark) (hk:m.kind=0) (h:stepP bs m 0=some 1):Tr bs [m]
 |node (l r:List Mark) (k:Int) (hk:k=1∨k=2) (hl:Tr bs l) (hr:Tr bs r):Tr bs (l ++ r ++ [⟨k,0,0⟩])
theorem stepP_node {k:Int} (hk:k=1∨k=2) {q:Nat} (hq:2≤q):stepP bs ⟨k,0,0⟩ q=some (q-1):=by
 unfold stepP
 rw [if_neg (by dsimp only; omega),if_pos (by dsimp only; omega)]
theorem Tr.walk {t:List Mark} (h:Tr bs t):∀ q,walkP bs t q=some (q+1):=by
 induction h with
 |leaf m hk h =>
  intro q
  have:=stepP_more q h
  simp only [walkP]
  rw [Nat.zero_add] at this
  rw [this]
  simp only [Option.bind_some,Option.some.injEq]
  omega
 |node l r k hk _ _ h1 h2 =>
  intro q
  rw [walkP_app,walkP_app,h1,Option.bind_some,h2,Option.bind_some]
  simp only [walkP]
  rw [stepP_node hk (by omega)]
  rfl
theorem walk_last:∀ (n:Nat) (u:List Mark) (k:Nat),u.length≤n→walkP bs u 0=some (k+1)→∃ v r,u=v ++ r∧walkP bs v 0=some k∧Tr bs r
 |0,u,k,hn,h=>by
  have:u=[]:=List.eq_nil_of_length_eq_zero (by omega)
  subst this
  simp [walkP] at h
 |n+1,u,k,hn,h=>by
  rcases List.eq_nil_or_concat u with rfl|⟨v,m,rfl⟩
  ·simp [walkP] at h
  ·rw [List.concat_eq_append] at h hn ⊢
   rw [walkP_app] at h
   cases e:walkP bs v 0 with
   |none=>rw [e] at h; cases h
   |some q =>
    rw [e] at h
    simp only [Option.bind_some,walkP] at h
    cases e2:stepP bs m q with
    |none=>rw [e2] at h; cases h
    |some j =>
     rw [e2] at h
     simp only [Option.bind_some,Option.some.injEq] at h
     subst h
     simp only [List.length_append,List.length_cons,List.length_nil] at hn
     rcases stepP_kind e2 with ⟨h1,h2⟩|⟨h1,h0,h3,h2⟩
     ·obtain rfl:k=q:=by omega
      refine ⟨v,[m],rfl,e,.leaf m h1 ?_⟩
      unfold stepP at e2 ⊢
      split at e2
      ·rename_i g; rw [if_pos g]
      ·rename_i g
       rw [if_neg (by omega)] at e2
       cases e2
     ·obtain ⟨q',rfl⟩:∃ q',q=q'+1:=⟨q-1,by omega⟩
      obtain ⟨v1,r2,rfl,w1,t2⟩:=walk_last n v q' (by omega) e
      simp only [List.length_append] at hn
      obtain ⟨q'',rfl⟩:∃ q'',q'=q''+1:=⟨q'-1,by omega⟩
      obtain ⟨v2,r1,rfl,w2,t1⟩:=walk_last n v1 q'' (by omega) w1
      obtain rfl:k=q'':=by omega
      have hm:m=⟨m.kind,0,0⟩:=by
       unfold stepP at e2
       rw [if_neg (by omega)] at e2
       split at e2
       ·rename_i g
        obtain ⟨kd,a,nd⟩:=m
        obtain ⟨_,g2,g3,_⟩:=g
        dsimp only at g2 g3
        subst g2; subst g3; rfl
       ·cases e2
      refine ⟨v2,r1 ++ r2 ++ [m],by simp [List.append_assoc],w2,?_⟩
      rw [hm]
      exact .node r1 r2 m.kind h0 t1 t2
theorem Tr.of {t:List Mark} (h:walkP bs t 0=some 1):Tr bs t:=by
 obtain ⟨v,r,rfl,h1,h2⟩:=walk_last _ t 0 (Nat.le_refl _) h
 rw [walk_zero h1]
 exact h2
theorem Tr.one {t:List Mark} (h:Tr bs t):walkP bs t 0=some 1:=h.walk 0
theorem Tr.len {t:List Mark} (h:Tr bs t):1≤t.length:=by
 cases h with
 |leaf=>simp
 |node=>simp only [List.length_append,List.length_cons,List.length_nil]; omega
theorem partT_n {t:List Mark} (h:Tr bs t):(partT t).n=t.length:=by
 induction h with
 |leaf m hk _=>rw [partT_leaf hk]; rfl
 |node l r k hk h1 h2 g1 g2 =>
  rw [partT_node h1.one h2.one (by dsimp only; omega)]
  unfold join2
  split <;> simp [g1,g2,Int.add_assoc]
/-! ### The text is read back -/
theorem bys_letter {a:Int} (h0:0≤a) (h1:a<4):bys (letter a)=[65+a]:=by
 obtain ⟨n,rfl⟩:∃ n:Nat,a=n:=⟨a.toNat,by omega⟩
 have:n=0∨n=1∨n=2∨n=3:=by omega
 rcases this with rfl|rfl|rfl|rfl <;> rfl
theorem bys_num {a:Int} (h0:0≤a) (h1:a<10):bys (num a)=[48+a]:=by
 rw [num_small h0 h1]
 obtain ⟨n,rfl⟩:∃ n:Nat,a=n:=⟨a.toNat,by omega⟩
 have:n=0∨n=1∨n=2∨n=3∨n=4∨n=5∨n=6∨n=7∨n=8∨n=9:=by omega
 rcases this with rfl|rfl|rfl|rfl|rfl|rfl|rfl|rfl|rfl|rfl <;> rfl
def bodies (bs:List Int):Prop:=bs.length≤4∧∀ b∈bs,0≤b∧b<64
theorem heads64 {b:Int} (h0:0≤b) (h1:b<64):heads b.toNat≤6:=by
 have key:∀ n,n<64→heads n≤6:=by decide +kernel
 exact key b.toNat (by omega)
theorem leaf_in (hb:bodies bs) {m:Mark} (_hk:m.kind=0) (h:stepP bs m 0=some 1):0≤m.at_∧m.at_<4∧1≤m.need∧m.need≤6:=by
 unfold stepP at h
 split at h
 ·rename_i g
  obtain ⟨_,g1,g2,g3,g4⟩:=g
  have:=hb.1
  have hm:bs.getD m.at_.toNat 0∈bs:=getD_mem' (by omega)
  have:=heads64 (hb.2 _ hm).1 (hb.2 _ hm).2
  omega
 ·rw [if_neg (by omega)] at h; cases h
theorem partT_len {t:List Mark} (h:Tr bs t) (h1:¬ (partT t).n > 1):∃ m,t=[m]∧m.kind=0∧stepP bs m 0=some 1:=by
 cases h with
 |leaf m hk h=>exact ⟨m,rfl,hk,h⟩
 |node l r k hk hl hr =>
  have:=partT_n (.node l r k hk hl hr)
  have:=hl.len
  simp only [List.length_append,List.length_cons,List.length_nil] at *
  omega
theorem text_leaf (hb:bodies bs) {m:Mark} (hk:m.kind=0) (h:stepP bs m 0=some 1):bys (textT [m])=[65+m.at_,48+m.need]:=by
 obtain ⟨g1,g2,g3,g4⟩:=leaf_in hb hk h
 rw [textT,partT_leaf hk,bys_app,bys_letter g1 g2,bys_num (by omega) (by omega)]
 rfl
theorem text_leaf_size (hb:bodies bs) {m:Mark} (hk:m.kind=0) (h:stepP bs m 0=some 1):(textT [m]).size=2:=by
 rw [← bys_len,text_leaf hb hk h]; rfl
variable {lo:Int}
theorem byc40:bys ⟨#[40]⟩=[40]:=rfl
theorem byc41:bys ⟨#[41]⟩=[41]:=rfl
theorem byc38:bys ⟨#[38]⟩=[38]:=rfl
theorem byc124:bys ⟨#[124]⟩=[124]:=rfl
theorem partF_atom {lo b:Int} {f:Nat} {r:List Int} (h:b≠40):partF lo (f+1) (b :: r)=atomP lo b r:=if_neg h
theorem partF_paren {lo:Int} {f:Nat} {r:List Int}:partF lo (f+1) (40 :: r)=closeP (eitherP (partF lo f) r):=by
 show (if (40:Int)=40 then closeP (eitherP (partF lo f) r) else atomP lo 40 r)=_
 exact if_pos rfl
theorem read_leaf (hb:bodies bs) (hlo:lo≤49) {m:Mark} (hk:m.kind=0) (h:stepP bs m 0=some 1) (f:Nat) (s:List Int):partF lo (f+1) (bys (textT [m]) ++ s)=some ([m],s):=by
 obtain ⟨g1,g2,g3,g4⟩:=leaf_in hb hk h
 rw [text_leaf hb hk h]
 show partF lo (f+1) ((65+m.at_) :: (48+m.need) :: s)=_
 rw [partF_atom (by omega)]
 unfold atomP
 dsimp only
 rw [if_pos (by omega)]
 congr 2
 obtain ⟨kd,a,n⟩:=m
 dsimp only at hk ⊢
 subst hk
 congr 2 <;> omega
theorem wrap_size {s:ByteArray} {b:Bool}:(wrapT s b).size=s.size+if b=true then 2 else 0:=by
 unfold wrapT
 split
 ·rw [ByteArray.size_append,ByteArray.size_append,show (⟨#[40]⟩:ByteArray).size=1 from rfl,show (⟨#[41]⟩:ByteArray).size=1 from rfl]
  omega
 ·rfl
def reE (lo:Int) (t:List Mark):Prop:=∀ f,(textT t).size≤f→∀ s:List Int,s.head?≠some 38→eitherP (partF lo f) (bys (textT t) ++ s)=loopF (bothP (partF lo f)) 124 2 s.length t s
def reB (lo:Int) (t:List Mark):Prop:=(partT t).o=false→∀ f,(textT t).size≤f→∀ s:List Int,bothP (partF lo f) (bys (textT t) ++ s)=loopF (partF lo f) 38 1 s.length t s
theorem okE_of {t:List Mark} (h:reB lo t) (ho:(partT t).o=false):reE lo t:=fun f hf s hs=>by
 unfold eitherP joinP
 rw [h ho f hf s,loopF_stop hs]
 rfl
theorem read_wrap {t:List Mark} (h:reE lo t) {f:Nat} (hf:(textT t).size<f) (s:List Int):partF lo f (bys (wrapT (textT t) true) ++ s)=some (t,s):=by
 obtain ⟨f,rfl⟩:∃ f',f=f'+1:=⟨f-1,by omega⟩
 unfold wrapT
 rw [if_pos rfl,bys_app,bys_app,byc40,byc41,List.append_assoc,List.append_assoc]
 show partF lo (f+1) (40 :: (bys (textT t) ++ (41 :: s)))=_
 rw [partF_paren,h f (by omega) _ (by simp),loopF_stop (by simp)]
 show (if (41:Int)=41 then some (t,s) else none)=some (t,s)
 exact if_pos rfl
theorem read_both {t:List Mark} (h:reE lo t) (h':reB lo t) {f:Nat} (hf:(wrapT (textT t) (partT t).o).size≤f) (s:List Int):bothP (partF lo f) (bys (wrapT (textT t) (partT t).o) ++ s)=loopF (partF lo f) 38 1 s.length t s:=by
 cases ho:(partT t).o with
 |false =>
  rw [wrap_size,ho,if_neg (by simp)] at hf
  exact h' ho f (by omega) s
 |true =>
  rw [wrap_size,ho,if_pos rfl] at hf
  unfold bothP joinP
  rw [read_wrap h (by omega)]
  rfl
theorem read_tr (hb:bodies bs) (hlo:lo≤49) {t:List Mark} (h:Tr bs t):reB lo t∧reE lo t:=by
 induction h with
 |leaf m hk h =>
  have hB:reB lo [m]:=fun _ f hf s=>by
   rw [text_leaf_size hb hk h] at hf
   obtain ⟨f,rfl⟩:∃ f',f=f'+1:=⟨f-1,by omega⟩
   unfold bothP joinP
   rw [read_leaf hb hlo hk h]
   rfl
  exact ⟨hB,okE_of hB (by rw [partT_leaf hk])⟩
 |node l r k hk hl hr gl gr =>
  have e:=partT_node (m:=⟨k,0,0⟩) hl.one hr.one (by dsimp only; omega)
  rcases hk with rfl|rfl
  ·have et:textT (l ++ r ++ [⟨1,0,0⟩])=wrapT (textT l) (partT l).o ++ ⟨#[38]⟩ ++ wrapT (textT r) (decide ((partT r).n > 1)):=by
    unfold textT; rw [e]; rfl
   have eo:(partT (l ++ r ++ [⟨1,0,0⟩])).o=false:=by rw [e]; rfl
   have hB:reB lo (l ++ r ++ [⟨1,0,0⟩]):=fun _ f hf s=>by
    rw [et,ByteArray.size_append,ByteArray.size_append,show (⟨#[38]⟩:ByteArray).size=1 from rfl] at hf
    rw [et,bys_app,bys_app,byc38,List.append_assoc,List.append_assoc,read_both gl.2 gl.1 (by omega)]
    have hp:partF lo f (bys (wrapT (textT r) (decide ((partT r).n > 1))) ++ s)=some (r,s):=by
     by_cases hn:(partT r).n > 1
     ·have hw:(wrapT (textT r) true).size=(textT r).size+2:=wrap_size
      rw [decide_eq_true hn] at hf
      rw [decide_eq_true hn]
      exact read_wrap gr.2 (by omega) s
     ·obtain ⟨m,rfl,m1,m2⟩:=partT_len hr hn
      rw [decide_eq_false hn]
      obtain ⟨f,rfl⟩:∃ f',f=f'+1:=⟨f-1,by omega⟩
      exact read_leaf hb hlo m1 m2 f s
    exact loopF_more (partF_fair lo f) hp
   exact ⟨hB,okE_of hB eo⟩
  ·have et:textT (l ++ r ++ [⟨2,0,0⟩])=textT l ++ ⟨#[124]⟩ ++ wrapT (textT r) (partT r).o:=by
    unfold textT; rw [e]; rfl
   refine ⟨fun ho=>?_,fun f hf s hs=>?_⟩
   ·rw [e] at ho
    cases ho
   ·rw [et,ByteArray.size_append,ByteArray.size_append,show (⟨#[124]⟩:ByteArray).size=1 from rfl] at hf
    rw [et,bys_app,bys_app,byc124,List.append_assoc,List.append_assoc,gl.2 f (by omega) _ (by simp)]
    have hp:bothP (partF lo f) (bys (wrapT (textT r) (partT r).o) ++ s)=some (r,s):=by
     rw [read_both gr.2 gr.1 (by omega),loopF_stop hs]
    exact loopF_more (bothP_fair lo f) hp
theorem bodies_of {h:House} (ho:houseOk h):bodies h.bs:=⟨ho.2.1,fun b hb=>by
 have:=(ho.2.2 b hb).1
 have h2:=this.2
 have:=pw_le this.1
 omega⟩
def rdT (lo:Int) (h:House) (s:ByteArray):Option (List Mark):=if s.size≤80 then (match eitherP (partF lo 80) (bys s) with
 |some (t,[])=>if termOk h t∧textT t=s then some t else none
 |_=>none) else none
theorem rdT_iff (hlo:lo≤49) {h:House} {s:ByteArray} {t:List Mark}:rdT lo h s=some t ↔ s.size≤80∧termOk h t∧textT t=s:=by
 unfold rdT
 constructor
 ·intro e
  split at e
  ·rename_i hs
   split at e
   ·split at e
    ·rename_i g
     injection e with e
     subst e
     exact ⟨hs,g⟩
    ·cases e
   ·cases e
  ·cases e
 ·rintro ⟨hs,ht,rfl⟩
  have:=(read_tr (bodies_of ht.1) hlo (Tr.of ht.2.2)).2 80 hs [] (by simp)
  rw [List.append_nil] at this
  rw [if_pos hs,this]
  show (if termOk h t∧textT t=textT t then some t else none)=some t
  rw [if_pos ⟨ht,rfl⟩]
theorem rdT_eq (h:House) (s:ByteArray):rdT 48 h s=rdT 49 h s:=by
 cases e:rdT 49 h s with
 |some t=>exact (rdT_iff (by decide)).2 ((rdT_iff (by decide)).1 e)
 |none =>
  cases e2:rdT 48 h s with
  |none=>rfl
  |some t =>
   have:=(rdT_iff (lo:=49) (by decide)).2 ((rdT_iff (by decide)).1 e2)
   rw [e] at this; cases this
end
end Go.Proofs.YtgdbhjmpkkbnnaaGreatDoor.Vc
end
section
/- Part TB: the reader of terms. -/
namespace Go.Proofs.YtgdbhjmpkkbnnaaGreatDoor.Vc
open Go.Proofs
set_option maxRecDepth 10000
set_option maxHeartbeats 4000000
abbrev trO (s:ByteArray) (a:Nat):Obj:=.box [.str s,.int .i64 a]
structure Rt where
 s:ByteArray
 a:Nat
def Rt.ok (x:Rt):Prop:=x.a≤x.s.size∧x.s.size≤80
def pk (s:ByteArray) (a:Nat):Int:=if a=s.size then 0 else bt s a
theorem pk_rem (s:ByteArray) (a:Nat) (h:a≤s.size):(a=s.size∧pk s a=0∧rem s a=[])∨(a<s.size∧pk s a=bt s a∧rem s a=pk s a :: rem s (a+1)):=by
 unfold pk
 by_cases e:a=s.size
 ·rw [if_pos e]; exact .inl ⟨e,rfl,rem_ge (by omega)⟩
 ·rw [if_neg e]; exact .inr ⟨by omega,rfl,rem_lt (by omega)⟩
theorem pk_u8 (s:ByteArray) (a:Nat):0≤pk s a∧pk s a≤255:=by
 unfold pk
 have:=bt_u8 s a
 split <;> omega
def C207:GC:=conG (X:=Rt) (fun _=>[.ptr 0 0]) (fun x=>[trO x.s x.a]) Rt.ok fun x K=>K (.int .u8 (pk x.s x.a)) [trO x.s x.a]
theorem F207:GG 186 C207:=by
 refine fitG [] (by simp) [] (by simp) Tryz.f186 ⟨rfl,by decide +kernel,by decide +kernel⟩ (by intro x K K2 hk h; (try dsimp only at h ⊢); intros; apply hk; first|exact h|(apply h <;> assumption)) ?_
 rintro ⟨s,a⟩ K ⟨h1,h2⟩ h
 refine ⟨Nat.le_of_ble_eq_true rfl,?_⟩
 dsimp only at h h1 h2 ⊢
 repeat' (first|refine vz ?_|(conv=>whnf); first|with_reducible first|refine Sp.mk ?_ ?_|refine br_d (fun _=>?_) fun _=>?_|refine vM (fun _=>?_) fun _=>?_)
 ·refine Dr.mk ⟨(.rd 0 (.rd 1 (.rd 2 (.rd 3 (.rd 4 (.rd 5 (.rd 6 (.rd 7 (.rd 8 (.rd 9 .dn)))))))))),by decide +kernel,?_⟩
  repeat' (first|refine vz ?_|(conv=>whnf); first|with_reducible first|refine Sp.mk ?_ ?_|refine br_d (fun _=>?_) fun _=>?_|refine vM (fun _=>?_) fun _=>?_)
  ·rename_i e
   have:a=s.size:=by omega
   unfold pk at h
   rw [if_pos this] at h
   refine ⟨_,_,[some 0],[],rfl,rfl,?_,?_,h⟩
   ·exact wq
   ·exact wq
  ·rename_i e
   have:¬ a=s.size:=by omega
   unfold pk at h
   rw [if_neg this] at h
   refine Dr.mk ⟨(.rd 0 (.rd 1 (.rd 2 (.rd 3 (.rd 4 (.rd 5 (.rd 6 (.rd 7 (.rd 8 (.rd 9 .dn)))))))))),by decide +kernel,?_⟩
   repeat' (first|refine vz ?_|(conv=>whnf); first|with_reducible first|refine Sp.mk ?_ ?_|refine br_d (fun _=>?_) fun _=>?_|refine vM (fun _=>?_) fun _=>?_)
   refine ⟨_,_,[some 0],[],rfl,rfl,?_,?_,h⟩
   ·exact wq
   ·exact wq
def rpost (s:ByteArray) (a:Nat) (r:PR) (K:AV→List Obj→Prop):Prop:=(r=none→∀ a':Nat,a≤a'→a'≤s.size→K .nils [trO s a'])∧(∀ t u,r=some (t,u)→∀ a':Nat,a≤a'→a'≤s.size→rem s a'=u→K (.row 1 3 0 t.length) [trO s a',.row 3 t.length fun i=>encM (t.getD i default)])
theorem rpost_mono {s:ByteArray} {a:Nat} {r:PR} {K K':AV→List Obj→Prop} (hk:∀ r o',K r o'→K' r o') (h:rpost s a r K):rpost s a r K':=⟨fun e a' h1 h2=>hk _ _ (h.1 e a' h1 h2),fun t u e a' h1 h2 h3=>hk _ _ (h.2 t u e a' h1 h2 h3)⟩
def C208 (f:Nat):GC:=conG (X:=Rt) (fun _=>[.ptr 0 0]) (fun x=>[trO x.s x.a]) (fun x=>x.ok∧x.s.size-x.a≤f) fun x K=>rpost x.s x.a (partF 49 f (rem x.s x.a)) K
def C201 (f:Nat):GC:=conG (X:=Rt) (fun _=>[.ptr 0 0]) (fun x=>[trO x.s x.a]) (fun x=>x.ok∧x.s.size-x.a≤f) fun x K=>rpost x.s x.a (bothP (partF 49 f) (rem x.s x.a)) K
def C191 (f:Nat):GC:=conG (X:=Rt) (fun _=>[.ptr 0 0]) (fun x=>[trO x.s x.a]) (fun x=>x.ok∧x.s.size-x.a≤f) fun x K=>rpost x.s x.a (eitherP (partF 49 f) (rem x.s x.a)) K
def C200a (f:Nat):GC:=conG (X:=Rt) (fun _=>[.ptr 0 0,.fn 187 [.ptr 0 0] [],.int .u8 38,.int .i64 1]) (fun x=>[trO x.s x.a]) (fun x=>x.ok∧x.s.size-x.a≤f) fun x K=>rpost x.s x.a (bothP (partF 49 f) (rem x.s x.a)) K
def C200b (f:Nat):GC:=conG (X:=Rt) (fun _=>[.ptr 0 0,.fn 166 [.ptr 0 0] [],.int .u8 124,.int .i64 2]) (fun x=>[trO x.s x.a]) (fun x=>x.ok∧x.s.size-x.a≤f) fun x K=>rpost x.s x.a (eitherP (partF 49 f) (rem x.s x.a)) K
theorem atom_of {s:ByteArray} {a:Nat} (h1:a≤s.size) (f:Nat) (e:pk s a≠40):(¬ (65≤pk s a∧pk s a≤68∧49≤pk s (min (a+1) s.size)∧pk s (min (a+1) s.size)≤57)→partF 49 (f+1) (rem s a)=none) ∧
  (65≤pk s a∧pk s a≤68∧49≤pk s (min (a+1) s.size)∧pk s (min (a+1) s.size)≤57→a+2≤s.size∧partF 49 (f+1) (rem s a)=some ([⟨0,pk s a-65,pk s (a+1)-48⟩],rem s (a+2))):=by
 rcases pk_rem s a h1 with ⟨g1,g2,g3⟩|⟨g1,g2,g3⟩
 ·refine ⟨fun _=>by rw [g3]; rfl,fun h=>by omega⟩
 ·rw [g3,partF_atom e,show min (a+1) s.size=a+1 by omega]
  rcases pk_rem s (a+1) (by omega) with ⟨k1,k2,k3⟩|⟨k1,k2,k3⟩
  ·rw [k3]
   exact ⟨fun _=>rfl,fun h=>by omega⟩
  ·rw [k3]
   unfold atomP
   dsimp only
   refine ⟨fun h=>if_neg h,fun h=>⟨by omega,if_pos h⟩⟩
theorem F208s {f:Nat} (hF:GG 142 (C191 f)):GG 187 (C208 (f+1)):=by
 refine fitG [] (by simp) [(186,C207),(142,C191 f)] (by simp only [List.mem_cons,List.not_mem_nil,or_false]; rintro _ (rfl|rfl) <;> first|exact F207|exact hF) Tryz.f187 ⟨rfl,by decide +kernel,by decide +kernel⟩ (fun _ _ _ hk h=>rpost_mono hk h) ?_
 rintro ⟨s,a⟩ K ⟨⟨h1,h2⟩,h3⟩ h
 refine ⟨Nat.le_of_ble_eq_true rfl,?_⟩
 dsimp only at h h1 h2 h3 ⊢
 have hpk:=pk_u8 s a
 have hrem:=pk_rem s a h1
 repeat' (first|refine vz ?_|(conv=>whnf); first|with_reducible first|refine Sp.mk ?_ ?_|refine br_d (fun _=>?_) fun _=>?_|refine vM (fun _=>?_) fun _=>?_)
 refine ⟨_,_,[0],[],rfl,?_,?_,⟨s,a⟩,rfl,rfl,⟨h1,h2⟩,?_⟩
 ·exact wq
 ·exact wq
 dsimp only
 repeat' (first|refine vz ?_|(conv=>whnf); first|with_reducible first|refine Sp.mk ?_ ?_|refine br_d (fun _=>?_) fun _=>?_|refine vM (fun _=>?_) fun _=>?_)
 refine Dr.mk ⟨(.rd 0 (.rd 1 (.rd 2 (.rd 3 (.rd 4 (.rd 5 (.rd 6 (.rd 7 (.rd 8 (.rd 9 (.rd 10 (.rd 11 (.rd 12 (.rd 13 (.ef 14 .dn .no))))))))))))))),by decide +kernel,?_⟩
 repeat' ((conv=>whnf); first|with_reducible refine wk_at 3 ?_|with_reducible refine wk_at1 3 ?_|with_reducible refine wk_at2 3 ?_|refine vA ?_|with_reducible first|refine v8 ?_|refine Ch.l ?_|refine Sp.mk ?_ ?_|refine vS ?_|refine vR ?_|refine vB ?_|refine br_nt ?_|refine br_tt ?_|refine br_ff ?_|refine vP ?_|refine vQ ?_|refine vT ?_|refine vF ?_|refine br_and ?_|refine br_or ?_|refine br_d (fun _=>?_) fun _=>?_|refine vM (fun _=>?_) fun _=>?_)
 refine ⟨Wk.go [(0,.ptr 0 0),(3,.int .u8 (pk s a))] [trO s (min (a+1) s.size)] ⟨⟨[some 0],[],rfl,rfl,?_,?_⟩⟩ ?_⟩
 ·exact wq
 ·repeat' ((conv=>whnf); first|with_reducible exact True.intro|exact vW|with_reducible refine And.intro ?_ ?_)
  all_goals exact Chk.mk (by split <;> omega)
 repeat' (first|refine vz ?_|(conv=>whnf); first|with_reducible first|refine Sp.mk ?_ ?_|refine br_d (fun _=>?_) fun _=>?_|refine vM (fun _=>?_) fun _=>?_)
 ·rename_i e40
  have hlt:a<s.size:=by omega
  have hm:min (a+1) s.size=a+1:=by omega
  have hr:rem s a=40 :: rem s (a+1):=by
   rcases hrem with g|g
   ·omega
   ·rw [← e40]; exact g.2.2
  rw [hr,partF_paren] at h
  rw [hm]
  repeat' (first|refine vz ?_|(conv=>whnf); first|with_reducible first|refine Sp.mk ?_ ?_|refine br_d (fun _=>?_) fun _=>?_|refine vM (fun _=>?_) fun _=>?_)
  refine ⟨_,_,[0],[],rfl,?_,?_,⟨s,a+1⟩,rfl,rfl,⟨⟨by dsimp only; omega,h2⟩,by dsimp only; omega⟩,?_⟩
  ·exact wq
  ·exact wq
  refine And.intro (fun e a' g1 g2=>?_) (fun t u e a' g1 g2 g3=>?_)
  ·dsimp only at e g1 g2
   rw [e] at h
   repeat' (first|refine vz ?_|(conv=>whnf); first|with_reducible first|refine Sp.mk ?_ ?_|refine br_d (fun _=>?_) fun _=>?_|refine vM (fun _=>?_) fun _=>?_)
   refine ⟨_,_,[some 0],[],rfl,rfl,?_,?_,h.1 rfl a' (by omega) g2⟩
   ·exact wq
   ·exact wq
  ·dsimp only at e g1 g2 g3
   rw [e] at h
   have ht:=(eitherP_fair 49 f _ _ _ e).1
   have hpk2:=pk_u8 s a'
   have hrem2:=pk_rem s a' g2
   repeat' (first|refine vz ?_|(conv=>whnf); first|with_reducible first|refine Sp.mk ?_ ?_|refine br_d (fun _=>?_) fun _=>?_|refine vM (fun _=>?_) fun _=>?_)
   refine ⟨_,_,[0],[],rfl,?_,?_,⟨s,a'⟩,rfl,rfl,⟨g2,h2⟩,?_⟩
   ·exact wq
   ·exact wq
   dsimp only
   repeat' (first|refine vz ?_|(conv=>whnf); first|with_reducible first|refine Sp.mk ?_ ?_|refine br_d (fun _=>?_) fun _=>?_|refine vM (fun _=>?_) fun _=>?_)
   ·rename_i e41
    have hn:closeP (some (t,u))=some (t,rem s (a'+1)):=by
     rcases hrem2 with g|g
     ·omega
     ·rw [← g3,g.2.2]; exact if_pos e41
    have hlt2:a'<s.size:=by omega
    refine ⟨_,_,[some 0,some 1],[],rfl,rfl,?_,?_,h.2 t _ hn (a'+1) (by omega) (by omega) rfl⟩
    ·exact wq
    ·exact wq
   ·rename_i e41
    have hn:closeP (some (t,u))=none:=by
     rcases hrem2 with g|g
     ·rw [← g3,g.2.2]; rfl
     ·rw [← g3,g.2.2]; exact if_neg e41
    refine ⟨_,_,[some 0],[],rfl,rfl,?_,?_,h.1 hn a' (by omega) g2⟩
    ·exact wq
    ·exact wq
 ·rename_i e40
  have hpk2:=pk_u8 s (min (a+1) s.size)
  obtain ⟨no,yes⟩:=atom_of h1 f e40
  repeat' (first|refine vz ?_|(conv=>whnf); first|with_reducible first|refine Sp.mk ?_ ?_|refine br_d (fun _=>?_) fun _=>?_|refine vM (fun _=>?_) fun _=>?_)
  refine ⟨_,_,[0],[],rfl,?_,?_,⟨s,min (a+1) s.size⟩,rfl,rfl,⟨by dsimp only; omega,h2⟩,?_⟩
  ·exact wq
  ·exact wq
  dsimp only
  repeat' (first|refine vz ?_|(conv=>whnf); first|with_reducible refine Wr.ex (wu8 (by omega) (by omega)) ?_|with_reducible refine Wr.ex (wi64 (by omega) (by omega)) ?_|with_reducible first|refine Sp.mk ?_ ?_|refine br_d (fun _=>?_) fun _=>?_|refine vM (fun _=>?_) fun _=>?_)
  all_goals try
   refine ⟨_,_,[some 0],[],rfl,rfl,?_,?_,h.1 (no (by omega)) (min (a+1) s.size) (by omega) (by omega)⟩
   ·exact wq
   ·exact wq
  obtain ⟨y1,y2⟩:=yes (by omega)
  have hm:min (a+1) s.size=a+1:=by omega
  rw [hm]
  refine ⟨_,_,[some 0,some 1],[],rfl,rfl,?_,?_,h.2 _ _ y2 (a+2) (by omega) (by omega) rfl⟩
  ·exact wq
  ·repeat' ((conv=>whnf); first|with_reducible exact True.intro|exact vW|with_reducible refine And.intro ?_ ?_)
   all_goals exact Chk.mk ⟨rfl,fun i hi=>by
    have:i=0:=by have hi:i<1:=hi; omega
    subst this; rfl⟩
theorem F208z:GG 187 (C208 0):=by
 refine fitG [] (by simp) [(186,C207)] (by simp only [List.mem_cons,List.not_mem_nil,or_false]; rintro _ rfl <;> first|exact F207) Tryz.f187 ⟨rfl,by decide +kernel,by decide +kernel⟩ (fun _ _ _ hk h=>rpost_mono hk h) ?_
 rintro ⟨s,a⟩ K ⟨⟨h1,h2⟩,h3⟩ h
 refine ⟨Nat.le_of_ble_eq_true rfl,?_⟩
 dsimp only at h h1 h2 h3 ⊢
 have hp:pk s a=0:=by unfold pk; rw [if_pos (by omega)]
 repeat' (first|refine vz ?_|(conv=>whnf); first|with_reducible first|refine Sp.mk ?_ ?_|refine br_d (fun _=>?_) fun _=>?_|refine vM (fun _=>?_) fun _=>?_)
 refine ⟨_,_,[0],[],rfl,?_,?_,⟨s,a⟩,rfl,rfl,⟨h1,h2⟩,?_⟩
 ·exact wq
 ·exact wq
 dsimp only
 rw [hp]
 repeat' (first|refine vz ?_|(conv=>whnf); first|with_reducible first|refine Sp.mk ?_ ?_|refine br_d (fun _=>?_) fun _=>?_|refine vM (fun _=>?_) fun _=>?_)
 refine Dr.mk ⟨(.rd 0 (.rd 1 (.rd 2 (.rd 3 (.rd 4 (.rd 5 (.rd 6 (.rd 7 (.rd 8 (.rd 9 (.rd 10 (.rd 11 (.rd 12 (.rd 13 (.ef 14 .dn .no))))))))))))))),by decide +kernel,?_⟩
 repeat' ((conv=>whnf); first|with_reducible refine wk_at 3 ?_|with_reducible refine wk_at1 3 ?_|with_reducible refine wk_at2 3 ?_|refine vA ?_|with_reducible first|refine v8 ?_|refine Ch.l ?_|refine Sp.mk ?_ ?_|refine vS ?_|refine vR ?_|refine vB ?_|refine br_nt ?_|refine br_tt ?_|refine br_ff ?_|refine vP ?_|refine vQ ?_|refine vT ?_|refine vF ?_|refine br_and ?_|refine br_or ?_|refine br_d (fun _=>?_) fun _=>?_|refine vM (fun _=>?_) fun _=>?_)
 refine ⟨Wk.go [(0,.ptr 0 0),(3,.int .u8 0)] [trO s a] ⟨⟨[some 0],[],rfl,rfl,?_,?_⟩⟩ ?_⟩
 ·exact wq
 ·repeat' ((conv=>whnf); first|with_reducible exact True.intro|exact vW|with_reducible refine And.intro ?_ ?_)
  all_goals exact Chk.mk (by split <;> omega)
 repeat' (first|refine vz ?_|(conv=>whnf); first|with_reducible first|refine Sp.mk ?_ ?_|refine br_d (fun _=>?_) fun _=>?_|refine vM (fun _=>?_) fun _=>?_)
 refine ⟨_,_,[0],[],rfl,?_,?_,⟨s,a⟩,rfl,rfl,⟨h1,h2⟩,?_⟩
 ·exact wq
 ·exact wq
 dsimp only
 rw [hp]
 repeat' (first|refine vz ?_|(conv=>whnf); first|with_reducible first|refine Sp.mk ?_ ?_|refine br_d (fun _=>?_) fun _=>?_|refine vM (fun _=>?_) fun _=>?_)
 refine ⟨_,_,[some 0],[],rfl,rfl,?_,?_,h.1 rfl a (Nat.le_refl _) h1⟩
 ·exact wq
 ·exact wq
theorem loopF_step {rd:List Int→PR} {sign kind:Int} {k:Nat} {t:List Mark} {r:List Int}:loopF rd sign kind (k+1) t (sign :: r)=(rd r).bind fun q=>loopF rd sign kind k (t ++ q.1 ++ [⟨kind,0,0⟩]) q.2:=by
 rw [loopF,if_pos rfl]
theorem app3_ext {t u:List Mark} {k:Int} (n:Nat) (hn:n=t.length+u.length):(t ++ u ++ [(⟨k,0,0⟩:Mark)]).length=n+1∧∀ i,i<(t ++ u ++ [(⟨k,0,0⟩:Mark)]).length→encM ((t ++ u ++ [(⟨k,0,0⟩:Mark)]).getD i default)=appF n (appF t.length (fun i=>encM (t.getD i default)) fun i=>encM (u.getD (0+i) default)) (fun i=>[[AV.int .i64 k,.int .i64 0,.int .i64 0]].getD (0+i) [.int .i64 0,.int .i64 0,.int .i64 0]) i:=by
 subst hn
 refine ⟨by simp [Nat.add_assoc],fun i hi=>?_⟩
 simp only [List.length_append,List.length_cons,List.length_nil] at hi
 unfold appF
 rw [List.getD_eq_getElem?_getD,List.getElem?_append,List.length_append]
 cases hb:Nat.blt i (t.length+u.length) with
 |true =>
  have h1:i<t.length+u.length:=Nat.le_of_ble_eq_true hb
  rw [if_pos h1,List.getElem?_append]
  cases hc:Nat.blt i t.length with
  |true =>
   have h2:i<t.length:=Nat.le_of_ble_eq_true hc
   rw [if_pos h2,← List.getD_eq_getElem?_getD]
   rfl
  |false =>
   have h2:¬ i<t.length:=fun h=>by
    have:Nat.blt i t.length=true:=Nat.ble_eq_true_of_le h
    rw [this] at hc; cases hc
   rw [if_neg h2,← List.getD_eq_getElem?_getD]
   show encM (u.getD (i-t.length) default)=encM (u.getD (0+(i-t.length)) default)
   rw [Nat.zero_add]
 |false =>
  have h2:¬ i<t.length+u.length:=fun h=>by
   have:Nat.blt i (t.length+u.length)=true:=Nat.ble_eq_true_of_le h
   rw [this] at hb; cases hb
  have:i=t.length+u.length:=by omega
  subst this
  rw [if_neg (by omega)]
  simp [encM]
theorem F200a {f:Nat} (hF:GG 187 (C208 f)):GG 165 (C200a f):=by
 refine fitG [] (by simp) [(186,C207),(187,C208 f)] (by simp only [List.mem_cons,List.not_mem_nil,or_false]; rintro _ (rfl|rfl) <;> first|exact F207|exact hF) Tryz.f165 ⟨rfl,by decide +kernel,by decide +kernel⟩ (fun _ _ _ hk h=>rpost_mono hk h) ?_
 rintro ⟨s,a⟩ K ⟨⟨h1,h2⟩,h3⟩ h
 refine ⟨Nat.le_of_ble_eq_true rfl,?_⟩
 dsimp only at h h1 h2 h3 ⊢
 unfold bothP joinP at h
 repeat' (first|refine vz ?_|(conv=>whnf); first|with_reducible first|refine Sp.mk ?_ ?_|refine br_d (fun _=>?_) fun _=>?_|refine vM (fun _=>?_) fun _=>?_)
 refine ⟨_,_,[0],[],rfl,?_,?_,⟨s,a⟩,rfl,rfl,⟨⟨h1,h2⟩,h3⟩,?_⟩
 ·exact wq
 ·exact wq
 refine And.intro (fun e a' g1 g2=>?_) (fun t u e a' g1 g2 g3=>?_)
 ·dsimp only at e g1 g2
  rw [e] at h
  repeat' (first|refine vz ?_|(conv=>whnf); first|with_reducible first|refine Sp.mk ?_ ?_|refine br_d (fun _=>?_) fun _=>?_|refine vM (fun _=>?_) fun _=>?_)
  refine Lp.mk ⟨Unit,fun _=>[(0,.ptr 0 0),(9,.nils)],fun _=>[trO s a'],fun _=>True,fun _=>0,⟨(),trivial,⟨⟨[some 0],[],rfl,rfl,?_,?_⟩⟩⟩,?_⟩
  ·exact wq
  ·exact wq
  rintro - -
  repeat' (first|refine vz ?_|(conv=>whnf); first|with_reducible first|refine Sp.mk ?_ ?_|refine br_d (fun _=>?_) fun _=>?_|refine vM (fun _=>?_) fun _=>?_)
  refine ⟨_,_,[some 0],[],rfl,rfl,?_,?_,h.1 rfl a' g1 g2⟩
  ·exact wq
  ·exact wq
 ·dsimp only at e g1 g2 g3
  rw [e] at h
  replace h:rpost s a (loopF ( (partF 49 f)) 38 1 u.length t u) K:=h
  have ht:=partF_fair 49 f _ _ _ e
  rw [rem_len] at ht
  generalize hR:loopF ( (partF 49 f)) 38 1 u.length t u=R at h
  rw [← g3] at hR ht
  repeat' (first|refine vz ?_|(conv=>whnf); first|with_reducible first|refine Sp.mk ?_ ?_|refine br_d (fun _=>?_) fun _=>?_|refine vM (fun _=>?_) fun _=>?_)
  refine Lp.mk ⟨Nat × List Mark × Nat,fun x=>[(0,.ptr 0 0),(1,.fn 187 [.ptr 0 0] []),(2,.int .u8 38),(3,.int .i64 1),(9,.row 1 3 0 x.2.1.length)],fun x=>[trO s x.2.2,.row 3 x.2.1.length fun i=>encM (x.2.1.getD i default)],
   fun x=>a≤x.2.2∧x.2.2≤s.size∧s.size-x.2.2≤x.1∧1≤x.2.1.length∧x.2.1.length+(s.size-x.2.2)≤s.size-a∧loopF ( (partF 49 f)) 38 1 x.1 x.2.1 (rem s x.2.2)=R,fun x=>s.size-x.2.2,⟨((rem s a').length,t,a'),⟨g1,g2,by dsimp only; rw [rem_len]; exact Nat.le_refl _,ht.1,by dsimp only; have:=ht.2; rw [rem_len] at this; exact this,hR⟩,⟨⟨[some 0,some 1],[],rfl,rfl,?_,?_⟩⟩⟩,?_⟩
  ·exact wq
  ·exact wq
  rintro ⟨k,t,b⟩ ⟨i1,i2,i3,i4,i5,i6⟩
  dsimp only at i1 i2 i3 i4 i5 i6 ⊢
  have hpk:=pk_u8 s b
  have hrem:=pk_rem s b i2
  repeat' (first|refine vz ?_|(conv=>whnf); first|with_reducible first|refine Sp.mk ?_ ?_|refine br_d (fun _=>?_) fun _=>?_|refine vM (fun _=>?_) fun _=>?_)
  refine ⟨_,_,[0],[],rfl,?_,?_,⟨s,b⟩,rfl,rfl,⟨i2,h2⟩,?_⟩
  ·exact wq
  ·exact wq
  dsimp only
  repeat' (first|refine vz ?_|(conv=>whnf); first|with_reducible first|refine Sp.mk ?_ ?_|refine br_d (fun _=>?_) fun _=>?_|refine vM (fun _=>?_) fun _=>?_)
  ·rename_i es
   have hlt:b<s.size:=by omega
   have hr:rem s b=38 :: rem s (b+1):=by
    rcases hrem with g|g
    ·omega
    ·rw [← es]; exact g.2.2
   obtain ⟨k,rfl⟩:∃ k',k=k'+1:=⟨k-1,by omega⟩
   rw [hr,loopF_step] at i6
   refine ⟨_,_,[0],[],rfl,?_,?_,⟨s,b+1⟩,rfl,rfl,⟨⟨by dsimp only; omega,h2⟩,by dsimp only; omega⟩,?_⟩
   ·exact wq
   ·exact wq
   refine And.intro (fun e2 b' g4 g5=>?_) (fun t2 u2 e2 b' g4 g5 g6=>?_)
   ·dsimp only at e2 g4 g5
    rw [e2] at i6
    repeat' (first|refine vz ?_|(conv=>whnf); first|with_reducible first|refine Sp.mk ?_ ?_|refine br_d (fun _=>?_) fun _=>?_|refine vM (fun _=>?_) fun _=>?_)
    refine ⟨_,_,[some 0],[],rfl,rfl,?_,?_,h.1 i6.symm b' (by omega) g5⟩
    ·exact wq
    ·exact wq
   ·dsimp only at e2 g4 g5 g6
    rw [e2] at i6
    replace i6:loopF ( (partF 49 f)) 38 1 k (t ++ t2 ++ [⟨1,0,0⟩]) u2=R:=i6
    have ht2:=partF_fair 49 f _ _ _ e2
    rw [← g6,rem_len,rem_len] at ht2
    repeat' (first|refine vz ?_|(conv=>whnf); first|with_reducible first|refine Sp.mk ?_ ?_|refine br_d (fun _=>?_) fun _=>?_|refine vM (fun _=>?_) fun _=>?_)
    refine ⟨(k,t ++ t2 ++ [⟨1,0,0⟩],b'),⟨by dsimp only; omega,g5,by dsimp only; omega,by dsimp only; rw [(app3_ext _ rfl).1]; omega,by dsimp only; rw [(app3_ext _ rfl).1]; omega,by dsimp only; rw [g6]; exact i6⟩,by dsimp only; omega,⟨⟨[some 0,some 5],[],rfl,rfl,?_,?_⟩⟩⟩
    ·repeat' ((conv=>whnf); first|with_reducible exact True.intro|exact vW|with_reducible refine And.intro ?_ ?_)
     all_goals exact Chk.mk ⟨rfl,(app3_ext _ rfl).1⟩
    ·repeat' ((conv=>whnf); first|with_reducible exact True.intro|exact vW|with_reducible refine And.intro ?_ ?_)
     all_goals exact Chk.mk (app3_ext _ rfl)
  ·rename_i es
   have hn:R=some (t,rem s b):=by
    rw [← i6,loopF_stop]
    rcases hrem with g|g
    ·rw [g.2.2]; simp
    ·rw [g.2.2]
     intro q
     injection q with q
     exact es q
   refine ⟨_,_,[some 0,some 1],[],rfl,rfl,?_,?_,h.2 _ _ hn b i1 i2 rfl⟩
   ·exact wq
   ·exact wq
theorem F200b {f:Nat} (hF:GG 166 (C201 f)):GG 165 (C200b f):=by
 refine fitG [] (by simp) [(186,C207),(166,C201 f)] (by simp only [List.mem_cons,List.not_mem_nil,or_false]; rintro _ (rfl|rfl) <;> first|exact F207|exact hF) Tryz.f165 ⟨rfl,by decide +kernel,by decide +kernel⟩ (fun _ _ _ hk h=>rpost_mono hk h) ?_
 rintro ⟨s,a⟩ K ⟨⟨h1,h2⟩,h3⟩ h
 refine ⟨Nat.le_of_ble_eq_true rfl,?_⟩
 dsimp only at h h1 h2 h3 ⊢
 unfold eitherP joinP at h
 repeat' (first|refine vz ?_|(conv=>whnf); first|with_reducible first|refine Sp.mk ?_ ?_|refine br_d (fun _=>?_) fun _=>?_|refine vM (fun _=>?_) fun _=>?_)
 refine ⟨_,_,[0],[],rfl,?_,?_,⟨s,a⟩,rfl,rfl,⟨⟨h1,h2⟩,h3⟩,?_⟩
 ·exact wq
 ·exact wq
 refine And.intro (fun e a' g1 g2=>?_) (fun t u e a' g1 g2 g3=>?_)
 ·dsimp only at e g1 g2
  rw [e] at h
  repeat' (first|refine vz ?_|(conv=>whnf); first|with_reducible first|refine Sp.mk ?_ ?_|refine br_d (fun _=>?_) fun _=>?_|refine vM (fun _=>?_) fun _=>?_)
  refine Lp.mk ⟨Unit,fun _=>[(0,.ptr 0 0),(9,.nils)],fun _=>[trO s a'],fun _=>True,fun _=>0,⟨(),trivial,⟨⟨[some 0],[],rfl,rfl,?_,?_⟩⟩⟩,?_⟩
  ·exact wq
  ·exact wq
  rintro - -
  repeat' (first|refine vz ?_|(conv=>whnf); first|with_reducible first|refine Sp.mk ?_ ?_|refine br_d (fun _=>?_) fun _=>?_|refine vM (fun _=>?_) fun _=>?_)
  refine ⟨_,_,[some 0],[],rfl,rfl,?_,?_,h.1 rfl a' g1 g2⟩
  ·exact wq
  ·exact wq
 ·dsimp only at e g1 g2 g3
  rw [e] at h
  replace h:rpost s a (loopF (bothP (partF 49 f)) 124 2 u.length t u) K:=h
  have ht:=bothP_fair 49 f _ _ _ e
  rw [rem_len] at ht
  generalize hR:loopF (bothP (partF 49 f)) 124 2 u.length t u=R at h
  rw [← g3] at hR ht
  repeat' (first|refine vz ?_|(conv=>whnf); first|with_reducible first|refine Sp.mk ?_ ?_|refine br_d (fun _=>?_) fun _=>?_|refine vM (fun _=>?_) fun _=>?_)
  refine Lp.mk ⟨Nat × List Mark × Nat,fun x=>[(0,.ptr 0 0),(1,.fn 166 [.ptr 0 0] []),(2,.int .u8 124),(3,.int .i64 2),(9,.row 1 3 0 x.2.1.length)],fun x=>[trO s x.2.2,.row 3 x.2.1.length fun i=>encM (x.2.1.getD i default)],
   fun x=>a≤x.2.2∧x.2.2≤s.size∧s.size-x.2.2≤x.1∧1≤x.2.1.length∧x.2.1.length+(s.size-x.2.2)≤s.size-a∧loopF (bothP (partF 49 f)) 124 2 x.1 x.2.1 (rem s x.2.2)=R,fun x=>s.size-x.2.2,⟨((rem s a').length,t,a'),⟨g1,g2,by dsimp only; rw [rem_len]; exact Nat.le_refl _,ht.1,by dsimp only; have:=ht.2; rw [rem_len] at this; exact this,hR⟩,⟨⟨[some 0,some 1],[],rfl,rfl,?_,?_⟩⟩⟩,?_⟩
  ·exact wq
  ·exact wq
  rintro ⟨k,t,b⟩ ⟨i1,i2,i3,i4,i5,i6⟩
  dsimp only at i1 i2 i3 i4 i5 i6 ⊢
  have hpk:=pk_u8 s b
  have hrem:=pk_rem s b i2
  repeat' (first|refine vz ?_|(conv=>whnf); first|with_reducible first|refine Sp.mk ?_ ?_|refine br_d (fun _=>?_) fun _=>?_|refine vM (fun _=>?_) fun _=>?_)
  refine ⟨_,_,[0],[],rfl,?_,?_,⟨s,b⟩,rfl,rfl,⟨i2,h2⟩,?_⟩
  ·exact wq
  ·exact wq
  dsimp only
  repeat' (first|refine vz ?_|(conv=>whnf); first|with_reducible first|refine Sp.mk ?_ ?_|refine br_d (fun _=>?_) fun _=>?_|refine vM (fun _=>?_) fun _=>?_)
  ·rename_i es
   have hlt:b<s.size:=by omega
   have hr:rem s b=124 :: rem s (b+1):=by
    rcases hrem with g|g
    ·omega
    ·rw [← es]; exact g.2.2
   obtain ⟨k,rfl⟩:∃ k',k=k'+1:=⟨k-1,by omega⟩
   rw [hr,loopF_step] at i6
   refine ⟨_,_,[0],[],rfl,?_,?_,⟨s,b+1⟩,rfl,rfl,⟨⟨by dsimp only; omega,h2⟩,by dsimp only; omega⟩,?_⟩
   ·exact wq
   ·exact wq
   refine And.intro (fun e2 b' g4 g5=>?_) (fun t2 u2 e2 b' g4 g5 g6=>?_)
   ·dsimp only at e2 g4 g5
    rw [e2] at i6
    repeat' (first|refine vz ?_|(conv=>whnf); first|with_reducible first|refine Sp.mk ?_ ?_|refine br_d (fun _=>?_) fun _=>?_|refine vM (fun _=>?_) fun _=>?_)
    refine ⟨_,_,[some 0],[],rfl,rfl,?_,?_,h.1 i6.symm b' (by omega) g5⟩
    ·exact wq
    ·exact wq
   ·dsimp only at e2 g4 g5 g6
    rw [e2] at i6
    replace i6:loopF (bothP (partF 49 f)) 124 2 k (t ++ t2 ++ [⟨2,0,0⟩]) u2=R:=i6
    have ht2:=bothP_fair 49 f _ _ _ e2
    rw [← g6,rem_len,rem_len] at ht2
    repeat' (first|refine vz ?_|(conv=>whnf); first|with_reducible first|refine Sp.mk ?_ ?_|refine br_d (fun _=>?_) fun _=>?_|refine vM (fun _=>?_) fun _=>?_)
    refine ⟨(k,t ++ t2 ++ [⟨2,0,0⟩],b'),⟨by dsimp only; omega,g5,by dsimp only; omega,by dsimp only; rw [(app3_ext _ rfl).1]; omega,by dsimp only; rw [(app3_ext _ rfl).1]; omega,by dsimp only; rw [g6]; exact i6⟩,by dsimp only; omega,⟨⟨[some 0,some 5],[],rfl,rfl,?_,?_⟩⟩⟩
    ·repeat' ((conv=>whnf); first|with_reducible exact True.intro|exact vW|with_reducible refine And.intro ?_ ?_)
     all_goals exact Chk.mk ⟨rfl,(app3_ext _ rfl).1⟩
    ·repeat' ((conv=>whnf); first|with_reducible exact True.intro|exact vW|with_reducible refine And.intro ?_ ?_)
     all_goals exact Chk.mk (app3_ext _ rfl)
  ·rename_i es
   have hn:R=some (t,rem s b):=by
    rw [← i6,loopF_stop]
    rcases hrem with g|g
    ·rw [g.2.2]; simp
    ·rw [g.2.2]
     intro q
     injection q with q
     exact es q
   refine ⟨_,_,[some 0,some 1],[],rfl,rfl,?_,?_,h.2 _ _ hn b i1 i2 rfl⟩
   ·exact wq
   ·exact wq
theorem F201 {f:Nat} (hF:GG 187 (C208 f)):GG 166 (C201 f):=by
 refine fitG [] (by simp) [(165,C200a f)] (by simp only [List.mem_cons,List.not_mem_nil,or_false]; rintro _ rfl; exact F200a hF) Tryz.f166 ⟨rfl,by decide +kernel,by decide +kernel⟩ (fun _ _ _ hk h=>rpost_mono hk h) ?_
 rintro ⟨s,a⟩ K ⟨⟨h1,h2⟩,h3⟩ h
 refine ⟨Nat.le_of_ble_eq_true rfl,?_⟩
 dsimp only at h h1 h2 h3 ⊢
 repeat' (first|refine vz ?_|(conv=>whnf); first|with_reducible first|refine Sp.mk ?_ ?_|refine br_d (fun _=>?_) fun _=>?_|refine vM (fun _=>?_) fun _=>?_)
 refine ⟨_,_,[0],[],rfl,?_,?_,⟨s,a⟩,rfl,rfl,⟨⟨h1,h2⟩,h3⟩,?_⟩
 ·exact wq
 ·exact wq
 refine And.intro (fun e a' g1 g2=>?_) (fun t u e a' g1 g2 g3=>?_)
 ·dsimp only at e g1 g2
  rw [e] at h
  repeat' (first|refine vz ?_|(conv=>whnf); first|with_reducible first|refine Sp.mk ?_ ?_|refine br_d (fun _=>?_) fun _=>?_|refine vM (fun _=>?_) fun _=>?_)
  refine ⟨_,_,[some 0],[],rfl,rfl,?_,?_,h.1 rfl a' g1 g2⟩
  ·exact wq
  ·exact wq
 ·dsimp only at e g1 g2 g3
  rw [e] at h
  repeat' (first|refine vz ?_|(conv=>whnf); first|with_reducible first|refine Sp.mk ?_ ?_|refine br_d (fun _=>?_) fun _=>?_|refine vM (fun _=>?_) fun _=>?_)
  refine ⟨_,_,[some 0,some 1],[],rfl,rfl,?_,?_,h.2 _ _ rfl a' g1 g2 g3⟩
  ·exact wq
  ·exact wq
theorem F191 {f:Nat} (hF:GG 187 (C208 f)):GG 142 (C191 f):=by
 refine fitG [] (by simp) [(165,C200b f)] (by simp only [List.mem_cons,List.not_mem_nil,or_false]; rintro _ rfl; exact F200b (F201 hF)) Tryz.f142 ⟨rfl,by decide +kernel,by decide +kernel⟩ (fun _ _ _ hk h=>rpost_mono hk h) ?_
 rintro ⟨s,a⟩ K ⟨⟨h1,h2⟩,h3⟩ h
 refine ⟨Nat.le_of_ble_eq_true rfl,?_⟩
 dsimp only at h h1 h2 h3 ⊢
 repeat' (first|refine vz ?_|(conv=>whnf); first|with_reducible first|refine Sp.mk ?_ ?_|refine br_d (fun _=>?_) fun _=>?_|refine vM (fun _=>?_) fun _=>?_)
 refine ⟨_,_,[0],[],rfl,?_,?_,⟨s,a⟩,rfl,rfl,⟨⟨h1,h2⟩,h3⟩,?_⟩
 ·exact wq
 ·exact wq
 refine And.intro (fun e a' g1 g2=>?_) (fun t u e a' g1 g2 g3=>?_)
 ·dsimp only at e g1 g2
  rw [e] at h
  repeat' (first|refine vz ?_|(conv=>whnf); first|with_reducible first|refine Sp.mk ?_ ?_|refine br_d (fun _=>?_) fun _=>?_|refine vM (fun _=>?_) fun _=>?_)
  refine ⟨_,_,[some 0],[],rfl,rfl,?_,?_,h.1 rfl a' g1 g2⟩
  ·exact wq
  ·exact wq
 ·dsimp only at e g1 g2 g3
  rw [e] at h
  repeat' (first|refine vz ?_|(conv=>whnf); first|with_reducible first|refine Sp.mk ?_ ?_|refine br_d (fun _=>?_) fun _=>?_|refine vM (fun _=>?_) fun _=>?_)
  refine ⟨_,_,[some 0,some 1],[],rfl,rfl,?_,?_,h.2 _ _ rfl a' g1 g2 g3⟩
  ·exact wq
  ·exact wq
theorem F208:∀ f,GG 187 (C208 f)
 |0=>F208z
 |f+1=>F208s (F191 (F208 f))
end Go.Proofs.YtgdbhjmpkkbnnaaGreatDoor.Vc
end
section
/- Part EX: lists that are appended to. -/
namespace Go.Proofs.YtgdbhjmpkkbnnaaGreatDoor.Vc
structure Lt (T:Prop):Prop where
 t:T
theorem later {T G:Prop} (m:Lt T→G) (t:T):G:=m ⟨t⟩
section
variable {α:Type} {enc:α→List AV} {d:α} {l m:List α}
theorem blt_t {i n:Nat} (h:Nat.blt i n=true):i<n:=Nat.le_of_ble_eq_true h
theorem blt_f {i n:Nat} (h:Nat.blt i n=false):¬ i<n:=fun h'=>by
 have:Nat.blt i n=true:=Nat.ble_eq_true_of_le h'
 rw [this] at h; cases h
theorem ext_app {n:Nat} {g:Nat→List AV} (hn:n≤l.length) (hg:∀ j,j<m.length→g j=enc (m.getD j d)):(l.take n ++ m).length=n+m.length∧∀ j,j<(l.take n ++ m).length→enc ((l.take n ++ m).getD j d)=appF n (fun j=>enc (l.getD j d)) g j:=by
 have e:(l.take n).length=n:=by rw [List.length_take]; omega
 refine ⟨by rw [List.length_append,e],fun j hj=>?_⟩
 rw [List.length_append,e] at hj
 unfold appF
 rw [List.getD_eq_getElem?_getD,List.getElem?_append,e]
 cases hb:Nat.blt j n with
 |true =>
  have h1:=blt_t hb
  rw [if_pos h1,List.getElem?_take_of_lt h1,← List.getD_eq_getElem?_getD]
  rfl
 |false =>
  have h1:=blt_f hb
  rw [if_neg h1,← List.getD_eq_getElem?_getD,cond_false,hg _ (by omega)]
theorem ext_snoc {n:Nat} {x:α} {g:Nat→List AV} (hn:n≤l.length) (hg:g 0=enc x):(l.take n ++ [x]).length=n+1∧∀ j,j<(l.take n ++ [x]).length→enc ((l.take n ++ [x]).getD j d)=appF n (fun j=>enc (l.getD j d)) g j :=
 ext_app (m:=[x]) hn fun j hj=>by
  have:j=0:=by simpa using hj
  subst this
  exact hg
theorem ext_snoc' {n k:Nat} {x:α} {g:Nat→List AV} (hnk:n=k) (hn:k≤l.length) (hg:g 0=enc x):(l.take k ++ [x]).length=n+1∧∀ j,j<(l.take k ++ [x]).length→enc ((l.take k ++ [x]).getD j d)=appF n (fun j=>enc (l.getD j d)) g j:=by
 subst hnk
 exact ext_snoc hn hg
theorem ext_push {x:α} {g:Nat→List AV} (hg:g 0=enc x):(l ++ [x]).length=l.length+1∧∀ j,j<(l ++ [x]).length→enc ((l ++ [x]).getD j d)=appF l.length (fun j=>enc (l.getD j d)) g j:=by
 have:=ext_snoc (enc:=enc) (d:=d) (l:=l) (n:=l.length) (x:=x) (g:=g) (Nat.le_refl _) hg
 rwa [List.take_length] at this
end
end Go.Proofs.YtgdbhjmpkkbnnaaGreatDoor.Vc
end
section
/- Part TC: the text of a term, by the program; a term that is read. -/
namespace Go.Proofs.YtgdbhjmpkkbnnaaGreatDoor.Vc
open Go.Proofs
set_option maxRecDepth 10000
set_option maxHeartbeats 4000000
/-! ### The text -/
def C202:List AV→(AV→Prop)→Prop:=con (X:=ByteArray × Bool) (fun x=>[.str x.1,.bool x.2]) (fun x=>x.1.size≤9000000000000000000) fun x K=>K (.str (wrapT x.1 x.2))
theorem F202:FF 168 C202:=by
 refine fitE [] (by simp) Tryz.f168 ⟨rfl,by decide +kernel,by decide +kernel⟩ (fun _ _ _ hk h=>hk _ h) ?_
 rintro ⟨s,b⟩ K h1 h
 refine ⟨Nat.le_of_ble_eq_true rfl,?_⟩
 dsimp only at h h1 ⊢
 unfold wrapT at h
 have e0:(⟨#[40]⟩:ByteArray).size=1:=rfl
 have e1:(⟨#[41]⟩:ByteArray).size=1:=rfl
 cases b
 ·repeat' (first|refine vz ?_|(conv=>whnf); first|with_reducible first|refine Sp.mk ?_ ?_|refine br_d (fun _=>?_) fun _=>?_|refine vM (fun _=>?_) fun _=>?_)
  exact h
 ·repeat' ((conv=>whnf); first|refine ⟨Chk.mk (by (repeat rw [ByteArray.size_append]); omega),?_⟩|refine vA ?_|with_reducible first|refine v8 ?_|refine Ch.l ?_|refine Sp.mk ?_ ?_|refine vS ?_|refine vR ?_|refine vB ?_|refine br_nt ?_|refine br_tt ?_|refine br_ff ?_|refine vP ?_|refine vQ ?_|refine vT ?_|refine vF ?_|refine br_and ?_|refine br_or ?_|refine br_d (fun _=>?_) fun _=>?_|refine vM (fun _=>?_) fun _=>?_)
  exact h
def encPt (p:Pt):List AV:=[.str p.s,.bool p.o,.int .i64 p.n]
def stk (t:List Mark) (i:Nat):List Pt:=(runT (t.take i) []).reverse
def smallP (B:Nat) (p:Pt):Prop:=0≤p.n∧p.n≤B∧p.s.size≤B
theorem num1 {n:Int} (h0:0≤n) (h:n<10):(num n).size=1:=by rw [← bys_len,bys_num h0 h]; rfl
theorem wrapT_le (s:ByteArray) (b:Bool):(wrapT s b).size≤s.size+2:=by
 rw [wrap_size]; split <;> omega
theorem join2_size (k:Int) (a b:Pt):(join2 k a b).s.size≤a.s.size+b.s.size+5:=by
 have h1:=wrapT_le a.s a.o
 have h2:=wrapT_le b.s b.o
 have h3:=wrapT_le b.s (decide (b.n > 1))
 have e0:(⟨#[124]⟩:ByteArray).size=1:=rfl
 have e1:(⟨#[38]⟩:ByteArray).size=1:=rfl
 unfold join2
 split <;> (simp only [ByteArray.size_append]; omega)
theorem join2_n (k:Int) (a b:Pt):(join2 k a b).n=a.n+b.n+1:=by unfold join2; split <;> rfl
theorem stepT_small {bs:List Int} (hb:bodies bs) {m:Mark} {st:List Pt} {B q:Nat} (hs:stepP bs m st.length=some q) (h:∀ p∈st,smallP B p):∀ p∈stepT m st,smallP (2*B+5) p:=by
 intro p hp
 unfold stepT at hp
 split at hp
 ·rename_i hk
  rcases List.mem_cons.1 hp with rfl|hp
  ·unfold stepP at hs
   split at hs
   ·rename_i g
    obtain ⟨_,g1,g2,g3,g4⟩:=g
    have hm:bs.getD m.at_.toNat 0∈bs:=getD_mem' (by omega)
    have:=heads64 (hb.2 _ hm).1 (hb.2 _ hm).2
    refine ⟨by dsimp only; omega,by dsimp only; omega,?_⟩
    show (letter m.at_ ++ num m.need).size≤_
    rw [ByteArray.size_append,num1 (by omega) (by omega),show (letter m.at_).size=1 from rfl]
    omega
   ·rw [if_neg (by omega)] at hs; cases hs
  ·have:=h p hp
   exact ⟨this.1,by have:=this.2.1; omega,by have:=this.2.2; omega⟩
 ·split at hp
  ·rename_i b a r
   have ha:=h a (by simp)
   have hb:=h b (by simp)
   rcases List.mem_cons.1 hp with rfl|hp
   ·have h1:=join2_size m.kind a b
    have h2:=join2_n m.kind a b
    exact ⟨by rw [h2]; have:=ha.1; have:=hb.1; omega,by rw [h2]; have:=ha.2.1; have:=hb.2.1; omega,by have:=ha.2.2; have:=hb.2.2; omega⟩
   ·have:=h p (by simp [hp])
    exact ⟨this.1,by have:=this.2.1; omega,by have:=this.2.2; omega⟩
  ·have:=h p hp
   exact ⟨this.1,by have:=this.2.1; omega,by have:=this.2.2; omega⟩
def bndT:Nat→Nat
 |0=>5
 |i+1=>2*bndT i+5
theorem runT_small {bs:List Int} (hb:bodies bs) {t:List Mark} (h:walkP bs t 0=some 1):∀ i,i≤t.length→∀ p∈runT (t.take i) [],smallP (bndT i) p
 |0,_=>fun p hp=>by simp [runT] at hp
 |i+1,hi=>by
  obtain ⟨q,hq⟩:=walk_prefix h i
  obtain ⟨q2,hq2⟩:=walk_prefix h (i+1)
  have hl:=(runT_frame (bs:=bs) (t.take i) [] [] q hq).2
  rw [walkP_take (by omega) hq,← hl] at hq2
  rw [take_succ' default (by omega),runT_app]
  exact stepT_small hb hq2 (runT_small hb h i (by omega))
theorem bndT_le:∀ i,i≤9→bndT i≤10000:=by decide
theorem ext_letter {a:Int} (h0:0≤a) (h1:a<4):ByteArray.extract ⟨#[65,66,67,68]⟩ a.toNat (a+1).toNat=letter a:=by
 obtain ⟨n,rfl⟩:∃ n:Nat,a=n:=⟨a.toNat,by omega⟩
 have:n=0∨n=1∨n=2∨n=3:=by omega
 rcases this with rfl|rfl|rfl|rfl <;> decide
structure Tu where
 bs:List Int
 t:List Mark
def txOk (x:Tu):Prop:=bodies x.bs∧walkP x.bs x.t 0=some 1∧x.t.length≤9
def C192:List AV→(AV→Prop)→Prop:=con (X:=Tu) (fun x=>[slM x.t]) txOk fun x K=>K (.str (textT x.t))
theorem F192:FF 144 C192:=by
 refine fitE [(147,C101),(168,C202)] (by simp only [List.mem_cons,List.not_mem_nil,or_false]; rintro _ (rfl|rfl) <;> first|exact F101|exact F202) Tryz.f144 ⟨rfl,by decide +kernel,by decide +kernel⟩ (fun _ _ _ hk h=>hk _ h) ?_
 rintro ⟨bs,t⟩ K ⟨h1,h2,h3⟩ h
 refine ⟨Nat.le_of_ble_eq_true rfl,?_⟩
 dsimp only at h h1 h2 h3 ⊢
 repeat' (first|refine vz ?_|(conv=>whnf); first|with_reducible first|refine Sp.mk ?_ ?_|refine br_d (fun _=>?_) fun _=>?_|refine vM (fun _=>?_) fun _=>?_)
 refine Lp.mk ⟨Nat,fun i=>[(3,.row 0 3 0 (stk t i).length),(10,slM t),(11,.int .i64 t.length),(12,.int .i64 i)],
  fun i=>[.row 3 (stk t i).length fun j=>encPt ((stk t i).getD j default)],fun i=>i≤t.length,fun i=>t.length-i,⟨0,Nat.zero_le _,⟨⟨[none],[],rfl,rfl,?_,?_⟩⟩⟩,?_⟩
 ·exact wq
 ·exact wq
 intro i i1
 dsimp only
 obtain ⟨q,hq⟩:=walk_prefix h2 i
 have hl:=(runT_frame (bs:=bs) (t.take i) [] [] q hq).2
 have hql:q≤i:=by
  have:=walkP_le bs _ _ _ hq
  simp only [List.length_take] at this
  omega
 have hst:i<t.length→∃ q',stepP bs (t.getD i default) q=some q':=fun hi=>by
  obtain ⟨q',hq'⟩:=walk_prefix h2 (i+1)
  rw [walkP_take hi hq] at hq'
  exact ⟨q',hq'⟩
 have hnx:i<t.length→runT (t.take (i+1)) []=stepT (t.getD i default) (runT (t.take i) []):=fun hi=>by
  rw [take_succ' default hi,runT_app]
  rfl
 have hsm:=runT_small h1 h2 i i1
 have hbd:=bndT_le i (by omega)
 have hsl:(stk t i).length=q:=by rw [← hl,stk,List.length_reverse]
 have hleaf:i<t.length→(t.getD (i:Int).toNat default).kind=0→0≤(t.getD (i:Int).toNat default).at_∧(t.getD (i:Int).toNat default).at_<4∧1≤(t.getD (i:Int).toNat default).need∧(t.getD (i:Int).toNat default).need≤6:=fun hi hk=>by
  obtain ⟨q',e⟩:=hst hi
  replace hk:(t.getD i default).kind=0:=hk
  refine leaf_in h1 hk ?_
  unfold stepP at e ⊢
  split at e
  ·rename_i g; exact if_pos g
  ·rw [if_neg (by omega)] at e; cases e
 have h2s:i<t.length→¬ (t.getD (i:Int).toNat default).kind=0→2≤q:=fun hi hk=>by
  obtain ⟨q',e⟩:=hst hi
  rcases stepP_kind e with ⟨g,_⟩|⟨_,_,g,_⟩
  ·exact absurd g hk
  ·omega
 repeat' (first|refine vz ?_|(conv=>whnf); first|with_reducible first|refine Sp.mk ?_ ?_|refine br_d (fun _=>?_) fun _=>?_|refine vM (fun _=>?_) fun _=>?_)
 ·rename_i hi hk
  have hi:i<t.length:=by omega
  have hb:=hleaf hi hk
  have es:=ext_letter (a:=(t.getD (i:Int).toNat default).at_) (by omega) (by omega)
  have hnum:=num1 (n:=(t.getD (i:Int).toNat default).need) (by omega) (by omega)
  replace hk:(t.getD i default).kind=0:=hk
  have hpush:stk t (i+1)=stk t i ++ [⟨letter (t.getD i default).at_ ++ num (t.getD i default).need,false,1⟩]:=by
   unfold stk
   rw [hnx hi]
   unfold stepT
   rw [if_pos hk,List.reverse_cons]
  refine Dr.mk ⟨(.rd 0 (.rd 1 (.rd 2 (.rd 3 (.rd 4 (.rd 5 (.rd 6 (.rd 7 (.rd 8 (.ef 9 (.rd 10 (.rd 11 (.ef 12 (.ef 13 (.rd 14 .dn) .no) .no))) .no)))))))))),by decide +kernel,?_⟩
  repeat' ((conv=>whnf); first|refine ⟨Chk.mk ⟨by omega,by omega,by show _≤(4:Int); omega⟩,?_⟩|refine vA ?_|with_reducible first|refine v8 ?_|refine Ch.l ?_|refine Sp.mk ?_ ?_|refine vS ?_|refine vR ?_|refine vB ?_|refine br_nt ?_|refine br_tt ?_|refine br_ff ?_|refine vP ?_|refine vQ ?_|refine vT ?_|refine vF ?_|refine br_and ?_|refine br_or ?_|refine br_d (fun _=>?_) fun _=>?_|refine vM (fun _=>?_) fun _=>?_)
  rw [es]
  refine ⟨(t.getD (i:Int).toNat default).need,?_,⟨by omega,by omega⟩,?_⟩
  ·exact wq
  repeat' ((conv=>whnf); first|refine ⟨Chk.mk (by rw [hnum]; exact (by decide:1+1≤9223372036854775807)),?_⟩|refine vA ?_|with_reducible first|refine v8 ?_|refine Ch.l ?_|refine Sp.mk ?_ ?_|refine vS ?_|refine vR ?_|refine vB ?_|refine br_nt ?_|refine br_tt ?_|refine br_ff ?_|refine vP ?_|refine vQ ?_|refine vT ?_|refine vF ?_|refine br_and ?_|refine br_or ?_|refine br_d (fun _=>?_) fun _=>?_|refine vM (fun _=>?_) fun _=>?_)
  refine ⟨i+1,by omega,by omega,⟨⟨[some 3],[],rfl,rfl,?_,?_⟩⟩⟩
  ·repeat' ((conv=>whnf); first|with_reducible exact True.intro|exact vW|with_reducible refine And.intro ?_ ?_)
   all_goals exact Chk.mk ⟨rfl,by rw [hpush,List.length_append]; rfl⟩
  ·repeat' ((conv=>whnf); first|with_reducible exact True.intro|exact vW|with_reducible refine And.intro ?_ ?_)
   all_goals exact Chk.mk (by rw [hpush]; exact ext_push rfl)
 ·rename_i hi hk
  have hi:i<t.length:=by omega
  have hb:=h2s hi hk
  replace hk:¬ (t.getD i default).kind=0:=hk
  obtain ⟨b,a,r,hbar⟩:∃ b a r,runT (t.take i) []=b :: a :: r:=by
   match e:runT (t.take i) [],hl with
   |[],hl=>simp at hl; omega
   |[_],hl=>simp at hl; omega
   |b :: a :: r,_=>exact ⟨b,a,r,rfl⟩
  have hstk:stk t i=r.reverse ++ [a] ++ [b]:=by unfold stk; rw [hbar]; simp
  have hrl:(stk t i).length=r.length+2:=by rw [hstk]; simp
  have hjoin:stk t (i+1)=(stk t i).take r.length ++ [join2 (t.getD i default).kind a b]:=by
   rw [hstk]
   unfold stk
   rw [hnx hi,hbar]
   unfold stepT
   rw [if_neg hk,List.reverse_cons,List.append_assoc,List.take_left' (by simp)]
  have ea:(stk t i).getD (0+(((stk t i).length:Int)-2).toNat) default=a:=by
   rw [hrl,hstk,show 0+(((r.length+2:Nat):Int)-2).toNat=r.length by omega]
   simp [List.getD_eq_getElem?_getD]
  have eb:(stk t i).getD (0+(((stk t i).length:Int)-1).toNat) default=b:=by
   rw [hrl,hstk,show 0+(((r.length+2:Nat):Int)-1).toNat=r.length+1 by omega]
   simp [List.getD_eq_getElem?_getD]
  have sa:=hsm a (by rw [hbar]; simp)
  have sb:=hsm b (by rw [hbar]; simp)
  have sa1:=sa.1
  have sa2:=sa.2.1
  have sa3:=sa.2.2
  have sb1:=sb.1
  have sb2:=sb.2.1
  have sb3:=sb.2.2
  have l2:2≤(stk t i).length:=by omega
  have n2:(((stk t i).length:Int)-2).toNat=r.length:=by omega
  have wa:=wrapT_le a.s a.o
  have wb:=wrapT_le b.s b.o
  have wc:=wrapT_le b.s (decide (b.n > 1))
  have z0:(⟨#[124]⟩:ByteArray).size=1:=rfl
  have z1:(⟨#[38]⟩:ByteArray).size=1:=rfl
  refine Dr.mk ⟨(.rd 0 (.rd 1 (.rd 2 (.rd 3 (.rd 4 (.rd 5 (.rd 6 (.rd 7 (.rd 8 (.rd 9 (.rd 10 (.rd 11 (.ef 12 (.ef 13 (.ef 14 (.ef 15 .dn .no) .no) .no) (.ef 13 (.ef 12 (.ef 14 (.ef 15 .dn .no) .no) .no) .no)))))))))))))),by decide +kernel,?_⟩
  repeat' ((conv=>whnf); first|with_reducible refine wk_at 8 ?_|with_reducible refine wk_at1 8 ?_|with_reducible refine wk_at2 8 ?_|refine vA ?_|with_reducible first|refine v8 ?_|refine Ch.l ?_|refine Sp.mk ?_ ?_|refine vS ?_|refine vR ?_|refine vB ?_|refine br_nt ?_|refine br_tt ?_|refine br_ff ?_|refine vP ?_|refine vQ ?_|refine vT ?_|refine vF ?_|refine br_and ?_|refine br_or ?_|refine br_d (fun _=>?_) fun _=>?_|refine vM (fun _=>?_) fun _=>?_)
  all_goals
   refine ⟨Wk.go [(3,.row 0 3 0 (stk t i).length),(5,.ptr 1 0),(6,.ptr 2 0),(7,.ptr 3 0),(10,slM t),(11,.int .i64 t.length),(12,.int .i64 i)]
    [.row 3 (stk t i).length fun j=>encPt ((stk t i).getD j default),.box (encM (t.getD i default)),.box (encPt a),.box (encPt b)] ?_ ?_⟩
   ·first
     |refine ⟨⟨[some 0,some 1,some 2,some 3],[],rfl,rfl,?_,?_⟩⟩
      ·exact wq
      ·repeat' ((conv=>whnf); first|with_reducible exact True.intro|exact vW|with_reducible refine And.intro ?_ ?_)
       all_goals first|exact Chk.mk (congrArg Pt.s ea).symm|exact Chk.mk (congrArg Pt.o ea).symm|exact Chk.mk (congrArg Pt.n ea).symm|exact Chk.mk (congrArg Pt.s eb).symm|exact Chk.mk (congrArg Pt.o eb).symm|exact Chk.mk (congrArg Pt.n eb).symm
     |refine ⟨⟨[some 0,some 1,some 3,some 2],[],rfl,rfl,?_,?_⟩⟩
      ·exact wq
      ·repeat' ((conv=>whnf); first|with_reducible exact True.intro|exact vW|with_reducible refine And.intro ?_ ?_)
       all_goals first|exact Chk.mk (congrArg Pt.s ea).symm|exact Chk.mk (congrArg Pt.o ea).symm|exact Chk.mk (congrArg Pt.n ea).symm|exact Chk.mk (congrArg Pt.s eb).symm|exact Chk.mk (congrArg Pt.o eb).symm|exact Chk.mk (congrArg Pt.n eb).symm
   repeat' (first|refine vz ?_|(conv=>whnf); first|with_reducible first|refine Sp.mk ?_ ?_|refine br_d (fun _=>?_) fun _=>?_|refine vM (fun _=>?_) fun _=>?_)
  ·rename_i hk2
   have hf:encPt ⟨a.s ++ ⟨#[124]⟩ ++ wrapT b.s b.o,decide ((t.getD i default).kind=2),a.n+b.n+1⟩=encPt (join2 (t.getD i default).kind a b):=by
    unfold join2
    rw [if_pos hk2,decide_eq_true hk2]
   refine Dr.mk ⟨(.rd 0 (.rd 1 (.rd 2 (.rd 3 (.rd 4 (.rd 5 (.rd 6 (.ef 7 (.rd 8 (.rd 9 (.ef 10 .dn .no))) .no)))))))),by decide +kernel,?_⟩
   repeat' ((conv=>whnf); first|refine ⟨Chk.mk (by (try dsimp only); (repeat rw [ByteArray.size_append]); omega),?_⟩|refine vA ?_|with_reducible first|refine v8 ?_|refine Ch.l ?_|refine Sp.mk ?_ ?_|refine vS ?_|refine vR ?_|refine vB ?_|refine br_nt ?_|refine br_tt ?_|refine br_ff ?_|refine vP ?_|refine vQ ?_|refine vT ?_|refine vF ?_|refine br_and ?_|refine br_or ?_|refine br_d (fun _=>?_) fun _=>?_|refine vM (fun _=>?_) fun _=>?_)
   refine ⟨(b.s,b.o),?_,⟨by dsimp only; omega⟩,?_⟩
   ·exact wq
   repeat' ((conv=>whnf); first|refine ⟨Chk.mk (by (try dsimp only); (repeat rw [ByteArray.size_append]); omega),?_⟩|refine vA ?_|with_reducible first|refine v8 ?_|refine Ch.l ?_|refine Sp.mk ?_ ?_|refine vS ?_|refine vR ?_|refine vB ?_|refine br_nt ?_|refine br_tt ?_|refine br_ff ?_|refine vP ?_|refine vQ ?_|refine vT ?_|refine vF ?_|refine br_and ?_|refine br_or ?_|refine br_d (fun _=>?_) fun _=>?_|refine vM (fun _=>?_) fun _=>?_)
   refine Dr.mk ⟨(.rd 0 (.rd 1 (.rd 2 (.rd 3 (.rd 4 (.rd 5 (.ef 6 (.ef 7 (.rd 8 .dn) .no) .no))))))),by decide +kernel,?_⟩
   repeat' (first|refine vz ?_|(conv=>whnf); first|with_reducible first|refine Sp.mk ?_ ?_|refine br_d (fun _=>?_) fun _=>?_|refine vM (fun _=>?_) fun _=>?_)
   refine ⟨i+1,by omega,by omega,⟨⟨[some 6],[],rfl,rfl,?_,?_⟩⟩⟩
   ·repeat' ((conv=>whnf); first|with_reducible exact True.intro|exact vW|with_reducible refine And.intro ?_ ?_)
    all_goals exact Chk.mk ⟨rfl,by rw [hjoin]; exact (ext_snoc' (enc:=encPt) (d:=default) (g:=fun _=>encPt (join2 (t.getD i default).kind a b)) n2 (by omega) rfl).1⟩
   ·repeat' ((conv=>whnf); first|with_reducible exact True.intro|exact vW|with_reducible refine And.intro ?_ ?_)
    all_goals exact Chk.mk (by rw [hjoin]; exact ext_snoc' n2 (by omega) hf)
  ·rename_i hk2
   have hf:encPt ⟨wrapT a.s a.o ++ ⟨#[38]⟩ ++ wrapT b.s (decide (b.n > 1)),decide ((t.getD i default).kind=2),a.n+b.n+1⟩=encPt (join2 (t.getD i default).kind a b):=by
    unfold join2
    rw [if_neg hk2,decide_eq_false hk2]
   refine Dr.mk ⟨(.rd 0 (.rd 1 (.rd 2 (.rd 3 (.rd 6 (.rd 7 (.rd 8 (.rd 9 (.rd 10 (.ef 4 (.rd 5 (.ef 11 (.rd 12 (.rd 13 (.ef 14 .dn .no))) .no)) .no)))))))))),by decide +kernel,?_⟩
   repeat' (first|refine vz ?_|(conv=>whnf); first|with_reducible first|refine Sp.mk ?_ ?_|refine br_d (fun _=>?_) fun _=>?_|refine vM (fun _=>?_) fun _=>?_)
   refine ⟨(a.s,a.o),?_,⟨by dsimp only; omega⟩,?_⟩
   ·exact wq
   repeat' ((conv=>whnf); first|refine ⟨Chk.mk (by (try dsimp only); (repeat rw [ByteArray.size_append]); omega),?_⟩|refine vA ?_|with_reducible first|refine v8 ?_|refine Ch.l ?_|refine Sp.mk ?_ ?_|refine vS ?_|refine vR ?_|refine vB ?_|refine br_nt ?_|refine br_tt ?_|refine br_ff ?_|refine vP ?_|refine vQ ?_|refine vT ?_|refine vF ?_|refine br_and ?_|refine br_or ?_|refine br_d (fun _=>?_) fun _=>?_|refine vM (fun _=>?_) fun _=>?_)
   refine ⟨(b.s,decide (b.n > 1)),?_,⟨by dsimp only; omega⟩,?_⟩
   ·exact wq
   repeat' ((conv=>whnf); first|refine ⟨Chk.mk (by (try dsimp only); (repeat rw [ByteArray.size_append]); omega),?_⟩|refine vA ?_|with_reducible first|refine v8 ?_|refine Ch.l ?_|refine Sp.mk ?_ ?_|refine vS ?_|refine vR ?_|refine vB ?_|refine br_nt ?_|refine br_tt ?_|refine br_ff ?_|refine vP ?_|refine vQ ?_|refine vT ?_|refine vF ?_|refine br_and ?_|refine br_or ?_|refine br_d (fun _=>?_) fun _=>?_|refine vM (fun _=>?_) fun _=>?_)
   refine Dr.mk ⟨(.rd 0 (.rd 1 (.rd 2 (.rd 3 (.rd 4 (.rd 5 (.ef 6 (.ef 7 (.rd 8 .dn) .no) .no))))))),by decide +kernel,?_⟩
   repeat' (first|refine vz ?_|(conv=>whnf); first|with_reducible first|refine Sp.mk ?_ ?_|refine br_d (fun _=>?_) fun _=>?_|refine vM (fun _=>?_) fun _=>?_)
   refine ⟨i+1,by omega,by omega,⟨⟨[some 6],[],rfl,rfl,?_,?_⟩⟩⟩
   ·repeat' ((conv=>whnf); first|with_reducible exact True.intro|exact vW|with_reducible refine And.intro ?_ ?_)
    all_goals exact Chk.mk ⟨rfl,by rw [hjoin]; exact (ext_snoc' (enc:=encPt) (d:=default) (g:=fun _=>encPt (join2 (t.getD i default).kind a b)) n2 (by omega) rfl).1⟩
   ·repeat' ((conv=>whnf); first|with_reducible exact True.intro|exact vW|with_reducible refine And.intro ?_ ?_)
    all_goals exact Chk.mk (by rw [hjoin]; exact ext_snoc' n2 (by omega) hf)
  ·rename_i hk2
   have hf:encPt ⟨a.s ++ ⟨#[124]⟩ ++ wrapT b.s b.o,decide ((t.getD i default).kind=2),a.n+b.n+1⟩=encPt (join2 (t.getD i default).kind a b):=by
    unfold join2
    rw [if_pos hk2,decide_eq_true hk2]
   refine Dr.mk ⟨(.rd 0 (.rd 1 (.rd 2 (.rd 3 (.rd 4 (.rd 5 (.rd 6 (.ef 7 (.rd 8 (.rd 9 (.ef 10 .dn .no))) .no)))))))),by decide +kernel,?_⟩
   repeat' ((conv=>whnf); first|refine ⟨Chk.mk (by (try dsimp only); (repeat rw [ByteArray.size_append]); omega),?_⟩|refine vA ?_|with_reducible first|refine v8 ?_|refine Ch.l ?_|refine Sp.mk ?_ ?_|refine vS ?_|refine vR ?_|refine vB ?_|refine br_nt ?_|refine br_tt ?_|refine br_ff ?_|refine vP ?_|refine vQ ?_|refine vT ?_|refine vF ?_|refine br_and ?_|refine br_or ?_|refine br_d (fun _=>?_) fun _=>?_|refine vM (fun _=>?_) fun _=>?_)
   refine ⟨(b.s,b.o),?_,⟨by dsimp only; omega⟩,?_⟩
   ·exact wq
   repeat' ((conv=>whnf); first|refine ⟨Chk.mk (by (try dsimp only); (repeat rw [ByteArray.size_append]); omega),?_⟩|refine vA ?_|with_reducible first|refine v8 ?_|refine Ch.l ?_|refine Sp.mk ?_ ?_|refine vS ?_|refine vR ?_|refine vB ?_|refine br_nt ?_|refine br_tt ?_|refine br_ff ?_|refine vP ?_|refine vQ ?_|refine vT ?_|refine vF ?_|refine br_and ?_|refine br_or ?_|refine br_d (fun _=>?_) fun _=>?_|refine vM (fun _=>?_) fun _=>?_)
   refine Dr.mk ⟨(.rd 0 (.rd 1 (.rd 2 (.rd 3 (.rd 4 (.rd 5 (.ef 6 (.ef 7 (.rd 8 .dn) .no) .no))))))),by decide +kernel,?_⟩
   repeat' (first|refine vz ?_|(conv=>whnf); first|with_reducible first|refine Sp.mk ?_ ?_|refine br_d (fun _=>?_) fun _=>?_|refine vM (fun _=>?_) fun _=>?_)
   refine ⟨i+1,by omega,by omega,⟨⟨[some 6],[],rfl,rfl,?_,?_⟩⟩⟩
   ·repeat' ((conv=>whnf); first|with_reducible exact True.intro|exact vW|with_reducible refine And.intro ?_ ?_)
    all_goals exact Chk.mk ⟨rfl,by rw [hjoin]; exact (ext_snoc' (enc:=encPt) (d:=default) (g:=fun _=>encPt (join2 (t.getD i default).kind a b)) n2 (by omega) rfl).1⟩
   ·repeat' ((conv=>whnf); first|with_reducible exact True.intro|exact vW|with_reducible refine And.intro ?_ ?_)
    all_goals exact Chk.mk (by rw [hjoin]; exact ext_snoc' n2 (by omega) hf)
  ·rename_i hk2
   have hf:encPt ⟨wrapT a.s a.o ++ ⟨#[38]⟩ ++ wrapT b.s (decide (b.n > 1)),decide ((t.getD i default).kind=2),a.n+b.n+1⟩=encPt (join2 (t.getD i default).kind a b):=by
    unfold join2
    rw [if_neg hk2,decide_eq_false hk2]
   refine Dr.mk ⟨(.rd 0 (.rd 1 (.rd 2 (.rd 3 (.rd 6 (.rd 7 (.rd 8 (.rd 9 (.rd 10 (.ef 4 (.rd 5 (.ef 11 (.rd 12 (.rd 13 (.ef 14 .dn .no))) .no)) .no)))))))))),by decide +kernel,?_⟩
   repeat' (first|refine vz ?_|(conv=>whnf); first|with_reducible first|refine Sp.mk ?_ ?_|refine br_d (fun _=>?_) fun _=>?_|refine vM (fun _=>?_) fun _=>?_)
   refine ⟨(a.s,a.o),?_,⟨by dsimp only; omega⟩,?_⟩
   ·exact wq
   repeat' ((conv=>whnf); first|refine ⟨Chk.mk (by (try dsimp only); (repeat rw [ByteArray.size_append]); omega),?_⟩|refine vA ?_|with_reducible first|refine v8 ?_|refine Ch.l ?_|refine Sp.mk ?_ ?_|refine vS ?_|refine vR ?_|refine vB ?_|refine br_nt ?_|refine br_tt ?_|refine br_ff ?_|refine vP ?_|refine vQ ?_|refine vT ?_|refine vF ?_|refine br_and ?_|refine br_or ?_|refine br_d (fun _=>?_) fun _=>?_|refine vM (fun _=>?_) fun _=>?_)
   refine ⟨(b.s,decide (b.n > 1)),?_,⟨by dsimp only; omega⟩,?_⟩
   ·exact wq
   repeat' ((conv=>whnf); first|refine ⟨Chk.mk (by (try dsimp only); (repeat rw [ByteArray.size_append]); omega),?_⟩|refine vA ?_|with_reducible first|refine v8 ?_|refine Ch.l ?_|refine Sp.mk ?_ ?_|refine vS ?_|refine vR ?_|refine vB ?_|refine br_nt ?_|refine br_tt ?_|refine br_ff ?_|refine vP ?_|refine vQ ?_|refine vT ?_|refine vF ?_|refine br_and ?_|refine br_or ?_|refine br_d (fun _=>?_) fun _=>?_|refine vM (fun _=>?_) fun _=>?_)
   refine Dr.mk ⟨(.rd 0 (.rd 1 (.rd 2 (.rd 3 (.rd 4 (.rd 5 (.ef 6 (.ef 7 (.rd 8 .dn) .no) .no))))))),by decide +kernel,?_⟩
   repeat' (first|refine vz ?_|(conv=>whnf); first|with_reducible first|refine Sp.mk ?_ ?_|refine br_d (fun _=>?_) fun _=>?_|refine vM (fun _=>?_) fun _=>?_)
   refine ⟨i+1,by omega,by omega,⟨⟨[some 6],[],rfl,rfl,?_,?_⟩⟩⟩
   ·repeat' ((conv=>whnf); first|with_reducible exact True.intro|exact vW|with_reducible refine And.intro ?_ ?_)
    all_goals exact Chk.mk ⟨rfl,by rw [hjoin]; exact (ext_snoc' (enc:=encPt) (d:=default) (g:=fun _=>encPt (join2 (t.getD i default).kind a b)) n2 (by omega) rfl).1⟩
   ·repeat' ((conv=>whnf); first|with_reducible exact True.intro|exact vW|with_reducible refine And.intro ?_ ?_)
    all_goals exact Chk.mk (by rw [hjoin]; exact ext_snoc' n2 (by omega) hf)
 ·rename_i hi
  have e:=hnx
  obtain rfl:i=t.length:=by omega
  have hone:stk t t.length=[partT t]:=by unfold stk; rw [List.take_length,runT_one h2]; rfl
  rw [hone]
  repeat' (first|refine vz ?_|(conv=>whnf); first|with_reducible first|refine Sp.mk ?_ ?_|refine br_d (fun _=>?_) fun _=>?_|refine vM (fun _=>?_) fun _=>?_)
  exact h
/-! ### A term that is read -/
def sane (rd:List Int→PR):Prop:=∀ s t r,rd s=some (t,r)→∀ m∈t,m.i64
theorem loopF_sane {rd:List Int→PR} (h:sane rd) {sign kind:Int} (hk:i64r kind):∀ k t s u r,(∀ m∈t,m.i64)→loopF rd sign kind k t s=some (u,r)→∀ m∈u,m.i64
 |0,t,s,u,r,ht,e=>by
  simp only [loopF,Option.some.injEq,Prod.mk.injEq] at e
  obtain ⟨rfl,rfl⟩:=e
  exact ht
 |k+1,t,[],u,r,ht,e=>by
  simp only [loopF,Option.some.injEq,Prod.mk.injEq] at e
  obtain ⟨rfl,rfl⟩:=e
  exact ht
 |k+1,t,c :: s,u,r,ht,e=>by
  unfold loopF at e
  split at e
  ·cases e1:rd s with
   |none=>rw [e1] at e; cases e
   |some q =>
    rw [e1] at e
    refine loopF_sane h hk k _ _ u r (fun m hm=>?_) e
    rcases List.mem_append.1 hm with hm|hm
    ·rcases List.mem_append.1 hm with hm|hm
     ·exact ht m hm
     ·exact h s q.1 q.2 e1 m hm
    ·obtain rfl:=List.mem_singleton.1 hm
     exact ⟨hk,by unfold i64r; dsimp only; omega,by unfold i64r; dsimp only; omega⟩
  ·simp only [Option.some.injEq,Prod.mk.injEq] at e
   obtain ⟨rfl,rfl⟩:=e
   exact ht
theorem joinP_sane {rd:List Int→PR} (h:sane rd) {sign kind:Int} (hk:i64r kind):sane (joinP rd sign kind):=fun s t r e=>by
 unfold joinP at e
 cases e1:rd s with
 |none=>rw [e1] at e; cases e
 |some q =>
  rw [e1] at e
  exact loopF_sane h hk _ _ _ t r (h s q.1 q.2 e1) e
theorem partF_sane {lo:Int} (hl:0≤lo):∀ f,sane (partF lo f)
 |0=>fun s t r e=>by cases e
 |f+1=>fun s t r e=>by
  unfold partF at e
  cases s with
  |nil=>cases e
  |cons b s =>
   dsimp only at e
   split at e
   ·have hf:=joinP_sane (sign:=124) (kind:=2) (joinP_sane (sign:=38) (kind:=1) (partF_sane hl f) (by unfold i64r; decide)) (by unfold i64r; decide)
    unfold closeP at e
    split at e
    ·rename_i t' c s' e1
     split at e
     ·simp only [Option.some.injEq,Prod.mk.injEq] at e
      obtain ⟨rfl,rfl⟩:=e
      exact hf _ _ _ e1
     ·cases e
    ·cases e
   ·unfold atomP at e
    split at e
    ·split at e
     ·simp only [Option.some.injEq,Prod.mk.injEq] at e
      obtain ⟨rfl,rfl⟩:=e
      intro m hm
      obtain rfl:=List.mem_singleton.1 hm
      exact ⟨by unfold i64r; dsimp only; omega,by unfold i64r; dsimp only; omega,by unfold i64r; dsimp only; omega⟩
     ·cases e
    ·cases e
theorem eitherP_sane {lo:Int} (hl:0≤lo) (f:Nat):sane (eitherP (partF lo f)):=joinP_sane (joinP_sane (partF_sane hl f) (by unfold i64r; decide)) (by unfold i64r; decide)
structure Hs where
 h:House
 s:ByteArray
def houI (h:House):Prop:=h.i64∧h.bs.length<9223372036854775808
def rdpost (lo:Int) (x:Hs) (K:AV→Prop):Prop:=(rdT lo x.h x.s=none→K (.tup [.nils,.bool false]))∧∀ t,rdT lo x.h x.s=some t→K (.tup [slM t,.bool true])
theorem rdpost_mono {lo:Int} {x:Hs} {K K':AV→Prop} (hk:∀ r,K r→K' r) (h:rdpost lo x K):rdpost lo x K':=⟨fun e=>hk _ (h.1 e),fun t e=>hk _ (h.2 t e)⟩
def C176:List AV→(AV→Prop)→Prop:=con (X:=Hs) (fun x=>[enH x.h,.str x.s]) (fun x=>houI x.h∧x.s.size<9223372036854775808) fun x K=>rdpost 49 x K
theorem rdT_no {lo:Int} {h:House} {s:ByteArray} (e:∀ t,eitherP (partF lo 80) (bys s)=some (t,[])→s.size≤80→termOk h t→textT t=s→False):rdT lo h s=none:=by
 unfold rdT
 split
 ·split
  ·rename_i t e1
   rw [if_neg fun q=>e t e1 ‹_› q.1 q.2]
  ·rfl
 ·rfl
theorem F176:FF 121 C176:=by
 refine fitX [(143,C38),(144,C192)] (by simp only [List.mem_cons,List.not_mem_nil,or_false]; rintro _ (rfl|rfl) <;> first|exact F38|exact F192) [(142,C191 80)] (by simp only [List.mem_cons,List.not_mem_nil,or_false]; rintro _ rfl; exact F191 (F208 80)) Tryz.f121 ⟨rfl,by decide +kernel,by decide +kernel⟩ (fun _ _ _ hk h=>rdpost_mono hk h) ?_
 rintro ⟨⟨p,bs⟩,s⟩ K ⟨h1,h2⟩ h
 refine ⟨Nat.le_of_ble_eq_true rfl,?_⟩
 have hI:=h1.1
 have hI2:=h1.2
 unfold rdpost at h
 dsimp only [enH] at h h2 ⊢
 repeat' (first|refine vz ?_|(conv=>whnf); first|with_reducible first|refine Sp.mk ?_ ?_|refine br_d (fun _=>?_) fun _=>?_|refine vM (fun _=>?_) fun _=>?_)
 ·exact h.1 (if_neg (by omega))
 ·rename_i h80
  refine ⟨_,_,[1],[],rfl,?_,?_,⟨s,0⟩,rfl,rfl,⟨⟨Nat.zero_le _,by dsimp only; omega⟩,by dsimp only; omega⟩,?_⟩
  ·exact wq
  ·exact wq
  have hr0:rem s 0=bys s:=rfl
  refine And.intro (fun e a' g1 g2=>?_) (fun t u e a' g1 g2 g3=>?_)
  ·dsimp only at e g1 g2
   rw [hr0] at e
   have hn:rdT 49 ⟨p,bs⟩ s=none:=rdT_no fun t e1=>by rw [e] at e1; cases e1
   replace h:=h.1 hn
   repeat' (first|refine vz ?_|(conv=>whnf); first|with_reducible first|refine Sp.mk ?_ ?_|refine br_d (fun _=>?_) fun _=>?_|refine vM (fun _=>?_) fun _=>?_)
   ·refine ⟨(⟨p,bs⟩,[]),?_,⟨⟨hI,hI2,by simp,by simp⟩⟩,?_⟩
    ·exact wq
    have hno:¬ termOk ⟨p,bs⟩ []:=fun q=>by
     have:=q.2.2
     simp [walkP] at this
    repeat' (first|refine vz ?_|(conv=>whnf); first|with_reducible first|refine Sp.mk ?_ ?_|refine br_d (fun _=>?_) fun _=>?_|refine vM (fun _=>?_) fun _=>?_)
    exact h
   ·exact h
  ·dsimp only at e g1 g2 g3
   rw [hr0] at e
   have hfa:=eitherP_fair 49 80 _ _ _ e
   rw [bys_len] at hfa
   have hsa:=eitherP_sane (by decide) 80 _ _ _ e
   have hlen:t.length<9223372036854775808:=by omega
   repeat' (first|refine vz ?_|(conv=>whnf); first|with_reducible first|refine Sp.mk ?_ ?_|refine br_d (fun _=>?_) fun _=>?_|refine vM (fun _=>?_) fun _=>?_)
   ·rename_i ea
    have hu:u=[]:=by rw [← g3]; exact rem_ge (by omega)
    subst hu
    refine ⟨(⟨p,bs⟩,t),?_,⟨⟨hI,hI2,hsa,hlen⟩⟩,?_⟩
    ·repeat' ((conv=>whnf); first|with_reducible exact True.intro|exact vW|with_reducible refine And.intro ?_ ?_)
     all_goals exact Chk.mk ⟨rfl,fun i _=>by dsimp only; rw [Nat.zero_add]⟩
    repeat' (first|refine vz ?_|(conv=>whnf); first|with_reducible first|refine Sp.mk ?_ ?_|refine br_d (fun _=>?_) fun _=>?_|refine vM (fun _=>?_) fun _=>?_)
    ·rename_i hO
     have hO':termOk ⟨p,bs⟩ t:=hO
     refine ⟨⟨bs,t⟩,?_,⟨bodies_of hO'.1,hO'.2.2,hO'.2.1⟩,?_⟩
     ·repeat' ((conv=>whnf); first|with_reducible exact True.intro|exact vW|with_reducible refine And.intro ?_ ?_)
      all_goals exact Chk.mk ⟨rfl,fun i _=>by dsimp only; rw [Nat.zero_add]⟩
     repeat' (first|refine vz ?_|(conv=>whnf); first|with_reducible first|refine Sp.mk ?_ ?_|refine br_d (fun _=>?_) fun _=>?_|refine vM (fun _=>?_) fun _=>?_)
     ·rename_i hq
      refine Eq.mp (congrArg (fun z=>K (.tup [AV.sl 3 _ z,.bool true])) ?_) (h.2 t ((rdT_iff (by decide)).2 ⟨by omega,hO',hq⟩))
      funext j
      show encM (t.getD j default)=encM (t.getD (0+j) default)
      rw [Nat.zero_add]
     ·rename_i hq
      exact h.1 (rdT_no fun t' e1 _ _ hq'=>by rw [e] at e1; injection e1 with e1; injection e1 with e1 _; subst e1; exact hq hq')
    ·rename_i hO
     exact h.1 (rdT_no fun t' e1 _ hq _=>by rw [e] at e1; injection e1 with e1; injection e1 with e1 _; subst e1; exact hO hq)
   ·rename_i ea
    refine h.1 (rdT_no fun t' e1=>?_)
    rw [e] at e1
    injection e1 with e1
    injection e1 with _ e1
    rw [← g3] at e1
    have:=rem_len s a'
    rw [e1] at this
    simp only [List.length_nil] at this
    omega
end Go.Proofs.YtgdbhjmpkkbnnaaGreatDoor.Vc
end
