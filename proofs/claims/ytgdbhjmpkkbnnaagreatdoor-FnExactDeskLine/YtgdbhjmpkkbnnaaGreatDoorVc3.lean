/- Part LA3: strings.ContainsAny at space and newline. -/
import Derived.Test.YtgdbhjmpkkbnnaaGreatDoorProg
import Derived.Test.YtgdbhjmpkkbnnaaGreatDoorShelf
import Derived.Test.YtgdbhjmpkkbnnaaGreatDoorVc2
section
namespace Go.Proofs.YtgdbhjmpkkbnnaaGreatDoor.Vc
open Go.Proofs Go.Shelf Go.RowKit Go.Lib
variable {P:Program} {ρ:Ren}
theorem noAny_more {s chars:List UInt8} {i n:Nat} (h:NoAny s chars i) (hn:∀ j b,i≤j→j<i+n→s[j]?=some b→chars.contains b=false):NoAny s chars (i+n):=fun j b hj hb=>by
 by_cases e:j<i
 ·exact h j b e hb
 ·exact hn j b (by omega) hj hb
theorem sn_high {b:UInt8} (h:128≤b.toNat):sn.data.toList.contains b=false:=by
 cases e:sn.data.toList.contains b with
 |false=>rfl
 |true =>
  have:b=32∨b=10:=by simpa [sn] using e
  rcases this with rfl|rfl <;> simp at h
theorem below_iter_at {w wx:World} {s:ByteArray} {i:Nat} (hb:Below w.heap.size w wx) (hk:wx.heap[w.heap.size]?=some (.stringIter s i)) (i':Nat) :
  Below w.heap.size w (wx.iterAt w.heap.size s i')∧(wx.iterAt w.heap.size s i').heap[w.heap.size]?=some (.stringIter s i') :=
 ⟨below_iterAt hb (Nat.le_refl _) s i',iterAt_heap wx _ s i i' hk⟩
set_option maxHeartbeats 8000000 in
set_option maxRecDepth 1000000 in
theorem IndexAny_short_sn (L:Lays.n153 P ρ) (s:ByteArray) (w:World) (h8:s.size≤8) :
  Calls P (ρ.f 153) #[.string s,.string sn] w fun e w'=>e=.returned (.int .i64 (Lib.indexAny s.data.toList sn.data.toList))∧Below w.heap.size w w':=by
 have hemp:sn.toList.isEmpty=false:=by rw [Lib.toList_data]; rfl
 have hn1:((sn.size:Int) == 1)=false:=rfl
 have h8z:decide ((8:Int)<(s.size:Int))=false:=decide_eq_false (by omega)
 have t3:=L.t3; have a3:=L.a3; have z3:=L.z3; have v3:=L.v3
 have t4:=L.t4; have a4:=L.a4; have z4:=L.z4; have v4:=L.v4
 have t5:=L.t5; have a5:=L.a5; have z5:=L.z5; have v5:=L.v5
 have t9:=L.t9; have a9:=L.a9; have z9:=L.z9; have v9:=L.v9
 have t21:=L.t21; have a21:=L.a21; have z21:=L.z21; have v21:=L.v21
 have e152:∀ args w,(callFunc (ρ.f 152) args).run P w=.ok (.enter (ρ.f 152) args) w:=enters_of L.f152 (by kernel_rfl) rfl
 have e226:∀ args w,(callFunc (ρ.f 226) args).run P w=.ok (.enter (ρ.f 226) args) w:=enters_of L.f226 (by kernel_rfl) rfl
 go_enter L.f153,Body.n153_ntmps ρ
 go_wp2_with (go_at_fn (ρ.f 226); refine (Any.strings_shouldUseASCIISet { L with } _ _).mono ?_; rintro e w' ⟨rfl,hw⟩; rw [hw,h8z])
 go_loopg [9,10] s.size (fun g _ _ wx=>∃ i:Nat,i+g≤s.size∧s.size≤i+g∧Below w.heap.size w wx∧wx.heap[w.heap.size]?=some (.stringIter s i)∧Lib.NoAny s.data.toList sn.data.toList i)
 case atStart=>exact ⟨0,by omega,by omega,below_iter _ _ _,World.iter_heap _ _ _,Lib.NoAny.zero _ _⟩
 case round =>
  obtain ⟨i,hig,hgi,hB,hk,hno⟩:=hrel
  have HN:Aside (Lib.NoAny s.data.toList sn.data.toList i):=hno
  have HB:Aside (Below w.heap.size w wr):=hB
  clear hno hB
  cases gk with
  |zero =>
   obtain rfl:i=s.size:=by omega
   have hnx:=fun ty=>run_next_end_at (P:=P) wr w.heap.size s s.size ty hk (Nat.lt_irrefl _)
   have HK:Aside (wr.heap[w.heap.size]?=some (.stringIter s s.size)):=hk
   clear hk
   go_wp2
   go_ret
   exact ⟨by rw [Lib.indexAny_none (by rw [← Lib.size_eq]; exact HN.out)]; rfl,HB.out⟩
  |succ g =>
   have hi:i<s.size:=by omega
   obtain ⟨x,hx⟩:∃ x:UInt8,s[i]'hi=x:=⟨_,rfl⟩
   have hxl:s.data.toList[i]?=some x:=by rw [← hx]; exact Lib.data_getElem? s i hi
   by_cases h128:x.toNat<128
   ·have hnx:=fun ty=>run_next_ascii_at (P:=P) wr w.heap.size s i ty hk hi (by rw [hx]; exact h128)
    rw [hx] at hnx
    have Hx:Aside (s.data.toList[i]?=some x):=hxl
    have HK:Aside (wr.heap[w.heap.size]?=some (.stringIter s i)):=hk
    clear hxl hx hk
    have hcon:=Lib.contains_iff_indexByte sn.data.toList x
    have hback:((x.toNat:Int)).toNat.toUInt8=x:=by simp
    cases hin:sn.data.toList.contains x
    ·rw [hin] at hcon
     have hlt:¬ ((0:Int)≤Lib.indexByte sn.data.toList x):=of_decide_eq_false hcon.symm
     clear hcon
     go_wp2_with (go_at_fn (ρ.f 152); refine (Any.strings_IndexRune_ascii { L with } _ _ _ (by omega) (by omega)).mono ?_; rintro e w' ⟨rfl,hw⟩; rw [hw,hback])
     go_roundg g
     case measure=>omega
     case rel =>
      obtain ⟨b1,b2⟩:=below_iter_at HB.out HK.out (i+1)
      exact ⟨i+1,by omega,by omega,b1,b2,HN.out.succ Hx.out hin⟩
    ·rw [hin] at hcon
     have hge:(0:Int)≤Lib.indexByte sn.data.toList x:=of_decide_eq_true hcon.symm
     clear hcon
     go_wp2_with (go_at_fn (ρ.f 152); refine (Any.strings_IndexRune_ascii { L with } _ _ _ (by omega) (by omega)).mono ?_; rintro e w' ⟨rfl,hw⟩; rw [hw,hback])
     go_ret
     exact ⟨by rw [Lib.indexAny_hit HN.out Hx.out hin]; rfl,(below_iter_at HB.out HK.out (i+1)).1⟩
   ·have hxx:128≤(s[i]'hi).toNat:=by rw [hx]; omega
    have hnx:=fun ty=>run_next_any_at (P:=P) wr w.heap.size s i ty hk hi
    obtain ⟨d1,d2⟩:=decode_high s i hi hxx
    obtain ⟨d3,d4⟩:=decode_more s i hi hxx
    have HD:Aside (∀ j,1≤j→j<(Utf8.decode s i).2→128≤(s.get! (i+j)).toNat):=d4
    have Hx:Aside (s.data.toList[i]?=some x):=hxl
    have HK:Aside (wr.heap[w.heap.size]?=some (.stringIter s i)):=hk
    clear hxl hx hk d4 hxx
    generalize hr:(Utf8.decode s i).1=r at hnx d1
    generalize hm:(Utf8.decode s i).2=m at hnx d2 d3 HD
    clear hr hm
    have hneg:¬ ((0:Int)≤-1):=by decide
    go_wp2_with (go_at_fn (ρ.f 152); refine (IndexRune_high { L with } _ _ (by omega)).mono ?_; rintro e w' ⟨rfl,hw⟩)
    go_roundg (s.size-(i+m))
    case measure=>omega
    case rel =>
     obtain ⟨b1,b2⟩:=below_iter_at HB.out HK.out (i+m)
     have hlt:w.heap.size<(wr.iterAt w.heap.size s (i+m)).heap.size:=(Array.getElem?_eq_some_iff.1 b2).1
     refine ⟨i+m,by omega,by omega,b1.trans ⟨hw.os,hw.tape,hw.output,hw.size,fun k hk=>hw.block k (by omega)⟩,(hw.block _ hlt).trans b2,noAny_more HN.out fun j b hj1 hj2 hb=>sn_high ?_⟩
     by_cases e:j=i
     ·subst e
      have:=Hx.out.symm.trans hb
      cases this
      omega
     ·have:=HD.out (j-i) (by omega) (by omega)
      rw [show i+(j-i)=j+0 by omega,get_at s j (by omega)] at this
      rw [Lib.data_getElem? s j (by omega)] at hb
      cases hb
      exact this
theorem IndexAny_sn (L:Lays.n153 P ρ) (hv116:∀ w,(zeroValue (ρ.t 116)).run P w=.ok (.agg (Array.replicate 256 (.bool false))) w) (hi116:(P.info? (ρ.t 116)).map (·.size)=some 256) (s:ByteArray) (w:World) (hs:s.size<4294967281) :
  Calls P (ρ.f 153) #[.string s,.string sn] w fun e w'=>e=.returned (.int .i64 (Lib.indexAny s.data.toList sn.data.toList))∧Below w.heap.size w w':=by
 by_cases h8:s.size≤8
 ·exact IndexAny_short_sn L s w h8
 ·refine (Any.strings_IndexAny_long L hv116 hi116 s sn w (by decide) (by omega) hs (by decide) ?_).mono fun e w' ⟨h1,h2⟩=>⟨h1,?_⟩
  ·intro j b hb
   have:b∈sn.data.toList:=List.mem_of_getElem? hb
   have:b=32∨b=10:=by simpa [sn] using this
   rcases this with rfl|rfl <;> decide
  ·rw [h2]
   exact ((Below.refl _ _).alloc (Nat.le_refl _) _).alloc (by simp) _
set_option maxHeartbeats 1000000 in
theorem ContainsAny_sn (L:Lays.n150 P ρ) (h116:(P.info? (ρ.t 116)).map (fun i=>(i.zero,i.size))=some (some (.agg (Array.replicate 256 (.bool false))),256)) (s:ByteArray) (w:World) (hs:s.size<4294967281) :
  Calls P (ρ.f 150) #[.string s,.string sn] w fun e w'=>e=.returned (.bool (Lib.containsAny s.data.toList sn.data.toList))∧Below w.heap.size w w':=by
 have c:=IndexAny_sn { L with } (zero_of_info h116).1 (zero_of_info h116).2 s w hs
 have t3:=L.t3; have a3:=L.a3; have z3:=L.z3; have v3:=L.v3
 have t4:=L.t4; have a4:=L.a4; have z4:=L.z4; have v4:=L.v4
 have t9:=L.t9; have a9:=L.a9; have z9:=L.z9; have v9:=L.v9
 have e153:∀ args w,(callFunc (ρ.f 153) args).run P w=.ok (.enter (ρ.f 153) args) w:=enters_of L.f153 (by kernel_rfl) rfl
 go_enter L.f150,Body.n150_ntmps ρ
 go_wp2_with (go_at_fn (ρ.f 153); refine c.mono ?_; rintro e w' ⟨rfl,hw⟩)
 go_ret
 exact ⟨rfl,hw⟩
end Go.Proofs.YtgdbhjmpkkbnnaaGreatDoor.Vc
end
section
/- Part W0: what is known of the program. -/
namespace Go.Proofs.YtgdbhjmpkkbnnaaGreatDoor.Vc
open Go.Proofs
def TT:List (TypeId × TI) :=
[(3,⟨1,.int .i64,[.int .i64 0],8,false⟩),
   (37,⟨4,.struct [(0,34),(3,35)],[.int .i64 0,.nils,.nils,.nils],80,false⟩),
   (34,⟨3,.struct [(0,32),(2,25)],[.int .i64 0,.nils,.nils],56,false⟩),
   (32,⟨2,.struct [(0,3),(1,22)],[.int .i64 0,.nils],32,false⟩),
   (22,⟨1,.slice 3,[.nils],24,false⟩),
   (25,⟨1,.slice 9,[.nils],24,false⟩),
   (9,⟨1,.str,[.str ⟨#[]⟩],16,false⟩),
   (35,⟨1,.slice 34,[.nils],24,false⟩),
   (106,⟨1,.slice 131,[.nils],24,false⟩),
   (131,⟨3,.struct [(0,3),(1,3),(2,3)],[.int .i64 0,.int .i64 0,.int .i64 0],24,true⟩),
   (55,⟨4,.struct [(0,3),(1,3),(2,3),(3,9)],[.int .i64 0,.int .i64 0,.int .i64 0,.str ⟨#[]⟩],40,true⟩),
   (4,⟨1,.bool,[.bool false],1,false⟩),
   (62,⟨1,.slice 55,[.nils],24,false⟩),
   (30,⟨4,.struct [(0,27),(3,28)],[.int .i64 0,.nils,.nils,.nils],80,false⟩),
   (27,⟨3,.struct [(0,24),(2,25)],[.int .i64 0,.nils,.nils],56,false⟩),
   (24,⟨2,.struct [(0,3),(1,22)],[.int .i64 0,.nils],32,false⟩),
   (28,⟨1,.slice 27,[.nils],24,false⟩),
   (5,⟨1,.int .u8,[.int .u8 0],1,false⟩),
   (71,⟨3,.struct [(0,9),(1,9),(2,3)],[.str ⟨#[]⟩,.str ⟨#[]⟩,.int .i64 0],40,true⟩),
   (123,⟨1,.slice 5,[.nils],24,false⟩),
   (169,⟨3,.struct [(0,9),(1,4),(2,3)],[.str ⟨#[]⟩,.bool false,.int .i64 0],32,true⟩),
   (51,⟨4,.struct [(0,3),(1,3),(2,3),(3,9)],[.int .i64 0,.int .i64 0,.int .i64 0,.str ⟨#[]⟩],40,true⟩),
   (205,⟨1,.int .u64,[.int .u64 0],8,false⟩),
   (68,⟨3,.struct [(0,9),(1,9),(2,3)],[.str ⟨#[]⟩,.str ⟨#[]⟩,.int .i64 0],40,true⟩),
   (176,⟨2,.struct [(0,174),(1,123)],[.nilp,.nils],32,false⟩),
   (174,⟨1,.ptr,[.nilp],8,false⟩),
   (157,⟨2,.struct [(0,9),(1,3)],[.str ⟨#[]⟩,.int .i64 0],24,true⟩),
   (58,⟨1,.slice 51,[.nils],24,false⟩),
   (167,⟨1,.slice 169,[.nils],24,false⟩),
   (181,⟨1,.slice 4,[.nils],24,false⟩),
   (155,⟨1,.ptr,[.nilp],8,false⟩),
   (184,⟨1,.int .u64,[.int .u64 0],8,false⟩),
   (251,⟨1,.ptr,[.nilp],8,false⟩),
   (203,⟨1,.int .u32,[.int .u32 0],4,false⟩),
   (161,⟨1,.iface,[.nili],16,false⟩),
   (247,⟨1,.int .u64,[.int .u64 0],8,false⟩),
   (239,⟨1,.int .i64,[.int .i64 0],8,false⟩),
   (201,⟨1,.ptr,[.nilp],8,false⟩)]
theorem tOk:TOk Tryz.prog (lookT TT):=TOk.of (by decide +kernel)
theorem mixed:Tryz.prog.follows .mixedOrders=true:=by decide +kernel
structure Mark where
  kind:Int
  at_:Int
  need:Int
  deriving Inhabited,DecidableEq
def encI (n:Int):List AV:=[.int .i64 n]
def encM (m:Mark):List AV:=[.int .i64 m.kind,.int .i64 m.at_,.int .i64 m.need]
abbrev slI (l:List Int):AV:=.sl 1 l.length fun i=>encI (l.getD i 0)
abbrev slM (t:List Mark):AV:=.sl 3 t.length fun i=>encM (t.getD i default)
abbrev house (p:Int) (bs:List Int):AV:=.agg [.int .i64 p,slI bs]
set_option maxRecDepth 10000
def Hold (n:String) (Q:Array Value→Prop) (w:World):Prop:=Tryz.prog.globalNamed n=none∨∃ cs,w.var? Tryz.prog n=some cs∧Q cs
def oneInt (cs:Array Value):Prop:=∃ m,cs=#[.int .i64 m]
def oneErr (cs:Array Value):Prop:=∃ tp p,cs=#[.iface tp p]
structure Good (w:World):Prop where
  tab : Lib.TabIs Tryz.prog w "internal/strconv.uint64pow10" .u64 Lib.pow10Tab
  len : Hold "internal/bytealg.MaxLen" oneInt w
  syn : Hold "strconv.ErrSyntax" oneErr w
  rng : Hold "strconv.ErrRange" oneErr w
theorem var_ext {P:Program} {n:String} {w w':World} {cs:Array Value} (h:w.var? P n=some cs) (he:∀ (g:Nat) (ob:Go.Obj),w.heap[g]?=some ob→w'.heap[g]?=some ob):w'.var? P n=some cs:=by
  unfold World.var? at h ⊢
  cases hg:P.globalNamed n with
  | none=>rw [hg] at h; cases h
  | some g =>
    rw [hg] at h
    simp only [Option.bind_some] at h ⊢
    cases ho:w.heap[g]? with
    | none=>rw [ho] at h; simp at h
    | some ob=>rw [he g ob ho]; rw [ho] at h; exact h
theorem Hold.ext {n:String} {Q:Array Value→Prop} {w w':World} (h:Hold n Q w) (he:∀ (g:Nat) (ob:Go.Obj),w.heap[g]?=some ob→w'.heap[g]?=some ob):Hold n Q w':=h.imp id fun ⟨cs,h1,h2⟩=>⟨cs,var_ext h1 he,h2⟩
theorem Good.ext {w w':World} (h:Good w) (he:∀ (g:Nat) (ob:Go.Obj),w.heap[g]?=some ob→w'.heap[g]?=some ob):Good w':=⟨by
  have ht:=h.tab
  unfold Lib.TabIs at ht ⊢
  exact var_ext ht he,h.len.ext he,h.syn.ext he,h.rng.ext he⟩
def GOk (Gl:List (Nat × Go.Obj)):Prop:=∀ w:World,(∀ p,p∈Gl→w.heap[p.1]?=some p.2)→Good w
abbrev FF (f:FuncId) (C:List AV→(AV→Prop)→Prop):Prop:=∀ Gl,GOk Gl→Fits Tryz.prog Gl f C
theorem fitE (E:Env) {X:Type} {args:X→List AV} {pre:X→Prop} {post:X→(AV→Prop)→Prop} (hE:∀ p,p∈E→FF p.1 p.2) {f:FuncId} (fn:Func) (hf:FnOk Tryz.prog f fn) (hM:∀ x (K K':AV→Prop),(∀ r,K r→K' r)→post x K→post x K')
    (hb:∀ x (K:AV→Prop),pre x→post x K→(args x).length≤fn.ntmps∧bodyP (lookT TT) (callE E) (Dr (lookT TT) (callE E)) 0 fn (args x) [] (out K)):FF f (con args pre post):=fun Gl hG=>fits tOk (callE_ok fun p hp=>hE p hp Gl hG) mixed hf hM hb
theorem fits_rec {P:Program} {Gl:List (Nat × Go.Obj)} {X:Type} {args:X→List AV} {pre:X→Prop} {post:X→(AV→Prop)→Prop} {f:FuncId} (μ:X→Nat) (h:∀ k,Fits P Gl f (con args (fun x=>μ x<k∧pre x) post)):Fits P Gl f (con args pre post) :=
  ⟨(h 0).has,fun us K K' hk ⟨x,h1,h2,h3⟩=>by
    obtain ⟨y,g1,g2,g3⟩:=(h (μ x+1)).mono us K K' hk ⟨x,h1,⟨Nat.lt_succ_self _,h2.h⟩,h3⟩
    exact ⟨y,g1,⟨g2.h.2⟩,g3⟩,fun us K ⟨x,h1,h2,h3⟩=>(h (μ x+1)).ok us K ⟨x,h1,⟨Nat.lt_succ_self _,h2.h⟩,h3⟩⟩
section
variable {P Q:Prop} [Decidable P] [Decidable Q] {K:AV→Prop}
theorem yes {b:Bool} (h:K (.bool (decide P))) (e:P ↔ b=true):K (.bool b):=by
  have:decide P=b:=by cases b <;> simp_all
  rw [← this]; exact h
theorem yesD (h:K (.bool (decide P))) (e:P ↔ Q):K (.bool (decide Q)):=yes h (e.trans decide_eq_true_iff.symm)
theorem yesT (h:K (.bool (decide P))) (e:P):K (.bool true):=yes h ⟨fun _=>rfl,fun _=>e⟩
theorem yesF (h:K (.bool (decide P))) (e:¬ P):K (.bool false):=yes h ⟨fun q=>absurd q e,fun q=>by cases q⟩
theorem yesN (h:K (.bool (decide P))) (e:P ↔ ¬ Q):K (.bool (!decide Q)):=yes h (e.trans (by simp))
end
def i64r (x:Int):Prop:=-9223372036854775808≤x∧x≤9223372036854775807
/-! ### The library -/
def num (n:Int):ByteArray:=⟨(Lib.decDigits n.toNat).toArray⟩
def C101:List AV→(AV→Prop)→Prop:=con (X:=Int) (fun n=>[.int .i64 n]) (fun n=>0≤n∧n≤9223372036854775807) fun n K=>K (.str (num n))
theorem F101:FF 147 C101:=fun Gl hG=>fits_pl (fun n=>.str (num n)) (FnOk.has ⟨rfl,by decide +kernel,by decide +kernel⟩ (fn:=Tryz.f147)) (fun _=>rfl) (fun _=>rfl) fun n hn w hw=>by
  refine (Tryz.strconv_Itoa n (by omega) (by omega) w (hG w hw).tab).mono fun e w' he=>?_
  obtain ⟨rfl,k,os,rfl⟩:=he
  refine ⟨?_,w.heap.size,Nat.le_refl _,Lib.below_grow _ _ (Nat.le_refl _) _ _⟩
  show Ending.returned (Value.string ⟨(Lib.itoa n).toArray⟩)=.returned (.string (num n))
  rw [show Lib.itoa n=Lib.decDigits n.toNat from if_neg (by omega)]
  rfl
def spc (s:ByteArray):Bool:=Lib.containsAny s.data.toList sn.data.toList
def C102:List AV→(AV→Prop)→Prop:=con (X:=ByteArray) (fun s=>[.str s,.str sn]) (fun s=>s.size<4294967281) fun s K=>K (.bool (spc s))
theorem F102:FF 148 C102:=fun Gl hG=>fits_pl (fun s=>.bool (spc s)) (FnOk.has ⟨rfl,by decide +kernel,by decide +kernel⟩ (fn:=Tryz.f148)) (fun _=>rfl) (fun _=>rfl) fun s hs w hw =>
  (ContainsAny_sn Tryz.lays150 (by kernel_rfl) s w hs).mono fun e w' he=>⟨he.1,w.heap.size,Nat.le_refl _,he.2⟩
end Go.Proofs.YtgdbhjmpkkbnnaaGreatDoor.Vc
end
section
/- Part VB: contracts whose bodies hand back the same data told otherwise. -/
namespace Go.Proofs.YtgdbhjmpkkbnnaaGreatDoor.Vc
section
variable {P:Program} {TB:TypeId→TI} {Gl:List (Nat × Go.Obj)} {call:FuncId→List AV→List Obj→(AV→List Obj→Prop)→Prop}
def outE (K:AV→Prop):AV→List Obj→Prop:=out fun u=>∃ v,exV u v∧K v
theorem fitsE {X:Type} {args:X→List AV} {pre:X→Prop} {post:X→(AV→Prop)→Prop} (hT:TOk P TB) (hC:CallOk P Gl call) (hm:P.follows .mixedOrders=true) {f:FuncId} {fn:Func} (hf:FnOk P f fn) (hM:∀ x (K K':AV→Prop),(∀ r,K r→K' r)→post x K→post x K')
  (hb:∀ x (K:AV→Prop),pre x→post x K→(args x).length≤fn.ntmps∧bodyP TB call (Dr TB call) 0 fn (args x) [] (outE K)):Fits P Gl f (con args pre post):=by
 refine ⟨hf.has,fun us K K' hk ⟨x,h1,h2,h3⟩=>⟨x,h1,h2,hM x K K' hk h3⟩,?_⟩
 rintro us K ⟨x,h1,h2,h3⟩ R w xs hL ha0
 obtain ⟨e1,e2⟩:=exL_PV (R:=R) (w:=w) us (args x) h1
 have ha:ArgsV R w (args x) xs:=⟨ha0.1.trans e1,fun j hj=>e2 j (e1 ▸ hj) _ (ha0.2 j (e1 ▸ hj))⟩
 obtain ⟨g1,g2⟩:=hb x K h2.h h3
 refine (body_sound hT hC hm hf g2 hL.hr ⟨ha.1,fun j hj=>(ha.2 j hj).tr⟩ (Nat.zero_le _) g1).mono fun e w' he=>?_
 obtain ⟨r,y,o',ρ',R',rfl,hK,hh',hv,_,hx⟩:=he
 unfold outE out at hK
 split at hK
 ·rename_i u b p ev
  obtain ⟨⟨hp⟩,v,hv1,hK⟩:=hK
  have hu:=(view_VR hh' r u b p ev hp y hv).1
  refine ⟨v,y,Rall R' ρ',rfl,hK,exV_PV u v hv1 y hu,⟨fun b hb=>?_,fun b hb=>.inl (hx.rmono b hb),fun b hb=>?_,hx.size,fun b hb=>hx.same b hb fun _ q=>(by cases q),hx.os,hx.tape,hx.output⟩⟩
  ·rcases hb with hb|⟨id,hb⟩
   ·exact (hh'.ro b hb).1
   ·exact hh'.lt id b hb
  ·rcases hb with hb|⟨id,hb⟩
   ·rcases hx.rnew b hb with q|q|⟨_,q⟩
    ·exact .inl q
    ·exact .inr q
    ·cases q
   ·rcases hx.pnew id b hb with q|⟨_,q⟩
    ·exact .inr q
    ·cases q
 ·exact hK.elim
end
end Go.Proofs.YtgdbhjmpkkbnnaaGreatDoor.Vc
end
section
/- Part EG: what bodies with local objects are proved by. -/
namespace Go.Proofs.YtgdbhjmpkkbnnaaGreatDoor.Vc
open Go.Proofs
set_option maxRecDepth 10000
abbrev GG (f:FuncId) (C:GC):Prop:=∀ Gl,GOk Gl→FitsG Tryz.prog Gl f C
theorem fitX (E:Env) (hE:∀ p,p∈E→FF p.1 p.2) (G:EnvG) (hG:∀ p,p∈G→GG p.1 p.2) {X:Type} {args:X→List AV} {pre:X→Prop} {post:X→(AV→Prop)→Prop} {f:FuncId} (fn:Func) (hf:FnOk Tryz.prog f fn) (hM:∀ x (K K':AV→Prop),(∀ r,K r→K' r)→post x K→post x K')
  (hb:∀ x (K:AV→Prop),pre x→post x K→(args x).length≤fn.ntmps∧bodyP (lookT TT) (callX E G) (Dr (lookT TT) (callX E G)) 0 fn (args x) [] (out K)):FF f (con args pre post):=fun Gl h=>fits tOk (callX_ok (fun p hp=>hE p hp Gl h) fun p hp=>hG p hp Gl h) mixed hf hM hb
theorem fitG (E:Env) (hE:∀ p,p∈E→FF p.1 p.2) (G:EnvG) (hG:∀ p,p∈G→GG p.1 p.2) {X:Type} {args:X→List AV} {objs:X→List Obj} {pre:X→Prop} {post:X→(AV→List Obj→Prop)→Prop} {f:FuncId} (fn:Func) (hf:FnOk Tryz.prog f fn)
  (hM:∀ x (K K':AV→List Obj→Prop),(∀ r o',K r o'→K' r o')→post x K→post x K')
  (hb:∀ x (K:AV→List Obj→Prop),pre x→post x K→(args x).length≤fn.ntmps∧bodyP (lookT TT) (callX E G) (Dr (lookT TT) (callX E G)) (objs x).length fn (args x) (objs x) (outG (objs x).length K)):GG f (conG args objs pre post):=fun Gl h=>fitsG tOk (callX_ok (fun p hp=>hE p hp Gl h) fun p hp=>hG p hp Gl h) mixed hf hM hb
theorem fitXE (E:Env) (hE:∀ p,p∈E→FF p.1 p.2) (G:EnvG) (hG:∀ p,p∈G→GG p.1 p.2) {X:Type} {args:X→List AV} {pre:X→Prop} {post:X→(AV→Prop)→Prop} {f:FuncId} (fn:Func) (hf:FnOk Tryz.prog f fn) (hM:∀ x (K K':AV→Prop),(∀ r,K r→K' r)→post x K→post x K')
  (hb:∀ x (K:AV→Prop),pre x→post x K→(args x).length≤fn.ntmps∧bodyP (lookT TT) (callX E G) (Dr (lookT TT) (callX E G)) 0 fn (args x) [] (outE K)):FF f (con args pre post):=fun Gl h=>fitsE tOk (callX_ok (fun p hp=>hE p hp Gl h) fun p hp=>hG p hp Gl h) mixed hf hM hb
def u8r (n:Int):Prop:=0≤n∧n<256
end Go.Proofs.YtgdbhjmpkkbnnaaGreatDoor.Vc
end
section
/- Part W: small functions. -/
namespace Go.Proofs.YtgdbhjmpkkbnnaaGreatDoor.Vc
open Go.Proofs
set_option maxRecDepth 10000
/-! ### szIntS, szMarkS -/
def C34:List AV→(AV→Prop)→Prop:=con (X:=List Int × Int) (fun x=>[slI x.1,.int .i64 x.2]) (fun x=>x.1.length<9223372036854775808∧0≤x.2∧x.2≤9223372036854775807) fun x K=>K (.int .i64 (if x.2-x.1.length<0 then -1 else x.2-x.1.length))
theorem F34:FF 107 C34:=by
 refine fitE [] (by simp) Tryz.f107 ⟨rfl,by decide +kernel,by decide +kernel⟩ (fun _ _ _ hk h=>hk _ h) ?_
 rintro ⟨l,n⟩ K ⟨h1,h2,h3⟩ h
 refine ⟨Nat.le_of_ble_eq_true rfl,?_⟩
 dsimp only at h1 h2 h3 h ⊢
 repeat' (first|refine vz ?_|(conv=>whnf); first|with_reducible first|refine Sp.mk ?_ ?_|refine br_d (fun _=>?_) fun _=>?_|refine vM (fun _=>?_) fun _=>?_)
 ·rw [if_pos (by omega)] at h
  exact h
 ·rw [if_neg (by omega)] at h
  exact h
end Go.Proofs.YtgdbhjmpkkbnnaaGreatDoor.Vc
end
section
/- Part X: the program's small functions. -/
namespace Go.Proofs.YtgdbhjmpkkbnnaaGreatDoor.Vc
open Go.Proofs
set_option maxRecDepth 10000
/-! ### people and crowds -/
abbrev people (p:Int):Prop:=1≤p∧p≤6
def pw (p:Int):Int:=2 ^ p.toNat
abbrev crowd (p c:Int):Prop:=people p∧0≤c∧c<pw p
theorem people_cases {p:Int} (h:people p):p=1∨p=2∨p=3∨p=4∨p=5∨p=6:=by have:=h.1; have:=h.2; omega
theorem pw_sh {p:Int} (h:people p):1*2 ^ min p.toNat IntKind.i64.bits=pw p:=by
 rcases people_cases h with rfl|rfl|rfl|rfl|rfl|rfl <;> rfl
theorem pw_le {p:Int} (h:people p):2≤pw p∧pw p≤64:=by
 rcases people_cases h with rfl|rfl|rfl|rfl|rfl|rfl <;> decide
theorem wsh {p:Int} (h:people p):IntKind.i64.wrap (1*2 ^ min p.toNat IntKind.i64.bits)=1*2 ^ min p.toNat IntKind.i64.bits:=by
 have:=pw_le h
 exact wi64 (by rw [pw_sh h]; omega) (by rw [pw_sh h]; omega)
def C61:List AV→(AV→Prop)→Prop:=con (X:=Int) (fun p=>[.int .i64 p]) i64r fun p K=>K (.bool (decide (people p)))
theorem F61:FF 140 C61:=by
 refine fitE [] (by simp) Tryz.f140 ⟨rfl,by decide +kernel,by decide +kernel⟩ (fun _ _ _ hk h=>hk _ h) ?_
 intro p K h1 h
 refine ⟨Nat.le_of_ble_eq_true rfl,?_⟩
 repeat' (first|refine vz ?_|(conv=>whnf); first|with_reducible first|refine Sp.mk ?_ ?_|refine br_d (fun _=>?_) fun _=>?_|refine vM (fun _=>?_) fun _=>?_)
 all_goals
  first|exact yesD h (by omega)|exact yesT h (by omega)|exact yesF h (by omega)|exact yesN h (by omega)
def C54:List AV→(AV→Prop)→Prop:=con (X:=Int × Int) (fun x=>[.int .i64 x.1,.int .i64 x.2]) (fun x=>i64r x.1∧i64r x.2) fun x K=>K (.bool (decide (crowd x.1 x.2)))
theorem F54:FF 139 C54:=by
 refine fitE [(140,C61)] (by simp only [List.mem_cons,List.not_mem_nil,or_false]; rintro _ rfl <;> first|exact F61) Tryz.f139 ⟨rfl,by decide +kernel,by decide +kernel⟩ (fun _ _ _ hk h=>hk _ h) ?_
 rintro ⟨p,c⟩ K ⟨h1,h2⟩ h
 refine ⟨Nat.le_of_ble_eq_true rfl,?_⟩
 dsimp only at h h1 h2 ⊢
 repeat' (first|refine vz ?_|(conv=>whnf); first|with_reducible first|refine Sp.mk ?_ ?_|refine br_d (fun _=>?_) fun _=>?_|refine vM (fun _=>?_) fun _=>?_)
 refine ⟨p,?_,⟨h1⟩,?_⟩
 ·exact wq
 repeat' (first|refine vz ?_|(conv=>whnf); first|with_reducible refine Wr.ex (wsh (by assumption)) ?_|with_reducible first|refine Sp.mk ?_ ?_|refine br_d (fun _=>?_) fun _=>?_|refine vM (fun _=>?_) fun _=>?_)
 ·rw [pw_sh (by assumption)]
  first|exact yesD h (by omega)|exact yesT h (by omega)|exact yesF h (by omega)|exact yesN h (by omega)
 ·first|exact yesD h (by omega)|exact yesT h (by omega)|exact yesF h (by omega)|exact yesN h (by omega)
 ·first|exact yesD h (by omega)|exact yesT h (by omega)|exact yesF h (by omega)|exact yesN h (by omega)
def C35:List AV→(AV→Prop)→Prop:=con (X:=Int × Int × Int) (fun x=>[.int .i64 x.1,.int .i64 x.2.1,.int .i64 x.2.2]) (fun _=>True) fun x K=>K (.bool (decide (x.2.1≤x.1∧x.1≤x.2.2)))
theorem F35:FF 74 C35:=by
 refine fitE [] (by simp) Tryz.f74 ⟨rfl,by decide +kernel,by decide +kernel⟩ (fun _ _ _ hk h=>hk _ h) ?_
 rintro ⟨n,l,u⟩ K _ h
 refine ⟨Nat.le_of_ble_eq_true rfl,?_⟩
 dsimp only at h ⊢
 repeat' (first|refine vz ?_|(conv=>whnf); first|with_reducible first|refine Sp.mk ?_ ?_|refine br_d (fun _=>?_) fun _=>?_|refine vM (fun _=>?_) fun _=>?_)
 all_goals
  first|exact yesD h (by omega)|exact yesT h (by omega)|exact yesF h (by omega)|exact yesN h (by omega)
def C62:=C54
theorem F62:FF 114 C62:=by
 refine fitE [(74,C35)] (by simp only [List.mem_cons,List.not_mem_nil,or_false]; rintro _ rfl <;> first|exact F35) Tryz.f114 ⟨rfl,by decide +kernel,by decide +kernel⟩ (fun _ _ _ hk h=>hk _ h) ?_
 rintro ⟨p,c⟩ K ⟨h1,h2⟩ h
 refine ⟨Nat.le_of_ble_eq_true rfl,?_⟩
 dsimp only at h h1 h2 ⊢
 repeat' (first|refine vz ?_|(conv=>whnf); first|with_reducible first|refine Sp.mk ?_ ?_|refine br_d (fun _=>?_) fun _=>?_|refine vM (fun _=>?_) fun _=>?_)
 refine ⟨(p,1,6),?_,⟨trivial⟩,?_⟩
 ·exact wq
 dsimp only
 repeat' (first|refine vz ?_|(conv=>whnf); first|with_reducible refine Wr.ex (wsh (by assumption)) ?_|with_reducible refine Wr.ex (wi64 (by rw [pw_sh (by assumption)]; have:=pw_le (by assumption); omega) (by rw [pw_sh (by assumption)]; have:=pw_le (by assumption); omega)) ?_|with_reducible first|refine Sp.mk ?_ ?_|refine br_d (fun _=>?_) fun _=>?_|refine vM (fun _=>?_) fun _=>?_)
 ·refine ⟨(c,0,pw p-1),?_,⟨trivial⟩,?_⟩
  ·repeat' ((conv=>whnf); first|with_reducible exact True.intro|exact vW|with_reducible refine And.intro ?_ ?_)
   exact ⟨by rw [pw_sh (by assumption)]⟩
  dsimp only
  repeat' (first|refine vz ?_|(conv=>whnf); first|with_reducible first|refine Sp.mk ?_ ?_|refine br_d (fun _=>?_) fun _=>?_|refine vM (fun _=>?_) fun _=>?_)
  first|exact yesD h (by omega)|exact yesT h (by omega)|exact yesF h (by omega)|exact yesN h (by omega)
 ·first|exact yesD h (by omega)|exact yesT h (by omega)|exact yesF h (by omega)|exact yesN h (by omega)
/-! ### Heads -/
def headsF:Nat→Nat→Nat
 |0,_=>0
 |f+1,m=>m % 2+headsF f (m / 2)
def heads (m:Nat):Nat:=headsF 64 m
theorem headsF_succ:∀ (f m:Nat),m<2 ^ f→headsF (f+1) m=headsF f m
 |0,m,h=>by
  have:m=0:=by simpa using h
  subst this; rfl
 |f+1,m,h=>by
  rw [headsF,headsF_succ f (m / 2) (by rw [Nat.pow_succ] at h; omega)]
  rfl
theorem heads_step {m:Nat} (h:m<2 ^ 64):heads m=m % 2+heads (m / 2):=by
 unfold heads
 rw [headsF,← headsF_succ 63 (m / 2) (by omega)]
theorem headsF_le:∀ (f m:Nat),headsF f m≤f
 |0,_=>Nat.le_refl _
 |f+1,m=>by
  have:=headsF_le f (m / 2)
  rw [headsF]; omega
theorem heads_le (m:Nat):heads m≤64:=headsF_le 64 m
theorem tmod2 (m:Nat):Int.tmod (m:Int) 2=((m % 2:Nat):Int):=by rw [Int.tmod_eq_emod_of_nonneg (by omega)]; omega
theorem tdiv2 (m:Nat):Int.tdiv (m:Int) 2=((m / 2:Nat):Int):=by rw [Int.tdiv_eq_ediv_of_nonneg (by omega)]; omega
def C48:List AV→(AV→Prop)→Prop:=con (X:=Int) (fun c=>[.int .i64 c]) i64r fun c K=>K (.int .i64 (heads c.toNat))
theorem F48:FF 113 C48:=by
 refine fitE [] (by simp) Tryz.f113 ⟨rfl,by decide +kernel,by decide +kernel⟩ (fun _ _ _ hk h=>hk _ h) ?_
 intro c K h1 h
 refine ⟨Nat.le_of_ble_eq_true rfl,?_⟩
 repeat' (first|refine vz ?_|(conv=>whnf); first|with_reducible first|refine Sp.mk ?_ ?_|refine br_d (fun _=>?_) fun _=>?_|refine vM (fun _=>?_) fun _=>?_)
 refine Lp.mk ⟨Int × Nat,fun x=>[(0,.int .i64 x.1),(3,.int .i64 x.2)],fun _=>[],fun x=>(x.1=c∨0≤x.1)∧x.1≤9223372036854775807∧x.2+heads x.1.toNat=heads c.toNat,fun x=>x.1.toNat,⟨(c,0),⟨.inl rfl,h1.2,Nat.zero_add _⟩,⟨⟨[],[],rfl,rfl,?_,?_⟩⟩⟩,?_⟩
 ·exact wq
 ·exact wq
 rintro ⟨d,s⟩ ⟨i1,i2,i3⟩
 dsimp only at i1 i2 i3 ⊢
 have hs:=heads_le c.toNat
 repeat' (first|refine vz ?_|(conv=>whnf); first|with_reducible refine Wr.ex (wi64 (by have:=tmod2 d.toNat; rw [Int.toNat_of_nonneg (by omega)] at this; omega) (by have:=tmod2 d.toNat; rw [Int.toNat_of_nonneg (by omega)] at this; omega)) ?_|with_reducible refine Wr.ex (wi64 (by have:=tdiv2 d.toNat; rw [Int.toNat_of_nonneg (by omega)] at this; omega) (by have:=tdiv2 d.toNat; rw [Int.toNat_of_nonneg (by omega)] at this; omega)) ?_|with_reducible first|refine Sp.mk ?_ ?_|refine br_d (fun _=>?_) fun _=>?_|refine vM (fun _=>?_) fun _=>?_)
 ·have e1:=tmod2 d.toNat
  have e2:=tdiv2 d.toNat
  rw [Int.toNat_of_nonneg (by omega)] at e1 e2
  have e3:=heads_step (m:=d.toNat) (by omega)
  refine ⟨((d.toNat / 2:Nat),s+d.toNat % 2),⟨.inr (by omega),?_,?_⟩,?_,⟨⟨[],[],rfl,rfl,?_,?_⟩⟩⟩
  ·show ((d.toNat / 2:Nat):Int)≤_
   omega
  ·show s+d.toNat % 2+heads ((d.toNat / 2:Nat):Int).toNat=_
   rw [Int.toNat_natCast]
   omega
  ·show ((d.toNat / 2:Nat):Int).toNat<d.toNat
   omega
  ·exact wq
  ·exact wq
 ·have:d.toNat=0:=by omega
  rw [this] at i3
  have e:heads 0=0:=by decide
  rw [← i3,e,Nat.add_zero] at h
  exact h
end Go.Proofs.YtgdbhjmpkkbnnaaGreatDoor.Vc
end
section
/- Part DA: deeds and their texts. -/
namespace Go.Proofs.YtgdbhjmpkkbnnaaGreatDoor.Vc
open Go.Proofs
set_option maxRecDepth 20000
/-! ### l1Number -/
theorem num_small {n:Int} (h0:0≤n) (h:n<10):num n=⟨#[UInt8.ofNat (48+n.toNat)]⟩:=by
 unfold num
 rw [Lib.decDigits,dif_pos (by omega)]
theorem num_big {n:Int} (h:¬ n<10):num n=num (n / 10) ++ ⟨#[UInt8.ofNat (48+n.toNat % 10)]⟩:=by
 unfold num
 rw [Lib.decDigits,dif_neg (by omega),show (n / 10).toNat=n.toNat / 10 by omega]
 simp [ByteArray.ext_iff]
theorem num_size {n:Int} (h0:0≤n) (h:n<100):(num n).size≤2:=by
 have hk:∀ k,k<100→(Lib.decDigits k).length≤2:=by decide +kernel
 have:=hk n.toNat (by omega)
 show (Lib.decDigits n.toNat).toArray.size≤2
 simpa using this
theorem dec_len (u:Nat):(Lib.decDigits u).length≤u+1:=by
 induction u using Nat.strongRecOn with
 |_ u ih =>
  rw [Lib.decDigits]
  split
  ·simp
  ·have:=ih (u / 10) (by omega)
   simp only [List.length_append,List.length_cons,List.length_nil]
   omega
theorem num_le (n:Int):(num n).size≤n.toNat+1:=by
 have:=dec_len n.toNat
 show (Lib.decDigits n.toNat).toArray.size≤_
 simpa using this
theorem str1 (x:Int) (d:List AV):(strOf 1 fun i=>(fun i=>[[AV.int IntKind.u8 x]].getD i d) (0+i))=⟨#[UInt8.ofNat x.toNat]⟩:=rfl
def C106k (k:Nat):List AV→(AV→Prop)→Prop:=con (X:=Int) (fun n=>[.int .i64 n]) (fun n=>n.toNat<k∧0≤n∧n≤9223372036854775807) fun n K=>K (.str (num n))
theorem F106k:∀ k,FF 72 (C106k k):=by
 intro k
 induction k with
 |zero=>exact fitE [] (by simp) Tryz.f72 ⟨rfl,by decide +kernel,by decide +kernel⟩ (fun _ _ _ hk h=>hk _ h) fun x K h=>absurd h.1 (Nat.not_lt_zero _)
 |succ k ih =>
  refine fitE [(72,C106k k)] (by simp only [List.mem_cons,List.not_mem_nil,or_false]; rintro _ rfl; exact ih) Tryz.f72 ⟨rfl,by decide +kernel,by decide +kernel⟩ (fun _ _ _ hk h=>hk _ h) ?_
  intro n K ⟨h0,h1,h2⟩ h
  refine ⟨Nat.le_of_ble_eq_true rfl,?_⟩
  repeat' (first|refine vz ?_|(conv=>whnf); first|with_reducible first|refine Sp.mk ?_ ?_|refine br_d (fun _=>?_) fun _=>?_|refine vM (fun _=>?_) fun _=>?_)
  ·(conv=>whnf)
   rw [if_neg (by omega:¬ 0 > n)]
   repeat' ((conv=>whnf); first|refine ⟨Chk.mk ⟨by decide,by decide,fun i hi=>by obtain rfl:i=0:=by omega; exact ⟨_,rfl⟩⟩,?_⟩|refine vA ?_|with_reducible first|refine v8 ?_|refine Ch.l ?_|refine Sp.mk ?_ ?_|refine vS ?_|refine vR ?_|refine vB ?_|refine br_nt ?_|refine br_tt ?_|refine br_ff ?_|refine vP ?_|refine vQ ?_|refine vT ?_|refine vF ?_|refine br_and ?_|refine br_or ?_|refine br_d (fun _=>?_) fun _=>?_|refine vM (fun _=>?_) fun _=>?_)
   rw [str1,show (48+n).toNat=48+n.toNat by omega,← num_small h1 (by omega)]
   exact h
  ·refine Dr.mk ⟨(.rd 0 (.rd 1 (.rd 3 (.rd 4 (.rd 5 (.rd 6 (.ef 2 (.ef 7 (.rd 8 (.rd 9 (.rd 10 .dn))) .no) (.ef 7 (.rd 8 (.ef 2 (.rd 9 (.rd 10 .dn)) .no)) .no)))))))),by decide +kernel,?_⟩
   repeat' (first|refine vz ?_|(conv=>whnf); first|with_reducible first|refine Sp.mk ?_ ?_|refine br_d (fun _=>?_) fun _=>?_|refine vM (fun _=>?_) fun _=>?_)
   (conv=>whnf)
   rw [Int.tdiv_eq_ediv_of_nonneg h1]
   repeat' (first|refine vz ?_|(conv=>whnf); first|with_reducible first|refine Sp.mk ?_ ?_|refine br_d (fun _=>?_) fun _=>?_|refine vM (fun _=>?_) fun _=>?_)
   (conv=>whnf)
   rw [Int.tmod_eq_emod_of_nonneg h1]
   repeat' ((conv=>whnf); first|refine ⟨Chk.mk ⟨by decide,by decide,fun i hi=>by obtain rfl:i=0:=by omega; exact ⟨_,rfl⟩⟩,?_⟩|refine vA ?_|with_reducible first|refine v8 ?_|refine Ch.l ?_|refine Sp.mk ?_ ?_|refine vS ?_|refine vR ?_|refine vB ?_|refine br_nt ?_|refine br_tt ?_|refine br_ff ?_|refine vP ?_|refine vQ ?_|refine vT ?_|refine vF ?_|refine br_and ?_|refine br_or ?_|refine br_d (fun _=>?_) fun _=>?_|refine vM (fun _=>?_) fun _=>?_)
   all_goals
    refine ⟨n / 10,?_,⟨by omega,by omega,by omega⟩,?_⟩
    ·exact wq
    have hsz:(num (n / 10)).size+1≤9223372036854775807:=by have:=num_le (n / 10); omega
    repeat' ((conv=>whnf); first|refine ⟨Chk.mk (by rw [str1]; exact hsz),?_⟩|refine ⟨Chk.mk ⟨by decide,by decide,fun i hi=>by obtain rfl:i=0:=by omega; exact ⟨_,rfl⟩⟩,?_⟩|refine vA ?_|with_reducible first|refine v8 ?_|refine Ch.l ?_|refine Sp.mk ?_ ?_|refine vS ?_|refine vR ?_|refine vB ?_|refine br_nt ?_|refine br_tt ?_|refine br_ff ?_|refine vP ?_|refine vQ ?_|refine vT ?_|refine vF ?_|refine br_and ?_|refine br_or ?_|refine br_d (fun _=>?_) fun _=>?_|refine vM (fun _=>?_) fun _=>?_)
    rw [str1,show (48+n % 10).toNat=48+n.toNat % 10 by omega,← num_big (by omega)]
    exact h
def C106:List AV→(AV→Prop)→Prop:=con (X:=Int) (fun n=>[.int .i64 n]) (fun n=>0≤n∧n≤9223372036854775807) fun n K=>K (.str (num n))
theorem F106:FF 72 C106:=fun Gl hG=>fits_rec (fun n=>n.toNat) fun k=>F106k k Gl hG
end Go.Proofs.YtgdbhjmpkkbnnaaGreatDoor.Vc
end
section
/- Part Y: houses. -/
namespace Go.Proofs.YtgdbhjmpkkbnnaaGreatDoor.Vc
open Go.Proofs
set_option maxRecDepth 10000
set_option maxHeartbeats 4000000
def C64:List AV→(AV→Prop)→Prop:=con (X:=Nat) (fun x=>[.int .u64 x]) (fun x=>x<64) fun x K=>K (.int .i64 (heads x))
theorem F64:FF 210 C64:=by
 refine fitE [] (by simp) Tryz.f210 ⟨rfl,by decide +kernel,by decide +kernel⟩ (fun _ _ _ hk h=>hk _ h) ?_
 intro x K h1 h
 refine ⟨Nat.le_of_ble_eq_true rfl,?_⟩
 repeat' ((conv=>whnf); first|with_reducible refine Wr.wr ?_|refine vA ?_|with_reducible first|refine v8 ?_|refine Ch.l ?_|refine Sp.mk ?_ ?_|refine vS ?_|refine vR ?_|refine vB ?_|refine br_nt ?_|refine br_tt ?_|refine br_ff ?_|refine vP ?_|refine vQ ?_|refine vT ?_|refine vF ?_|refine br_and ?_|refine br_or ?_|refine br_d (fun _=>?_) fun _=>?_|refine vM (fun _=>?_) fun _=>?_)
 refine Eq.mp (congrArg (fun z=>K (AV.int IntKind.i64 z)) ?_) h
 clear h K
 revert x
 decide +kernel
def C58:=C64
theorem F58:FF 188 C58:=by
 refine fitE [(210,C64)] (by simp only [List.mem_cons,List.not_mem_nil,or_false]; rintro _ rfl <;> first|exact F64) Tryz.f188 ⟨rfl,by decide +kernel,by decide +kernel⟩ (fun _ _ _ hk h=>hk _ h) ?_
 intro x K h1 h
 refine ⟨Nat.le_of_ble_eq_true rfl,?_⟩
 repeat' (first|refine vz ?_|(conv=>whnf); first|with_reducible first|refine Sp.mk ?_ ?_|refine br_d (fun _=>?_) fun _=>?_|refine vM (fun _=>?_) fun _=>?_)
 refine ⟨x,?_,⟨h1⟩,?_⟩
 ·exact wq
 repeat' (first|refine vz ?_|(conv=>whnf); first|with_reducible first|refine Sp.mk ?_ ?_|refine br_d (fun _=>?_) fun _=>?_|refine vM (fun _=>?_) fun _=>?_)
 exact h
def C50:List AV→(AV→Prop)→Prop:=con (X:=Int) (fun c=>[.int .i64 c]) (fun c=>0≤c∧c<64) fun c K=>K (.int .i64 (heads c.toNat))
theorem F50:FF 167 C50:=by
 refine fitE [(188,C58)] (by simp only [List.mem_cons,List.not_mem_nil,or_false]; rintro _ rfl <;> first|exact F58) Tryz.f167 ⟨rfl,by decide +kernel,by decide +kernel⟩ (fun _ _ _ hk h=>hk _ h) ?_
 rintro x K ⟨h1,h2⟩ h
 refine ⟨Nat.le_of_ble_eq_true rfl,?_⟩
 repeat' (first|refine vz ?_|(conv=>whnf); first|with_reducible refine Wr.ex (wu64 (by omega) (by omega)) ?_|with_reducible first|refine Sp.mk ?_ ?_|refine br_d (fun _=>?_) fun _=>?_|refine vM (fun _=>?_) fun _=>?_)
 refine ⟨x.toNat,?_,⟨by show x.toNat<64; omega⟩,?_⟩
 ·exact wq
 repeat' (first|refine vz ?_|(conv=>whnf); first|with_reducible first|refine Sp.mk ?_ ?_|refine br_d (fun _=>?_) fun _=>?_|refine vM (fun _=>?_) fun _=>?_)
 exact h
/-! ### Houses -/
structure House where
 p:Int
 bs:List Int
def House.i64 (h:House):Prop:=i64r h.p∧∀ b∈h.bs,i64r b
def enH (h:House):AV:=.agg [.int .i64 h.p,slI h.bs]
abbrev houseOk (h:House):Prop:=people h.p∧h.bs.length≤4∧∀ b∈h.bs,crowd h.p b∧b≠0
theorem getD_mem' {α:Type} {l:List α} {i:Nat} {d:α} (h:i<l.length):l.getD i d∈l:=by
 rw [List.getD_eq_getElem?_getD,List.getElem?_eq_getElem h]
 exact List.getElem_mem h
theorem all_of_getD {α:Type} {l:List α} {d:α} {p:α→Prop} (h:∀ i,i<l.length→p (l.getD i d)):∀ b∈l,p b:=by
 intro b hb
 obtain ⟨i,hi,rfl⟩:=List.mem_iff_getElem.1 hb
 have:=h i hi
 rwa [List.getD_eq_getElem?_getD,List.getElem?_eq_getElem hi] at this
def C57:List AV→(AV→Prop)→Prop:=con (X:=House) (fun h=>[enH h]) (fun h=>h.i64∧h.bs.length<9223372036854775808) fun h K=>K (.bool (decide (houseOk h)))
theorem F57:FF 118 C57:=by
 refine fitE [(139,C54),(140,C61)] (by simp only [List.mem_cons,List.not_mem_nil,or_false]; rintro _ (rfl|rfl) <;> first|exact F54|exact F61) Tryz.f118 ⟨rfl,by decide +kernel,by decide +kernel⟩ (fun _ _ _ hk h=>hk _ h) ?_
 rintro ⟨p,bs⟩ K ⟨⟨h1,h2⟩,h3⟩ h
 refine ⟨Nat.le_of_ble_eq_true rfl,?_⟩
 dsimp only at h h1 h2 h3 ⊢
 replace h:K (.bool (decide (people p∧bs.length≤4∧∀ b∈bs,crowd p b∧b≠0))):=h
 repeat' (first|refine vz ?_|(conv=>whnf); first|with_reducible first|refine Sp.mk ?_ ?_|refine br_d (fun _=>?_) fun _=>?_|refine vM (fun _=>?_) fun _=>?_)
 refine Lp.mk ⟨Nat,fun i=>[(1,.ptr 0 0),(2,.bool false),(6,slI bs),(7,.int .i64 bs.length),(8,.int .i64 i)],fun _=>[.box [.int .i64 p,slI bs]],fun i=>i≤bs.length∧∀ j,j<i→crowd p (bs.getD j 0)∧bs.getD j 0≠0,fun i=>bs.length-i,⟨0,⟨Nat.zero_le _,fun j hj=>absurd hj (Nat.not_lt_zero _)⟩,⟨⟨[some 0],[],rfl,rfl,?_,?_⟩⟩⟩,?_⟩
 ·exact wq
 ·exact wq
 rintro i ⟨i1,i2⟩
 dsimp only
 repeat' (first|refine vz ?_|(conv=>whnf); first|with_reducible first|refine Sp.mk ?_ ?_|refine br_d (fun _=>?_) fun _=>?_|refine vM (fun _=>?_) fun _=>?_)
 ·refine ⟨(p,bs.getD i 0),?_,⟨h1,h2 _ (getD_mem' (by omega))⟩,?_⟩
  ·exact wq
  dsimp only
  repeat' (first|refine vz ?_|(conv=>whnf); first|with_reducible first|refine Sp.mk ?_ ?_|refine br_d (fun _=>?_) fun _=>?_|refine vM (fun _=>?_) fun _=>?_)
  ·rename_i e
   have e:bs.getD i 0=0:=e
   exact yesF h fun q=>(q.2.2 _ (getD_mem' (by omega))).2 e
  ·rename_i e
   have e:¬ bs.getD i 0=0:=e
   refine ⟨i+1,⟨by omega,fun j hj=>?_⟩,by omega,⟨⟨[some 0],[],rfl,rfl,?_,?_⟩⟩⟩
   ·by_cases hji:j=i
    ·subst hji
     exact ⟨by assumption,e⟩
    ·exact i2 j (by omega)
   ·exact wq
   ·exact wq
  ·rename_i e
   exact yesF h fun q=>e (q.2.2 _ (getD_mem' (by omega))).1
 ·refine ⟨p,?_,⟨h1⟩,?_⟩
  ·exact wq
  have i3:∀ b∈bs,crowd p b∧b≠0:=all_of_getD fun j hj=>i2 j (by omega)
  repeat' (first|refine vz ?_|(conv=>whnf); first|with_reducible first|refine Sp.mk ?_ ?_|refine br_d (fun _=>?_) fun _=>?_|refine vM (fun _=>?_) fun _=>?_)
  ·exact yesD h ⟨fun q=>by have:=q.2.1; omega,fun q=>⟨by assumption,by omega,i3⟩⟩
  ·rename_i e
   exact yesF h fun q=>e q.1
def C55:=C57
theorem F55:FF 102 C55:=by
 refine fitE [(114,C62),(74,C35)] (by simp only [List.mem_cons,List.not_mem_nil,or_false]; rintro _ (rfl|rfl) <;> first|exact F62|exact F35) Tryz.f102 ⟨rfl,by decide +kernel,by decide +kernel⟩ (fun _ _ _ hk h=>hk _ h) ?_
 rintro ⟨p,bs⟩ K ⟨⟨h1,h2⟩,h3⟩ h
 refine ⟨Nat.le_of_ble_eq_true rfl,?_⟩
 dsimp only at h h1 h2 h3 ⊢
 replace h:K (.bool (decide (people p∧bs.length≤4∧∀ b∈bs,crowd p b∧b≠0))):=h
 repeat' (first|refine vz ?_|(conv=>whnf); first|with_reducible first|refine Sp.mk ?_ ?_|refine br_d (fun _=>?_) fun _=>?_|refine vM (fun _=>?_) fun _=>?_)
 refine Lp.mk ⟨Nat,fun i=>[(1,.ptr 0 0),(2,.bool false),(3,.int .i64 i)],fun _=>[.box [.int .i64 p,slI bs]],fun i=>i≤bs.length∧∀ j,j<i→crowd p (bs.getD j 0)∧bs.getD j 0≠0,fun i=>bs.length-i,⟨0,⟨Nat.zero_le _,fun j hj=>absurd hj (Nat.not_lt_zero _)⟩,⟨⟨[some 0],[],rfl,rfl,?_,?_⟩⟩⟩,?_⟩
 ·exact wq
 ·exact wq
 rintro i ⟨i1,i2⟩
 dsimp only
 repeat' (first|refine vz ?_|(conv=>whnf); first|with_reducible first|refine Sp.mk ?_ ?_|refine br_d (fun _=>?_) fun _=>?_|refine vM (fun _=>?_) fun _=>?_)
 ·refine Dr.mk ⟨(.rd 0 (.rd 1 (.rd 2 (.rd 3 (.rd 4 (.rd 5 (.rd 6 (.ef 7 (.rd 8 (.rd 9 (.rd 10 (.rd 11 (.rd 12 (.rd 13 (.rd 14 (.rd 15 (.rd 16 .dn))))))))) .no)))))))),by decide +kernel,?_⟩
  repeat' (first|refine vz ?_|(conv=>whnf); first|with_reducible first|refine Sp.mk ?_ ?_|refine br_d (fun _=>?_) fun _=>?_|refine vM (fun _=>?_) fun _=>?_)
  refine ⟨(p,bs.getD i 0),?_,⟨h1,h2 _ (getD_mem' (by omega))⟩,?_⟩
  ·exact wq
  dsimp only
  repeat' (first|refine vz ?_|(conv=>whnf); first|with_reducible first|refine Sp.mk ?_ ?_|refine br_d (fun _=>?_) fun _=>?_|refine vM (fun _=>?_) fun _=>?_)
  ·rename_i e
   have e:bs.getD i 0=0:=e
   exact yesF h fun q=>(q.2.2 _ (getD_mem' (by omega))).2 e
  ·rename_i e
   have e:¬ bs.getD i 0=0:=e
   refine ⟨i+1,⟨by omega,fun j hj=>?_⟩,by omega,⟨⟨[some 0],[],rfl,rfl,?_,?_⟩⟩⟩
   ·by_cases hji:j=i
    ·subst hji
     exact ⟨by assumption,e⟩
    ·exact i2 j (by omega)
   ·exact wq
   ·exact wq
  ·rename_i e
   exact yesF h fun q=>e (q.2.2 _ (getD_mem' (by omega))).1
 ·refine ⟨(p,1,6),?_,⟨trivial⟩,?_⟩
  ·exact wq
  have i3:∀ b∈bs,crowd p b∧b≠0:=all_of_getD fun j hj=>i2 j (by omega)
  dsimp only
  repeat' (first|refine vz ?_|(conv=>whnf); first|with_reducible first|refine Sp.mk ?_ ?_|refine br_d (fun _=>?_) fun _=>?_|refine vM (fun _=>?_) fun _=>?_)
  ·exact yesD h ⟨fun q=>by have:=q.2.1; omega,fun q=>⟨by assumption,by omega,i3⟩⟩
  ·rename_i e
   exact yesF h fun q=>e q.1
/-! ### Terms -/
def stepP (bs:List Int) (m:Mark) (k:Nat):Option Nat :=
 if m.kind=0∧0≤m.at_∧m.at_<bs.length∧1≤m.need∧m.need≤heads (bs.getD m.at_.toNat 0).toNat then some (k+1)
 else if (m.kind=1∨m.kind=2)∧m.at_=0∧m.need=0∧2≤k then some (k-1) else none
def walkP (h:List Int):List Mark→Nat→Option Nat
 |[],k=>some k
 |m :: r,k=>(stepP h m k).bind (walkP h r)
abbrev termOk (h:House) (t:List Mark):Prop:=houseOk h∧t.length≤9∧walkP h.bs t 0=some 1
theorem walkP_app (h:List Int):∀ (l m:List Mark) (k:Nat),walkP h (l ++ m) k=(walkP h l k).bind (walkP h m)
 |[],m,k=>rfl
 |x :: l,m,k=>by
  simp only [List.cons_append,walkP]
  cases stepP h x k with
  |none=>rfl
  |some j=>exact walkP_app h l m j
theorem take_succ' {α:Type} {l:List α} {i:Nat} (d:α) (h:i<l.length):l.take (i+1)=l.take i ++ [l.getD i d]:=by
 rw [List.take_add_one,List.getD_eq_getElem?_getD,List.getElem?_eq_getElem h]
 rfl
theorem walkP_take {h:List Int} {t:List Mark} {i k:Nat} (hi:i<t.length) (hk:walkP h (t.take i) 0=some k):walkP h (t.take (i+1)) 0=stepP h (t.getD i default) k:=by
 rw [take_succ' default hi,walkP_app,hk]
 simp only [Option.bind_some,walkP]
 cases stepP h (t.getD i default) k <;> rfl
theorem walkP_none {h:List Int} {t:List Mark} {i:Nat} (hk:walkP h (t.take i) 0=none):walkP h t 0=none:=by
 rw [← List.take_append_drop i t,walkP_app,hk]
 rfl
theorem walkP_le (h:List Int):∀ (l:List Mark) (k j:Nat),walkP h l k=some j→j≤k+l.length
 |[],k,j,e=>by injection e with e; simp [e]
 |m :: l,k,j,e=>by
  simp only [walkP] at e
  cases e1:stepP h m k with
  |none=>rw [e1] at e; cases e
  |some i =>
   rw [e1] at e
   have:=walkP_le h l i j e
   have:i≤k+1:=by
    unfold stepP at e1
    split at e1
    ·injection e1 with e1; omega
    ·split at e1
     ·injection e1 with e1; omega
     ·cases e1
   simp only [List.length_cons]
   omega
def Mark.i64 (m:Mark):Prop:=i64r m.kind∧i64r m.at_∧i64r m.need
def termI (h:House) (t:List Mark):Prop:=h.i64∧h.bs.length<9223372036854775808∧(∀ m∈t,m.i64)∧t.length<9223372036854775808
def C38:List AV→(AV→Prop)→Prop:=con (X:=House × List Mark) (fun x=>[enH x.1,slM x.2]) (fun x=>termI x.1 x.2) fun x K=>K (.bool (decide (termOk x.1 x.2)))
theorem F38:FF 143 C38:=by
 refine fitE [(118,C57),(167,C50)] (by simp only [List.mem_cons,List.not_mem_nil,or_false]; rintro _ (rfl|rfl) <;> first|exact F57|exact F50) Tryz.f143 ⟨rfl,by decide +kernel,by decide +kernel⟩ (fun _ _ _ hk h=>hk _ h) ?_
 rintro ⟨⟨p,bs⟩,t⟩ K ⟨h1,h2,h3,h4⟩ h
 refine ⟨Nat.le_of_ble_eq_true rfl,?_⟩
 dsimp only at h h1 h2 h3 h4 ⊢
 repeat' (first|refine vz ?_|(conv=>whnf); first|with_reducible first|refine Sp.mk ?_ ?_|refine br_d (fun _=>?_) fun _=>?_|refine vM (fun _=>?_) fun _=>?_)
 refine ⟨⟨p,bs⟩,?_,⟨h1,h2⟩,?_⟩
 ·exact wq
 repeat' (first|refine vz ?_|(conv=>whnf); first|with_reducible first|refine Sp.mk ?_ ?_|refine br_d (fun _=>?_) fun _=>?_|refine vM (fun _=>?_) fun _=>?_)
 ·rename_i e
  exact yesF h fun q=>by
   have e0:t.length=0:=by omega
   have:t=[]:=List.eq_nil_of_length_eq_zero e0
   subst this
   have:=q.2.2
   simp [walkP] at this
 ·exact yesF h fun q=>by have:=q.2.1; omega
 ·rename_i hO _ _
  refine Lp.mk ⟨Nat × Nat,fun x=>[(2,.ptr 0 0),(4,.bool false),(5,.int .i64 x.2),(21,slM t),(22,.int .i64 t.length),(23,.int .i64 x.1)],fun _=>[.box [.int .i64 p,slI bs]],fun x=>x.1≤t.length∧walkP bs (t.take x.1) 0=some x.2,fun x=>t.length-x.1,⟨(0,0),⟨Nat.zero_le _,rfl⟩,⟨⟨[some 0],[],rfl,rfl,?_,?_⟩⟩⟩,?_⟩
  ·exact wq
  ·exact wq
  rintro ⟨i,k⟩ ⟨i1,i2⟩
  dsimp only at i1 i2 ⊢
  have kle:k≤9:=by
   have:=walkP_le bs _ _ _ i2
   simp only [List.length_take] at this
   omega
  have bad:i<t.length→stepP bs (t.getD i default) k=none→¬ termOk ⟨p,bs⟩ t:=fun hi e q=>by
   have:=walkP_none (h:=bs) (t:=t) (i:=i+1) (by rw [walkP_take hi i2,e])
   rw [q.2.2] at this
   cases this
  have good:∀ k',i<t.length→stepP bs (t.getD i default) k=some k'→walkP bs (t.take (i+1)) 0=some k':=fun k' hi e=>by rw [walkP_take hi i2,e]
  repeat' (first|refine vz ?_|(conv=>whnf); first|with_reducible first|refine Sp.mk ?_ ?_|refine br_d (fun _=>?_) fun _=>?_|refine vM (fun _=>?_) fun _=>?_)
  ·refine Dr.mk ⟨(.rd 0 (.rd 1 (.rd 2 (.rd 3 (.rd 4 (.rd 5 (.rd 6 (.rd 7 (.rd 8 (.rd 9 (.rd 10 (.rd 11 (.rd 12 (.rd 13 (.rd 14 (.rd 15 (.rd 16 (.rd 17 (.rd 18 (.rd 19 (.rd 20 (.rd 21 (.rd 22 (.rd 23 (.rd 24 (.ef 25 (.rd 26 (.rd 27 .dn)) .no)))))))))))))))))))))))))),by decide +kernel,?_⟩
   repeat' (first|refine vz ?_|(conv=>whnf); first|with_reducible first|refine Sp.mk ?_ ?_|refine br_d (fun _=>?_) fun _=>?_|refine vM (fun _=>?_) fun _=>?_)
   all_goals try (refine yesF h (bad (by omega) ?_); simp only [Int.toNat_natCast] at *; unfold stepP; rw [if_neg (by omega),if_neg (by omega)]; done)
   have g1:¬ (t.getD i default).at_<0:=by assumption
   have g2:¬ (t.getD i default).at_≥bs.length:=by assumption
   have g3:¬ (t.getD i default).need<1:=by assumption
   have g4:(t.getD i default).kind=0:=by assumption
   have hb:(t.getD i default).at_.toNat<bs.length:=by omega
   have hc:=(hO.2.2 _ (getD_mem' (d:=0) hb)).1
   have hp:=pw_le hO.1
   refine ⟨bs.getD (t.getD i default).at_.toNat 0,?_,⟨⟨hc.2.1,Int.lt_of_lt_of_le hc.2.2 hp.2⟩⟩,?_⟩
   ·exact wq
   repeat' (first|refine vz ?_|(conv=>whnf); first|with_reducible first|refine Sp.mk ?_ ?_|refine br_d (fun _=>?_) fun _=>?_|refine vM (fun _=>?_) fun _=>?_)
   ·refine yesF h (bad (by omega) ?_)
    rename_i e
    replace e:(t.getD i default).need > heads (bs.getD (t.getD i default).at_.toNat 0).toNat:=e
    unfold stepP
    rw [if_neg (by omega),if_neg (by omega)]
   ·rename_i e
    replace e:¬ (t.getD i default).need > heads (bs.getD (t.getD i default).at_.toNat 0).toNat:=e
    refine ⟨(i+1,k+1),⟨by omega,good (k+1) (by omega) (by unfold stepP; rw [if_pos (by omega)])⟩,by show t.length-(i+1)<t.length-i; omega,⟨⟨[some 0],[],rfl,rfl,?_,?_⟩⟩⟩
    ·exact wq
    ·exact wq
  all_goals try (refine yesF h (bad (by omega) ?_); simp only [Int.toNat_natCast] at *; unfold stepP; rw [if_neg (by omega),if_neg (by omega)]; done)
  ·refine ⟨(i+1,k-1),⟨by omega,good (k-1) (by omega) (by simp only [Int.toNat_natCast] at *; unfold stepP; rw [if_neg (by omega),if_pos (by omega)])⟩,by show t.length-(i+1)<t.length-i; omega,⟨⟨[some 0],[],rfl,rfl,?_,?_⟩⟩⟩
   ·exact wq
   ·exact wq
  ·refine ⟨(i+1,k-1),⟨by omega,good (k-1) (by omega) (by simp only [Int.toNat_natCast] at *; unfold stepP; rw [if_neg (by omega),if_pos (by omega)])⟩,by show t.length-(i+1)<t.length-i; omega,⟨⟨[some 0],[],rfl,rfl,?_,?_⟩⟩⟩
   ·exact wq
   ·exact wq
  ·have e:walkP bs t 0=some k:=by rw [List.take_of_length_le (by omega)] at i2; exact i2
   refine yesD h ⟨fun q=>?_,fun q=>⟨hO,by show t.length≤9; omega,by show walkP bs t 0=some 1; rw [e,show k=1 by omega]⟩⟩
   have:=q.2.2
   rw [e] at this
   injection this with this
   omega
 ·rename_i e
  exact yesF h fun q=>e q.1
end Go.Proofs.YtgdbhjmpkkbnnaaGreatDoor.Vc
end
section
/- Part Z: terms. -/
namespace Go.Proofs.YtgdbhjmpkkbnnaaGreatDoor.Vc
open Go.Proofs
set_option maxRecDepth 10000
set_option maxHeartbeats 4000000
def C33:=C38
theorem F33:FF 108 C33:=by
 refine fitE [(74,C35),(113,C48),(102,C55)] (by simp only [List.mem_cons,List.not_mem_nil,or_false]; rintro _ (rfl|rfl|rfl) <;> first|exact F35|exact F48|exact F55) Tryz.f108 ⟨rfl,by decide +kernel,by decide +kernel⟩ (fun _ _ _ hk h=>hk _ h) ?_
 rintro ⟨⟨p,bs⟩,t⟩ K ⟨h1,h2,h3,h4⟩ h
 refine ⟨Nat.le_of_ble_eq_true rfl,?_⟩
 dsimp only at h h1 h2 h3 h4 ⊢
 repeat' (first|refine vz ?_|(conv=>whnf); first|with_reducible first|refine Sp.mk ?_ ?_|refine br_d (fun _=>?_) fun _=>?_|refine vM (fun _=>?_) fun _=>?_)
 refine Lp.mk ⟨Nat × Nat,fun x=>[(1,slM t),(2,.ptr 0 0),(4,.bool false),(5,.int .i64 x.2),(6,.int .i64 x.1)],fun _=>[.box [.int .i64 p,slI bs]],fun x=>x.1≤t.length∧walkP bs (t.take x.1) 0=some x.2,fun x=>t.length-x.1,⟨(0,0),⟨Nat.zero_le _,rfl⟩,⟨⟨[some 0],[],rfl,rfl,?_,?_⟩⟩⟩,?_⟩
 ·exact wq
 ·exact wq
 rintro ⟨i,k⟩ ⟨i1,i2⟩
 dsimp only at i1 i2 ⊢
 have kle:k≤i:=by
  have:=walkP_le bs _ _ _ i2
  simp only [List.length_take] at this
  omega
 have bad:i<t.length→stepP bs (t.getD i default) k=none→¬ termOk ⟨p,bs⟩ t:=fun hi e q=>by
  have:=walkP_none (h:=bs) (t:=t) (i:=i+1) (by rw [walkP_take hi i2,e])
  rw [q.2.2] at this
  cases this
 have good:∀ k',i<t.length→stepP bs (t.getD i default) k=some k'→walkP bs (t.take (i+1)) 0=some k':=fun k' hi e=>by rw [walkP_take hi i2,e]
 repeat' (first|refine vz ?_|(conv=>whnf); first|with_reducible first|refine Sp.mk ?_ ?_|refine br_d (fun _=>?_) fun _=>?_|refine vM (fun _=>?_) fun _=>?_)
 ·refine Dr.mk ⟨(.rd 0 (.rd 1 (.rd 2 (.rd 3 (.rd 4 (.rd 5 (.rd 6 (.rd 7 (.rd 8 (.rd 9 (.rd 10 (.rd 11 (.rd 12 (.rd 13 (.rd 14 (.rd 15 (.ef 16 (.rd 17 (.rd 18 (.rd 19 (.rd 20 (.rd 21 (.rd 22 (.rd 23 (.rd 24 (.rd 25 (.rd 26 (.rd 27 (.rd 28 (.rd 29 (.rd 30 (.rd 31 (.rd 32 (.ef 33 (.ef 34 (.rd 35 (.rd 36 .dn)) .no) .no))))))))))))))))) .no))))))))))))))))),by decide +kernel,?_⟩
  repeat' (first|refine vz ?_|(conv=>whnf); first|with_reducible first|refine Sp.mk ?_ ?_|refine br_d (fun _=>?_) fun _=>?_|refine vM (fun _=>?_) fun _=>?_)
  refine ⟨((t.getD (i:Int).toNat default).at_,0,bs.length-1),?_,⟨trivial⟩,?_⟩
  ·exact wq
  dsimp only
  repeat' (first|refine vz ?_|(conv=>whnf); first|with_reducible first|refine Sp.mk ?_ ?_|refine br_d (fun _=>?_) fun _=>?_|refine vM (fun _=>?_) fun _=>?_)
  ·rename_i g1
   have hb:(t.getD (i:Int).toNat default).at_.toNat<bs.length:=by omega
   refine ⟨bs.getD (t.getD (i:Int).toNat default).at_.toNat 0,?_,⟨h1.2 _ (getD_mem' hb)⟩,?_⟩
   ·exact wq
   repeat' (first|refine vz ?_|(conv=>whnf); first|with_reducible first|refine Sp.mk ?_ ?_|refine br_d (fun _=>?_) fun _=>?_|refine vM (fun _=>?_) fun _=>?_)
   refine ⟨((t.getD (i:Int).toNat default).need,1,heads (bs.getD (t.getD (i:Int).toNat default).at_.toNat 0).toNat),?_,⟨trivial⟩,?_⟩
   ·exact wq
   dsimp only
   repeat' (first|refine vz ?_|(conv=>whnf); first|with_reducible first|refine Sp.mk ?_ ?_|refine br_d (fun _=>?_) fun _=>?_|refine vM (fun _=>?_) fun _=>?_)
   ·refine ⟨(i+1,k+1),⟨by omega,good (k+1) (by omega) (by simp only [Int.toNat_natCast] at *; unfold stepP; rw [if_pos (by omega)])⟩,by show t.length-(i+1)<t.length-i; omega,⟨⟨[some 0],[],rfl,rfl,?_,?_⟩⟩⟩
    ·exact wq
    ·exact wq
   all_goals try (refine yesF h (bad (by omega) ?_); simp only [Int.toNat_natCast] at *; unfold stepP; rw [if_neg (by omega),if_neg (by omega)]; done)
  all_goals try (refine yesF h (bad (by omega) ?_); simp only [Int.toNat_natCast] at *; unfold stepP; rw [if_neg (by omega),if_neg (by omega)]; done)
  ·refine ⟨(i+1,k-1),⟨by omega,good (k-1) (by omega) (by simp only [Int.toNat_natCast] at *; unfold stepP; rw [if_neg (by omega),if_pos (by omega)])⟩,by show t.length-(i+1)<t.length-i; omega,⟨⟨[some 0],[],rfl,rfl,?_,?_⟩⟩⟩
   ·exact wq
   ·exact wq
  ·refine ⟨(i+1,k-1),⟨by omega,good (k-1) (by omega) (by simp only [Int.toNat_natCast] at *; unfold stepP; rw [if_neg (by omega),if_pos (by omega)])⟩,by show t.length-(i+1)<t.length-i; omega,⟨⟨[some 0],[],rfl,rfl,?_,?_⟩⟩⟩
   ·exact wq
   ·exact wq
 ·refine ⟨⟨p,bs⟩,?_,⟨h1,h2⟩,?_⟩
  ·exact wq
  have e:walkP bs t 0=some k:=by rw [List.take_of_length_le (by omega)] at i2; exact i2
  repeat' (first|refine vz ?_|(conv=>whnf); first|with_reducible first|refine Sp.mk ?_ ?_|refine br_d (fun _=>?_) fun _=>?_|refine vM (fun _=>?_) fun _=>?_)
  ·rename_i hO hk
   exact yesD h ⟨fun q=>by have:=q.2.1; omega,fun q=>⟨hO,by show t.length≤9; omega,by show walkP bs t 0=some 1; rw [e,show k=1 by omega]⟩⟩
  ·rename_i hO hk
   refine yesF h fun q=>?_
   have:=q.2.2
   rw [e] at this
   injection this with this
   omega
  ·rename_i hO
   exact yesF h fun q=>hO q.1
end Go.Proofs.YtgdbhjmpkkbnnaaGreatDoor.Vc
end
section
/- Part ZA: terms, plain: parts, and what a term says. -/
namespace Go.Proofs.YtgdbhjmpkkbnnaaGreatDoor.Vc
def band (a b:Int):Int:=bitop .i64 .and a b
theorem band_comm (a b:Int):band a b=band b a:=by
 unfold band bitop
 simp only [BitVec.and_comm]
theorem band_small:∀ a,a<64→∀ b,b<64→0≤band (a:Nat) (b:Nat)∧band (a:Nat) (b:Nat)<64:=by decide +kernel
theorem band_lt {a b:Int} (h1:0≤a) (h2:a<64) (h3:0≤b) (h4:b<64):0≤band a b∧band a b<64:=by
 have:=band_small a.toNat (by omega) b.toNat (by omega)
 rwa [Int.toNat_of_nonneg h1,Int.toNat_of_nonneg h3] at this
def cnt (bs:List Int) (c:Int) (m:Mark):Bool:=decide ((heads (band (bs.getD m.at_.toNat 0) c).toNat:Int)≥m.need)
def stepS (bs:List Int) (c:Int) (m:Mark) (s:List Bool):List Bool :=
 if m.kind=0 then cnt bs c m :: s
 else match s with
  |b :: a :: r=>(if m.kind=2 then a || b else a && b) :: r
  |s=>s
def runS (bs:List Int) (c:Int):List Mark→List Bool→List Bool
 |[],s=>s
 |m :: t,s=>runS bs c t (stepS bs c m s)
def says (bs:List Int) (c:Int) (t:List Mark):Bool:=(runS bs c t []).headD false
section
variable {bs:List Int} {c:Int}
theorem runS_app:∀ (l m:List Mark) (s:List Bool),runS bs c (l ++ m) s=runS bs c m (runS bs c l s)
 |[],_,_=>rfl
 |_ :: l,m,_=>runS_app l m _
theorem stepP_kind {m:Mark} {k j:Nat} (h:stepP bs m k=some j):(m.kind=0∧j=k+1)∨(m.kind≠0∧(m.kind=1∨m.kind=2)∧2≤k∧j=k-1):=by
 unfold stepP at h
 split at h
 ·injection h with h; exact .inl ⟨by omega,h.symm⟩
 ·split at h
  ·injection h with h; exact .inr ⟨by omega,by omega,by omega,h.symm⟩
  ·cases h
theorem stepP_more {m:Mark} {k j:Nat} (d:Nat) (h:stepP bs m k=some j):stepP bs m (k+d)=some (j+d):=by
 unfold stepP at h ⊢
 split at h
 ·rename_i h1; injection h with h; rw [if_pos h1,← h]; congr 1; omega
 ·rename_i h1
  split at h
  ·rename_i h2; injection h with h; rw [if_neg h1,if_pos (by omega),← h]; congr 1; omega
  ·cases h
theorem stepP_less {m:Mark} {k j:Nat} (d:Nat) (h:stepP bs m (k+d)=some (j+d)) (hj:1≤j):stepP bs m k=some j:=by
 unfold stepP at h ⊢
 split at h
 ·rename_i h1; injection h with h; rw [if_pos h1]; congr 1; omega
 ·rename_i h1
  split at h
  ·rename_i h2; injection h with h; rw [if_neg h1,if_pos (by omega)]; congr 1; omega
  ·cases h
theorem runS_frame:∀ (l:List Mark) (s r:List Bool) (j:Nat),walkP bs l s.length=some j→runS bs c l (s ++ r)=runS bs c l s ++ r∧(runS bs c l s).length=j
 |[],s,r,j,h=>by injection h with h; exact ⟨rfl,h⟩
 |m :: l,s,r,j,h=>by
  simp only [walkP] at h
  cases e:stepP bs m s.length with
  |none=>rw [e] at h; cases h
  |some k =>
   rw [e] at h
   simp only [Option.bind_some] at h
   have hs:stepS bs c m (s ++ r)=stepS bs c m s ++ r∧(stepS bs c m s).length=k:=by
    rcases stepP_kind e with ⟨h1,h2⟩|⟨h1,_,h3,h2⟩
    ·unfold stepS; rw [if_pos h1,if_pos h1]; exact ⟨rfl,by simp [h2]⟩
    ·unfold stepS; rw [if_neg h1,if_neg h1]
     match s,h3 with
     |x :: y :: z,_=>exact ⟨rfl,by simp [h2]⟩
   show runS bs c l (stepS bs c m (s ++ r))=runS bs c l (stepS bs c m s) ++ r∧(runS bs c l (stepS bs c m s)).length=j
   rw [hs.1]
   exact runS_frame l _ r j (by rw [hs.2]; exact h)
theorem walk_shift (d:Nat):∀ (l:List Mark) (k j:Nat),walkP bs l (k+d)=some (j+d)→(∀ n,n≤l.length→∀ q,walkP bs (l.take n) (k+d)=some q→n=0∨d+1≤q)→walkP bs l k=some j
 |[],k,j,h,_=>by
  simp only [walkP,Option.some.injEq] at h ⊢
  omega
 |m :: l,k,j,h,hn=>by
  simp only [walkP] at h ⊢
  cases e:stepP bs m (k+d) with
  |none=>rw [e] at h; cases h
  |some q =>
   rw [e] at h
   simp only [Option.bind_some] at h
   have h1:=hn 1 (by simp) q (by simp [walkP,e])
   have hq:q=(q-d)+d:=by omega
   rw [hq] at e h
   have e':=stepP_less d e (by omega)
   rw [e']
   simp only [Option.bind_some]
   refine walk_shift d l (q-d) j h fun n hl q' hq'=>?_
   have:=hn (n+1) (by simpa using hl) q' (by simp only [List.take_succ_cons,walkP]; rw [hq,e] at *; simpa using hq')
   omega
theorem walk_prefix {t:List Mark} {k:Nat} (h:walkP bs t 0=some k) (i:Nat):∃ q,walkP bs (t.take i) 0=some q:=by
 cases e:walkP bs (t.take i) 0 with
 |some q=>exact ⟨q,rfl⟩
 |none=>rw [walkP_none e] at h; cases h
end
open Go.Proofs
set_option maxRecDepth 10000
set_option maxHeartbeats 4000000
structure St where
 bs:List Int
 t:List Mark
 e:Nat
 k:Nat
def starts (x:St) (s:Nat):Prop:=s≤x.e∧walkP x.bs (x.t.take s) 0=some (x.k-1)∧∀ j,s<j→j≤x.e+1→∀ q,walkP x.bs (x.t.take j) 0=some q→x.k≤q
def C56:List AV→(AV→Prop)→Prop:=con (X:=St) (fun x=>[slM x.t,.int .i64 x.e]) (fun x=>x.e<x.t.length∧x.t.length<4611686018427387904∧1≤x.k∧walkP x.bs (x.t.take (x.e+1)) 0=some x.k) fun x K=>∀ s:Nat,starts x s→K (.int .i64 s)
theorem F56:FF 138 C56:=by
 refine fitE [] (by simp) Tryz.f138 ⟨rfl,by decide +kernel,by decide +kernel⟩ (fun _ _ _ hk h s hs=>hk _ (h s hs)) ?_
 rintro ⟨bs,t,e,k⟩ K ⟨h1,h2,h3,h4⟩ h
 refine ⟨Nat.le_of_ble_eq_true rfl,?_⟩
 dsimp only at h h1 h2 h3 h4 ⊢
 repeat' (first|refine vz ?_|(conv=>whnf); first|with_reducible first|refine Sp.mk ?_ ?_|refine br_d (fun _=>?_) fun _=>?_|refine vM (fun _=>?_) fun _=>?_)
 refine Lp.mk ⟨Nat × Nat,fun x=>[(0,slM t),(5,.int .i64 x.2),(6,.int .i64 (x.1-1))],fun _=>[],fun x=>x.1≤e+1∧walkP bs (t.take x.1) 0=some (k-1+x.2)∧∀ j,x.1<j→j≤e+1→∀ q,walkP bs (t.take j) 0=some q→k≤q,fun x=>x.1,⟨(e+1,1),⟨Nat.le_refl _,by rw [h4]; congr 1; omega,fun j h1 h2=>by omega⟩,⟨⟨[],[],rfl,rfl,?_,?_⟩⟩⟩,?_⟩
 ·exact wq
 ·exact wq
 rintro ⟨a,n⟩ ⟨i1,i2,i3⟩
 dsimp only at i1 i2 i3 ⊢
 have nle:n≤e+2:=by
  have:=walkP_le bs _ _ _ i2
  simp only [List.length_take] at this
  omega
 have a1:0<n→1≤a:=fun hn=>by
  rcases Nat.eq_zero_or_pos a with rfl|h
  ·simp only [List.take_zero,walkP,Option.some.injEq] at i2; omega
  ·exact h
 have above:∀ j,a-1<j→0<n→j≤e+1→∀ q,walkP bs (t.take j) 0=some q→k≤q:=fun j hj hn hje q hq=>by
  by_cases hja:j=a
  ·subst hja; rw [i2] at hq; injection hq with hq; omega
  ·exact i3 j (by omega) hje q hq
 have back:0<n→∃ q,walkP bs (t.take (a-1)) 0=some q∧stepP bs (t.getD (a-1) default) q=some (k-1+n):=fun hn=>by
  have:=a1 hn
  obtain ⟨q,hq⟩:=walk_prefix i2 (a-1)
  rw [List.take_take,Nat.min_eq_left (by omega)] at hq
  refine ⟨q,hq,?_⟩
  rw [← walkP_take (by omega) hq,show a-1+1=a by omega]
  exact i2
 repeat' ((conv=>whnf); first|((with_reducible refine And.intro (Chk.mk ?_) ?_); focus (have:=a1 (by omega); omega))|refine vA ?_|with_reducible first|refine v8 ?_|refine Ch.l ?_|refine Sp.mk ?_ ?_|refine vS ?_|refine vR ?_|refine vB ?_|refine br_nt ?_|refine br_tt ?_|refine br_ff ?_|refine vP ?_|refine vQ ?_|refine vT ?_|refine vF ?_|refine br_and ?_|refine br_or ?_|refine br_d (fun _=>?_) fun _=>?_|refine vM (fun _=>?_) fun _=>?_)
 ·rename_i hn hk
  have hn:0<n:=by omega
  have ha:=a1 hn
  obtain ⟨q,q1,q2⟩:=back hn
  have e1:((a:Int)-1).toNat=a-1:=by omega
  rw [e1] at hk
  rcases stepP_kind q2 with ⟨_,g⟩|⟨g,_⟩
  ·refine ⟨(a-1,n-1),⟨by show a-1≤e+1; omega,by show walkP bs (t.take (a-1)) 0=some (k-1+(n-1)); rw [q1]; congr 1; omega,fun j hj hje=>above j hj hn hje⟩,by show a-1<a; omega,⟨⟨[],[],rfl,rfl,?_,?_⟩⟩⟩
   ·exact wq
   ·exact wq
  ·exact absurd hk g
 ·rename_i hn hk
  have hn:0<n:=by omega
  have ha:=a1 hn
  obtain ⟨q,q1,q2⟩:=back hn
  have e1:((a:Int)-1).toNat=a-1:=by omega
  rw [e1] at hk
  rcases stepP_kind q2 with ⟨g,_⟩|⟨_,_,_,g⟩
  ·exact absurd g hk
  ·refine ⟨(a-1,n+1),⟨by show a-1≤e+1; omega,by show walkP bs (t.take (a-1)) 0=some (k-1+(n+1)); rw [q1]; congr 1; omega,fun j hj hje=>above j hj hn hje⟩,by show a-1<a; omega,⟨⟨[],[],rfl,rfl,?_,?_⟩⟩⟩
   ·exact wq
   ·exact wq
 ·rename_i hn
  have hn:n=0:=by omega
  subst hn
  have:=h a ⟨?_,i2,i3⟩
  ·exact (congrArg (fun z=>K (AV.int IntKind.i64 z)) (by omega:(a:Int)=a-1+1)) ▸ this
  ·show a≤e
   rcases Nat.lt_or_ge e a with h5|h5
   ·have:a=e+1:=by omega
    subst this
    rw [h4] at i2
    injection i2 with i2
    omega
   ·exact h5
end Go.Proofs.YtgdbhjmpkkbnnaaGreatDoor.Vc
end
section
/- Part ZB: what a term says, by the reference. -/
namespace Go.Proofs.YtgdbhjmpkkbnnaaGreatDoor.Vc
open Go.Proofs
set_option maxRecDepth 10000
set_option maxHeartbeats 4000000
section
variable {bs:List Int} {c:Int}
theorem walk_pos {l:List Mark} {m:Mark} {k:Nat} (h:walkP bs (l ++ [m]) 0=some k):1≤k:=by
 rw [walkP_app] at h
 cases e:walkP bs l 0 with
 |none=>rw [e] at h; cases h
 |some q =>
  rw [e] at h
  simp only [Option.bind_some,walkP] at h
  cases e2:stepP bs m q with
  |none=>rw [e2] at h; cases h
  |some j =>
   rw [e2] at h
   simp only [Option.bind_some,Option.some.injEq] at h
   subst h
   rcases stepP_kind e2 with ⟨_,h⟩|⟨_,_,_,h⟩ <;> omega
theorem walk_zero {l:List Mark} (h:walkP bs l 0=some 0):l=[]:=by
 rcases List.eq_nil_or_concat l with rfl|⟨l',m,rfl⟩
 ·rfl
 ·have:=walk_pos (bs:=bs) (by simpa using h)
  omega
theorem last_mark {t:List Mark} (h:walkP bs t 0=some 1):∃ n m q,t.length=n+1∧t.getD n default=m∧t=t.take n ++ [m]∧walkP bs (t.take n) 0=some q∧stepP bs m q=some 1:=by
 have hl:t≠[]:=by rintro rfl; simp [walkP] at h
 have hpos:0<t.length:=List.length_pos_iff.2 hl
 refine ⟨t.length-1,t.getD (t.length-1) default,?_⟩
 obtain ⟨q,hq⟩:=walk_prefix h (t.length-1)
 have h1:=take_succ' (l:=t) (i:=t.length-1) default (by omega)
 rw [show t.length-1+1=t.length by omega,List.take_length] at h1
 refine ⟨q,by omega,rfl,h1,hq,?_⟩
 have:=walkP_take (i:=t.length-1) (by omega) hq
 rw [show t.length-1+1=t.length by omega,List.take_length] at this
 rw [← this]; exact h
theorem says_body {t:List Mark} {n:Nat} (h:walkP bs t 0=some 1) (hn:t.length=n+1) (hk:(t.getD n default).kind=0):says bs c t=cnt bs c (t.getD n default):=by
 obtain ⟨n',m,q,h1,h2,h3,h4,h5⟩:=last_mark h
 obtain rfl:n'=n:=by omega
 rw [h2] at hk ⊢
 rcases stepP_kind h5 with ⟨_,hq⟩|⟨hq,_⟩
 ·have:q=0:=by omega
  subst this
  have:=walk_zero h4
  rw [h3,this]
  simp [says,runS,stepS,hk]
 ·exact absurd hk hq
theorem says_split {t:List Mark} {n s:Nat} (h:walkP bs t 0=some 1) (hn:t.length=n+1) (hk:(t.getD n default).kind≠0):walkP bs (t.take n) 0=some 2∧1≤n ∧
  (starts ⟨bs,t,n-1,2⟩ s→s<n∧1≤s∧walkP bs (t.take s) 0=some 1∧walkP bs ((t.take n).drop s) 0=some 1 ∧
   says bs c t=(if (t.getD n default).kind=2 then says bs c (t.take s) || says bs c ((t.take n).drop s) else says bs c (t.take s) && says bs c ((t.take n).drop s))):=by
 obtain ⟨n',m,q,h1,h2,h3,h4,h5⟩:=last_mark h
 obtain rfl:n'=n:=by omega
 rw [h2] at hk ⊢
 rcases stepP_kind h5 with ⟨hq,_⟩|⟨_,_,hq2,hq⟩
 ·exact absurd hq hk
 ·have:q=2:=by omega
  subst this
  have hn1:1≤n':=by
   rcases Nat.eq_zero_or_pos n' with rfl|h0
   ·simp [walkP] at h4
   ·exact h0
  refine ⟨h4,hn1,fun hs=>?_⟩
  obtain ⟨s1,s2,s3⟩:=hs
  dsimp only at s1 s2 s3
  have hs1:1≤s:=by
   rcases Nat.eq_zero_or_pos s with rfl|h0
   ·simp [walkP] at s2
   ·exact h0
  have e1:t.take n'=t.take s ++ (t.take n').drop s:=by
   have:=(List.take_append_drop s (t.take n')).symm
   rwa [List.take_take,Nat.min_eq_left (by omega)] at this
  have w2:walkP bs ((t.take n').drop s) 1=some 2:=by
   rw [e1,walkP_app,s2] at h4
   exact h4
  have w3:walkP bs ((t.take n').drop s) 0=some 1:=by
   refine walk_shift 1 _ 0 1 w2 fun j hj q hq=>?_
   rcases Nat.eq_zero_or_pos j with h0|h0
   ·exact .inl h0
   ·right
    simp only [List.length_drop,List.length_take] at hj
    refine s3 (s+j) (by omega) (by omega) q ?_
    have:t.take (s+j)=t.take s ++ ((t.take n').drop s).take j:=by
     rw [List.take_add,List.take_drop,List.take_drop,List.take_take,Nat.min_eq_left (by omega)]
    rw [this,walkP_app,s2]
    exact hq
  refine ⟨by omega,hs1,s2,w3,?_⟩
  have f1:=runS_frame (bs:=bs) (c:=c) (t.take s) [] [] 1 s2
  have f2:=runS_frame (bs:=bs) (c:=c) ((t.take n').drop s) [] (runS bs c (t.take s) []) 1 w3
  obtain ⟨v1,hv1⟩:=List.length_eq_one_iff.1 f1.2
  obtain ⟨v2,hv2⟩:=List.length_eq_one_iff.1 f2.2
  have hr:runS bs c t []=stepS bs c m [v2,v1]:=by
   rw [h3,runS_app,e1,runS_app]
   have:=f2.1
   rw [List.nil_append] at this
   rw [this,hv2,hv1]
   rfl
  unfold says
  rw [hr,hv1,hv2]
  unfold stepS
  rw [if_neg hk]
  simp only [List.headD_cons]
end
theorem take_ext {t:List Mark} {l s:Nat} (hs:s≤t.length):s-l=((t.take s).drop l).length∧∀ i,i<s-l→encM (t.getD (l+i) default)=encM (((t.take s).drop l).getD i default):=by
 refine ⟨by simp [Nat.min_eq_left hs],fun i hi=>?_⟩
 congr 1
 simp only [List.getD_eq_getElem?_getD,List.getElem?_drop]
 rw [List.getElem?_take_of_lt (by omega)]
theorem take_ext0 {t:List Mark} {s:Nat} (hs:s≤t.length):s-0=(t.take s).length∧∀ i,i<s-0→encM (t.getD (0+i) default)=encM ((t.take s).getD i default):=by
 have:=take_ext (l:=0) hs
 rwa [List.drop_zero] at this
structure Sy where
 p:Int
 bs:List Int
 t:List Mark
 c:Int
def sayOk (x:Sy):Prop:=x.t.length<4611686018427387904∧walkP x.bs x.t 0=some 1∧(∀ b∈x.bs,0≤b∧b<64)∧0≤x.c∧x.c<64
def C36k (k:Nat):List AV→(AV→Prop)→Prop:=con (X:=Sy) (fun x=>[house x.p x.bs,slM x.t,.int .i64 x.c]) (fun x=>x.t.length<k∧sayOk x) fun x K=>K (.bool (says x.bs x.c x.t))
theorem F36k:∀ k,FF 111 (C36k k):=by
 intro k
 induction k with
 |zero=>exact fitE [] (by simp) Tryz.f111 ⟨rfl,by decide +kernel,by decide +kernel⟩ (fun _ _ _ hk h=>hk _ h) fun x K h=>absurd h.1 (Nat.not_lt_zero _)
 |succ k ih =>
  refine fitE [(111,C36k k),(113,C48),(138,C56)] (by simp only [List.mem_cons,List.not_mem_nil,or_false]; rintro _ (rfl|rfl|rfl) <;> first|exact ih|exact F48|exact F56) Tryz.f111 ⟨rfl,by decide +kernel,by decide +kernel⟩ (fun _ _ _ hk h=>hk _ h) ?_
  rintro ⟨p,bs,t,c⟩ K ⟨h0,h1,h2,h3,h4,h5⟩ h
  refine ⟨Nat.le_of_ble_eq_true rfl,?_⟩
  dsimp only at h h0 h1 h2 h3 h4 h5 ⊢
  obtain ⟨n,m,q,g1,g2,g3,g4,g5⟩:=last_mark h2
  have hn:((t.length:Int)-1).toNat=n:=by omega
  have hat:(t.getD ((t.length:Int)-1).toNat default).kind=0→0≤(t.getD ((t.length:Int)-1).toNat default).at_∧(t.getD ((t.length:Int)-1).toNat default).at_<bs.length:=by
   rw [hn,g2]
   intro hk
   unfold stepP at g5
   split at g5
   ·omega
   ·rw [if_neg (by omega)] at g5; cases g5
  repeat' (first|refine vz ?_|(conv=>whnf); first|with_reducible first|refine Sp.mk ?_ ?_|refine br_d (fun _=>?_) fun _=>?_|refine vM (fun _=>?_) fun _=>?_)
  ·rename_i hk
   have hb:=hat hk
   refine Dr.mk ⟨(.rd 0 (.rd 1 (.rd 2 (.rd 3 (.rd 4 (.rd 5 (.rd 6 (.rd 7 (.rd 8 (.rd 9 (.rd 10 (.rd 12 (.rd 13 (.rd 14 (.rd 15 (.rd 16 (.ef 11 (.rd 17 (.rd 18 .dn)) .no))))))))))))))))),by decide +kernel,?_⟩
   repeat' (first|refine vz ?_|(conv=>whnf); first|with_reducible first|refine Sp.mk ?_ ?_|refine br_d (fun _=>?_) fun _=>?_|refine vM (fun _=>?_) fun _=>?_)
   have hb2:=h3 _ (getD_mem' (l:=bs) (i:=(t.getD ((t.length:Int)-1).toNat default).at_.toNat) (d:=0) (by omega))
   have hb3:=band_lt hb2.1 hb2.2 h4 h5
   rw [band_comm] at hb3
   refine ⟨band c (bs.getD (t.getD ((t.length:Int)-1).toNat default).at_.toNat 0),?_,⟨by unfold i64r; omega⟩,?_⟩
   ·exact wq
   repeat' (first|refine vz ?_|(conv=>whnf); first|with_reducible first|refine Sp.mk ?_ ?_|refine br_d (fun _=>?_) fun _=>?_|refine vM (fun _=>?_) fun _=>?_)
   rw [says_body h2 g1 (by rw [← hn]; exact hk),← hn] at h
   unfold cnt at h
   rw [band_comm] at h
   exact h
  rename_i hk
  rw [hn] at hk
  obtain ⟨k1,k2,_⟩:=says_split (c:=c) (s:=0) h2 g1 hk
  refine ⟨⟨bs,t,n-1,2⟩,?_,⟨⟨by show n-1<t.length; omega,h1,(by decide:1≤2),by show walkP bs (t.take (n-1+1)) 0=some 2; rw [show n-1+1=n by omega]; exact k1⟩⟩,?_⟩
  ·dsimp only
   repeat' ((conv=>whnf); first|with_reducible exact True.intro|exact vW|with_reducible refine And.intro ?_ ?_)
  intro s hs
  obtain ⟨_,_,k3⟩:=says_split (c:=c) (s:=s) h2 g1 hk
  obtain ⟨s1,s2,s3,s4,s5⟩:=k3 hs
  rw [s5] at h
  have l1:(t.take s).length=s:=by rw [List.length_take]; omega
  have l2:((t.take n).drop s).length=n-s:=by simp; omega
  have e2:((t.length:Int)-1).toNat-s=((t.take n).drop s).length∧∀ i,i<((t.length:Int)-1).toNat-s→encM (t.getD (s+i) default)=encM (((t.take n).drop s).getD i default):=by
   rw [hn]
   exact take_ext (by omega)
  repeat' (first|refine vz ?_|(conv=>whnf); first|with_reducible first|refine Sp.mk ?_ ?_|refine br_d (fun _=>?_) fun _=>?_|refine vM (fun _=>?_) fun _=>?_)
  ·rename_i hk2
   rw [hn] at hk2
   rw [if_pos hk2] at h
   refine Dr.mk ⟨(.rd 0 (.rd 1 (.rd 2 (.rd 3 (.rd 4 (.ef 5 (.rd 6 (.rd 7 (.rd 8 (.rd 9 (.rd 10 (.rd 11 (.rd 12 (.ef 13 (.rd 14 (.rd 15 .dn)) .no)))))))) .no)))))),by decide +kernel,?_⟩
   repeat' (first|refine vz ?_|(conv=>whnf); first|with_reducible first|refine Sp.mk ?_ ?_|refine br_d (fun _=>?_) fun _=>?_|refine vM (fun _=>?_) fun _=>?_)
   refine ⟨⟨p,bs,t.take s,c⟩,?_,⟨by show (t.take s).length<k; rw [l1]; omega,by show (t.take s).length<_; rw [l1]; omega,s3,h3,h4,h5⟩,?_⟩
   ·repeat' ((conv=>whnf); first|with_reducible exact True.intro|exact vW|with_reducible refine And.intro ?_ ?_)
    all_goals exact Chk.mk (take_ext0 (by omega))
   dsimp only
   repeat' (first|refine vz ?_|(conv=>whnf); first|with_reducible first|refine Sp.mk ?_ ?_|refine br_d (fun _=>?_) fun _=>?_|refine vM (fun _=>?_) fun _=>?_)
   ·rename_i hv
    rw [hv,Bool.true_or] at h
    exact h
   rename_i hv
   rw [hv,Bool.false_or] at h
   refine ⟨⟨p,bs,(t.take n).drop s,c⟩,?_,⟨by show ((t.take n).drop s).length<k; rw [l2]; omega,by show ((t.take n).drop s).length<_; rw [l2]; omega,s4,h3,h4,h5⟩,?_⟩
   ·repeat' ((conv=>whnf); first|with_reducible exact True.intro|exact vW|with_reducible refine And.intro ?_ ?_)
    all_goals exact Chk.mk e2
   dsimp only
   repeat' (first|refine vz ?_|(conv=>whnf); first|with_reducible first|refine Sp.mk ?_ ?_|refine br_d (fun _=>?_) fun _=>?_|refine vM (fun _=>?_) fun _=>?_)
   exact h
  ·rename_i hk2
   rw [hn] at hk2
   rw [if_neg hk2] at h
   refine Dr.mk ⟨(.rd 0 (.rd 1 (.rd 2 (.rd 3 (.rd 4 (.ef 5 (.rd 6 (.rd 7 (.rd 8 (.rd 9 (.rd 10 (.rd 11 (.rd 12 (.ef 13 (.rd 14 (.rd 15 .dn)) .no)))))))) .no)))))),by decide +kernel,?_⟩
   repeat' (first|refine vz ?_|(conv=>whnf); first|with_reducible first|refine Sp.mk ?_ ?_|refine br_d (fun _=>?_) fun _=>?_|refine vM (fun _=>?_) fun _=>?_)
   refine ⟨⟨p,bs,t.take s,c⟩,?_,⟨by show (t.take s).length<k; rw [l1]; omega,by show (t.take s).length<_; rw [l1]; omega,s3,h3,h4,h5⟩,?_⟩
   ·repeat' ((conv=>whnf); first|with_reducible exact True.intro|exact vW|with_reducible refine And.intro ?_ ?_)
    all_goals exact Chk.mk (take_ext0 (by omega))
   dsimp only
   repeat' (first|refine vz ?_|(conv=>whnf); first|with_reducible first|refine Sp.mk ?_ ?_|refine br_d (fun _=>?_) fun _=>?_|refine vM (fun _=>?_) fun _=>?_)
   ·rename_i hv
    rw [hv,Bool.true_and] at h
    refine ⟨⟨p,bs,(t.take n).drop s,c⟩,?_,⟨by show ((t.take n).drop s).length<k; rw [l2]; omega,by show ((t.take n).drop s).length<_; rw [l2]; omega,s4,h3,h4,h5⟩,?_⟩
    ·repeat' ((conv=>whnf); first|with_reducible exact True.intro|exact vW|with_reducible refine And.intro ?_ ?_)
     all_goals exact Chk.mk e2
    dsimp only
    repeat' (first|refine vz ?_|(conv=>whnf); first|with_reducible first|refine Sp.mk ?_ ?_|refine br_d (fun _=>?_) fun _=>?_|refine vM (fun _=>?_) fun _=>?_)
    exact h
   rename_i hv
   rw [hv,Bool.false_and] at h
   exact h
def C36:List AV→(AV→Prop)→Prop:=con (X:=Sy) (fun x=>[house x.p x.bs,slM x.t,.int .i64 x.c]) sayOk fun x K=>K (.bool (says x.bs x.c x.t))
theorem F36:FF 111 C36:=fun Gl hG=>fits_rec (fun x=>x.t.length) fun k=>F36k k Gl hG
end Go.Proofs.YtgdbhjmpkkbnnaaGreatDoor.Vc
end
section
/- Part TA: the texts of terms, and how they are read; plain. -/
namespace Go.Proofs.YtgdbhjmpkkbnnaaGreatDoor.Vc
/-! ### Bytes -/
def bys (s:ByteArray):List Int:=s.data.toList.map fun b=>(b.toNat:Int)
theorem bys_app (a b:ByteArray):bys (a ++ b)=bys a ++ bys b:=by
 show List.map _ (a ++ b).data.toList=_
 rw [ByteArray.data_append,Array.toList_append,List.map_append]
 rfl
theorem bys_len (s:ByteArray):(bys s).length=s.size:=by
 show (List.map _ s.data.toList).length=s.data.size
 rw [List.length_map,Array.length_toList]
theorem bys_at {s:ByteArray} {i:Nat} (h:i<s.size):(bys s)[i]?=some (bt s i):=by
 have h':i<s.data.size:=h
 simp [bys,bt,Array.getElem?_eq_getElem h']
def rem (s:ByteArray) (i:Nat):List Int:=(bys s).drop i
theorem rem_len (s:ByteArray) (i:Nat):(rem s i).length=s.size-i:=by rw [rem,List.length_drop,bys_len]
theorem rem_lt {s:ByteArray} {i:Nat} (h:i<s.size):rem s i=bt s i :: rem s (i+1):=by
 rw [rem,List.drop_eq_getElem?_toList_append,bys_at h]
 rfl
theorem rem_ge {s:ByteArray} {i:Nat} (h:s.size≤i):rem s i=[]:=List.drop_eq_nil_of_le (by rw [bys_len]; exact h)
theorem bt_u8 (s:ByteArray) (i:Nat):0≤bt s i∧bt s i≤255:=by
 unfold bt
 have:=(s.data.getD i 0).toNat_lt
 omega
/-! ### How a term is read -/
abbrev PR:=Option (List Mark × List Int)
def loopF (rd:List Int→PR) (sign kind:Int):Nat→List Mark→List Int→PR
 |0,t,s=>some (t,s)
 |_+1,t,[]=>some (t,[])
 |k+1,t,c :: s=>if c=sign then (rd s).bind fun q=>loopF rd sign kind k (t ++ q.1 ++ [⟨kind,0,0⟩]) q.2 else some (t,c :: s)
def joinP (rd:List Int→PR) (sign kind:Int) (s:List Int):PR:=(rd s).bind fun q=>loopF rd sign kind q.2.length q.1 q.2
def bothP (rd:List Int→PR):List Int→PR:=joinP rd 38 1
def eitherP (rd:List Int→PR):List Int→PR:=joinP (bothP rd) 124 2
def closeP:PR→PR
 |some (t,c :: s)=>if c=41 then some (t,s) else none
 |_=>none
def atomP (lo:Int) (b:Int):List Int→PR
 |d :: s=>if 65≤b∧b≤68∧lo≤d∧d≤57 then some ([⟨0,b-65,d-48⟩],s) else none
 |[]=>none
def partF (lo:Int):Nat→List Int→PR
 |0=>fun _=>none
 |f+1=>fun s=>match s with
  |[]=>none
  |b :: r=>if b=40 then closeP (eitherP (partF lo f) r) else atomP lo b r
def fair (rd:List Int→PR):Prop:=∀ s t r,rd s=some (t,r)→1≤t.length∧t.length+r.length≤s.length
theorem loopF_fair {rd:List Int→PR} (h:fair rd) (sign kind:Int):∀ k t s u r,loopF rd sign kind k t s=some (u,r)→t.length≤u.length∧u.length+r.length≤t.length+s.length
 |0,t,s,u,r,e=>by
  simp only [loopF,Option.some.injEq,Prod.mk.injEq] at e
  obtain ⟨rfl,rfl⟩:=e
  omega
 |k+1,t,[],u,r,e=>by
  simp only [loopF,Option.some.injEq,Prod.mk.injEq] at e
  obtain ⟨rfl,rfl⟩:=e
  omega
 |k+1,t,c :: s,u,r,e=>by
  unfold loopF at e
  split at e
  ·cases e1:rd s with
   |none=>rw [e1] at e; cases e
   |some q =>
    rw [e1] at e
    have h1:=h s q.1 q.2 e1
    have h2:=loopF_fair h sign kind k _ _ u r e
    simp only [List.length_append,List.length_cons,List.length_nil] at h2 ⊢
    omega
  ·simp only [Option.some.injEq,Prod.mk.injEq] at e
   obtain ⟨rfl,rfl⟩:=e
   omega
theorem joinP_fair {rd:List Int→PR} (h:fair rd) (sign kind:Int):fair (joinP rd sign kind):=fun s t r e=>by
 unfold joinP at e
 cases e1:rd s with
 |none=>rw [e1] at e; cases e
 |some q =>
  rw [e1] at e
  have h1:=h s q.1 q.2 e1
  have h2:=loopF_fair h sign kind _ _ _ t r e
  omega
theorem partF_fair (lo:Int):∀ f,fair (partF lo f)
 |0=>fun s t r e=>by cases e
 |f+1=>fun s t r e=>by
  unfold partF at e
  cases s with
  |nil=>cases e
  |cons b s =>
   dsimp only at e
   split at e
   ·have hf:=joinP_fair (joinP_fair (partF_fair lo f) 38 1) 124 2
    unfold closeP at e
    split at e
    ·rename_i t' c s' e1
     split at e
     ·simp only [Option.some.injEq,Prod.mk.injEq] at e
      obtain ⟨rfl,rfl⟩:=e
      have:=hf _ _ _ e1
      simp only [List.length_cons] at this ⊢
      omega
     ·cases e
    ·cases e
   ·unfold atomP at e
    split at e
    ·split at e
     ·simp only [Option.some.injEq,Prod.mk.injEq] at e
      obtain ⟨rfl,rfl⟩:=e
      simp only [List.length_cons,List.length_nil]
      omega
     ·cases e
    ·cases e
theorem bothP_fair (lo:Int) (f:Nat):fair (bothP (partF lo f)):=joinP_fair (partF_fair lo f) 38 1
theorem eitherP_fair (lo:Int) (f:Nat):fair (eitherP (partF lo f)):=joinP_fair (bothP_fair lo f) 124 2
theorem loopF_stop {rd:List Int→PR} {sign kind:Int} {k:Nat} {t:List Mark} {s:List Int} (h:s.head?≠some sign):loopF rd sign kind k t s=some (t,s):=by
 cases k with
 |zero=>rfl
 |succ k=>cases s with
  |nil=>rfl
  |cons c s =>
   unfold loopF
   rw [if_neg (fun e=>h (by rw [e]; rfl))]
theorem loopF_fuel {rd:List Int→PR} (h:fair rd) {sign kind:Int}:∀ k j t s,s.length≤k→s.length≤j→loopF rd sign kind k t s=loopF rd sign kind j t s
 |0,j,t,s,h1,_=>by
  have:s=[]:=List.eq_nil_of_length_eq_zero (by omega)
  subst this
  rw [loopF_stop (by simp),loopF_stop (by simp)]
 |k+1,j,t,[],_,_=>by rw [loopF_stop (by simp),loopF_stop (by simp)]
 |k+1,0,t,c :: s,_,h2=>by simp at h2
 |k+1,j+1,t,c :: s,h1,h2=>by
  unfold loopF
  split
  ·cases e1:rd s with
   |none=>rfl
   |some q =>
    have:=h s q.1 q.2 e1
    simp only [List.length_cons] at h1 h2
    exact loopF_fuel h k j _ _ (by omega) (by omega)
  ·rfl
theorem loopF_more {rd:List Int→PR} (h:fair rd) {sign kind:Int} {t u:List Mark} {s r:List Int} (e:rd s=some (u,r)):loopF rd sign kind (sign :: s).length t (sign :: s)=loopF rd sign kind r.length (t ++ u ++ [⟨kind,0,0⟩]) r:=by
 have h1:=h s u r e
 rw [List.length_cons,loopF,if_pos rfl,e]
 exact loopF_fuel h _ _ _ _ (by show r.length≤_; omega) (Nat.le_refl _)
/-! ### The text -/
structure Pt where
 s:ByteArray
 o:Bool
 n:Int
 deriving Inhabited
def letter (a:Int):ByteArray:=⟨#[UInt8.ofNat (65+a.toNat)]⟩
def wrapT (s:ByteArray) (b:Bool):ByteArray:=if b=true then ⟨#[40]⟩ ++ s ++ ⟨#[41]⟩ else s
def join2 (k:Int) (a b:Pt):Pt:=if k=2 then ⟨a.s ++ ⟨#[124]⟩ ++ wrapT b.s b.o,true,a.n+b.n+1⟩ else ⟨wrapT a.s a.o ++ ⟨#[38]⟩ ++ wrapT b.s (decide (b.n > 1)),false,a.n+b.n+1⟩
def stepT (m:Mark) (st:List Pt):List Pt:=if m.kind=0 then ⟨letter m.at_ ++ num m.need,false,1⟩ :: st else match st with
 |b :: a :: r=>join2 m.kind a b :: r
 |s=>s
def runT:List Mark→List Pt→List Pt
 |[],s=>s
 |m :: t,s=>runT t (stepT m s)
def partT (t:List Mark):Pt:=(runT t []).headD default
def textT (t:List Mark):ByteArray:=(partT t).s
theorem runT_app:∀ (l m:List Mark) (s:List Pt),runT (l ++ m) s=runT m (runT l s)
 |[],_,_=>rfl
 |_ :: l,m,_=>runT_app l m _
section
variable {bs:List Int}
theorem runT_frame:∀ (l:List Mark) (s r:List Pt) (j:Nat),walkP bs l s.length=some j→runT l (s ++ r)=runT l s ++ r∧(runT l s).length=j
 |[],s,r,j,h=>by injection h with h; exact ⟨rfl,h⟩
 |m :: l,s,r,j,h=>by
  simp only [walkP] at h
  cases e:stepP bs m s.length with
  |none=>rw [e] at h; cases h
  |some k =>
   rw [e] at h
   simp only [Option.bind_some] at h
   have hs:stepT m (s ++ r)=stepT m s ++ r∧(stepT m s).length=k:=by
    rcases stepP_kind e with ⟨h1,h2⟩|⟨h1,_,h3,h2⟩
    ·unfold stepT; rw [if_pos h1,if_pos h1]; exact ⟨rfl,by simp [h2]⟩
    ·unfold stepT; rw [if_neg h1,if_neg h1]
     match s,h3 with
     |x :: y :: z,_=>exact ⟨rfl,by simp [h2]⟩
   show runT l (stepT m (s ++ r))=runT l (stepT m s) ++ r∧(runT l (stepT m s)).length=j
   rw [hs.1]
   exact runT_frame l _ r j (by rw [hs.2]; exact h)
theorem runT_one {l:List Mark} (h:walkP bs l 0=some 1) (r:List Pt):runT l r=partT l :: r:=by
 have h1:=runT_frame l [] r 1 h
 obtain ⟨v,hv⟩:=List.length_eq_one_iff.1 h1.2
 rw [List.nil_append] at h1
 rw [h1.1]
 unfold partT
 rw [hv]
 rfl
theorem partT_node {l r:List Mark} {m:Mark} (hl:walkP bs l 0=some 1) (hr:walkP bs r 0=some 1) (hm:m.kind≠0):partT (l ++ r ++ [m])=join2 m.kind (partT l) (partT r):=by
 show (runT (l ++ r ++ [m]) []).headD default=_
 rw [runT_app,runT_app,runT_one hl,runT_one hr]
 simp [runT,stepT,hm]
theorem partT_leaf {m:Mark} (hm:m.kind=0):partT [m]=⟨letter m.at_ ++ num m.need,false,1⟩:=by
 show (runT [m] []).headD default=_
 simp [runT,stepT,hm]
inductive Tr (bs:List Int):List Mark→Prop
 |leaf (m:Mark) (hk:m.kind=0) (h:stepP bs m 0=some 1):Tr bs [m]
 |node (l r:List Mark) (k:Int) (hk:k=1∨k=2) (hl:Tr bs l) (hr:Tr bs r):Tr bs (l ++ r ++ [⟨k,0,0⟩])
theorem stepP_node {k:Int} (hk:k=1∨k=2) {q:Nat} (hq:2≤q):stepP bs ⟨k,0,0⟩ q=some (q-1):=by
 unfold stepP
 rw [if_neg (by dsimp only; omega),if_pos (by dsimp only; omega)]
theorem Tr.walk {t:List Mark} (h:Tr bs t):∀ q,walkP bs t q=some (q+1):=by
 induction h with
 |leaf m hk h =>
  intro q
  have:=stepP_more q h
  simp only [walkP]
  rw [Nat.zero_add] at this
  rw [this]
  simp only [Option.bind_some,Option.some.injEq]
  omega
 |node l r k hk _ _ h1 h2 =>
  intro q
  rw [walkP_app,walkP_app,h1,Option.bind_some,h2,Option.bind_some]
  simp only [walkP]
  rw [stepP_node hk (by omega)]
  rfl
theorem walk_last:∀ (n:Nat) (u:List Mark) (k:Nat),u.length≤n→walkP bs u 0=some (k+1)→∃ v r,u=v ++ r∧walkP bs v 0=some k∧Tr bs r
 |0,u,k,hn,h=>by
  have:u=[]:=List.eq_nil_of_length_eq_zero (by omega)
  subst this
  simp [walkP] at h
 |n+1,u,k,hn,h=>by
  rcases List.eq_nil_or_concat u with rfl|⟨v,m,rfl⟩
  ·simp [walkP] at h
  ·rw [List.concat_eq_append] at h hn ⊢
   rw [walkP_app] at h
   cases e:walkP bs v 0 with
   |none=>rw [e] at h; cases h
   |some q =>
    rw [e] at h
    simp only [Option.bind_some,walkP] at h
    cases e2:stepP bs m q with
    |none=>rw [e2] at h; cases h
    |some j =>
     rw [e2] at h
     simp only [Option.bind_some,Option.some.injEq] at h
     subst h
     simp only [List.length_append,List.length_cons,List.length_nil] at hn
     rcases stepP_kind e2 with ⟨h1,h2⟩|⟨h1,h0,h3,h2⟩
     ·obtain rfl:k=q:=by omega
      refine ⟨v,[m],rfl,e,.leaf m h1 ?_⟩
      unfold stepP at e2 ⊢
      split at e2
      ·rename_i g; rw [if_pos g]
      ·rename_i g
       rw [if_neg (by omega)] at e2
       cases e2
     ·obtain ⟨q',rfl⟩:∃ q',q=q'+1:=⟨q-1,by omega⟩
      obtain ⟨v1,r2,rfl,w1,t2⟩:=walk_last n v q' (by omega) e
      simp only [List.length_append] at hn
      obtain ⟨q'',rfl⟩:∃ q'',q'=q''+1:=⟨q'-1,by omega⟩
      obtain ⟨v2,r1,rfl,w2,t1⟩:=walk_last n v1 q'' (by omega) w1
      obtain rfl:k=q'':=by omega
      have hm:m=⟨m.kind,0,0⟩:=by
       unfold stepP at e2
       rw [if_neg (by omega)] at e2
       split at e2
       ·rename_i g
        obtain ⟨kd,a,nd⟩:=m
        obtain ⟨_,g2,g3,_⟩:=g
        dsimp only at g2 g3
        subst g2; subst g3; rfl
       ·cases e2
      refine ⟨v2,r1 ++ r2 ++ [m],by simp [List.append_assoc],w2,?_⟩
      rw [hm]
      exact .node r1 r2 m.kind h0 t1 t2
theorem Tr.of {t:List Mark} (h:walkP bs t 0=some 1):Tr bs t:=by
 obtain ⟨v,r,rfl,h1,h2⟩:=walk_last _ t 0 (Nat.le_refl _) h
 rw [walk_zero h1]
 exact h2
theorem Tr.one {t:List Mark} (h:Tr bs t):walkP bs t 0=some 1:=h.walk 0
theorem Tr.len {t:List Mark} (h:Tr bs t):1≤t.length:=by
 cases h with
 |leaf=>simp
 |node=>simp only [List.length_append,List.length_cons,List.length_nil]; omega
theorem partT_n {t:List Mark} (h:Tr bs t):(partT t).n=t.length:=by
 induction h with
 |leaf m hk _=>rw [partT_leaf hk]; rfl
 |node l r k hk h1 h2 g1 g2 =>
  rw [partT_node h1.one h2.one (by dsimp only; omega)]
  unfold join2
  split <;> simp [g1,g2,Int.add_assoc]
/-! ### The text is read back -/
theorem bys_letter {a:Int} (h0:0≤a) (h1:a<4):bys (letter a)=[65+a]:=by
 obtain ⟨n,rfl⟩:∃ n:Nat,a=n:=⟨a.toNat,by omega⟩
 have:n=0∨n=1∨n=2∨n=3:=by omega
 rcases this with rfl|rfl|rfl|rfl <;> rfl
theorem bys_num {a:Int} (h0:0≤a) (h1:a<10):bys (num a)=[48+a]:=by
 rw [num_small h0 h1]
 obtain ⟨n,rfl⟩:∃ n:Nat,a=n:=⟨a.toNat,by omega⟩
 have:n=0∨n=1∨n=2∨n=3∨n=4∨n=5∨n=6∨n=7∨n=8∨n=9:=by omega
 rcases this with rfl|rfl|rfl|rfl|rfl|rfl|rfl|rfl|rfl|rfl <;> rfl
def bodies (bs:List Int):Prop:=bs.length≤4∧∀ b∈bs,0≤b∧b<64
theorem heads64 {b:Int} (h0:0≤b) (h1:b<64):heads b.toNat≤6:=by
 have key:∀ n,n<64→heads n≤6:=by decide +kernel
 exact key b.toNat (by omega)
theorem leaf_in (hb:bodies bs) {m:Mark} (_hk:m.kind=0) (h:stepP bs m 0=some 1):0≤m.at_∧m.at_<4∧1≤m.need∧m.need≤6:=by
 unfold stepP at h
 split at h
 ·rename_i g
  obtain ⟨_,g1,g2,g3,g4⟩:=g
  have:=hb.1
  have hm:bs.getD m.at_.toNat 0∈bs:=getD_mem' (by omega)
  have:=heads64 (hb.2 _ hm).1 (hb.2 _ hm).2
  omega
 ·rw [if_neg (by omega)] at h; cases h
theorem partT_len {t:List Mark} (h:Tr bs t) (h1:¬ (partT t).n > 1):∃ m,t=[m]∧m.kind=0∧stepP bs m 0=some 1:=by
 cases h with
 |leaf m hk h=>exact ⟨m,rfl,hk,h⟩
 |node l r k hk hl hr =>
  have:=partT_n (.node l r k hk hl hr)
  have:=hl.len
  simp only [List.length_append,List.length_cons,List.length_nil] at *
  omega
theorem text_leaf (hb:bodies bs) {m:Mark} (hk:m.kind=0) (h:stepP bs m 0=some 1):bys (textT [m])=[65+m.at_,48+m.need]:=by
 obtain ⟨g1,g2,g3,g4⟩:=leaf_in hb hk h
 rw [textT,partT_leaf hk,bys_app,bys_letter g1 g2,bys_num (by omega) (by omega)]
 rfl
theorem text_leaf_size (hb:bodies bs) {m:Mark} (hk:m.kind=0) (h:stepP bs m 0=some 1):(textT [m]).size=2:=by
 rw [← bys_len,text_leaf hb hk h]; rfl
variable {lo:Int}
theorem byc40:bys ⟨#[40]⟩=[40]:=rfl
theorem byc41:bys ⟨#[41]⟩=[41]:=rfl
theorem byc38:bys ⟨#[38]⟩=[38]:=rfl
theorem byc124:bys ⟨#[124]⟩=[124]:=rfl
theorem partF_atom {lo b:Int} {f:Nat} {r:List Int} (h:b≠40):partF lo (f+1) (b :: r)=atomP lo b r:=if_neg h
theorem partF_paren {lo:Int} {f:Nat} {r:List Int}:partF lo (f+1) (40 :: r)=closeP (eitherP (partF lo f) r):=by
 show (if (40:Int)=40 then closeP (eitherP (partF lo f) r) else atomP lo 40 r)=_
 exact if_pos rfl
theorem read_leaf (hb:bodies bs) (hlo:lo≤49) {m:Mark} (hk:m.kind=0) (h:stepP bs m 0=some 1) (f:Nat) (s:List Int):partF lo (f+1) (bys (textT [m]) ++ s)=some ([m],s):=by
 obtain ⟨g1,g2,g3,g4⟩:=leaf_in hb hk h
 rw [text_leaf hb hk h]
 show partF lo (f+1) ((65+m.at_) :: (48+m.need) :: s)=_
 rw [partF_atom (by omega)]
 unfold atomP
 dsimp only
 rw [if_pos (by omega)]
 congr 2
 obtain ⟨kd,a,n⟩:=m
 dsimp only at hk ⊢
 subst hk
 congr 2 <;> omega
theorem wrap_size {s:ByteArray} {b:Bool}:(wrapT s b).size=s.size+if b=true then 2 else 0:=by
 unfold wrapT
 split
 ·rw [ByteArray.size_append,ByteArray.size_append,show (⟨#[40]⟩:ByteArray).size=1 from rfl,show (⟨#[41]⟩:ByteArray).size=1 from rfl]
  omega
 ·rfl
def reE (lo:Int) (t:List Mark):Prop:=∀ f,(textT t).size≤f→∀ s:List Int,s.head?≠some 38→eitherP (partF lo f) (bys (textT t) ++ s)=loopF (bothP (partF lo f)) 124 2 s.length t s
def reB (lo:Int) (t:List Mark):Prop:=(partT t).o=false→∀ f,(textT t).size≤f→∀ s:List Int,bothP (partF lo f) (bys (textT t) ++ s)=loopF (partF lo f) 38 1 s.length t s
theorem okE_of {t:List Mark} (h:reB lo t) (ho:(partT t).o=false):reE lo t:=fun f hf s hs=>by
 unfold eitherP joinP
 rw [h ho f hf s,loopF_stop hs]
 rfl
theorem read_wrap {t:List Mark} (h:reE lo t) {f:Nat} (hf:(textT t).size<f) (s:List Int):partF lo f (bys (wrapT (textT t) true) ++ s)=some (t,s):=by
 obtain ⟨f,rfl⟩:∃ f',f=f'+1:=⟨f-1,by omega⟩
 unfold wrapT
 rw [if_pos rfl,bys_app,bys_app,byc40,byc41,List.append_assoc,List.append_assoc]
 show partF lo (f+1) (40 :: (bys (textT t) ++ (41 :: s)))=_
 rw [partF_paren,h f (by omega) _ (by simp),loopF_stop (by simp)]
 show (if (41:Int)=41 then some (t,s) else none)=some (t,s)
 exact if_pos rfl
theorem read_both {t:List Mark} (h:reE lo t) (h':reB lo t) {f:Nat} (hf:(wrapT (textT t) (partT t).o).size≤f) (s:List Int):bothP (partF lo f) (bys (wrapT (textT t) (partT t).o) ++ s)=loopF (partF lo f) 38 1 s.length t s:=by
 cases ho:(partT t).o with
 |false =>
  rw [wrap_size,ho,if_neg (by simp)] at hf
  exact h' ho f (by omega) s
 |true =>
  rw [wrap_size,ho,if_pos rfl] at hf
  unfold bothP joinP
  rw [read_wrap h (by omega)]
  rfl
theorem read_tr (hb:bodies bs) (hlo:lo≤49) {t:List Mark} (h:Tr bs t):reB lo t∧reE lo t:=by
 induction h with
 |leaf m hk h =>
  have hB:reB lo [m]:=fun _ f hf s=>by
   rw [text_leaf_size hb hk h] at hf
   obtain ⟨f,rfl⟩:∃ f',f=f'+1:=⟨f-1,by omega⟩
   unfold bothP joinP
   rw [read_leaf hb hlo hk h]
   rfl
  exact ⟨hB,okE_of hB (by rw [partT_leaf hk])⟩
 |node l r k hk hl hr gl gr =>
  have e:=partT_node (m:=⟨k,0,0⟩) hl.one hr.one (by dsimp only; omega)
  rcases hk with rfl|rfl
  ·have et:textT (l ++ r ++ [⟨1,0,0⟩])=wrapT (textT l) (partT l).o ++ ⟨#[38]⟩ ++ wrapT (textT r) (decide ((partT r).n > 1)):=by
    unfold textT; rw [e]; rfl
   have eo:(partT (l ++ r ++ [⟨1,0,0⟩])).o=false:=by rw [e]; rfl
   have hB:reB lo (l ++ r ++ [⟨1,0,0⟩]):=fun _ f hf s=>by
    rw [et,ByteArray.size_append,ByteArray.size_append,show (⟨#[38]⟩:ByteArray).size=1 from rfl] at hf
    rw [et,bys_app,bys_app,byc38,List.append_assoc,List.append_assoc,read_both gl.2 gl.1 (by omega)]
    have hp:partF lo f (bys (wrapT (textT r) (decide ((partT r).n > 1))) ++ s)=some (r,s):=by
     by_cases hn:(partT r).n > 1
     ·have hw:(wrapT (textT r) true).size=(textT r).size+2:=wrap_size
      rw [decide_eq_true hn] at hf
      rw [decide_eq_true hn]
      exact read_wrap gr.2 (by omega) s
     ·obtain ⟨m,rfl,m1,m2⟩:=partT_len hr hn
      rw [decide_eq_false hn]
      obtain ⟨f,rfl⟩:∃ f',f=f'+1:=⟨f-1,by omega⟩
      exact read_leaf hb hlo m1 m2 f s
    exact loopF_more (partF_fair lo f) hp
   exact ⟨hB,okE_of hB eo⟩
  ·have et:textT (l ++ r ++ [⟨2,0,0⟩])=textT l ++ ⟨#[124]⟩ ++ wrapT (textT r) (partT r).o:=by
    unfold textT; rw [e]; rfl
   refine ⟨fun ho=>?_,fun f hf s hs=>?_⟩
   ·rw [e] at ho
    cases ho
   ·rw [et,ByteArray.size_append,ByteArray.size_append,show (⟨#[124]⟩:ByteArray).size=1 from rfl] at hf
    rw [et,bys_app,bys_app,byc124,List.append_assoc,List.append_assoc,gl.2 f (by omega) _ (by simp)]
    have hp:bothP (partF lo f) (bys (wrapT (textT r) (partT r).o) ++ s)=some (r,s):=by
     rw [read_both gr.2 gr.1 (by omega),loopF_stop hs]
    exact loopF_more (bothP_fair lo f) hp
theorem bodies_of {h:House} (ho:houseOk h):bodies h.bs:=⟨ho.2.1,fun b hb=>by
 have:=(ho.2.2 b hb).1
 have h2:=this.2
 have:=pw_le this.1
 omega⟩
def rdT (lo:Int) (h:House) (s:ByteArray):Option (List Mark):=if s.size≤80 then (match eitherP (partF lo 80) (bys s) with
 |some (t,[])=>if termOk h t∧textT t=s then some t else none
 |_=>none) else none
theorem rdT_iff (hlo:lo≤49) {h:House} {s:ByteArray} {t:List Mark}:rdT lo h s=some t ↔ s.size≤80∧termOk h t∧textT t=s:=by
 unfold rdT
 constructor
 ·intro e
  split at e
  ·rename_i hs
   split at e
   ·split at e
    ·rename_i g
     injection e with e
     subst e
     exact ⟨hs,g⟩
    ·cases e
   ·cases e
  ·cases e
 ·rintro ⟨hs,ht,rfl⟩
  have:=(read_tr (bodies_of ht.1) hlo (Tr.of ht.2.2)).2 80 hs [] (by simp)
  rw [List.append_nil] at this
  rw [if_pos hs,this]
  show (if termOk h t∧textT t=textT t then some t else none)=some t
  rw [if_pos ⟨ht,rfl⟩]
theorem rdT_eq (h:House) (s:ByteArray):rdT 48 h s=rdT 49 h s:=by
 cases e:rdT 49 h s with
 |some t=>exact (rdT_iff (by decide)).2 ((rdT_iff (by decide)).1 e)
 |none =>
  cases e2:rdT 48 h s with
  |none=>rfl
  |some t =>
   have:=(rdT_iff (lo:=49) (by decide)).2 ((rdT_iff (by decide)).1 e2)
   rw [e] at this; cases this
end
end Go.Proofs.YtgdbhjmpkkbnnaaGreatDoor.Vc
end
section
/- Part TB: the reader of terms. -/
namespace Go.Proofs.YtgdbhjmpkkbnnaaGreatDoor.Vc
open Go.Proofs
set_option maxRecDepth 10000
set_option maxHeartbeats 4000000
abbrev trO (s:ByteArray) (a:Nat):Obj:=.box [.str s,.int .i64 a]
structure Rt where
 s:ByteArray
 a:Nat
def Rt.ok (x:Rt):Prop:=x.a≤x.s.size∧x.s.size≤80
def pk (s:ByteArray) (a:Nat):Int:=if a=s.size then 0 else bt s a
theorem pk_rem (s:ByteArray) (a:Nat) (h:a≤s.size):(a=s.size∧pk s a=0∧rem s a=[])∨(a<s.size∧pk s a=bt s a∧rem s a=pk s a :: rem s (a+1)):=by
 unfold pk
 by_cases e:a=s.size
 ·rw [if_pos e]; exact .inl ⟨e,rfl,rem_ge (by omega)⟩
 ·rw [if_neg e]; exact .inr ⟨by omega,rfl,rem_lt (by omega)⟩
theorem pk_u8 (s:ByteArray) (a:Nat):0≤pk s a∧pk s a≤255:=by
 unfold pk
 have:=bt_u8 s a
 split <;> omega
def C207:GC:=conG (X:=Rt) (fun _=>[.ptr 0 0]) (fun x=>[trO x.s x.a]) Rt.ok fun x K=>K (.int .u8 (pk x.s x.a)) [trO x.s x.a]
theorem F207:GG 186 C207:=by
 refine fitG [] (by simp) [] (by simp) Tryz.f186 ⟨rfl,by decide +kernel,by decide +kernel⟩ (by intro x K K2 hk h; (try dsimp only at h ⊢); intros; apply hk; first|exact h|(apply h <;> assumption)) ?_
 rintro ⟨s,a⟩ K ⟨h1,h2⟩ h
 refine ⟨Nat.le_of_ble_eq_true rfl,?_⟩
 dsimp only at h h1 h2 ⊢
 repeat' (first|refine vz ?_|(conv=>whnf); first|with_reducible first|refine Sp.mk ?_ ?_|refine br_d (fun _=>?_) fun _=>?_|refine vM (fun _=>?_) fun _=>?_)
 ·refine Dr.mk ⟨(.rd 0 (.rd 1 (.rd 2 (.rd 3 (.rd 4 (.rd 5 (.rd 6 (.rd 7 (.rd 8 (.rd 9 .dn)))))))))),by decide +kernel,?_⟩
  repeat' (first|refine vz ?_|(conv=>whnf); first|with_reducible first|refine Sp.mk ?_ ?_|refine br_d (fun _=>?_) fun _=>?_|refine vM (fun _=>?_) fun _=>?_)
  ·rename_i e
   have:a=s.size:=by omega
   unfold pk at h
   rw [if_pos this] at h
   refine ⟨_,_,[some 0],[],rfl,rfl,?_,?_,h⟩
   ·exact wq
   ·exact wq
  ·rename_i e
   have:¬ a=s.size:=by omega
   unfold pk at h
   rw [if_neg this] at h
   refine Dr.mk ⟨(.rd 0 (.rd 1 (.rd 2 (.rd 3 (.rd 4 (.rd 5 (.rd 6 (.rd 7 (.rd 8 (.rd 9 .dn)))))))))),by decide +kernel,?_⟩
   repeat' (first|refine vz ?_|(conv=>whnf); first|with_reducible first|refine Sp.mk ?_ ?_|refine br_d (fun _=>?_) fun _=>?_|refine vM (fun _=>?_) fun _=>?_)
   refine ⟨_,_,[some 0],[],rfl,rfl,?_,?_,h⟩
   ·exact wq
   ·exact wq
def rpost (s:ByteArray) (a:Nat) (r:PR) (K:AV→List Obj→Prop):Prop:=(r=none→∀ a':Nat,a≤a'→a'≤s.size→K .nils [trO s a'])∧(∀ t u,r=some (t,u)→∀ a':Nat,a≤a'→a'≤s.size→rem s a'=u→K (.row 1 3 0 t.length) [trO s a',.row 3 t.length fun i=>encM (t.getD i default)])
theorem rpost_mono {s:ByteArray} {a:Nat} {r:PR} {K K':AV→List Obj→Prop} (hk:∀ r o',K r o'→K' r o') (h:rpost s a r K):rpost s a r K':=⟨fun e a' h1 h2=>hk _ _ (h.1 e a' h1 h2),fun t u e a' h1 h2 h3=>hk _ _ (h.2 t u e a' h1 h2 h3)⟩
def C208 (f:Nat):GC:=conG (X:=Rt) (fun _=>[.ptr 0 0]) (fun x=>[trO x.s x.a]) (fun x=>x.ok∧x.s.size-x.a≤f) fun x K=>rpost x.s x.a (partF 49 f (rem x.s x.a)) K
def C201 (f:Nat):GC:=conG (X:=Rt) (fun _=>[.ptr 0 0]) (fun x=>[trO x.s x.a]) (fun x=>x.ok∧x.s.size-x.a≤f) fun x K=>rpost x.s x.a (bothP (partF 49 f) (rem x.s x.a)) K
def C191 (f:Nat):GC:=conG (X:=Rt) (fun _=>[.ptr 0 0]) (fun x=>[trO x.s x.a]) (fun x=>x.ok∧x.s.size-x.a≤f) fun x K=>rpost x.s x.a (eitherP (partF 49 f) (rem x.s x.a)) K
def C200a (f:Nat):GC:=conG (X:=Rt) (fun _=>[.ptr 0 0,.fn 187 [.ptr 0 0] [],.int .u8 38,.int .i64 1]) (fun x=>[trO x.s x.a]) (fun x=>x.ok∧x.s.size-x.a≤f) fun x K=>rpost x.s x.a (bothP (partF 49 f) (rem x.s x.a)) K
def C200b (f:Nat):GC:=conG (X:=Rt) (fun _=>[.ptr 0 0,.fn 166 [.ptr 0 0] [],.int .u8 124,.int .i64 2]) (fun x=>[trO x.s x.a]) (fun x=>x.ok∧x.s.size-x.a≤f) fun x K=>rpost x.s x.a (eitherP (partF 49 f) (rem x.s x.a)) K
theorem atom_of {s:ByteArray} {a:Nat} (h1:a≤s.size) (f:Nat) (e:pk s a≠40):(¬ (65≤pk s a∧pk s a≤68∧49≤pk s (min (a+1) s.size)∧pk s (min (a+1) s.size)≤57)→partF 49 (f+1) (rem s a)=none) ∧
  (65≤pk s a∧pk s a≤68∧49≤pk s (min (a+1) s.size)∧pk s (min (a+1) s.size)≤57→a+2≤s.size∧partF 49 (f+1) (rem s a)=some ([⟨0,pk s a-65,pk s (a+1)-48⟩],rem s (a+2))):=by
 rcases pk_rem s a h1 with ⟨g1,g2,g3⟩|⟨g1,g2,g3⟩
 ·refine ⟨fun _=>by rw [g3]; rfl,fun h=>by omega⟩
 ·rw [g3,partF_atom e,show min (a+1) s.size=a+1 by omega]
  rcases pk_rem s (a+1) (by omega) with ⟨k1,k2,k3⟩|⟨k1,k2,k3⟩
  ·rw [k3]
   exact ⟨fun _=>rfl,fun h=>by omega⟩
  ·rw [k3]
   unfold atomP
   dsimp only
   refine ⟨fun h=>if_neg h,fun h=>⟨by omega,if_pos h⟩⟩
theorem F208s {f:Nat} (hF:GG 142 (C191 f)):GG 187 (C208 (f+1)):=by
 refine fitG [] (by simp) [(186,C207),(142,C191 f)] (by simp only [List.mem_cons,List.not_mem_nil,or_false]; rintro _ (rfl|rfl) <;> first|exact F207|exact hF) Tryz.f187 ⟨rfl,by decide +kernel,by decide +kernel⟩ (fun _ _ _ hk h=>rpost_mono hk h) ?_
 rintro ⟨s,a⟩ K ⟨⟨h1,h2⟩,h3⟩ h
 refine ⟨Nat.le_of_ble_eq_true rfl,?_⟩
 dsimp only at h h1 h2 h3 ⊢
 have hpk:=pk_u8 s a
 have hrem:=pk_rem s a h1
 repeat' (first|refine vz ?_|(conv=>whnf); first|with_reducible first|refine Sp.mk ?_ ?_|refine br_d (fun _=>?_) fun _=>?_|refine vM (fun _=>?_) fun _=>?_)
 refine ⟨_,_,[0],[],rfl,?_,?_,⟨s,a⟩,rfl,rfl,⟨h1,h2⟩,?_⟩
 ·exact wq
 ·exact wq
 dsimp only
 repeat' (first|refine vz ?_|(conv=>whnf); first|with_reducible first|refine Sp.mk ?_ ?_|refine br_d (fun _=>?_) fun _=>?_|refine vM (fun _=>?_) fun _=>?_)
 refine Dr.mk ⟨(.rd 0 (.rd 1 (.rd 2 (.rd 3 (.rd 4 (.rd 5 (.rd 6 (.rd 7 (.rd 8 (.rd 9 (.rd 10 (.rd 11 (.rd 12 (.rd 13 (.ef 14 .dn .no))))))))))))))),by decide +kernel,?_⟩
 repeat' ((conv=>whnf); first|with_reducible refine wk_at 3 ?_|with_reducible refine wk_at1 3 ?_|with_reducible refine wk_at2 3 ?_|refine vA ?_|with_reducible first|refine v8 ?_|refine Ch.l ?_|refine Sp.mk ?_ ?_|refine vS ?_|refine vR ?_|refine vB ?_|refine br_nt ?_|refine br_tt ?_|refine br_ff ?_|refine vP ?_|refine vQ ?_|refine vT ?_|refine vF ?_|refine br_and ?_|refine br_or ?_|refine br_d (fun _=>?_) fun _=>?_|refine vM (fun _=>?_) fun _=>?_)
 refine ⟨Wk.go [(0,.ptr 0 0),(3,.int .u8 (pk s a))] [trO s (min (a+1) s.size)] ⟨⟨[some 0],[],rfl,rfl,?_,?_⟩⟩ ?_⟩
 ·exact wq
 ·repeat' ((conv=>whnf); first|with_reducible exact True.intro|exact vW|with_reducible refine And.intro ?_ ?_)
  all_goals exact Chk.mk (by split <;> omega)
 repeat' (first|refine vz ?_|(conv=>whnf); first|with_reducible first|refine Sp.mk ?_ ?_|refine br_d (fun _=>?_) fun _=>?_|refine vM (fun _=>?_) fun _=>?_)
 ·rename_i e40
  have hlt:a<s.size:=by omega
  have hm:min (a+1) s.size=a+1:=by omega
  have hr:rem s a=40 :: rem s (a+1):=by
   rcases hrem with g|g
   ·omega
   ·rw [← e40]; exact g.2.2
  rw [hr,partF_paren] at h
  rw [hm]
  repeat' (first|refine vz ?_|(conv=>whnf); first|with_reducible first|refine Sp.mk ?_ ?_|refine br_d (fun _=>?_) fun _=>?_|refine vM (fun _=>?_) fun _=>?_)
  refine ⟨_,_,[0],[],rfl,?_,?_,⟨s,a+1⟩,rfl,rfl,⟨⟨by dsimp only; omega,h2⟩,by dsimp only; omega⟩,?_⟩
  ·exact wq
  ·exact wq
  refine And.intro (fun e a' g1 g2=>?_) (fun t u e a' g1 g2 g3=>?_)
  ·dsimp only at e g1 g2
   rw [e] at h
   repeat' (first|refine vz ?_|(conv=>whnf); first|with_reducible first|refine Sp.mk ?_ ?_|refine br_d (fun _=>?_) fun _=>?_|refine vM (fun _=>?_) fun _=>?_)
   refine ⟨_,_,[some 0],[],rfl,rfl,?_,?_,h.1 rfl a' (by omega) g2⟩
   ·exact wq
   ·exact wq
  ·dsimp only at e g1 g2 g3
   rw [e] at h
   have ht:=(eitherP_fair 49 f _ _ _ e).1
   have hpk2:=pk_u8 s a'
   have hrem2:=pk_rem s a' g2
   repeat' (first|refine vz ?_|(conv=>whnf); first|with_reducible first|refine Sp.mk ?_ ?_|refine br_d (fun _=>?_) fun _=>?_|refine vM (fun _=>?_) fun _=>?_)
   refine ⟨_,_,[0],[],rfl,?_,?_,⟨s,a'⟩,rfl,rfl,⟨g2,h2⟩,?_⟩
   ·exact wq
   ·exact wq
   dsimp only
   repeat' (first|refine vz ?_|(conv=>whnf); first|with_reducible first|refine Sp.mk ?_ ?_|refine br_d (fun _=>?_) fun _=>?_|refine vM (fun _=>?_) fun _=>?_)
   ·rename_i e41
    have hn:closeP (some (t,u))=some (t,rem s (a'+1)):=by
     rcases hrem2 with g|g
     ·omega
     ·rw [← g3,g.2.2]; exact if_pos e41
    have hlt2:a'<s.size:=by omega
    refine ⟨_,_,[some 0,some 1],[],rfl,rfl,?_,?_,h.2 t _ hn (a'+1) (by omega) (by omega) rfl⟩
    ·exact wq
    ·exact wq
   ·rename_i e41
    have hn:closeP (some (t,u))=none:=by
     rcases hrem2 with g|g
     ·rw [← g3,g.2.2]; rfl
     ·rw [← g3,g.2.2]; exact if_neg e41
    refine ⟨_,_,[some 0],[],rfl,rfl,?_,?_,h.1 hn a' (by omega) g2⟩
    ·exact wq
    ·exact wq
 ·rename_i e40
  have hpk2:=pk_u8 s (min (a+1) s.size)
  obtain ⟨no,yes⟩:=atom_of h1 f e40
  repeat' (first|refine vz ?_|(conv=>whnf); first|with_reducible first|refine Sp.mk ?_ ?_|refine br_d (fun _=>?_) fun _=>?_|refine vM (fun _=>?_) fun _=>?_)
  refine ⟨_,_,[0],[],rfl,?_,?_,⟨s,min (a+1) s.size⟩,rfl,rfl,⟨by dsimp only; omega,h2⟩,?_⟩
  ·exact wq
  ·exact wq
  dsimp only
  repeat' (first|refine vz ?_|(conv=>whnf); first|with_reducible refine Wr.ex (wu8 (by omega) (by omega)) ?_|with_reducible refine Wr.ex (wi64 (by omega) (by omega)) ?_|with_reducible first|refine Sp.mk ?_ ?_|refine br_d (fun _=>?_) fun _=>?_|refine vM (fun _=>?_) fun _=>?_)
  all_goals try
   refine ⟨_,_,[some 0],[],rfl,rfl,?_,?_,h.1 (no (by omega)) (min (a+1) s.size) (by omega) (by omega)⟩
   ·exact wq
   ·exact wq
  obtain ⟨y1,y2⟩:=yes (by omega)
  have hm:min (a+1) s.size=a+1:=by omega
  rw [hm]
  refine ⟨_,_,[some 0,some 1],[],rfl,rfl,?_,?_,h.2 _ _ y2 (a+2) (by omega) (by omega) rfl⟩
  ·exact wq
  ·repeat' ((conv=>whnf); first|with_reducible exact True.intro|exact vW|with_reducible refine And.intro ?_ ?_)
   all_goals exact Chk.mk ⟨rfl,fun i hi=>by
    have:i=0:=by have hi:i<1:=hi; omega
    subst this; rfl⟩
theorem F208z:GG 187 (C208 0):=by
 refine fitG [] (by simp) [(186,C207)] (by simp only [List.mem_cons,List.not_mem_nil,or_false]; rintro _ rfl <;> first|exact F207) Tryz.f187 ⟨rfl,by decide +kernel,by decide +kernel⟩ (fun _ _ _ hk h=>rpost_mono hk h) ?_
 rintro ⟨s,a⟩ K ⟨⟨h1,h2⟩,h3⟩ h
 refine ⟨Nat.le_of_ble_eq_true rfl,?_⟩
 dsimp only at h h1 h2 h3 ⊢
 have hp:pk s a=0:=by unfold pk; rw [if_pos (by omega)]
 repeat' (first|refine vz ?_|(conv=>whnf); first|with_reducible first|refine Sp.mk ?_ ?_|refine br_d (fun _=>?_) fun _=>?_|refine vM (fun _=>?_) fun _=>?_)
 refine ⟨_,_,[0],[],rfl,?_,?_,⟨s,a⟩,rfl,rfl,⟨h1,h2⟩,?_⟩
 ·exact wq
 ·exact wq
 dsimp only
 rw [hp]
 repeat' (first|refine vz ?_|(conv=>whnf); first|with_reducible first|refine Sp.mk ?_ ?_|refine br_d (fun _=>?_) fun _=>?_|refine vM (fun _=>?_) fun _=>?_)
 refine Dr.mk ⟨(.rd 0 (.rd 1 (.rd 2 (.rd 3 (.rd 4 (.rd 5 (.rd 6 (.rd 7 (.rd 8 (.rd 9 (.rd 10 (.rd 11 (.rd 12 (.rd 13 (.ef 14 .dn .no))))))))))))))),by decide +kernel,?_⟩
 repeat' ((conv=>whnf); first|with_reducible refine wk_at 3 ?_|with_reducible refine wk_at1 3 ?_|with_reducible refine wk_at2 3 ?_|refine vA ?_|with_reducible first|refine v8 ?_|refine Ch.l ?_|refine Sp.mk ?_ ?_|refine vS ?_|refine vR ?_|refine vB ?_|refine br_nt ?_|refine br_tt ?_|refine br_ff ?_|refine vP ?_|refine vQ ?_|refine vT ?_|refine vF ?_|refine br_and ?_|refine br_or ?_|refine br_d (fun _=>?_) fun _=>?_|refine vM (fun _=>?_) fun _=>?_)
 refine ⟨Wk.go [(0,.ptr 0 0),(3,.int .u8 0)] [trO s a] ⟨⟨[some 0],[],rfl,rfl,?_,?_⟩⟩ ?_⟩
 ·exact wq
 ·repeat' ((conv=>whnf); first|with_reducible exact True.intro|exact vW|with_reducible refine And.intro ?_ ?_)
  all_goals exact Chk.mk (by split <;> omega)
 repeat' (first|refine vz ?_|(conv=>whnf); first|with_reducible first|refine Sp.mk ?_ ?_|refine br_d (fun _=>?_) fun _=>?_|refine vM (fun _=>?_) fun _=>?_)
 refine ⟨_,_,[0],[],rfl,?_,?_,⟨s,a⟩,rfl,rfl,⟨h1,h2⟩,?_⟩
 ·exact wq
 ·exact wq
 dsimp only
 rw [hp]
 repeat' (first|refine vz ?_|(conv=>whnf); first|with_reducible first|refine Sp.mk ?_ ?_|refine br_d (fun _=>?_) fun _=>?_|refine vM (fun _=>?_) fun _=>?_)
 refine ⟨_,_,[some 0],[],rfl,rfl,?_,?_,h.1 rfl a (Nat.le_refl _) h1⟩
 ·exact wq
 ·exact wq
theorem loopF_step {rd:List Int→PR} {sign kind:Int} {k:Nat} {t:List Mark} {r:List Int}:loopF rd sign kind (k+1) t (sign :: r)=(rd r).bind fun q=>loopF rd sign kind k (t ++ q.1 ++ [⟨kind,0,0⟩]) q.2:=by
 rw [loopF,if_pos rfl]
theorem app3_ext {t u:List Mark} {k:Int} (n:Nat) (hn:n=t.length+u.length):(t ++ u ++ [(⟨k,0,0⟩:Mark)]).length=n+1∧∀ i,i<(t ++ u ++ [(⟨k,0,0⟩:Mark)]).length→encM ((t ++ u ++ [(⟨k,0,0⟩:Mark)]).getD i default)=appF n (appF t.length (fun i=>encM (t.getD i default)) fun i=>encM (u.getD (0+i) default)) (fun i=>[[AV.int .i64 k,.int .i64 0,.int .i64 0]].getD (0+i) [.int .i64 0,.int .i64 0,.int .i64 0]) i:=by
 subst hn
 refine ⟨by simp [Nat.add_assoc],fun i hi=>?_⟩
 simp only [List.length_append,List.length_cons,List.length_nil] at hi
 unfold appF
 rw [List.getD_eq_getElem?_getD,List.getElem?_append,List.length_append]
 cases hb:Nat.blt i (t.length+u.length) with
 |true =>
  have h1:i<t.length+u.length:=Nat.le_of_ble_eq_true hb
  rw [if_pos h1,List.getElem?_append]
  cases hc:Nat.blt i t.length with
  |true =>
   have h2:i<t.length:=Nat.le_of_ble_eq_true hc
   rw [if_pos h2,← List.getD_eq_getElem?_getD]
   rfl
  |false =>
   have h2:¬ i<t.length:=fun h=>by
    have:Nat.blt i t.length=true:=Nat.ble_eq_true_of_le h
    rw [this] at hc; cases hc
   rw [if_neg h2,← List.getD_eq_getElem?_getD]
   show encM (u.getD (i-t.length) default)=encM (u.getD (0+(i-t.length)) default)
   rw [Nat.zero_add]
 |false =>
  have h2:¬ i<t.length+u.length:=fun h=>by
   have:Nat.blt i (t.length+u.length)=true:=Nat.ble_eq_true_of_le h
   rw [this] at hb; cases hb
  have:i=t.length+u.length:=by omega
  subst this
  rw [if_neg (by omega)]
  simp [encM]
theorem F200a {f:Nat} (hF:GG 187 (C208 f)):GG 165 (C200a f):=by
 refine fitG [] (by simp) [(186,C207),(187,C208 f)] (by simp only [List.mem_cons,List.not_mem_nil,or_false]; rintro _ (rfl|rfl) <;> first|exact F207|exact hF) Tryz.f165 ⟨rfl,by decide +kernel,by decide +kernel⟩ (fun _ _ _ hk h=>rpost_mono hk h) ?_
 rintro ⟨s,a⟩ K ⟨⟨h1,h2⟩,h3⟩ h
 refine ⟨Nat.le_of_ble_eq_true rfl,?_⟩
 dsimp only at h h1 h2 h3 ⊢
 unfold bothP joinP at h
 repeat' (first|refine vz ?_|(conv=>whnf); first|with_reducible first|refine Sp.mk ?_ ?_|refine br_d (fun _=>?_) fun _=>?_|refine vM (fun _=>?_) fun _=>?_)
 refine ⟨_,_,[0],[],rfl,?_,?_,⟨s,a⟩,rfl,rfl,⟨⟨h1,h2⟩,h3⟩,?_⟩
 ·exact wq
 ·exact wq
 refine And.intro (fun e a' g1 g2=>?_) (fun t u e a' g1 g2 g3=>?_)
 ·dsimp only at e g1 g2
  rw [e] at h
  repeat' (first|refine vz ?_|(conv=>whnf); first|with_reducible first|refine Sp.mk ?_ ?_|refine br_d (fun _=>?_) fun _=>?_|refine vM (fun _=>?_) fun _=>?_)
  refine Lp.mk ⟨Unit,fun _=>[(0,.ptr 0 0),(9,.nils)],fun _=>[trO s a'],fun _=>True,fun _=>0,⟨(),trivial,⟨⟨[some 0],[],rfl,rfl,?_,?_⟩⟩⟩,?_⟩
  ·exact wq
  ·exact wq
  rintro - -
  repeat' (first|refine vz ?_|(conv=>whnf); first|with_reducible first|refine Sp.mk ?_ ?_|refine br_d (fun _=>?_) fun _=>?_|refine vM (fun _=>?_) fun _=>?_)
  refine ⟨_,_,[some 0],[],rfl,rfl,?_,?_,h.1 rfl a' g1 g2⟩
  ·exact wq
  ·exact wq
 ·dsimp only at e g1 g2 g3
  rw [e] at h
  replace h:rpost s a (loopF ( (partF 49 f)) 38 1 u.length t u) K:=h
  have ht:=partF_fair 49 f _ _ _ e
  rw [rem_len] at ht
  generalize hR:loopF ( (partF 49 f)) 38 1 u.length t u=R at h
  rw [← g3] at hR ht
  repeat' (first|refine vz ?_|(conv=>whnf); first|with_reducible first|refine Sp.mk ?_ ?_|refine br_d (fun _=>?_) fun _=>?_|refine vM (fun _=>?_) fun _=>?_)
  refine Lp.mk ⟨Nat × List Mark × Nat,fun x=>[(0,.ptr 0 0),(1,.fn 187 [.ptr 0 0] []),(2,.int .u8 38),(3,.int .i64 1),(9,.row 1 3 0 x.2.1.length)],fun x=>[trO s x.2.2,.row 3 x.2.1.length fun i=>encM (x.2.1.getD i default)],
   fun x=>a≤x.2.2∧x.2.2≤s.size∧s.size-x.2.2≤x.1∧1≤x.2.1.length∧x.2.1.length+(s.size-x.2.2)≤s.size-a∧loopF ( (partF 49 f)) 38 1 x.1 x.2.1 (rem s x.2.2)=R,fun x=>s.size-x.2.2,⟨((rem s a').length,t,a'),⟨g1,g2,by dsimp only; rw [rem_len]; exact Nat.le_refl _,ht.1,by dsimp only; have:=ht.2; rw [rem_len] at this; exact this,hR⟩,⟨⟨[some 0,some 1],[],rfl,rfl,?_,?_⟩⟩⟩,?_⟩
  ·exact wq
  ·exact wq
  rintro ⟨k,t,b⟩ ⟨i1,i2,i3,i4,i5,i6⟩
  dsimp only at i1 i2 i3 i4 i5 i6 ⊢
  have hpk:=pk_u8 s b
  have hrem:=pk_rem s b i2
  repeat' (first|refine vz ?_|(conv=>whnf); first|with_reducible first|refine Sp.mk ?_ ?_|refine br_d (fun _=>?_) fun _=>?_|refine vM (fun _=>?_) fun _=>?_)
  refine ⟨_,_,[0],[],rfl,?_,?_,⟨s,b⟩,rfl,rfl,⟨i2,h2⟩,?_⟩
  ·exact wq
  ·exact wq
  dsimp only
  repeat' (first|refine vz ?_|(conv=>whnf); first|with_reducible first|refine Sp.mk ?_ ?_|refine br_d (fun _=>?_) fun _=>?_|refine vM (fun _=>?_) fun _=>?_)
  ·rename_i es
   have hlt:b<s.size:=by omega
   have hr:rem s b=38 :: rem s (b+1):=by
    rcases hrem with g|g
    ·omega
    ·rw [← es]; exact g.2.2
   obtain ⟨k,rfl⟩:∃ k',k=k'+1:=⟨k-1,by omega⟩
   rw [hr,loopF_step] at i6
   refine ⟨_,_,[0],[],rfl,?_,?_,⟨s,b+1⟩,rfl,rfl,⟨⟨by dsimp only; omega,h2⟩,by dsimp only; omega⟩,?_⟩
   ·exact wq
   ·exact wq
   refine And.intro (fun e2 b' g4 g5=>?_) (fun t2 u2 e2 b' g4 g5 g6=>?_)
   ·dsimp only at e2 g4 g5
    rw [e2] at i6
    repeat' (first|refine vz ?_|(conv=>whnf); first|with_reducible first|refine Sp.mk ?_ ?_|refine br_d (fun _=>?_) fun _=>?_|refine vM (fun _=>?_) fun _=>?_)
    refine ⟨_,_,[some 0],[],rfl,rfl,?_,?_,h.1 i6.symm b' (by omega) g5⟩
    ·exact wq
    ·exact wq
   ·dsimp only at e2 g4 g5 g6
    rw [e2] at i6
    replace i6:loopF ( (partF 49 f)) 38 1 k (t ++ t2 ++ [⟨1,0,0⟩]) u2=R:=i6
    have ht2:=partF_fair 49 f _ _ _ e2
    rw [← g6,rem_len,rem_len] at ht2
    repeat' (first|refine vz ?_|(conv=>whnf); first|with_reducible first|refine Sp.mk ?_ ?_|refine br_d (fun _=>?_) fun _=>?_|refine vM (fun _=>?_) fun _=>?_)
    refine ⟨(k,t ++ t2 ++ [⟨1,0,0⟩],b'),⟨by dsimp only; omega,g5,by dsimp only; omega,by dsimp only; rw [(app3_ext _ rfl).1]; omega,by dsimp only; rw [(app3_ext _ rfl).1]; omega,by dsimp only; rw [g6]; exact i6⟩,by dsimp only; omega,⟨⟨[some 0,some 5],[],rfl,rfl,?_,?_⟩⟩⟩
    ·repeat' ((conv=>whnf); first|with_reducible exact True.intro|exact vW|with_reducible refine And.intro ?_ ?_)
     all_goals exact Chk.mk ⟨rfl,(app3_ext _ rfl).1⟩
    ·repeat' ((conv=>whnf); first|with_reducible exact True.intro|exact vW|with_reducible refine And.intro ?_ ?_)
     all_goals exact Chk.mk (app3_ext _ rfl)
  ·rename_i es
   have hn:R=some (t,rem s b):=by
    rw [← i6,loopF_stop]
    rcases hrem with g|g
    ·rw [g.2.2]; simp
    ·rw [g.2.2]
     intro q
     injection q with q
     exact es q
   refine ⟨_,_,[some 0,some 1],[],rfl,rfl,?_,?_,h.2 _ _ hn b i1 i2 rfl⟩
   ·exact wq
   ·exact wq
theorem F200b {f:Nat} (hF:GG 166 (C201 f)):GG 165 (C200b f):=by
 refine fitG [] (by simp) [(186,C207),(166,C201 f)] (by simp only [List.mem_cons,List.not_mem_nil,or_false]; rintro _ (rfl|rfl) <;> first|exact F207|exact hF) Tryz.f165 ⟨rfl,by decide +kernel,by decide +kernel⟩ (fun _ _ _ hk h=>rpost_mono hk h) ?_
 rintro ⟨s,a⟩ K ⟨⟨h1,h2⟩,h3⟩ h
 refine ⟨Nat.le_of_ble_eq_true rfl,?_⟩
 dsimp only at h h1 h2 h3 ⊢
 unfold eitherP joinP at h
 repeat' (first|refine vz ?_|(conv=>whnf); first|with_reducible first|refine Sp.mk ?_ ?_|refine br_d (fun _=>?_) fun _=>?_|refine vM (fun _=>?_) fun _=>?_)
 refine ⟨_,_,[0],[],rfl,?_,?_,⟨s,a⟩,rfl,rfl,⟨⟨h1,h2⟩,h3⟩,?_⟩
 ·exact wq
 ·exact wq
 refine And.intro (fun e a' g1 g2=>?_) (fun t u e a' g1 g2 g3=>?_)
 ·dsimp only at e g1 g2
  rw [e] at h
  repeat' (first|refine vz ?_|(conv=>whnf); first|with_reducible first|refine Sp.mk ?_ ?_|refine br_d (fun _=>?_) fun _=>?_|refine vM (fun _=>?_) fun _=>?_)
  refine Lp.mk ⟨Unit,fun _=>[(0,.ptr 0 0),(9,.nils)],fun _=>[trO s a'],fun _=>True,fun _=>0,⟨(),trivial,⟨⟨[some 0],[],rfl,rfl,?_,?_⟩⟩⟩,?_⟩
  ·exact wq
  ·exact wq
  rintro - -
  repeat' (first|refine vz ?_|(conv=>whnf); first|with_reducible first|refine Sp.mk ?_ ?_|refine br_d (fun _=>?_) fun _=>?_|refine vM (fun _=>?_) fun _=>?_)
  refine ⟨_,_,[some 0],[],rfl,rfl,?_,?_,h.1 rfl a' g1 g2⟩
  ·exact wq
  ·exact wq
 ·dsimp only at e g1 g2 g3
  rw [e] at h
  replace h:rpost s a (loopF (bothP (partF 49 f)) 124 2 u.length t u) K:=h
  have ht:=bothP_fair 49 f _ _ _ e
  rw [rem_len] at ht
  generalize hR:loopF (bothP (partF 49 f)) 124 2 u.length t u=R at h
  rw [← g3] at hR ht
  repeat' (first|refine vz ?_|(conv=>whnf); first|with_reducible first|refine Sp.mk ?_ ?_|refine br_d (fun _=>?_) fun _=>?_|refine vM (fun _=>?_) fun _=>?_)
  refine Lp.mk ⟨Nat × List Mark × Nat,fun x=>[(0,.ptr 0 0),(1,.fn 166 [.ptr 0 0] []),(2,.int .u8 124),(3,.int .i64 2),(9,.row 1 3 0 x.2.1.length)],fun x=>[trO s x.2.2,.row 3 x.2.1.length fun i=>encM (x.2.1.getD i default)],
   fun x=>a≤x.2.2∧x.2.2≤s.size∧s.size-x.2.2≤x.1∧1≤x.2.1.length∧x.2.1.length+(s.size-x.2.2)≤s.size-a∧loopF (bothP (partF 49 f)) 124 2 x.1 x.2.1 (rem s x.2.2)=R,fun x=>s.size-x.2.2,⟨((rem s a').length,t,a'),⟨g1,g2,by dsimp only; rw [rem_len]; exact Nat.le_refl _,ht.1,by dsimp only; have:=ht.2; rw [rem_len] at this; exact this,hR⟩,⟨⟨[some 0,some 1],[],rfl,rfl,?_,?_⟩⟩⟩,?_⟩
  ·exact wq
  ·exact wq
  rintro ⟨k,t,b⟩ ⟨i1,i2,i3,i4,i5,i6⟩
  dsimp only at i1 i2 i3 i4 i5 i6 ⊢
  have hpk:=pk_u8 s b
  have hrem:=pk_rem s b i2
  repeat' (first|refine vz ?_|(conv=>whnf); first|with_reducible first|refine Sp.mk ?_ ?_|refine br_d (fun _=>?_) fun _=>?_|refine vM (fun _=>?_) fun _=>?_)
  refine ⟨_,_,[0],[],rfl,?_,?_,⟨s,b⟩,rfl,rfl,⟨i2,h2⟩,?_⟩
  ·exact wq
  ·exact wq
  dsimp only
  repeat' (first|refine vz ?_|(conv=>whnf); first|with_reducible first|refine Sp.mk ?_ ?_|refine br_d (fun _=>?_) fun _=>?_|refine vM (fun _=>?_) fun _=>?_)
  ·rename_i es
   have hlt:b<s.size:=by omega
   have hr:rem s b=124 :: rem s (b+1):=by
    rcases hrem with g|g
    ·omega
    ·rw [← es]; exact g.2.2
   obtain ⟨k,rfl⟩:∃ k',k=k'+1:=⟨k-1,by omega⟩
   rw [hr,loopF_step] at i6
   refine ⟨_,_,[0],[],rfl,?_,?_,⟨s,b+1⟩,rfl,rfl,⟨⟨by dsimp only; omega,h2⟩,by dsimp only; omega⟩,?_⟩
   ·exact wq
   ·exact wq
   refine And.intro (fun e2 b' g4 g5=>?_) (fun t2 u2 e2 b' g4 g5 g6=>?_)
   ·dsimp only at e2 g4 g5
    rw [e2] at i6
    repeat' (first|refine vz ?_|(conv=>whnf); first|with_reducible first|refine Sp.mk ?_ ?_|refine br_d (fun _=>?_) fun _=>?_|refine vM (fun _=>?_) fun _=>?_)
    refine ⟨_,_,[some 0],[],rfl,rfl,?_,?_,h.1 i6.symm b' (by omega) g5⟩
    ·exact wq
    ·exact wq
   ·dsimp only at e2 g4 g5 g6
    rw [e2] at i6
    replace i6:loopF (bothP (partF 49 f)) 124 2 k (t ++ t2 ++ [⟨2,0,0⟩]) u2=R:=i6
    have ht2:=bothP_fair 49 f _ _ _ e2
    rw [← g6,rem_len,rem_len] at ht2
    repeat' (first|refine vz ?_|(conv=>whnf); first|with_reducible first|refine Sp.mk ?_ ?_|refine br_d (fun _=>?_) fun _=>?_|refine vM (fun _=>?_) fun _=>?_)
    refine ⟨(k,t ++ t2 ++ [⟨2,0,0⟩],b'),⟨by dsimp only; omega,g5,by dsimp only; omega,by dsimp only; rw [(app3_ext _ rfl).1]; omega,by dsimp only; rw [(app3_ext _ rfl).1]; omega,by dsimp only; rw [g6]; exact i6⟩,by dsimp only; omega,⟨⟨[some 0,some 5],[],rfl,rfl,?_,?_⟩⟩⟩
    ·repeat' ((conv=>whnf); first|with_reducible exact True.intro|exact vW|with_reducible refine And.intro ?_ ?_)
     all_goals exact Chk.mk ⟨rfl,(app3_ext _ rfl).1⟩
    ·repeat' ((conv=>whnf); first|with_reducible exact True.intro|exact vW|with_reducible refine And.intro ?_ ?_)
     all_goals exact Chk.mk (app3_ext _ rfl)
  ·rename_i es
   have hn:R=some (t,rem s b):=by
    rw [← i6,loopF_stop]
    rcases hrem with g|g
    ·rw [g.2.2]; simp
    ·rw [g.2.2]
     intro q
     injection q with q
     exact es q
   refine ⟨_,_,[some 0,some 1],[],rfl,rfl,?_,?_,h.2 _ _ hn b i1 i2 rfl⟩
   ·exact wq
   ·exact wq
theorem F201 {f:Nat} (hF:GG 187 (C208 f)):GG 166 (C201 f):=by
 refine fitG [] (by simp) [(165,C200a f)] (by simp only [List.mem_cons,List.not_mem_nil,or_false]; rintro _ rfl; exact F200a hF) Tryz.f166 ⟨rfl,by decide +kernel,by decide +kernel⟩ (fun _ _ _ hk h=>rpost_mono hk h) ?_
 rintro ⟨s,a⟩ K ⟨⟨h1,h2⟩,h3⟩ h
 refine ⟨Nat.le_of_ble_eq_true rfl,?_⟩
 dsimp only at h h1 h2 h3 ⊢
 repeat' (first|refine vz ?_|(conv=>whnf); first|with_reducible first|refine Sp.mk ?_ ?_|refine br_d (fun _=>?_) fun _=>?_|refine vM (fun _=>?_) fun _=>?_)
 refine ⟨_,_,[0],[],rfl,?_,?_,⟨s,a⟩,rfl,rfl,⟨⟨h1,h2⟩,h3⟩,?_⟩
 ·exact wq
 ·exact wq
 refine And.intro (fun e a' g1 g2=>?_) (fun t u e a' g1 g2 g3=>?_)
 ·dsimp only at e g1 g2
  rw [e] at h
  repeat' (first|refine vz ?_|(conv=>whnf); first|with_reducible first|refine Sp.mk ?_ ?_|refine br_d (fun _=>?_) fun _=>?_|refine vM (fun _=>?_) fun _=>?_)
  refine ⟨_,_,[some 0],[],rfl,rfl,?_,?_,h.1 rfl a' g1 g2⟩
  ·exact wq
  ·exact wq
 ·dsimp only at e g1 g2 g3
  rw [e] at h
  repeat' (first|refine vz ?_|(conv=>whnf); first|with_reducible first|refine Sp.mk ?_ ?_|refine br_d (fun _=>?_) fun _=>?_|refine vM (fun _=>?_) fun _=>?_)
  refine ⟨_,_,[some 0,some 1],[],rfl,rfl,?_,?_,h.2 _ _ rfl a' g1 g2 g3⟩
  ·exact wq
  ·exact wq
theorem F191 {f:Nat} (hF:GG 187 (C208 f)):GG 142 (C191 f):=by
 refine fitG [] (by simp) [(165,C200b f)] (by simp only [List.mem_cons,List.not_mem_nil,or_false]; rintro _ rfl; exact F200b (F201 hF)) Tryz.f142 ⟨rfl,by decide +kernel,by decide +kernel⟩ (fun _ _ _ hk h=>rpost_mono hk h) ?_
 rintro ⟨s,a⟩ K ⟨⟨h1,h2⟩,h3⟩ h
 refine ⟨Nat.le_of_ble_eq_true rfl,?_⟩
 dsimp only at h h1 h2 h3 ⊢
 repeat' (first|refine vz ?_|(conv=>whnf); first|with_reducible first|refine Sp.mk ?_ ?_|refine br_d (fun _=>?_) fun _=>?_|refine vM (fun _=>?_) fun _=>?_)
 refine ⟨_,_,[0],[],rfl,?_,?_,⟨s,a⟩,rfl,rfl,⟨⟨h1,h2⟩,h3⟩,?_⟩
 ·exact wq
 ·exact wq
 refine And.intro (fun e a' g1 g2=>?_) (fun t u e a' g1 g2 g3=>?_)
 ·dsimp only at e g1 g2
  rw [e] at h
  repeat' (first|refine vz ?_|(conv=>whnf); first|with_reducible first|refine Sp.mk ?_ ?_|refine br_d (fun _=>?_) fun _=>?_|refine vM (fun _=>?_) fun _=>?_)
  refine ⟨_,_,[some 0],[],rfl,rfl,?_,?_,h.1 rfl a' g1 g2⟩
  ·exact wq
  ·exact wq
 ·dsimp only at e g1 g2 g3
  rw [e] at h
  repeat' (first|refine vz ?_|(conv=>whnf); first|with_reducible first|refine Sp.mk ?_ ?_|refine br_d (fun _=>?_) fun _=>?_|refine vM (fun _=>?_) fun _=>?_)
  refine ⟨_,_,[some 0,some 1],[],rfl,rfl,?_,?_,h.2 _ _ rfl a' g1 g2 g3⟩
  ·exact wq
  ·exact wq
theorem F208:∀ f,GG 187 (C208 f)
 |0=>F208z
 |f+1=>F208s (F191 (F208 f))
end Go.Proofs.YtgdbhjmpkkbnnaaGreatDoor.Vc
end
section
/- Part EX: lists that are appended to. -/
namespace Go.Proofs.YtgdbhjmpkkbnnaaGreatDoor.Vc
structure Lt (T:Prop):Prop where
 t:T
theorem later {T G:Prop} (m:Lt T→G) (t:T):G:=m ⟨t⟩
section
variable {α:Type} {enc:α→List AV} {d:α} {l m:List α}
theorem blt_t {i n:Nat} (h:Nat.blt i n=true):i<n:=Nat.le_of_ble_eq_true h
theorem blt_f {i n:Nat} (h:Nat.blt i n=false):¬ i<n:=fun h'=>by
 have:Nat.blt i n=true:=Nat.ble_eq_true_of_le h'
 rw [this] at h; cases h
theorem ext_app {n:Nat} {g:Nat→List AV} (hn:n≤l.length) (hg:∀ j,j<m.length→g j=enc (m.getD j d)):(l.take n ++ m).length=n+m.length∧∀ j,j<(l.take n ++ m).length→enc ((l.take n ++ m).getD j d)=appF n (fun j=>enc (l.getD j d)) g j:=by
 have e:(l.take n).length=n:=by rw [List.length_take]; omega
 refine ⟨by rw [List.length_append,e],fun j hj=>?_⟩
 rw [List.length_append,e] at hj
 unfold appF
 rw [List.getD_eq_getElem?_getD,List.getElem?_append,e]
 cases hb:Nat.blt j n with
 |true =>
  have h1:=blt_t hb
  rw [if_pos h1,List.getElem?_take_of_lt h1,← List.getD_eq_getElem?_getD]
  rfl
 |false =>
  have h1:=blt_f hb
  rw [if_neg h1,← List.getD_eq_getElem?_getD,cond_false,hg _ (by omega)]
theorem ext_snoc {n:Nat} {x:α} {g:Nat→List AV} (hn:n≤l.length) (hg:g 0=enc x):(l.take n ++ [x]).length=n+1∧∀ j,j<(l.take n ++ [x]).length→enc ((l.take n ++ [x]).getD j d)=appF n (fun j=>enc (l.getD j d)) g j :=
 ext_app (m:=[x]) hn fun j hj=>by
  have:j=0:=by simpa using hj
  subst this
  exact hg
theorem ext_snoc' {n k:Nat} {x:α} {g:Nat→List AV} (hnk:n=k) (hn:k≤l.length) (hg:g 0=enc x):(l.take k ++ [x]).length=n+1∧∀ j,j<(l.take k ++ [x]).length→enc ((l.take k ++ [x]).getD j d)=appF n (fun j=>enc (l.getD j d)) g j:=by
 subst hnk
 exact ext_snoc hn hg
theorem ext_push {x:α} {g:Nat→List AV} (hg:g 0=enc x):(l ++ [x]).length=l.length+1∧∀ j,j<(l ++ [x]).length→enc ((l ++ [x]).getD j d)=appF l.length (fun j=>enc (l.getD j d)) g j:=by
 have:=ext_snoc (enc:=enc) (d:=d) (l:=l) (n:=l.length) (x:=x) (g:=g) (Nat.le_refl _) hg
 rwa [List.take_length] at this
end
end Go.Proofs.YtgdbhjmpkkbnnaaGreatDoor.Vc
end
