import Derived.Test.YtbcdaaobbebooaaGreatDoorMgf
import Derived.Test.YtbcdaaobbebooaaGreatDoorMgg
import Derived.WalkMore
set_option linter.unusedSimpArgs false
set_option linter.unusedVariables false
set_option maxRecDepth 100000
set_option maxHeartbeats 20000000
namespace Go.Proofs.YtbcdaaobbebooaaGreatDoor
open Go.RowKit Go.Tab
theorem FF(s:ByteArray)(w:World)(hT:vY w)(hs:s.size<=1048576) :
  Calls Tryz.prog 153 #[.string s] w fun e w'=>e=.returned (dJ (decR s.data.toList))/\Below w.heap.size w w':=by
 by_cases h:df s.data.toList=s.data.toList.length/\s.data.toList≠[]
 ·obtain⟨Aa,ip,fr,mk,sg,pw,hn⟩:=qV _ h.1 h.2
  rw[hn.decR];exact FE s Aa ip fr mk sg pw w hT hs hn
 ·have h2:s.data.toList=[]\/df s.data.toList≠s.size:=by
   rw[au]
   by_cases h3:s.data.toList=[]
   ·exact .inl h3
   ·exact .inr (fun e=>h ⟨e,h3⟩)
  rw[show decR s.data.toList=((false,[],0),3) by unfold decR;rw[if_neg h]];exact Jm s w hT hs h2
def xR:LR->Value
 |.tok k n=>.tuple #[.int .i64 (k:Nat),.int .i64 (n:Nat),.int .i64 0,.int .i64 0]
 |.bad o e=>.tuple #[.int .i64 0,.int .i64 0,.int .i64 (o:Nat),.int .i64 e]
theorem nW(s:ByteArray)(k:Nat):(s.extract 0 k).data.toList=s.data.toList.take k:=by rw[fe,List.drop_zero]
theorem kQ{s:ByteArray}{k:Nat}(h:k<=s.size):(s.extract 0 k).size=k:=by rw[au,nW,List.length_take,<-au];omega
theorem DD(s:ByteArray)(w:World)(hT:jf w)(hs:s.size<=1048576) :
  Calls Tryz.prog 125 #[.string s] w fun e w'=>e=.returned (xR (pQ s.data.toList))/\Below w.heap.size w w':=by
 have hS:=yJ s w hT.steps (by unfold maxLen;omega);have Ab:=pm s.data.toList;rw[<-au] at Ab;have hP:=fun W h=>FF (s.extract 0 (df s.data.toList)) W h (by rw[kQ Ab];omega);rw[nW] at hP;unfold pQ MS;generalize df s.data.toList=k at *;obtain⟨⟨⟨b,d,x⟩,z⟩,hR⟩:∃r,decR (s.data.toList.take k)=r:=⟨_,rfl⟩;rw[hR] at hP ⊢;simp only[dJ] at hP;clear hR;generalize s.data.toList.take k=tk at *
 by_cases hz:z=0
 ·subst hz
  rw[if_pos rfl];simp only[xR];go_enter Tryz.func125,Tryz.ntmps125;go_wp2_with fail;refine hS.mono ?_;rintro _ _ ⟨rfl,n,rfl⟩;have Aa:vY (w.drewN n):=hT.steps;go_wp2_with fail;refine (hP _ Aa).mono ?_;rintro _ w2 ⟨rfl,hb2⟩;go_wp2;refine bodyPost_ret (v:=.tuple #[.int .i64 2,.int .i64 (k:Nat),.int .i64 0,.int .i64 0]) (by simp[results,Tryz.results125,go_sem]) rfl ⟨rfl,((bV w.heap.size w n).trans hb2).alloc hb2.size _⟩
 ·have Ac:(z != 0)=true:=by simpa using hz
  rw[if_neg hz];simp only[xR];clear hz;go_enter Tryz.func125,Tryz.ntmps125;go_wp2_with fail;refine hS.mono ?_;rintro _ _ ⟨rfl,n,rfl⟩;have Aa:vY (w.drewN n):=hT.steps;go_wp2_with fail;refine (hP _ Aa).mono ?_;rintro _ w2 ⟨rfl,hb2⟩;go_wp2;refine bodyPost_ret (v:=.tuple #[.int .i64 0,.int .i64 0,.int .i64 0,.int .i64 z]) (by simp[results,Tryz.results125,go_sem]) rfl ⟨rfl,((bV w.heap.size w n).trans hb2).alloc hb2.size _⟩
theorem vM:∀l:Bs,(Lib.indexByte l 10 = -1/\dz l=l.length)\/Lib.indexByte l 10=(dz l:Nat)
 |[]=>.inl ⟨rfl,rfl⟩
 | c::l=>by
  unfold Lib.indexByte dz
  by_cases h:c=10
  ·subst h;right;rfl
  ·rw[if_neg (by simpa using h),if_neg h]
   rcases vM l with ⟨h1,h2⟩|h1
   ·left;rw[h1];exact⟨rfl,by rw[h2];simp⟩
   ·right;rw[h1,if_neg (by simp)];rfl
theorem lN{l:Bs}{k:Nat}(h:wM l=none):iX l k=.tok k l.length:=by unfold iX;rw[h]
theorem kw{l:Bs}{k:Nat}{x:Nat×Int}(h:wM l=some x):iX l k=.bad x.1 x.2:=by unfold iX;rw[h]
theorem wm{l:Bs}{x:Nat×Int}(h:wM l=some x):(x.2 != 0)=true:=by
 unfold wM at h;split at h
 ·cases h;rfl
 ·split at h
  ·cases h;rfl
  ·cases h
theorem ut:∀(j:Nat) b,(⟨#[32,9,13]⟩:ByteArray).data.toList[j]?=some b->b.toNat<128:=by
 intro j b h;have hm:b∈([32,9,13]:List UInt8):=List.mem_of_getElem? h;simp at hm
 rcases hm with rfl|rfl|rfl<;>decide
theorem Eu(s:ByteArray)(w:World)(hT:jf w)(hs:s.size<=1048576) :
  Calls Tryz.prog 128 #[.string s] w fun e w'=>e=.returned (xR (iX (iA s.data.toList) 6))/\Below w.heap.size w w':=by
 have hI:=fun W=>Tryz.strings_IndexByte s 10 W;rw[show ((10:Int).toNat.toUInt8)=10 from rfl] at hI;have Ae:=pR s.data.toList;rw[<-au] at Ae;rcases vM s.data.toList with ⟨h1,h2⟩|h1
 ·rw[h1] at hI
  have Ab:=fun W=>Any.strings_TrimRight_laid Tryz.lays162 (by kernel_rfl) s ⟨#[32,9,13]⟩ W (by omega) (by decide) ut
  have he:Lib.trimRightS s.data.toList (⟨#[32,9,13]⟩:ByteArray).data.toList=iA s.data.toList:=by
   unfold iA;rw[h2,List.take_length];rfl
  rw[he] at Ab;clear he h1 h2 Ae;have hW:=ru (av (iA s.data.toList));have Af:=sO s.data.toList;rw[bi] at hW;have Ac:(av (iA s.data.toList)).size=(iA s.data.toList).length:=aU _;rw[<-au] at Af;change ∀W,Calls Tryz.prog 159 #[.string s,.string ⟨#[32,9,13]⟩] W fun e w'=>e=.returned (.string (av (iA s.data.toList)))/\Below W.heap.size W w' at Ab;generalize hrs:iA s.data.toList=rs at *;generalize hS:av rs=S at *;clear hrs hS;have Aa:=fun w h=>hW w (by omega) h;clear hW
  cases hw:wM rs with
  |none=>
   rw[lN hw];rw[hw] at Aa;simp only[xR,uB] at Aa ⊢;have Ad:=Hh Ac;clear Ac;go_enter Tryz.func128,Tryz.ntmps128;go_wp2_with fail;refine (hI _).mono ?_;rintro _ _ ⟨rfl,rfl⟩;go_wp2_with fail;refine (Ab _).mono ?_;rintro _ w1 ⟨rfl,hb1⟩;go_wp2_with fail;refine (Aa _ (hT.below hb1).utf).mono ?_;rintro _ w2 ⟨rfl,hb2⟩;go_wp2;refine bodyPost_ret (v:=.tuple #[.int .i64 6,.int .i64 (rs.length:Nat),.int .i64 0,.int .i64 0]) (by simp[results,Tryz.results128,go_sem,Ad.out]) rfl ⟨rfl,hb1.trans (hb2.mono hb1.size)⟩
  |some x=>
   rw[kw hw];rw[hw] at Aa;have Ag:=wm hw;obtain⟨xa,xe⟩:=x;simp only[xR,uB] at Aa Ag ⊢;go_enter Tryz.func128,Tryz.ntmps128;go_wp2_with fail;refine (hI _).mono ?_;rintro _ _ ⟨rfl,rfl⟩;go_wp2_with fail;refine (Ab _).mono ?_;rintro _ w1 ⟨rfl,hb1⟩;go_wp2_with fail;refine (Aa _ (hT.below hb1).utf).mono ?_;rintro _ w2 ⟨rfl,hb2⟩;go_wp2;refine bodyPost_ret (v:=.tuple #[.int .i64 0,.int .i64 0,.int .i64 (xa:Nat),.int .i64 xe]) (by simp[results,Tryz.results128,go_sem]) rfl ⟨rfl,hb1.trans (hb2.mono hb1.size)⟩
 ·rw[h1] at hI
  have Ab:=fun W=>Any.strings_TrimRight_laid Tryz.lays162 (by kernel_rfl) (s.extract 0 (dz s.data.toList)) ⟨#[32,9,13]⟩ W (by rw[kQ Ae];omega) (by decide) ut
  have he:Lib.trimRightS (s.extract 0 (dz s.data.toList)).data.toList (⟨#[32,9,13]⟩:ByteArray).data.toList=iA s.data.toList:=by
   unfold iA;rw[nW];rfl
  rw[he] at Ab;clear he h1;generalize dz s.data.toList=ln at *;have hW:=ru (av (iA s.data.toList));have Af:=sO s.data.toList;rw[bi] at hW;have Ac:(av (iA s.data.toList)).size=(iA s.data.toList).length:=aU _;rw[<-au] at Af;change ∀W,Calls Tryz.prog 159 #[.string (s.extract 0 ln),.string ⟨#[32,9,13]⟩] W fun e w'=>e=.returned (.string (av (iA s.data.toList)))/\Below W.heap.size W w' at Ab;generalize hrs:iA s.data.toList=rs at *;generalize hS:av rs=S at *;clear hrs hS;have Aa:=fun w h=>hW w (by omega) h;clear hW
  cases hw:wM rs with
  |none=>
   rw[lN hw];rw[hw] at Aa;simp only[xR,uB] at Aa ⊢;have Ad:=Hh Ac;clear Ac;go_enter Tryz.func128,Tryz.ntmps128;go_wp2_with fail;refine (hI _).mono ?_;rintro _ _ ⟨rfl,rfl⟩;go_wp2_with fail;refine (Ab _).mono ?_;rintro _ w1 ⟨rfl,hb1⟩;go_wp2_with fail;refine (Aa _ (hT.below hb1).utf).mono ?_;rintro _ w2 ⟨rfl,hb2⟩;go_wp2;refine bodyPost_ret (v:=.tuple #[.int .i64 6,.int .i64 (rs.length:Nat),.int .i64 0,.int .i64 0]) (by simp[results,Tryz.results128,go_sem,Ad.out]) rfl ⟨rfl,hb1.trans (hb2.mono hb1.size)⟩
  |some x=>
   rw[kw hw];rw[hw] at Aa;have Ag:=wm hw;obtain⟨xa,xe⟩:=x;simp only[xR,uB] at Aa Ag ⊢;go_enter Tryz.func128,Tryz.ntmps128;go_wp2_with fail;refine (hI _).mono ?_;rintro _ _ ⟨rfl,rfl⟩;go_wp2_with fail;refine (Ab _).mono ?_;rintro _ w1 ⟨rfl,hb1⟩;go_wp2_with fail;refine (Aa _ (hT.below hb1).utf).mono ?_;rintro _ w2 ⟨rfl,hb2⟩;go_wp2;refine bodyPost_ret (v:=.tuple #[.int .i64 0,.int .i64 0,.int .i64 (xa:Nat),.int .i64 xe]) (by simp[results,Tryz.results128,go_sem]) rfl ⟨rfl,hb1.trans (hb2.mono hb1.size)⟩
theorem yA:∀l:Bs,(Lib.index l [42,47] = -1/\gQ l=none)\/∃n:Nat,Lib.index l [42,47]=n/\gQ l=some n
 |[]=>.inl ⟨rfl,rfl⟩
 | c::l=>by
  unfold Lib.index gQ
  have hp:([42,47]:Bs).isPrefixOf (c::l)=decide (c=42/\l.head?=some 47):=by
   cases l with
   |nil=>simp[List.isPrefixOf]
   |cons d l=>
    simp only[List.isPrefixOf,List.head?_cons,Option.some.injEq,Bool.and_true]
    by_cases h1:c=42
    ·by_cases h2:d=47
     ·subst h1 h2;rfl
     ·subst h1
      have:(47==d)=false:=by simpa using fun e:(47:UInt8)=d=>h2 e.symm
      simp[this,h2]
    ·have:(42==c)=false:=by simpa using fun e:(42:UInt8)=c=>h1 e.symm
     simp[this,h1]
  rw[hp]
  by_cases h:c=42/\l.head?=some 47
  ·rw[if_pos (by simpa using h),if_pos h]
   exact .inr ⟨0,rfl,rfl⟩
  ·rw[if_neg (by simpa using h),if_neg h]
   rcases yA l with ⟨h1,h2⟩|⟨n,h1,h2⟩
   ·left;rw[h1,h2];exact⟨by simp,rfl⟩
   ·right;rw[h1,h2];exact⟨n+1,by rw[if_neg (by simp)];rfl,rfl⟩
theorem uh(s:ByteArray)(k:Nat):(s.extract k s.size).data.toList=s.data.toList.drop k:=by rw[fe,au,List.take_length]
theorem Jg(s:ByteArray)(w:World)(hT:jf w)(hs:s.size<=1048576)(h2:2<=s.size) :
  Calls Tryz.prog 129 #[.string s] w fun e w'=>e=.returned (xR (fB s.data.toList))/\Below w.heap.size w w':=by
 obtain⟨m,hm⟩:=hT.mlen;have hI:=Tryz.strings_Index (s.extract 2 s.size) ⟨#[42,47]⟩ m w (by rw[ByteArray.size_extract];omega) hm;rw[uh] at hI;unfold fB;rcases yA (s.data.toList.drop 2) with ⟨h3,h4⟩|⟨n,h3,h4⟩
 ·rw[h4]
  simp only[xR];change Calls _ _ _ _ fun e w'=>e=.returned (.int .i64 (Lib.index (s.data.toList.drop 2) [42,47]))/\w'=w at hI;rw[h3] at hI;clear h3 h4 hm;go_enter Tryz.func129,Tryz.ntmps129;go_wp2_with fail;refine hI.mono ?_;rintro _ _ ⟨rfl,rfl⟩;go_wp2;refine bodyPost_ret (v:=.tuple #[.int .i64 0,.int .i64 0,.int .i64 0,.int .i64 2]) (by simp[results,Tryz.results129,go_sem]) rfl ⟨rfl,Below.refl _ _⟩
 ·have Ac:=wH _ _ h4
  rw[List.length_drop,<-au] at Ac;rw[h4];simp only;change Calls _ _ _ _ fun e w'=>e=.returned (.int .i64 (Lib.index (s.data.toList.drop 2) [42,47]))/\w'=w at hI;rw[h3] at hI;have hB:=fun W=>Bi (s.extract 0 (n+2)) 10 W;rw[nW] at hB;have hW:=fun W h=>ru (s.extract 0 (n+4)) W (by rw[kQ (by omega)];omega) h;rw[nW] at hW;have Ab:(s.extract 0 (n+4)).size=n+4:=kQ (by omega);have Aa:(s.data.toList.take (n+4)).length=n+4:=by rw[List.length_take,<-au];omega
  have e2:s.extract 0 (n+2)=s.extract 0 (n+2):=rfl;clear h3 h4 hm
  cases hc:(s.data.toList.take (n+2)).contains 10 with
  |true=>
   rw[hc] at hB;rw[if_pos rfl];simp only[xR];clear hc hW Ab Aa;go_enter Tryz.func129,Tryz.ntmps129;go_wp2_with fail;refine hI.mono ?_;rintro _ _ ⟨rfl,rfl⟩;go_wp2_with fail;refine (hB _).mono ?_;rintro _ _ ⟨⟨i,rfl,hi⟩,rfl⟩;go_wp2;refine bodyPost_ret (v:=.tuple #[.int .i64 0,.int .i64 0,.int .i64 0,.int .i64 2]) (by simp[results,Tryz.results129,go_sem]) rfl ⟨rfl,Below.refl _ _⟩
  |false=>
   rw[hc] at hB;rw[if_neg (by simp)];clear hc;generalize s.data.toList.take (n+4)=rs at *
   cases hw:wM rs with
   |none=>
    rw[lN hw,Aa];rw[hw] at hW;simp only[xR,uB] at hW ⊢;clear hw Aa;go_enter Tryz.func129,Tryz.ntmps129;go_wp2_with fail;refine hI.mono ?_;rintro _ _ ⟨rfl,rfl⟩;go_wp2_with fail;refine (hB _).mono ?_;rintro _ _ ⟨⟨i,rfl,hi⟩,rfl⟩;go_wp2_with fail;refine (hW _ hT.utf).mono ?_;rintro _ w2 ⟨rfl,hb2⟩;go_wp2;refine bodyPost_ret (v:=.tuple #[.int .i64 7,.int .i64 ((n+4:Nat):Int),.int .i64 0,.int .i64 0]) (by simp[results,Tryz.results129,go_sem,Ab]) rfl ⟨rfl,hb2⟩
   |some x=>
    rw[kw hw];rw[hw] at hW;have Ad:=wm hw;obtain⟨xa,xe⟩:=x;simp only[xR,uB] at hW Ad ⊢;clear hw Aa;go_enter Tryz.func129,Tryz.ntmps129;go_wp2_with fail;refine hI.mono ?_;rintro _ _ ⟨rfl,rfl⟩;go_wp2_with fail;refine (hB _).mono ?_;rintro _ _ ⟨⟨i,rfl,hi⟩,rfl⟩;go_wp2_with fail;refine (hW _ hT.utf).mono ?_;rintro _ w2 ⟨rfl,hb2⟩;go_wp2;refine bodyPost_ret (v:=.tuple #[.int .i64 0,.int .i64 0,.int .i64 (xa:Nat),.int .i64 xe]) (by simp[results,Tryz.results129,go_sem]) rfl ⟨rfl,hb2⟩
theorem AQ(a b c:UInt8)(l:Bs):([a,b]:Bs).isPrefixOf (c::l)=decide (c=a/\l.head?=some b):=by
 cases l with
 |nil=>simp[List.isPrefixOf]
 |cons d l=>
  simp only[List.isPrefixOf,List.head?_cons,Option.some.injEq,Bool.and_true]
  by_cases h1:c=a
  ·by_cases h2:d=b
   ·subst h1 h2;simp
   ·subst h1
    have:(b==d)=false:=by simpa using fun e:b=d=>h2 e.symm
    simp[this,h2]
  ·have:(a==c)=false:=by simpa using fun e:a=c=>h1 e.symm
   simp[this,h1]
theorem tQ(r:LR):∃a b c d:Int,xR r=.tuple #[.int .i64 a,.int .i64 b,.int .i64 c,.int .i64 d]:=by
 cases r<;>exact⟨_,_,_,_,rfl⟩
theorem KA(s:ByteArray)(w:World)(hT:jf w)(hs:s.size<=1048576)(h0:0<s.size) :
  Calls Tryz.prog 88 #[.string s] w fun e w'=>e=.returned (xR (eY s.data.toList))/\Below w.heap.size w w':=by
 obtain⟨c,hc⟩:∃c,s[0]'h0=c:=⟨_,rfl⟩;have An:(s[0]'h0).toNat=c.toNat:=by rw[hc]
 obtain⟨r,hr⟩:∃r,s.data.toList=c::r:=⟨_,by have:=eT (s:=s) (k:=0) h0;rw[List.drop_zero,hc] at this;exact this⟩;have Ab:=yf c;have Aa:=Ai c;have Ag:=fun W=>IZ s W (by unfold maxLen;omega) h0;rw[hr] at Ag;simp only[List.drop_succ_cons,List.drop_zero] at Ag;have Af:=fun W h=>DD s W h hs;have hQ:=fun W h=>zK s W hs h;have hR:=fun W h=>Eu s W h hs;have Ac:=fun W=>Tryz.strings_HasPrefix s ⟨#[47,47]⟩ W;have Ad:=fun W=>Tryz.strings_HasPrefix s ⟨#[47,42]⟩ W;have hA:=fun W h h2=>Jg s W h hs h2;have Ae:=fun W h=>JQ s W h h0 (by unfold maxLen;omega);have e1:Lib.hasPrefix s.data.toList (⟨#[47,47]⟩:ByteArray).data.toList=decide (c=47/\r.head?=some 47):=by rw[hr];exact AQ 47 47 c r
 have e2:Lib.hasPrefix s.data.toList (⟨#[47,42]⟩:ByteArray).data.toList=decide (c=47/\r.head?=some 42):=by rw[hr];exact AQ 47 42 c r
 rw[e1] at Ac;rw[e2] at Ad
 have h2:r.head?=some 42->2<=s.size:=by
  intro h;rw[au,hr]
  cases r with
  |nil=>cases h
  |cons d r=>simp
 rw[hr] at Af hR hA Ae ⊢;have Aj:bs s=nb (c::r):=by rw[<-hr];rfl
 rw[Aj] at hQ;clear e1 e2 hr hc Aj;rw[eY]
 cases hl:lq c with
 |true=>
  rw[hl] at Ab;simp only[if_true,xR];clear Aa Af hQ hR Ac Ad hA Ae hl h2;generalize vW r=q at *;go_enter Tryz.func88,Tryz.ntmps88;go_wp2_with fail;refine (Ab _).mono ?_;rintro _ _ ⟨rfl,rfl⟩;go_wp2_with fail;refine (Ag _).mono ?_;rintro _ _ ⟨rfl,rfl⟩;go_wp2;refine bodyPost_ret (v:=.tuple #[.int .i64 1,.int .i64 ((1+q:Nat):Int),.int .i64 0,.int .i64 0]) (by simp[results,Tryz.results88,go_sem]) rfl ⟨rfl,Below.refl _ _⟩
 |false=>
 rw[hl] at Ab
 cases hd:dg c with
 |true=>
  rw[hd] at Aa;simp only[if_true,Bool.false_eq_true,if_false];clear hQ hR Ac Ad hA Ae hl h2 Ag hd;obtain⟨x1,x2,x3,x4,hx⟩:=tQ (pQ (c::r));rw[hx] at Af ⊢;clear hx;go_enter Tryz.func88,Tryz.ntmps88;go_wp2_with fail;refine (Ab _).mono ?_;rintro _ _ ⟨rfl,rfl⟩;go_wp2_with fail;refine (Aa _).mono ?_;rintro _ _ ⟨rfl,rfl⟩;go_wp2_with fail;refine (Af _ hT).mono ?_;rintro _ w1 ⟨rfl,hb1⟩;go_wp2;refine bodyPost_ret (v:=.tuple #[.int .i64 x1,.int .i64 x2,.int .i64 x3,.int .i64 x4]) (by simp[results,Tryz.results88,go_sem]) rfl ⟨rfl,hb1⟩
 |false=>
 rw[hd] at Aa;simp only[Bool.false_eq_true,if_false]
 by_cases h34:c=34
 ·have Al:((c.toNat:Int)==34)=true:=by subst h34;rfl
  rw[if_pos h34];unfold pG;clear hR Ac Ad hA Ae hl h2 Ag hd Af h34;generalize aV (nb (c::r))=q at *;obtain⟨qs,qn,qe⟩:=q;simp only[JV] at hQ ⊢
  by_cases he:qe=0
  ·subst he
   rw[if_pos rfl];simp only[xR];go_enter Tryz.func88,Tryz.ntmps88;go_wp2_with fail;refine (Ab _).mono ?_;rintro _ _ ⟨rfl,rfl⟩;go_wp2_with fail;refine (Aa _).mono ?_;rintro _ _ ⟨rfl,rfl⟩;go_wp2_with fail;refine (hQ _ hT.utf).mono ?_;rintro _ w1 ⟨rfl,hb1⟩;go_wp2;refine bodyPost_ret (v:=.tuple #[.int .i64 3,.int .i64 (qn:Nat),.int .i64 0,.int .i64 0]) (by simp[results,Tryz.results88,go_sem]) rfl ⟨rfl,hb1⟩
  ·have Ao:((qe:Int) != 0)=true:=by rw[bne_iff_ne];omega
   rw[if_neg (by omega)];simp only[xR];clear he;go_enter Tryz.func88,Tryz.ntmps88;go_wp2_with fail;refine (Ab _).mono ?_;rintro _ _ ⟨rfl,rfl⟩;go_wp2_with fail;refine (Aa _).mono ?_;rintro _ _ ⟨rfl,rfl⟩;go_wp2_with fail;refine (hQ _ hT.utf).mono ?_;rintro _ w1 ⟨rfl,hb1⟩;go_wp2;refine bodyPost_ret (v:=.tuple #[.int .i64 0,.int .i64 0,.int .i64 0,.int .i64 (qe:Nat)]) (by simp[results,Tryz.results88,go_sem]) rfl ⟨rfl,hb1⟩
 rw[if_neg h34];have Al:=fA h34 (m:=34) rfl;clear h34 hQ Af Ag
 by_cases h10:c=10
 ·have Ak:((c.toNat:Int)==10)=true:=by subst h10;rfl
  rw[if_pos h10];clear hR Ac Ad hA Ae hl h2 hd h10;simp only[xR];go_enter Tryz.func88,Tryz.ntmps88;go_wp2_with fail;refine (Ab _).mono ?_;rintro _ _ ⟨rfl,rfl⟩;go_wp2_with fail;refine (Aa _).mono ?_;rintro _ _ ⟨rfl,rfl⟩;go_wp2;refine bodyPost_ret (v:=.tuple #[.int .i64 5,.int .i64 1,.int .i64 0,.int .i64 0]) (by simp[results,Tryz.results88,go_sem]) rfl ⟨rfl,Below.refl _ _⟩
 rw[if_neg h10];have Ak:=fA h10 (m:=10) rfl;clear h10
 by_cases h35:c=35
 ·have Am:((c.toNat:Int)==35)=true:=by subst h35;rfl
  rw[if_pos (.inl h35)];clear Ac Ad hA Ae hl h2 hd h35;obtain⟨x1,x2,x3,x4,hx⟩:=tQ (iX (iA (c::r)) 6);rw[hx] at hR ⊢;clear hx;go_enter Tryz.func88,Tryz.ntmps88;go_wp2_with fail;refine (Ab _).mono ?_;rintro _ _ ⟨rfl,rfl⟩;go_wp2_with fail;refine (Aa _).mono ?_;rintro _ _ ⟨rfl,rfl⟩;go_wp2_with fail;refine (hR _ hT).mono ?_;rintro _ w1 ⟨rfl,hb1⟩;go_wp2;refine bodyPost_ret (v:=.tuple #[.int .i64 x1,.int .i64 x2,.int .i64 x3,.int .i64 x4]) (by simp[results,Tryz.results88,go_sem]) rfl ⟨rfl,hb1⟩
 have Am:=fA h35 (m:=35) rfl
 by_cases h47:c=47/\r.head?=some 47
 ·rw[if_pos (.inr h47)]
  rw[decide_eq_true h47] at Ac;clear Ad hA Ae hl h2 hd h35 h47;obtain⟨x1,x2,x3,x4,hx⟩:=tQ (iX (iA (c::r)) 6);rw[hx] at hR ⊢;clear hx;go_enter Tryz.func88,Tryz.ntmps88;go_wp2_with fail;refine (Ab _).mono ?_;rintro _ _ ⟨rfl,rfl⟩;go_wp2_with fail;refine (Aa _).mono ?_;rintro _ _ ⟨rfl,rfl⟩;go_wp2_with fail;refine (Ac _).mono ?_;rintro _ _ ⟨rfl,rfl⟩;go_wp2_with fail;refine (hR _ hT).mono ?_;rintro _ w1 ⟨rfl,hb1⟩;go_wp2;refine bodyPost_ret (v:=.tuple #[.int .i64 x1,.int .i64 x2,.int .i64 x3,.int .i64 x4]) (by simp[results,Tryz.results88,go_sem]) rfl ⟨rfl,hb1⟩
 rw[if_neg (by rintro (h|h);(· exact h35 h);(· exact h47 h))];rw[decide_eq_false h47] at Ac;clear h35 h47 hR
 by_cases h42:c=47/\r.head?=some 42
 ·rw[if_pos h42]
  rw[decide_eq_true h42] at Ad;have Ah:=fun W h=>hA W h (h2 h42.2);clear hA Ae hl h2 hd h42;obtain⟨x1,x2,x3,x4,hx⟩:=tQ (fB (c::r));rw[hx] at Ah ⊢;clear hx;go_enter Tryz.func88,Tryz.ntmps88;go_wp2_with fail;refine (Ab _).mono ?_;rintro _ _ ⟨rfl,rfl⟩;go_wp2_with fail;refine (Aa _).mono ?_;rintro _ _ ⟨rfl,rfl⟩;go_wp2_with fail;refine (Ac _).mono ?_;rintro _ _ ⟨rfl,rfl⟩;go_wp2_with fail;refine (Ad _).mono ?_;rintro _ _ ⟨rfl,rfl⟩;go_wp2_with fail;refine (Ah _ hT).mono ?_;rintro _ w1 ⟨rfl,hb1⟩;go_wp2;refine bodyPost_ret (v:=.tuple #[.int .i64 x1,.int .i64 x2,.int .i64 x3,.int .i64 x4]) (by simp[results,Tryz.results88,go_sem]) rfl ⟨rfl,hb1⟩
 rw[if_neg h42];rw[decide_eq_false h42] at Ad;clear h42 hA h2 hl hd;generalize Eo (c::r)=n at *
 by_cases hn:n=0
 ·subst hn
  rw[if_pos rfl];simp only[xR];go_enter Tryz.func88,Tryz.ntmps88;go_wp2_with fail;refine (Ab _).mono ?_;rintro _ _ ⟨rfl,rfl⟩;go_wp2_with fail;refine (Aa _).mono ?_;rintro _ _ ⟨rfl,rfl⟩;go_wp2_with fail;refine (Ac _).mono ?_;rintro _ _ ⟨rfl,rfl⟩;go_wp2_with fail;refine (Ad _).mono ?_;rintro _ _ ⟨rfl,rfl⟩;go_wp2_with fail;refine (Ae _ hT).mono ?_;rintro _ _ ⟨rfl,rfl⟩;go_wp2;refine bodyPost_ret (v:=.tuple #[.int .i64 0,.int .i64 0,.int .i64 0,.int .i64 3]) (by simp[results,Tryz.results88,go_sem]) rfl ⟨rfl,Below.refl _ _⟩
 ·rw[if_neg hn]
  have Ap:0<n:=by omega
  simp only[xR];clear hn;go_enter Tryz.func88,Tryz.ntmps88;go_wp2_with fail;refine (Ab _).mono ?_;rintro _ _ ⟨rfl,rfl⟩;go_wp2_with fail;refine (Aa _).mono ?_;rintro _ _ ⟨rfl,rfl⟩;go_wp2_with fail;refine (Ac _).mono ?_;rintro _ _ ⟨rfl,rfl⟩;go_wp2_with fail;refine (Ad _).mono ?_;rintro _ _ ⟨rfl,rfl⟩;go_wp2_with fail;refine (Ae _ hT).mono ?_;rintro _ _ ⟨rfl,rfl⟩;go_wp2;refine bodyPost_ret (v:=.tuple #[.int .i64 4,.int .i64 (n:Nat),.int .i64 0,.int .i64 0]) (by simp[results,Tryz.results88,go_sem]) rfl ⟨rfl,Below.refl _ _⟩
theorem nQ{l:Bs}{o:Nat}{e:Int}(h:eY l=.bad o e):e≠0:=by
 have hT:∀(q:Bs) k,iX q k=.bad o e->e≠0:=by
  intro q k hq
  cases hw:wM q with
  |none=>rw[lN hw] at hq;cases hq
  |some x=>
   rw[kw hw] at hq;cases hq
   simpa using wm hw
 cases l with
 |nil=>cases h;decide
 |cons c r=>
  rw[eY] at h;split at h
  ·cases h
  split at h
  ·unfold pQ at h
   split at h
   ·cases h
   ·next hn=>cases h;exact hn
  split at h
  ·unfold pG at h
   split at h
   ·cases h
   ·next hn=>cases h;omega
  split at h
  ·cases h
  split at h
  ·exact hT _ _ h
  split at h
  ·unfold fB at h
   split at h
   ·cases h;decide
   ·split at h
    ·cases h;decide
    ·exact hT _ _ h
  split at h
  ·cases h;decide
  ·cases h
theorem BX:∀(m:Nat) (l:List Nat) (a:Nat),l.length<=m->(∀x∈l,x<256)->∀x∈(scan l a).1,x.1<a+l.length
 | m,l,a,hm,hl,x,hx=>by
  by_cases h0:l=[]
  ·subst h0;simp[lV] at hx
  have hp:=List.length_pos_iff.2 h0
  by_cases hn:(aD l).2=0
  ·rw[jK h0 hn] at hx;simp at hx
  ·have hle:=(jS l hl).1
   cases m with
   |zero=>omega
   |succ m=>
    rw[fV h0,if_neg hn] at hx;rcases List.mem_cons.1 hx with rfl|hx
    ·simp only;omega
    ·have:=BX m (l.drop (aD l).2) (a+(aD l).2) (by simp;omega) (fun x hx=>hl x (List.mem_of_mem_drop hx)) x hx
     simp at this;omega
theorem LU{l:Bs}{x:Nat×Int}(h:wM l=some x):x.1<l.length:=by
 unfold wM at h;split at h
 ·next y hy=>
  cases h
  have:=BX _ (nb l) 0 lz (iB l) y (List.mem_of_find?_eq_some hy);rw[ky] at this;simpa using this
 ·split at h
  ·next a ha=>
   cases h
   have:=FU _ (nb l) 0 a lz (iB l) ha;rw[ky] at this;simpa using this
  ·cases h
theorem CP{l:Bs}{o:Nat}{e:Int}(h:eY l=.bad o e):o<=l.length:=by
 have hT:∀(q:Bs) k,q.length<=l.length->iX q k=.bad o e->o<=l.length:=by
  intro q k hl hq
  cases hw:wM q with
  |none=>rw[lN hw] at hq;cases hq
  |some x=>
   rw[kw hw] at hq;cases hq
   have:=LU hw;omega
 cases l with
 |nil=>cases h;exact Nat.zero_le _
 |cons c r=>
  rw[eY] at h;split at h
  ·cases h
  split at h
  ·unfold pQ at h
   split at h
   ·cases h
   ·cases h;exact Nat.zero_le _
  split at h
  ·unfold pG at h
   split at h
   ·cases h
   ·cases h;exact Nat.zero_le _
  split at h
  ·cases h
  split at h
  ·exact hT _ _ (sO _) h
  split at h
  ·unfold fB at h
   split at h
   ·cases h;exact Nat.zero_le _
   ·split at h
    ·cases h;exact Nat.zero_le _
    ·exact hT _ _ (by rw[List.length_take];omega) h
  split at h
  ·cases h;exact Nat.zero_le _
  ·cases h
theorem KQ(t:ag)(g:Nat)(v:Value)(l:List ag)(W:World)(hc:aa W g #[v] 22)(hown:aI (g+1) W v l)(hl:l.length<=1048576) :
  Calls Tryz.prog 48 #[eO t,.pointer (some ⟨g,0,none⟩)] W fun e w'=>e=.returned (.bool true)/\∃v',aa w' g #[v'] 22/\aI (g+1) w' v' (l++[t])/\Below g W w':=by
 obtain⟨va,vc,rfl⟩:=hown.len;have Af:=hc.lt;obtain⟨Aa,Ab⟩:=hc.n1 rfl;go_enter Tryz.func48,Tryz.ntmps48;go_wp2_with (with_reducible first|refine aA ?_)
 refine Stop.out ?_;refine jI rfl _ _ rfl (g+1) l t (by exact (hown.alloc _).alloc _) (W.heap.size+1) rfl (by simp[World.cell?_alloc_new]) (by simp) (by simp) hl (by simp;omega) W (by (with_reducible repeat' first|refine Below.setCell ?_ ?_ _|refine Below.alloc ?_ ?_ _|refine Below.drew ?_|refine ah ?_ _|assumption|exact Below.refl _ _|(simp only[World.size_alloc,World.size_setCell,World.size_drew];first|done|omega)|omega)) ?_;intro v' w' hown' hb' hg';obtain⟨a2,c2,rfl⟩:=hown'.len;have hq:=hc.below hb' (Nat.lt_succ_self g);have Ac:=hq.lt;clear Aa Ab hg';obtain⟨Ad,Ae⟩:=hq.n1 rfl;have HX:=Jh hown' (And.intro hb' hq);clear hown' hb' hown hc;go_wp2;go_ret;obtain⟨hown',hb',hq⟩:=HX.out;exact⟨rfl,.slice a2 (l++[t]).length c2,by simpa using hq.setI 0 _,hown'.moved (fun k hk=>Below.heap_setCell w' ⟨g,0,none⟩ _ _ (by show k≠g;have:=(World.ownsRow.lt hown' k hk).1;omega)),(hb'.mono (Nat.le_succ g)).setCell lz _⟩
def dC(l:Bs)(k:Nat)(pre:List ag):Prop:=aY l 0=(pre++(aY (l.drop k) k).1,(aY (l.drop k) k).2)
theorem dC.zero(l:Bs):dC l 0 []:=by unfold dC;simp
theorem ul{l:Bs}{k:Nat}(h:k<l.length):l.drop k=l[k]::l.drop (k+1):=List.drop_eq_getElem_cons h
theorem dC.blank{l:Bs}{k:Nat}{pre:List ag}(h:dC l k pre)(hk:k<l.length)(hb:cz l[k]=true):dC l (k+1) pre:=by
 unfold dC at h ⊢;rw[h,ul hk,dF hb]
theorem dC.bad{l:Bs}{k:Nat}{pre:List ag}(h:dC l k pre)(hk:k<l.length)(hb:cz l[k]=false){o:Nat}{e:Int}(ho:eY (l.drop k)=.bad o e):aY l 0=(pre,((k+o:Nat):Int),e):=by
 unfold dC at h;rw[ul hk] at ho h;rw[h,gp hb ho];simp
theorem dC.tok{l:Bs}{k:Nat}{pre:List ag}(h:dC l k pre)(hk:k<l.length)(hb:cz l[k]=false){kd sz:Nat}(ho:eY (l.drop k)=.tok kd sz) :
  dC l (k+sz) (pre++[⟨(kd:Nat),av ((l.drop k).take sz),(k:Nat)⟩]):=by
 unfold dC at h ⊢;have Aa:=ho;rw[ul hk] at Aa;rw[h,ul hk,eF hb Aa,<-ul hk,List.drop_drop];simp
theorem dC.done{l:Bs}{k:Nat}{pre:List ag}(h:dC l k pre)(hk:k=l.length):aY l 0=(pre,-1,0):=by
 unfold dC at h;rw[h,hk,List.drop_length,eZ];simp
theorem dC.len{l:Bs}{k:Nat}{pre:List ag}(h:dC l k pre):pre.length<=l.length:=by
 have h1:=lZ l.length l 0 lz;unfold dC at h;rw[h] at h1;simp at h1;omega
def JG(x:List ag×Int×Int):Value:=if x.2.2=0 then .tuple #[.int .i64 0,.int .i64 0] else .tuple #[.int .i64 x.2.1,.int .i64 x.2.2]
theorem GZ(s:ByteArray)(w0 w:World)(hb0:Below w0.heap.size w0 w)(hT0:jf w0)(hs:s.size<=1048576)(hc0:aa w w0.heap.size #[.slice none 0 0] 22) :
  Calls Tryz.prog 47 #[.string s,.func (.func 48) #[] #[.pointer (some ⟨w0.heap.size,0,none⟩)]] w fun e w'=>e=.returned (JG (aY s.data.toList 0))/\
   ∃v,aa w' w0.heap.size #[v] 22/\aI (w0.heap.size+1) w' v (aY s.data.toList 0).1/\Below w0.heap.size w0 w':=by
 have Ac:=Jh hc0 hb0;clear hc0 hb0;go_enter Tryz.func47,Tryz.ntmps47;go_wp2_with fail;go_step3
 go_wp2_with fail;go_step3
 go_wp2_with fail;go_loopw [4,5,6,7,8,9,10] (fun a e p _ _ _ _ wr=>∃(k:Nat) (pre:List ag) (v:Value),a=.int .i64 0/\e=.int .i64 0/\p=.int .i64 (k:Int)/\k<=s.size/\dC s.data.toList k pre/\aa wr w0.heap.size #[v] 22/\aI (w0.heap.size+1) wr v pre/\Below w0.heap.size w0 wr) (fun _ _ p _ _ _ _ _=>s.size-(intOf p).toNat)
 case atStart=>exact⟨0,[],_,rfl,rfl,rfl,Nat.zero_le _,dC.zero _,Ac.out.1,aI.nil,Ac.out.2⟩
 case round=>
  clear Ac;obtain⟨k,pre,v,rfl,rfl,rfl,hk,hR,hc,Ab,hb⟩:=hrel
  by_cases hlt:k<s.size
  ·have hB:=Bi ⟨#[32,9,13]⟩ (s[k]'hlt)
   rw[show (⟨#[32,9,13]⟩:ByteArray).data.toList.contains (s[k]'hlt)=cz (s[k]'hlt) from rfl] at hB;have Af:k<s.data.toList.length:=by rw[<-au];exact hlt
   have Aj:=hR.len;rw[<-au] at Aj;have HR:=Hh hR;clear hR
   cases hb1:cz (s[k]'hlt) with
   |true=>
    rw[hb1] at hB;have Ah:=Hh (HR.out.blank Af hb1);clear HR hb1;go_wp2_with fail;refine (hB _).mono ?_;rintro _ _ ⟨⟨i,rfl,hi⟩,rfl⟩;go_wp2;go_roundw
    case rel=>exact⟨k+1,pre,v,rfl,rfl,by go_num,by omega,Ah.out,hc,Ab,hb⟩
    case measure=>simp[intOf];omega
   |false=>
    rw[hb1] at hB;have hN:=fun W h=>KA (s.extract k s.size) W h (by rw[ByteArray.size_extract];omega) (by rw[ByteArray.size_extract];omega);rw[uh] at hN;have An:=Hh hb1
    cases ho:eY (s.data.toList.drop k) with
    |bad o e=>
     have HD:=Hh (HR.out.bad Af hb1 ho);have Ao:(e != 0)=true:=by simpa using nQ ho
     have Ag:=Hh (nQ ho);have Al:=CP ho;rw[List.length_drop,<-au] at Al;rw[ho] at hN;simp only[xR] at hN;clear HR hb1 ho;go_wp2_with fail;refine (hB _).mono ?_;rintro _ _ ⟨⟨i,rfl,hi⟩,rfl⟩;go_wp2_with fail;refine (hN _ (hT0.below hb)).mono ?_;rintro _ w2 ⟨rfl,hb2⟩;have Ad:=hb.trans (hb2.mono hb.size);have Ae:=hc.below hb2 hc.lt;have Aa:=Ab.below hb2 lz;go_wp2;rw[Exit.noGoto_ret];refine bodyPost_ret (v:=.tuple #[.int .i64 ((k:Int)+o),.int .i64 e]) (by simp[results,Tryz.results47,go_sem]) rfl ?_;rw[HD.out];unfold JG;simp only;rw[if_neg Ag.out];exact⟨by simp,v,Ae,Aa,Ad⟩
    |tok kd sz=>
     have HD:=Hh (HR.out.tok Af hb1 ho);have Ai:av ((s.data.toList.drop k).take sz)=s.extract k (k+sz):=ji (by rw[fe,bi,List.drop_take];congr 1;omega);have Am:=dN ho;rw[List.length_drop,<-au] at Am;rw[ho] at hN;simp only[xR] at hN;clear HR hb1 ho;go_wp2_with fail;refine (hB _).mono ?_;rintro _ _ ⟨⟨i,rfl,hi⟩,rfl⟩;go_wp2_with fail;refine (hN _ (hT0.below hb)).mono ?_;rintro _ w2 ⟨rfl,hb2⟩;have Ad:=hb.trans (hb2.mono hb.size);have Ae:=hc.below hb2 hc.lt;have Aa:=Ab.below hb2 lz;go_wp2_with fail;rw[Ai] at HD;refine (KQ ⟨(kd:Nat),s.extract k (k+sz),(k:Nat)⟩ w0.heap.size v pre w2 Ae Aa (by omega)).mono ?_;rintro _ w3 ⟨rfl,v3,hc3,hown3,hb4⟩;have Ak:=Ad.trans hb4;go_wp2;go_roundw
     case rel=>exact⟨k+sz,_,v3,rfl,rfl,by go_num,by omega,HD.out,hc3,hown3,Ak⟩
     case measure=>simp[intOf];omega
  ·obtain rfl:k=s.size:=by omega
   have HD:=Hh (hR.done (au s));clear hR;go_wp2;rw[Exit.noGoto_ret];refine bodyPost_ret (v:=.tuple #[.int .i64 0,.int .i64 0]) (by simp[results,Tryz.results47,go_sem]) rfl ?_;rw[HD.out];exact⟨rfl,v,hc,Ab,hb⟩
def kz(l:Bs):List ag×Int×Int:=if (aY l 0).2.2=0 then ((aY l 0).1,-1,0) else ([],(aY l 0).2)
theorem tV(s:ByteArray)(w:World)(hT:jf w)(hs:s.size<=1048576) :
  Calls Tryz.prog 17 #[.string s] w fun e w'=>∃v,e=.returned (.tuple #[v,.int .i64 (kz s.data.toList).2.1,.int .i64 (kz s.data.toList).2.2])/\aI w.heap.size w' v (kz s.data.toList).1/\Below w.heap.size w w':=by
 have hW:=GZ s w (w.alloc (.cells #[.slice none 0 0] 22)) ((Below.refl _ w).alloc lz _) hT hs (aa.new w _ _);unfold JG at hW;unfold kz;obtain⟨⟨l,p,z⟩,hx⟩:∃x,aY s.data.toList 0=x:=⟨_,rfl⟩;rw[hx] at hW ⊢;clear hx;simp only at hW ⊢
 by_cases hz:z=0
 ·subst hz
  rw[if_pos rfl] at hW;rw[if_pos rfl];go_enter Tryz.func17,Tryz.ntmps17;go_wp2_with fail;refine hW.mono ?_;rintro _ w2 ⟨rfl,v,hc,hown,hb⟩;obtain⟨va,vc,rfl⟩:=hown.len;have hl:=hc.lt;obtain⟨Ab,Ac⟩:=hc.n1 rfl;have HX:=Jh hc (And.intro hown hb);clear hc hown hb hW;go_wp2;obtain⟨hc,hown,hb⟩:=HX.out;have Aa:=(hc.setI 0 (.slice va l.length vc)).cell 0 _ rfl;refine bodyPost_ret (v:=.tuple #[.slice va l.length vc,.int .i64 (-1),.int .i64 0]) (by simp[results,Tryz.results17,go_sem,Aa]) rfl ?_;exact⟨_,rfl,(hown.moved (fun k hk=>Below.heap_setCell _ _ _ _ (by show k≠w.heap.size;have:=(World.ownsRow.lt hown k hk).1;omega))).base_le (Nat.le_succ _),hb.setCell lz _⟩
 ·rw[if_neg hz] at hW
  rw[if_neg hz];have Ad:(z != 0)=true:=by simpa using hz
  go_enter Tryz.func17,Tryz.ntmps17;go_wp2_with fail;refine hW.mono ?_;rintro _ w2 ⟨rfl,v,hc,hown,hb⟩;have hl:=hc.lt;obtain⟨Ab,Ac⟩:=hc.n1 rfl;have HX:=Jh hc hb;clear hc hown hb hW;go_wp2;obtain⟨hc,hb⟩:=HX.out;have Aa:=(hc.setI 0 (.slice none 0 0)).cell 0 _ rfl;refine bodyPost_ret (v:=.tuple #[.slice none 0 0,.int .i64 p,.int .i64 z]) (by simp[results,Tryz.results17,go_sem,Aa]) rfl ?_;exact⟨_,rfl,aI.nil,hb.setCell lz _⟩
end Go.Proofs.YtbcdaaobbebooaaGreatDoor
namespace Go.Proofs.YtbcdaaobbebooaaGreatDoor
inductive bP where
 |mk (block:Bool) (name:ByteArray) (value:gu) (labels:List ByteArray) (items:List bP):bP
def bP.block:bP->Bool
 |.mk b _ _ _ _=>b
def bP.name:bP->ByteArray
 |.mk _ n _ _ _=>n
def bP.value:bP->gu
 |.mk _ _ v _ _=>v
def bP.labels:bP->List ByteArray
 |.mk _ _ _ l _=>l
def bP.items:bP->List bP
 |.mk _ _ _ _ i=>i
def bY:bP:=.mk false ⟨#[]⟩ aQ [] []
def bP.add:bP->bP->bP
 |.mk b n v l i,x=>.mk b n v l (i++[x])
inductive oW where
 |wrong (at_ e:Int):oW
 |empty:oW
 |attr (x:bP):oW
 |begins (x:bP):oW
 |bare (x:bP):oW
 |fin:oW
abbrev rF:ByteArray:=⟨#[123]⟩
abbrev ng:ByteArray:=⟨#[125]⟩
abbrev Ca:ByteArray:=⟨#[61]⟩
def eU(row:List ag)(stop:Int)(last:Bool)(i:Nat):oW:=match row[i]? with
 |some t=>.wrong t.pos 3
 |none=>if last then .wrong stop 2 else .wrong stop 3
def j3(row:List ag)(stop:Int)(last:Bool)(name:ByteArray):oW:=
 if (gH (row.drop 2)).2.2=2\/((gH (row.drop 2)).2.2=0/\2+(gH (row.drop 2)).2.1<row.length) then eU row stop last (2+(gH (row.drop 2)).2.1)
 else if (gH (row.drop 2)).2.2=0 then .attr (.mk false name (gH (row.drop 2)).1 [] [])
 else match row[2+(gH (row.drop 2)).2.1]? with
  |some t=>.wrong t.pos (gH (row.drop 2)).2.2
  |none=>.wrong 0 0
def jr:List ag->List ByteArray
 |[]=>[]
 |t::r=>if t.kind=3 then (jP t.text).getD ⟨#[]⟩::jr r else []
def gL(n:Nat)(row:List ag)(stop:Int)(last:Bool)(name:ByteArray):oW:=
 let ls:=jr (row.drop 1)
 let i:=1+ls.length
 let x:bP:=.mk true name aQ ls []
 if bO (row.drop i) rF=false then eU row stop last i
 else if 64<n then (match row[i]? with|some t=>.wrong t.pos 5|none=>.wrong 0 0)
 else if row.length=i+1 then .begins x
 else if bO (row.drop (i+1)) ng=false then eU row stop last (i+1)
 else if i+2<row.length then eU row stop last (i+2)
 else .bare x
def bn(n:Nat)(row:List ag)(stop:Int)(last:Bool):oW:=match row with
 |[]=>.empty
 |t::r=>
  if bO (t::r) ng then (if n=1 then eU (t::r) stop last 0 else if 1<(t::r).length then eU (t::r) stop last 1 else .fin)
  else if t.kind≠1 then eU (t::r) stop last 0
  else if bO r Ca then j3 (t::r) stop last t.text else gL n (t::r) stop last t.text
def iQ:List bP->bP->List bP
 |[],_=>[]
 |[t],x=>[t.add x]
 |t::u::r,x=>t::iQ (u::r) x
def bB(st:List bP)(row:List ag)(stop:Int)(last:Bool):List bP×Int×Int:=match bn st.length row stop last with
 |.wrong a e=>(st,a,e)
 |.empty=>(st,0,0)
 |.attr x=>(iQ st x,0,0)
 |.begins x=>(st++[x],0,0)
 |.bare x=>(iQ st x,0,0)
 |.fin=>(iQ st.dropLast (st.getLast?.getD bY),0,0)
def bK(size:Int):List ag->List bP->List ag->List bP×Int×Int
 |[],st,row=>
  if (bB st row size true).2.2≠0 then ([],(bB st row size true).2)
  else if 1<(bB st row size true).1.length then ([],size,2)
  else (((bB st row size true).1.head?.getD bY).items,-1,0)
 |t::r,st,row=>
  if t.kind=6\/t.kind=7 then bK size r st row
  else if t.kind=5 then
   (if (bB st row t.pos false).2.2≠0 then ([],(bB st row t.pos false).2) else bK size r (bB st row t.pos false).1 [])
  else bK size r st (row++[t])
def dK(l:Bs):List bP×Int×Int:=
 if (kz l).2.2≠0 then ([],(kz l).2) else bK l.length (kz l).1 [bY] []
theorem iF:∀(st:List bP) (x:bP),(iQ st x).length=st.length
 |[],_=>rfl
 |[_],_=>rfl
 |_::u::r,x=>by simp only[iQ,List.length_cons,iF (u::r) x]
theorem jG:∀(st:List bP) (t x:bP),iQ (st++[t]) x=st++[t.add x]
 |[],_,_=>rfl
 |[a],t,x=>rfl
 | a::b::r,t,x=>by
  have:=jG (b::r) t x;simp only[List.cons_append,iQ] at this ⊢;rw[this]
def fQ(st:List bP):oW->List bP×Int×Int
 |.wrong a e=>(st,a,e)
 |.empty=>(st,0,0)
 |.attr x=>(iQ st x,0,0)
 |.begins x=>(st++[x],0,0)
 |.bare x=>(iQ st x,0,0)
 |.fin=>(iQ st.dropLast (st.getLast?.getD bY),0,0)
theorem jO(st:List bP)(row:List ag)(stop:Int)(last:Bool):bB st row stop last=fQ st (bn st.length row stop last):=by
 unfold bB fQ;cases bn st.length row stop last<;>rfl
theorem Ew(st:List bP)(x:bP):fQ (st++[x]) .fin=fQ st (.bare x):=by simp[fQ]
theorem qz{n:Nat}{row:List ag}{stop:Int}{last:Bool}(h:bn n row stop last=.fin):n≠1:=by
 intro e;subst e;unfold bn at h
 cases row with
 |nil=>cases h
 |cons t r=>
  simp only at h;split at h
  ·simp only[if_true] at h
   unfold eU at h;simp only[List.getElem?_cons_zero] at h;cases h
  ·split at h
   ·unfold eU at h
    simp only[List.getElem?_cons_zero] at h;cases h
   ·split at h
    ·unfold j3 eU at h
     repeat' split at h
     all_goals cases h
    ·unfold gL eU at h
     simp only at h;repeat' split at h
     all_goals cases h
end Go.Proofs.YtbcdaaobbebooaaGreatDoor
namespace Go.Proofs.YtbcdaaobbebooaaGreatDoor
open Go.RowKit Go.Tab
section
variable (E:gu->List Value->Prop) (S:Value->List ByteArray->Prop) (B:Nat->Prop)
mutual
def mI(w:World):bP->List Value->Prop
 | .mk b n v ls its,cs=>∃vo vt vk lv a cap,cs=[.bool b,.string n,.string vo,.string vt,vk,lv,.slice a its.length cap]/\E v [.string vo,.string vt,vk]/\S lv ls/\
   its.length<=cap/\cap<=maxLen/\(a=none->cap=0)/\∀x,a=some x->its≠[]->x.spot=none/\B x.block/\jH w x.block x.off its
def jH(w:World)(b off:Nat):List bP->Prop
 |[]=>True
 |t::r=>(∃cs,(∀j u,cs[j]?=some u->w.cell? ⟨b,off+j,none⟩=some u)/\mI w t cs)/\jH w b (off+7) r
end
end
section
variable {E E':gu->List Value->Prop} {S S':Value->List ByteArray->Prop} {B B':Nat->Prop} {w w':World}
mutual
theorem mI.map(hE:∀e cs,E e cs->E' e cs)(hS:∀v l,S v l->S' v l)(hB:∀b,B b->B' b)(hc:∀b,B b->∀off u,w.cell? ⟨b,off,none⟩=some u->w'.cell? ⟨b,off,none⟩=some u) :
  ∀(t:bP) (cs:List Value),mI E S B w t cs->mI E' S' B' w' t cs
 | .mk b n v ls its,cs,h=>by
  simp only[mI] at h ⊢;obtain⟨vo,vt,vk,lv,a,cap,h1,h2,h3,h4,h5,h6,h7⟩:=h;refine⟨vo,vt,vk,lv,a,cap,h1,hE _ _ h2,hS _ _ h3,h4,h5,h6,fun x hx hne=>?_⟩;obtain⟨g1,g2,g3⟩:=h7 x hx hne;exact⟨g1,hB _ g2,jH.map hE hS hB hc g2 its x.off g3⟩
theorem jH.map(hE:∀e cs,E e cs->E' e cs)(hS:∀v l,S v l->S' v l)(hB:∀b,B b->B' b)(hc:∀b,B b->∀off u,w.cell? ⟨b,off,none⟩=some u->w'.cell? ⟨b,off,none⟩=some u){b:Nat}(hb:B b) :
  ∀(l:List bP) (off:Nat),jH E S B w b off l->jH E' S' B' w' b off l
 |[],_,_=>by simp only[jH]
 | t::r,off,h=>by
  simp only[jH] at h ⊢;obtain⟨⟨cs,h1,h2⟩,h3⟩:=h;exact⟨⟨cs,fun j u hu=>hc b hb _ _ (h1 j u hu),mI.map hE hS hB hc t cs h2⟩,jH.map hE hS hB hc hb r _ h3⟩
end
theorem mI.open{b:Bool}{n:ByteArray}{v:gu}{ls:List ByteArray}{its:List bP}{cs:List Value}(h:mI E S B w (.mk b n v ls its) cs) :
  ∃vo vt vk lv a cap,cs=[.bool b,.string n,.string vo,.string vt,vk,lv,.slice a its.length cap]/\E v [.string vo,.string vt,vk]/\S lv ls/\
   its.length<=cap/\cap<=maxLen/\(a=none->cap=0)/\∀x,a=some x->its≠[]->x.spot=none/\B x.block/\jH E S B w x.block x.off its:=by
 simp only[mI] at h;exact h
theorem mI.len7{t:bP}{cs:List Value}(h:mI E S B w t cs):cs.length=7:=by
 cases t
 obtain⟨_,_,_,_,_,_,rfl,-⟩:=h.open;rfl
theorem jH.make{b:Nat}:∀(l:List bP) (off:Nat),(∀k (h:k<l.length),∃cs,(∀(j:Nat) (u:Value),cs[j]?=some u->w.cell? ⟨b,off+k*7+j,none⟩=some u)/\mI E S B w l[k] cs)->jH E S B w b off l
 |[],_,_=>by simp only[jH]
 | t::r,off,h=>by
  simp only[jH];constructor
  ·obtain⟨cs,h1,h2⟩:=h 0 (by simp)
   exact⟨cs,fun j u hu=>by have:=h1 j u hu;simpa using this,by simpa using h2⟩
  ·refine jH.make r (off+7) (fun k hk=>?_)
   obtain⟨cs,h1,h2⟩:=h (k+1) (by simp;omega);refine⟨cs,fun j u hu=>?_,by simpa using h2⟩;rw[<-h1 j u hu]
   congr 2
   omega
end
def GQ(w:World):bP->List Value->Prop:=mI (vR w) (RowOf Value.string w) (fun b=>b<w.heap.size) w
def mo(P:Nat->Prop)(w:World)(v:Value)(l:List ByteArray):Prop:=RowOf Value.string w v l/\∀k,v.ownBlock=some k->P k/\k<w.heap.size
def aN(P:Nat->Prop)(w:World):bP->List Value->Prop:=mI (ae P w) (mo P w) (fun b=>b<w.heap.size/\P b) w
theorem aN.at{P:Nat->Prop}{w:World}(t:bP)(cs:List Value)(h:aN P w t cs):GQ w t cs:=
 mI.map (fun e cs h=>ae.at e cs h) (fun _ _ h=>h.1) (fun _ h=>h.1) (fun _ _ _ _ h=>h) t cs h
theorem mo.move{P Q:Nat->Prop}{w w':World}(hs:w.heap.size<=w'.heap.size)(hb:∀k,P k->k<w.heap.size->w'.heap[k]?=w.heap[k]?)(hq:∀k,P k->k<w.heap.size->Q k){v:Value}{l:List ByteArray}(h:mo P w v l):mo Q w' v l:=
 ⟨h.1.moved hs (fun b off hlt hv=>iH (hb b (h.2 b hv).1 hlt) off),fun k hk=>⟨hq k (h.2 k hk).1 (h.2 k hk).2,Nat.lt_of_lt_of_le (h.2 k hk).2 hs⟩⟩
theorem aN.move{P Q:Nat->Prop}{w w':World}(hs:w.heap.size<=w'.heap.size)(hb:∀k,P k->k<w.heap.size->w'.heap[k]?=w.heap[k]?)(hq:∀k,P k->k<w.heap.size->Q k)(t:bP)(cs:List Value)(h:aN P w t cs):aN Q w' t cs:=
 mI.map (fun e cs h=>ae.move hs hb hq e cs h) (fun _ _ h=>h.move hs hb hq) (fun b h=>⟨Nat.lt_of_lt_of_le h.1 hs,hq b h.2 h.1⟩) (fun b h off u hu=>(iH (hb b h.2 h.1) off).trans hu) t cs h
theorem aN.below{P:Nat->Prop}{w w':World}(hb:Below w.heap.size w w')(t:bP)(cs:List Value)(h:aN P w t cs):aN P w' t cs:=
 aN.move hb.size (fun k _ hk=>hb.block k hk) (fun _ h _=>h) t cs h
theorem aN.leaf{P:Nat->Prop}{w:World}{b:Bool}{n:ByteArray}{v:gu}{ls:List ByteArray}{vo vt:ByteArray}{vk lv:Value}(hv:ae P w v [.string vo,.string vt,vk])(hl:mo P w lv ls) :
  aN P w (.mk b n v ls []) [.bool b,.string n,.string vo,.string vt,vk,lv,.slice none 0 0]:=by
 unfold aN;simp only[mI];exact⟨vo,vt,vk,lv,none,0,rfl,hv,hl,Nat.le_refl _,Nat.zero_le _,fun _=>rfl,fun x hx=>by cases hx⟩
theorem mo.nil{P:Nat->Prop}{w:World}:mo P w (.slice none 0 0) []:=⟨RowOf.nil,fun k hk=>by cases hk⟩
def mq(w:World)(v:Value)(l:List bP):Prop:=∃a cap,v=.slice a l.length cap/\l.length<=cap/\cap<=maxLen/\(a=none->cap=0)/\
 ∀x,a=some x->l≠[]->x.spot=none/\x.block<w.heap.size/\jH (vR w) (RowOf Value.string w) (fun b=>b<w.heap.size) w x.block x.off l
theorem mq.len{w:World}{v:Value}{l:List bP}(h:mq w v l):∃a cap,v=.slice a l.length cap/\l.length<=cap/\cap<=maxLen/\(a=none->cap=0):=by
 obtain⟨a,cap,h1,h2,h3,h4,-⟩:=h;exact⟨a,cap,h1,h2,h3,h4⟩
def Jn(base:Nat)(w:World)(v:Value)(css:List (List Value)):Prop:=w.ownsRow base 54 7 v css.length css.flatten/\∀cs∈css,cs.length=7
theorem Jn.lt{base:Nat}{w:World}{v:Value}{css:List (List Value)}(h:Jn base w v css):∀k,v.ownBlock=some k->base<=k/\k<w.heap.size:=World.ownsRow.lt h.1
theorem Nh:∀(css:List (List Value)) (h:∀cs∈css,cs.length=7) (k:Nat) (hk:k<css.length) (j:Nat) (hj:j<7),css.flatten[k*7+j]?=(css[k])[j]?
 | c::r,h,0,_,j,hj=>by
  have hc:=h c (by simp);simp only[List.flatten_cons,Nat.zero_mul,Nat.zero_add,List.getElem_cons_zero];rw[List.getElem?_append_left (by omega)]
 | c::r,h,k+1,hk,j,hj=>by
  have hc:=h c (by simp);have ih:=Nh r (fun cs hcs=>h cs (by simp[hcs])) k (by simpa using hk) j hj;simp only[List.flatten_cons,List.getElem_cons_succ];rw[List.getElem?_append_right (by omega),<-ih]
  congr 1
  omega
theorem Jn.cellAt{base:Nat}{w:World}{a:Option Addr}{n cap:Nat}{css:List (List Value)}(h:Jn base w (.slice a n cap) css){k:Nat}(hk:k<css.length) :
  ∃g,a=some ⟨g,0,none⟩/\base<=g/\g<w.heap.size/\(∀(j:Nat) (u:Value),css[k][j]?=some u->w.cell? ⟨g,k*7+j,none⟩=some u)/\∀off,w.frozen? ⟨g,off,none⟩=false:=by
 have Aa:=h.lt;obtain⟨⟨h1,h2⟩,h7⟩:=h;rcases h2 with ⟨he,h3⟩|⟨g,cap',cur,he,hb,hg,h3,h4,h5,h6⟩
 ·omega
 ·cases he
  refine⟨g,rfl,hb,(Aa g rfl).2,fun j u hu=>?_,fun off=>?_⟩
  ·have hj:j<7:=by have:=(List.getElem?_eq_some_iff.1 hu).1;rw[h7 _ (List.getElem_mem _)] at this;exact this
   rw[cell_of_row w g _ cur 54 (0,0) hg];have h8:=Nh css h7 k hk j hj;rw[<-h6,List.getElem?_take,if_pos (by omega),hu] at h8
   simpa using h8
  ·simp[World.frozen?,hg]
theorem Tryz.infoItm:(Tryz.prog.info? 54).map (fun i=>(i.zero,i.size,i.bytes))=some (some (.agg #[.bool false,.string ⟨#[]⟩,.string ⟨#[]⟩,.string ⟨#[]⟩,.slice none 0 0,.slice none 0 0,.slice none 0 0]),7,128):=by kernel_rfl
theorem uR:∀(k:Nat) (l:Bs) (p:Nat),l.length<=k->∀t∈(aY l p).1,t.text.size<=l.length
 | 0,l,p,h=>by
  obtain rfl:=List.eq_nil_of_length_eq_zero (Nat.le_zero.1 h);intro t ht;rw[eZ] at ht;cases ht
 | k+1,[],p,_=>by
  intro t ht;rw[eZ] at ht;cases ht
 | k+1,c::r,p,h=>by
  simp only[List.length_cons] at h ⊢
  by_cases hb:cz c=true
  ·rw[dF hb]
   intro t ht;have:=uR k r (p+1) (by omega) t ht;omega
  ·have hb:cz c=false:=by simpa using hb
   cases ho:eY (c::r) with
   |bad off e=>
    rw[gp hb ho];intro t ht;cases ht
   |tok kd sz=>
    have hs:=dN ho;rw[eF hb ho];intro t ht;rcases List.mem_cons.1 ht with rfl|ht
    ·show (av ((c::r).take sz)).size<=_
     have:(av ((c::r).take sz)).size=((c::r).take sz).length:=by unfold av;simp[ByteArray.size]
     rw[this,List.length_take,List.length_cons];omega
    ·have:=uR k ((c::r).drop sz) (p+sz) (by rw[List.length_drop,List.length_cons];omega) t ht
     rw[List.length_drop,List.length_cons] at this;omega
theorem C9(l:Bs):(kz l).1.length<=l.length/\∀t∈(kz l).1,t.text.size<=l.length:=by
 unfold kz;split
 ·exact⟨lZ _ _ _ lz,uR _ _ _ lz⟩
 ·exact⟨Nat.zero_le _,fun t ht=>by cases ht⟩
theorem eX(s:ByteArray):s.data.toList.length=s.size:=by rw[Array.length_toList];rfl
end Go.Proofs.YtbcdaaobbebooaaGreatDoor
namespace Go.Proofs.YtbcdaaobbebooaaGreatDoor
def Aw(r:List ag)(g:fw):Prop:=g.2.2=0\/g.2.2=2\/g.2.2 = -1\/g.2.1<r.length
theorem Aw.and{r:List ag}{g:fw}{f:gu->Nat->fw}(h:Aw r g)(hf:Aw r (f g.1 g.2.1)):Aw r (iE g f):=by
 by_cases he:g.2.2=0
 ·rw[bL he];exact hf
 ·rw[bf he];exact h
theorem Aw.up{r:List ag}{g:fw}{n:Nat}(h:Aw (r.drop n) g):Aw r (dL n g):=by
 rcases h with h|h|h|h
 ·exact .inl h
 ·exact .inr (.inl h)
 ·exact .inr (.inr (.inl h))
 ·refine .inr (.inr (.inr ?_))
  rw[List.length_drop] at h;simp only[dL];omega
theorem Aw.ok{r:List ag}{x:gu}{n:Nat}:Aw r (x,n,0):=.inl rfl
theorem Aw.bad{r:List ag}{n:Nat}:Aw r (cO (r.drop n) n):=by
 unfold cO;split
 ·exact .inr (.inl rfl)
 ·next h=>
  refine .inr (.inr (.inr ?_));refine Nat.lt_of_not_le fun hle=>h ?_;exact List.drop_eq_nil_of_le hle
theorem Aw.bad0{r:List ag}:Aw r (cO r 0):=by simpa using Aw.bad (r:=r) (n:=0)
theorem Aw.deep{r:List ag}{n:Nat}(h:n<r.length):Aw r (mh n):=.inr (.inr (.inr h))
theorem KS{r:List ag}{k:Nat}{w:ByteArray}(h:bO (r.drop k) w=true):k<r.length:=by
 have:=bD h;rw[List.length_drop] at this;omega
theorem MJ{r:List ag}{k:Nat}{w:ByteArray}(h:¬bO (r.drop k) w=false):k<r.length:=KS (by simpa using h)
theorem NJ:∀(n:Nat) (t:Nt) (r:List ag) (d:Nat),t.okX r->Aw r (aj n t r d):=by
 intro n
 induction n with
 |zero=>intro t r d _;exact .inr (.inr (.inl rfl))
 |succ n IH=>
  intro t r d ht
  cases t with
  |choice=>
   rw[aj];refine (IH (.term 1) r d (by simp only[Nt.okX];omega)).and ?_;split
   ·exact .ok
   ·next hq=>
    split
    ·exact .deep (MJ hq)
    ·refine (IH .choice _ _ trivial).up.and ?_
     split
     ·exact .bad
     ·exact (IH .choice _ _ trivial).up.and .ok
  |term lv=>
   simp only[Nt.okX] at ht;rw[aj];split
   ·exact IH _ _ _ trivial
   ·exact (IH (.term (lv+1)) r d (by simp only[Nt.okX];omega)).and (IH (.tloop lv _) _ _ (by simp only[Nt.okX];omega)).up
  |tloop lv a=>
   simp only[Nt.okX] at ht;rw[aj];split
   ·exact .ok
   ·exact (IH (.term (lv+1)) _ d (by simp only[Nt.okX];omega)).up.and (IH (.tloop lv _) _ _ (by simp only[Nt.okX];omega)).up
  |tight=>
   rw[aj];split
   ·exact IH _ _ _ trivial
   ·next hs=>
    split
    ·refine .deep ?_
     refine List.length_pos_iff.2 fun h=>hs ?_;rw[h];exact⟨rfl,rfl⟩
    ·exact (IH .tight _ _ trivial).up.and .ok
  |post=>
   rw[aj];exact (IH .prime _ _ trivial).and (IH (.ploop _) _ _ trivial).up
  |ploop a=>
   rw[aj];split
   ·next hdot=>
    have hl:=bD hdot;split
    ·next hq=>
     have:=Aw.bad (r:=r) (n:=1);rw[hq] at this;exact this
    ·next t q hq=>
     split
     ·exact (IH (.ploop _) _ _ trivial).up
     ·exact .bad
   ·split
    ·next hlb=>
     split
     ·exact .deep (bD hlb)
     ·refine (IH .choice _ _ trivial).up.and ?_
      split
      ·exact .bad
      ·exact (IH (.ploop _) _ _ trivial).up
    ·exact .ok
  |prime=>
   cases r with
   |nil=>simp only[aj];exact .bad0
   |cons t r'=>
    simp only[aj];split
    ·split
     ·next hs=>exact (Aw.up (r:=t::r') (n:=1) (IH (.many ql) r' d (bD hs))).and .ok
     ·exact .ok
    ·split
     ·exact .ok
     ·split
      ·split
       ·exact .inr (.inr (.inr (by simp)))
       ·exact .ok
      ·split
       ·exact (IH (.many pq) (t::r') d (by simp[Nt.okX])).and .ok
       ·split
        ·split
         ·exact .deep (by simp)
         ·refine (Aw.up (r:=t::r') (n:=1) (IH .choice r' (d+1) trivial)).and ?_
          split
          ·exact .bad
          ·exact .ok
        ·exact .bad0
  |many s=>
   have hl:1<=r.length:=ht;rw[aj];split
   ·exact .deep hl
   ·split
    ·exact .ok
    ·exact (IH (.mloop s []) _ _ trivial).up
  |mloop s l=>
   rw[aj];refine (IH .choice r (d+1) trivial).and ?_;split
   ·exact (IH (.mloop s _) _ _ trivial).up
   ·split
    ·exact .ok
    ·exact .bad
theorem AR(l:List ag)(h0:(gH l).2.2≠0)(h2:(gH l).2.2≠2):(gH l).2.1<l.length:=by
 unfold gH at h0 h2 ⊢
 by_cases hb:1000<l.length
 ·rw[if_pos hb];exact hb
 ·rw[if_neg hb] at h0 h2 ⊢
  by_cases h:(aj (ib .choice l) .choice l 0).2.2=0
  ·rw[if_pos h] at h0;exact absurd h h0
  ·rw[if_neg h] at h0 h2 ⊢
   have hf:=nO (ib .choice l) .choice l 0 lz trivial;rcases NJ (ib .choice l) .choice l 0 trivial with q|q|q|q
   ·exact absurd q h
   ·exact absurd q h2
   ·exact absurd q hf.1
   ·exact q
theorem CK(l:List ag):(gH l).2.1<=l.length:=by
 unfold gH;have hf:=nO (ib .choice l) .choice l 0 lz trivial;split
 ·next h=>show 1000<=_;omega
 ·split
  ·exact hf.2.1
  ·exact hf.2.1
end Go.Proofs.YtbcdaaobbebooaaGreatDoor
namespace Go.Proofs.YtbcdaaobbebooaaGreatDoor
open Go.RowKit Go.Tab
abbrev iL(v:Value)(stop:Int)(last:Bool):Value:=.agg #[v,.int .i64 stop,.bool last]
abbrev dH(v:Value)(stop:Int)(last:Bool):Array Value:=#[v,.int .i64 stop,.bool last]
abbrev iR(w:World)(g:Nat)(v:Value)(a e:Int):Prop:=aa w g #[v,.int .i64 a,.int .i64 e] 83
def EP:oW->Int×Int
 |.wrong a e=>(a,e)
 |_=>(0,0)
def xU:oW->Int
 |.wrong _ _=>0
 |.empty=>1
 |.attr _=>2
 |.begins _=>3
 |.bare _=>4
 |.fin=>5
def zP:oW->bP
 |.attr x=>x
 |.begins x=>x
 |.bare x=>x
 |_=>bY
def lU(t:ag)(s:ByteArray):Bool:=decide (t.kind=4)&&decide (t.text=s)
theorem pW(t:ag)(r:List ag)(s:ByteArray):bO (t::r) s=lU t s:=rfl
theorem sG(a b:ByteArray):(a.toList==b.toList)=decide (a=b):=by
 by_cases h:a=b
 ·subst h;simp
 ·rw[decide_eq_false h];exact wV h
theorem o9(t:ag)(s:ByteArray)(w:World):Calls Tryz.prog 131 #[eO t,.string s] w fun e w'=>e=.returned (.bool (lU t s))/\Below w.heap.size w w':=by
 obtain⟨k,tx,p⟩:=t;have Aa:Below w.heap.size w (w.alloc (.cells #[.int .i64 k,.string tx,.int .i64 p] 63)):=(Below.refl _ w).alloc lz _
 have ek:(k==4)=decide (k=4):=by
  by_cases h:k=4
  ·subst h;simp
  ·rw[decide_eq_false h];simpa using h
 have et:=sG tx s;unfold lU;simp only[eO];generalize decide (k=4)=bk at *;generalize decide (tx=s)=bt at *;go_enter Tryz.func131,Tryz.ntmps131;cases bk<;>cases bt
 all_goals
  go_wp2;go_ret;exact⟨rfl,Aa⟩
theorem qG(g:Nat)(v:Value)(a0 e0 a e:Int)(w:World)(h:iR w g v a0 e0):Calls Tryz.prog 50 #[.pointer (some ⟨g,0,none⟩),.int .i64 a,.int .i64 e] w fun r w'=>r=.returned (.tuple #[])/\iR w' g v a e/\w'=(w.setCell ⟨g,1,none⟩ (.int .i64 a)).setCell ⟨g,2,none⟩ (.int .i64 e):=by
 have hl:=h.lt;have HH:=Hh h;obtain⟨Aa,Ad,Ab,Ae,Ac,Af⟩:=h.n3 rfl;clear h;go_enter Tryz.func50,Tryz.ntmps50;go_wp2;refine bodyPost_end (v:=.tuple #[]) (by simp[results,Tryz.results50,go_sem]) rfl ?_;exact⟨rfl,by simpa using (HH.out.setI 1 (.int .i64 a)).setI 2 (.int .i64 e),rfl⟩
def Nq(g:Nat)(v:Value)(r:oW)(w:World)(e:Ending)(w':World):Prop:=e=.returned (.tuple #[])/\aC g w w'/\iR w' g v (EP r).1 (EP r).2
theorem jC(g:Nat)(v:Value)(row:List ag)(lv:Value)(stop:Int)(last:Bool)(i:Nat)(w:World)(h:iR w g v 0 0)(hr:aH w lv row)(hn:row.length<=1000000) :
  Calls Tryz.prog 132 #[.pointer (some ⟨g,0,none⟩),iL lv stop last,.int .i64 (i:Nat)] w (Nq g v (eU row stop last i) w):=by
 obtain⟨ra,rc,rfl,Ae,Ad,-⟩:=hr.len;unfold maxLen at Ad;have Aa:Below w.heap.size w (w.alloc (.cells (dH (.slice ra row.length rc) stop last) 86)):=(Below.refl _ w).alloc lz _;have hP:=h.below Aa h.lt;have Ab:=hr.below Aa lz;have hF:=fun a e=>qG g v 0 0 a e _ hP;have Ac:aC g w (w.alloc (.cells (dH (.slice ra row.length rc) stop last) 86)):=aC.of Aa;have HS:=Hh Ac;clear Aa Ac h hr;unfold eU Nq;simp only[iL]
 by_cases hi:i<row.length
 ·obtain⟨b,Ag,rfl,Af,c0,c1,c2⟩:=Ab.get hi
  rw[List.getElem?_eq_getElem hi];simp only[EP];generalize row[i]=t at *;clear Ab;go_enter Tryz.func132,Tryz.ntmps132;go_wp2_with fail;refine (hF _ _).mono ?_;rintro _ w2 ⟨rfl,hp2,rfl⟩;go_wp2;refine bodyPost_end (v:=.tuple #[]) (by simp[results,Tryz.results132,go_sem]) rfl ?_;exact⟨rfl,(HS.out.set _ _).set _ _,hp2⟩
 ·rw[List.getElem?_eq_none (by omega)]
  simp only;clear Ab
  cases last with
  |true=>
   simp only[if_true,EP];go_enter Tryz.func132,Tryz.ntmps132;go_wp2_with fail;refine (hF _ _).mono ?_;rintro _ w2 ⟨rfl,hp2,rfl⟩;go_wp2;refine bodyPost_end (v:=.tuple #[]) (by simp[results,Tryz.results132,go_sem]) rfl ?_;exact⟨rfl,(HS.out.set _ _).set _ _,hp2⟩
  |false=>
   simp only[Bool.false_eq_true,if_false,EP];go_enter Tryz.func132,Tryz.ntmps132;go_wp2_with fail;refine (hF _ _).mono ?_;rintro _ w2 ⟨rfl,hp2,rfl⟩;go_wp2;refine bodyPost_end (v:=.tuple #[]) (by simp[results,Tryz.results132,go_sem]) rfl ?_;exact⟨rfl,(HS.out.set _ _).set _ _,hp2⟩
abbrev kg(t:ag):Obj:=.cells #[.int .i64 t.kind,.string t.text,.int .i64 t.pos] 63
theorem dY(a b:Int):(a==b)=decide (a=b):=rfl
theorem nT(t:ag)(w:World):Calls Tryz.prog 32 #[eO t] w fun e w'=>e=.returned (.bool (dS t))/\w'=w.alloc (kg t):=by
 obtain⟨k,tx,p⟩:=t;have e6:=dY k 6;have e7:=dY k 7;unfold dS;simp only[eO];generalize decide (k=6)=b6 at *;generalize decide (k=7)=b7 at *;go_enter Tryz.func32,Tryz.ntmps32;cases b6<;>cases b7
 all_goals
  go_wp2;go_ret;exact⟨rfl,rfl⟩
theorem uF(t:ag)(w:World):Calls Tryz.prog 112 #[eO t] w fun e w'=>e=.returned (.bool (dS t))/\w'=w.alloc (kg t):=by
 obtain⟨k,tx,p⟩:=t;have e6:=dY k 6;have e7:=dY k 7;unfold dS;simp only[eO];generalize decide (k=6)=b6 at *;generalize decide (k=7)=b7 at *;go_enter Tryz.func112,Tryz.ntmps112;cases b6<;>cases b7
 all_goals
  go_wp2;go_ret;exact⟨rfl,rfl⟩
theorem qm(t:ag)(w:World):Calls Tryz.prog 36 #[eO t] w fun e w'=>e=.returned (.bool (dS t))/\w'=w.alloc (kg t):=by
 obtain⟨k,tx,p⟩:=t;have e6:=dY k 6;have e7:=dY k 7;unfold dS;simp only[eO];generalize decide (k=6)=b6 at *;generalize decide (k=7)=b7 at *;go_enter Tryz.func36,Tryz.ntmps36;cases b6<;>cases b7
 all_goals
  go_wp2;go_ret;exact⟨rfl,rfl⟩
theorem nJ(t:ag)(s:ByteArray)(w:World):Calls Tryz.prog 69 #[eO t,.string s] w fun e w'=>e=.returned (.bool (bT t s))/\w'=w.alloc (kg t):=by
 obtain⟨k,tx,p⟩:=t;have ek:=dY k 4;have et:=sG tx s;unfold bT;simp only[eO];generalize decide (k=4)=bk at *;generalize decide (tx=s)=bt at *;go_enter Tryz.func69,Tryz.ntmps69;cases bk<;>cases bt
 all_goals
  go_wp2;go_ret;exact⟨rfl,rfl⟩
theorem dw(t:ag)(s:ByteArray)(w:World):Calls Tryz.prog 37 #[eO t,.string s] w fun e w'=>e=.returned (.bool (bT t s))/\w'=w.alloc (kg t):=by
 obtain⟨k,tx,p⟩:=t;have ek:=dY k 4;have et:=sG tx s;unfold bT;simp only[eO];generalize decide (k=4)=bk at *;generalize decide (tx=s)=bt at *;go_enter Tryz.func37,Tryz.ntmps37;cases bk<;>cases bt
 all_goals
  go_wp2;go_ret;exact⟨rfl,rfl⟩
theorem qo(t:ag)(s:ByteArray)(w:World):Calls Tryz.prog 114 #[eO t,.string s] w fun e w'=>e=.returned (.bool (bT t s))/\w'=w.alloc (kg t):=by
 obtain⟨k,tx,p⟩:=t;have ek:=dY k 4;have et:=sG tx s;unfold bT;simp only[eO];generalize decide (k=4)=bk at *;generalize decide (tx=s)=bt at *;go_enter Tryz.func114,Tryz.ntmps114;cases bk<;>cases bt
 all_goals
  go_wp2;go_ret;exact⟨rfl,rfl⟩
theorem D9(t:ag)(w:World):Calls Tryz.prog 34 #[eO t] w fun e w'=>e=.returned (.bool (gy t))/\w'=w.alloc (kg t):=by
 obtain⟨k,tx,p⟩:=t;have e1:=dY k 1;have e2:=dY k 2;have e3:=dY k 3;unfold gy;simp only[eO];generalize decide (k=1)=b1 at *;generalize decide (k=2)=b2 at *;generalize decide (k=3)=b3 at *;go_enter Tryz.func34,Tryz.ntmps34;cases b1<;>cases b2<;>cases b3
 all_goals
  go_wp2;go_ret;exact⟨rfl,rfl⟩
theorem LC{t:ag}{L:Bs}(h:t.kind≠4\/t.text.size≠1):aZ t L=false:=by
 unfold aZ
 by_cases hk:t.kind=4
 ·rcases h with h|h
  ·exact absurd hk h
  ·have:t.text.data.toList.length≠1:=h
   split
   ·next c hc=>rw[hc] at this;exact absurd rfl this
   ·rw[Bool.and_false]
 ·rw[decide_eq_false hk];rfl
theorem M4{k:Int}{c:UInt8}{p:Int}(L:Bs)(hk:k=4):aZ ⟨k,⟨#[c]⟩,p⟩ L=L.contains c:=by
 unfold aZ;rw[decide_eq_true hk];rfl
theorem NM{s:ByteArray}(h:s.size=1):∃c,s=⟨#[c]⟩:=by
 obtain⟨⟨l⟩⟩:=s
 match l,h with
 |[c],_=>exact⟨c,rfl⟩
theorem JM{L:Bs}{c:UInt8}{k:Nat}(hk:k<L.length):(L.take (k+1)).contains c=((L.take k).contains c || (c==L[k])):=by
 rw[List.take_succ_eq_append_getElem hk,List.contains_append,List.contains_cons,List.contains_nil,Bool.or_false]
theorem fE(t:ag)(all:ByteArray)(w:World)(hL:all.size<=1000):Calls Tryz.prog 33 #[eO t,.string all] w fun e w'=>e=.returned (.bool (aZ t all.data.toList))/\Below w.heap.size w w':=by
 by_cases hq:t.kind=4/\t.text.size=1
 ·obtain⟨k,tx,p⟩:=t
  simp only at hq;obtain⟨hk,h1⟩:=hq;obtain⟨c,rfl⟩:=NM h1;rw[M4 _ hk];subst hk;clear h1;simp only[eO];have Ae:all.data.toList.length=all.size:=eX all;have Ab:(⟨#[c]⟩:ByteArray).size=1:=rfl;have Ac:((⟨#[c]⟩:ByteArray)[0]'(by rw[Ab];decide)).toNat=c.toNat:=rfl;go_enter Tryz.func33,Tryz.ntmps33;go_wp2_with fail;go_loopw [17] (fun i wr=>∃k:Nat,k<=all.size/\i=.int .i64 (k:Int)/\Hid ((all.data.toList.take k).contains c=false)/\∃n:Nat,wr=(w.alloc (.cells #[.int .i64 4,.string ⟨#[c]⟩,.int .i64 p] 63)).drewN n) (fun i _=>all.size-(intOf i).toNat)
  case atStart=>exact⟨0,Nat.zero_le _,rfl,Hh rfl,0,rfl⟩
  case round=>
   obtain⟨k,hk,rfl,HA,n,rfl⟩:=hrel;have Aa:∀m,Below w.heap.size w (((w.alloc (.cells #[.int .i64 4,.string ⟨#[c]⟩,.int .i64 p] 63)).drewN n).drewN m):=fun m=>ah (ah ((Below.refl _ w).alloc lz _) n) m;have HB:=Hh Aa;have Ad:((w.alloc (.cells #[.int .i64 4,.string ⟨#[c]⟩,.int .i64 p] 63)).drewN n).cell? ⟨w.heap.size,1,none⟩=some (.string ⟨#[c]⟩):=(aa.new w #[.int .i64 4,.string ⟨#[c]⟩,.int .i64 p] 63).cell 1 _ rfl;clear Aa
   by_cases hkl:k<all.size
   ·have hT:=JM (L:=all.data.toList) (c:=c) (k:=k) (by omega)
    have hg:(all[k]'hkl).toNat=(all.data.toList[k]'(by omega)).toNat:=rfl;generalize all.data.toList[k]'(by omega)=d at *
    by_cases hd:c=d
    ·subst hd
     have e:((c.toNat:Int)==(c.toNat:Int))=true:=by simp
     have HC:Hid (all.data.toList.contains c=true):=Hh (by
      rw[List.contains_eq_mem,decide_eq_true_eq];have h2:((all.data.toList.take (k+1)).contains c)=true:=by rw[hT];simp
      rw[List.contains_eq_mem,decide_eq_true_eq] at h2
      exact List.mem_of_mem_take h2)
     clear hT;go_wp2_with fail;go_quiet (fail)
     go_wp2_with fail;go_ret;rw[HC.out];exact⟨rfl,HB.out _⟩
    ·have e:((d.toNat:Int)==(c.toNat:Int))=false:=by
      rw[beq_eq_false_iff_ne];intro e;exact hd (UInt8.toNat_inj.1 (by omega))
     have HC:Hid ((all.data.toList.take (k+1)).contains c=false):=Hh (by rw[hT,HA.out];simpa using hd);clear hT hd;go_wp2_with fail;go_quiet (fail)
     go_wp2_with fail;go_roundw
     case rel=>exact⟨k+1,hkl,by go_num,HC,n+nq,rfl⟩
     case measure=>simp[intOf];omega
   ·obtain rfl:k=all.size:=by omega
    rw[List.take_of_length_le (by omega)] at HA;go_wp2_with fail;go_ret;rw[HA.out];exact⟨rfl,HB.out 0⟩
 ·rw[LC (by by_cases h:t.kind=4;(· exact .inr (fun h2=>hq ⟨h,h2⟩));exact .inl h)]
  obtain⟨k,tx,p⟩:=t;simp only at hq;simp only[eO];have hk:=dY k 4
  by_cases h4:k=4
  ·subst h4
   have h1:((tx.size:Int) != 1)=true:=by simp;omega
   go_enter Tryz.func33,Tryz.ntmps33;go_wp2;go_ret;exact⟨rfl,(Below.refl _ w).alloc lz _⟩
  ·have h1:(k != 4)=true:=by simpa using h4
   go_enter Tryz.func33,Tryz.ntmps33;go_wp2;go_ret;exact⟨rfl,(Below.refl _ w).alloc lz _⟩
end Go.Proofs.YtbcdaaobbebooaaGreatDoor
