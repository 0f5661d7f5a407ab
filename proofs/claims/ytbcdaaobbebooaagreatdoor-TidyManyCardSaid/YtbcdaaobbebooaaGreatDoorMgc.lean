import Derived.Test.YtbcdaaobbebooaaGreatDoorMgb
import Derived.Laws.IdiomStrings
import Derived.RangeFuncNested
import Derived.RangeFuncBound
import Derived.RangeFuncBox
import Derived.RangeFuncCalls
import Derived.RangeFuncLeaves
import Derived.Shelf.Abstract
import Derived.Shelf.RegionOpen
import Derived.OwnWalkIn
import Derived.TacticsInMore
import Derived.LoopNIn
import Derived.LoopIn
import Derived.Maps.AppendAt
set_option linter.unusedSimpArgs false
set_option linter.unusedVariables false
set_option maxRecDepth 100000
set_option maxHeartbeats 20000000
namespace Go.Proofs.YtbcdaaobbebooaaGreatDoor
open Go.RowKit Go.Tab
abbrev gU(l:List Nat)(w:World):Ending->World->Prop:=fun e w'=>e=.returned (.tuple #[.int .i64 (aD l).1,.int .i64 (aD l).2])/\w=w'
theorem ku{a b:Int}{l:List Nat}{c n:Nat}(h:aD l=(c,n))(h1:a=c)(h2:b=n):Ending.returned (.tuple #[.int .i64 a,.int .i64 b])=.returned (.tuple #[.int .i64 (aD l).1,.int .i64 (aD l).2]):=by
 rw[h,h1,h2]
theorem I7(s:ByteArray)(i:Nat)(a:Nat)(r:List Nat)(w:World)(hT:Tab w)(hl:(bs s).drop i=a::r)(hs:s.size<=1048576)(h1:a<128) :
  Calls Tryz.prog 143 #[.string s,.int .i64 i] w (gU (a::r) w):=by
 obtain⟨h0,e0⟩:=Ak hl (j:=0) (by simp);simp only[Nat.add_zero,List.getElem_cons_zero] at h0 e0;have ho:aD (a::r)=(a,1):=by simp[aD,h1]
 have HO:=Hh ho;have hc:=hT (a / 8) (by omega);rw[uI,show dU a=1 by simp[dU,h1]] at hc;clear ho hl;unfold gU;go_enter Tryz.func143,Tryz.ntmps143;go_wp2;go_ret2
 exact⟨ku HO.out rfl rfl,rfl⟩
theorem OC(c b:Nat)(h:c<131072)(hb:b<256):bits .or .i64 ((c:Int)*64) ((b:Int) % 64)=((c*64+b % 64:Nat):Int):=by
 have:=O9 c (b % 64) (by omega) (by omega)
 simpa using this
theorem Ff(s:ByteArray)(i:Nat)(a n:Nat)(r:List Nat)(w:World)(hT:Tab w)(hl:(bs s).drop i=a::r)(hs:s.size<=1048576)(hsz:dU a=n)(hn:n=2\/n=3\/n=4) :
  Calls Tryz.prog 143 #[.string s,.int .i64 i] w (gU (a::r) w):=by
 have Ac:∀x∈a::r,x<256:=by rw[<-hl];exact fun x hx=>fK x (List.mem_of_mem_drop hx)
 have ha:=Ac a (by simp);have hi:=Hh (fun (j:Nat) (hj:j<(a::r).length)=>Ak hl hj);have Ab:(a::r).length=s.size-i:=by rw[<-hl];simp[ay]
 simp only[List.length_cons] at Ab;obtain⟨h0,e0⟩:=hi.out 0 (by simp);simp only[Nat.add_zero,List.getElem_cons_zero] at h0 e0;have ho:=IC Ac hsz (by omega);have hc:=hT (a / 8) (by omega);rw[uI,hsz] at hc;clear hl;unfold gU
 by_cases hsh:r.length<n-1
 ·rw[if_pos hsh] at ho
  have HO:=Hh ho;have hd:(s.size:Int)-i<n:=by omega
  clear ho hsh Ab hsz;rcases hn with rfl|rfl|rfl
  all_goals
   go_enter Tryz.func143,Tryz.ntmps143;go_wp2;go_ret2
   exact⟨ku HO.out rfl rfl,rfl⟩
 ·rw[if_neg hsh] at ho
  have HO:=Hh ho;have hd:(n:Int)<=(s.size:Int)-i:=by omega
  have m1:=OV a ha;have m2:=OW a ha;have m3:=Pi a ha;have Al:jw a n<32:=by unfold jw;split<;>(try split)<;>omega
  have Av:n-1<=r.length:=by omega
  have Aj:=Hh Ac;have As:((n:Int)==1)=false:=by rw[beq_eq_false_iff_ne];omega
  have Ar:((n:Int)==0)=false:=by rw[beq_eq_false_iff_ne];omega
  have Au:n<=4:=by omega
  have At:2<=n:=by omega
  have hz:(n=2/\((n:Int)==2)=true/\jw a n=a % 32)\/(n=3/\((n:Int)==2)=false/\((n:Int)==3)=true/\jw a n=a % 16)\/(n=4/\((n:Int)==2)=false/\((n:Int)==3)=false/\jw a n=a % 8):=by
   rcases hn with rfl|rfl|rfl
   ·exact .inl ⟨rfl,rfl,rfl⟩
   ·exact .inr (.inl ⟨rfl,rfl,rfl,rfl⟩)
   ·exact .inr (.inr ⟨rfl,rfl,rfl,rfl⟩)
  clear ho hsh Ab hsz Ac hn;have Aw:∀A:Nat,A=jw a n->A<32:=fun A h=>by omega
  rcases hz with ⟨-,f2,hz⟩|⟨-,f2,f3,hz⟩|⟨-,f2,f3,hz⟩
  all_goals
   have HZ:=Hh hz;clear hz;go_enter Tryz.func143,Tryz.ntmps143;go_wp2_with fail;go_loop [4,5,7] (fun c z k=>∃C K:Nat,c=.int .i64 C/\z=.int .i64 n/\k=.int .i64 K/\1<=K/\K<=n/\qK (jw a n) (r.take (n-1))=qK C ((r.take (n-1)).drop (K-1))/\Hid ((K=1->C<32)/\(K=2->C<2048)/\(K=3->C<131072)/\C<8388608)) (fun _ _ k=>n-(intOf k).toNat)
   case atStart=>
    refine⟨jw a n,1,by rw[HZ.out];simp,rfl,rfl,by omega,by omega,by simp,?_⟩;have:=Al;exact Hh (by omega)
   case round=>
    obtain⟨C,K,rfl,rfl,rfl,Ap,Aq,Aa,hC⟩:=hrel
    by_cases hKn:K<n
    ·have Af:K<(a::r).length:=by simp;omega
     obtain⟨h5,e5⟩:=hi.out K Af
     have Ah:(r.take (n-1)).drop (K-1)=(a::r)[K]::(r.take (n-1)).drop K:=by
      have h6:K-1<(r.take (n-1)).length:=by simp;omega
      rw[List.drop_eq_getElem_cons h6];obtain⟨j,rfl⟩:∃j,K=j+1:=⟨K-1,by omega⟩;simp
     have hb:=Aj.out _ (List.getElem_mem Af);rw[Ah] at Aa;clear Ah;generalize (a::r)[K]=b at e5 hb Aa;have An:0<=(i:Int)+(K:Int)/\(i:Int)+(K:Int)<(s.size:Int):=by omega
     have m4:=Oe b hb;have m5:=Nn b (by omega)
     by_cases hb2:b / 64=2
     ·have Ae:C<131072:=by have:=hC.out;omega
      have m6:=OC C b Ae hb;have m7:((b / 64*64:Nat):Int)=128:=by omega
      rw[m7] at m4;simp only[qK,hb2,if_true] at Aa;have HC:=Hh Aa;have HB:Hid ((K+1=1->C*64+b % 64<32)/\(K+1=2->C*64+b % 64<2048)/\(K+1=3->C*64+b % 64<131072)/\C*64+b % 64<8388608):=Hh (by have:=hC.out;omega);have Ao:C*64<=8388607:=by omega
      clear Aa m7 Ae;go_wp2;go_round
      case rel=>exact⟨C*64+b % 64,K+1,by go_num,rfl,by go_num,by omega,by omega,HC.out,HB⟩
      case measure=>simp[intOf];omega
     ·have m7:(((b / 64*64:Nat):Int) != 128)=true:=by rw[bne_iff_ne];omega
      simp only[qK,hb2,if_false] at Aa;have HC:=Hh Aa;have H5:=HO.out;rw[HC.out] at H5;have H6:=Hh H5;rw[<-m4] at m7;clear Aa H5;go_wp2;go_ret2
      exact⟨ku H6.out rfl rfl,rfl⟩
    ·obtain rfl:K=n:=by omega
     have Ag:(r.take (K-1)).drop (K-1)=[]:=List.drop_of_length_le (by simp;omega);rw[Ag] at Aa;simp only[qK] at Aa;have H5:=HO.out;rw[Aa] at H5;simp only at H5;clear Aa Ag
     by_cases hsc:jW C=true
     ·by_cases hw:qi C=K
      ·rw[if_pos ⟨hsc,hw⟩] at H5
       have H6:=Hh H5;have Ad:((qi C:Nat):Int)=(K:Int):=by rw[hw]
       have Ai:=Hh Ad;clear H5 hw Ad;go_wp2_with fail;refine (jT (C:Int) w).mono ?_;rintro e1 w1 ⟨rfl,rfl⟩;rw[fD,hsc];go_wp2_with fail;refine (lI C w).mono ?_;rintro e1 w1 ⟨rfl,rfl⟩;rw[Ai.out];go_wp2;go_ret2
       exact⟨ku H6.out rfl rfl,rfl⟩
      ·rw[if_neg (fun h=>hw h.2)] at H5
       have H6:=Hh H5;have Ad:(((qi C:Nat):Int) != (K:Int))=true:=by rw[bne_iff_ne];omega
       clear H5 hw;go_wp2_with fail;refine (jT (C:Int) w).mono ?_;rintro e1 w1 ⟨rfl,rfl⟩;rw[fD,hsc];go_wp2_with fail;refine (lI C w).mono ?_;rintro e1 w1 ⟨rfl,rfl⟩;go_wp2;go_ret2
       exact⟨ku H6.out rfl rfl,rfl⟩
     ·rw[if_neg (fun h=>hsc h.1)] at H5
      have H6:=Hh H5;have Am:jW C=false:=by simpa using hsc
      clear H5 hsc;go_wp2_with fail;refine (jT (C:Int) w).mono ?_;rintro e1 w1 ⟨rfl,rfl⟩;rw[fD,Am];go_wp2;go_ret2
      exact⟨ku H6.out rfl rfl,rfl⟩
theorem uY(s:ByteArray)(i:Nat)(w:World)(hT:Tab w)(hs:s.size<=1048576) :
  Calls Tryz.prog 143 #[.string s,.int .i64 i] w (gU ((bs s).drop i) w):=by
 obtain⟨l,hl⟩:∃l,(bs s).drop i=l:=⟨_,rfl⟩;rw[hl]
 match l with
 |[]=>
  have h1:s.size<=i:=by have:=congrArg List.length hl;simp[ay] at this;omega
  unfold gU;go_enter Tryz.func143,Tryz.ntmps143;go_wp2;go_ret2
  exact⟨rfl,rfl⟩
 |a::r=>
  rcases yU a with h|h|h
  ·obtain⟨h0,e0⟩:=Ak hl (j:=0) (by simp)
   simp only[Nat.add_zero,List.getElem_cons_zero] at h0 e0;have ha:=fK a (List.mem_of_mem_drop (i:=i) (by rw[hl];simp));have HO:=Hh (IA (r:=r) h);have hc:=hT (a / 8) (by omega);rw[uI,h] at hc;clear hl h;unfold gU;go_enter Tryz.func143,Tryz.ntmps143;go_wp2;go_ret2
   exact⟨ku HO.out rfl rfl,rfl⟩
  ·exact I7 s i a r w hT hl hs (BV h)
  ·exact Ff s i a _ r w hT hl hs rfl (by omega)
def Od:Option Nat->Int
 |none=>-1
 |some a=>a
def mH(l:List Nat)(k:Nat)(pre:List (Nat×Nat)):Prop:=scan l 0=(pre++(scan (l.drop k) k).1,(scan (l.drop k) k).2)
theorem mH.zero(l:List Nat):mH l 0 []:=by simp[mH]
theorem mH.bad{l:List Nat}{k:Nat}{pre:List (Nat×Nat)}(h:mH l k pre)(hk:k<l.length)(h1:(aD (l.drop k)).2=0):scan l 0=(pre,some k):=by
 have Aa:l.drop k≠[]:=by intro h;have:=congrArg List.length h;simp at this;omega
 rw[h,jK Aa h1];simp
theorem mH.good{l:List Nat}{k c n:Nat}{pre:List (Nat×Nat)}(h:mH l k pre)(hk:k<l.length)(h1:aD (l.drop k)=(c,n))(hn:n≠0):mH l (k+n) (pre++[(k,c)]):=by
 have Aa:l.drop k≠[]:=by intro h;have:=congrArg List.length h;simp at this;omega
 unfold mH at h ⊢;rw[h,qj Aa h1 hn,List.drop_drop];simp
theorem mH.done{l:List Nat}{k:Nat}{pre:List (Nat×Nat)}(h:mH l k pre)(hk:k=l.length):scan l 0=(pre,none):=by
 rw[h,hk,List.drop_length,lV];simp
theorem FU:∀(m:Nat) (l:List Nat) (a k:Nat),l.length<=m->(∀x∈l,x<256)->(scan l a).2=some k->k<a+l.length
 | m,l,a,k,hm,hl,h=>by
  by_cases h0:l=[]
  ·subst h0;simp[lV] at h
  have hp:=List.length_pos_iff.2 h0
  by_cases hn:(aD l).2=0
  ·rw[jK h0 hn] at h;simp at h;omega
  ·have hle:=(jS l hl).1
   cases m with
   |zero=>omega
   |succ m=>
    rw[fV h0,if_neg hn] at h;have:=FU m (l.drop (aD l).2) (a+(aD l).2) k (by simp;omega) (fun x hx=>hl x (List.mem_of_mem_drop hx)) h;simp at this;omega
theorem Nb(s:ByteArray)(w:World)(hT:Tab w)(hs:s.size<=1048576) :
  Calls Tryz.prog 190 #[.string s] w fun e w'=>e=.returned (.int .i64 (Od (scan (bs s) 0).2))/\w=w':=by
 go_enter Tryz.func190,Tryz.ntmps190;go_wp2_with fail;go_loop [3] (fun i=>∃(k:Nat) (pre:List (Nat×Nat)),i=.int .i64 k/\k<=s.size/\mH (bs s) k pre) (fun i=>s.size-(intOf i).toNat)
 case atStart=>exact⟨0,[],rfl,Nat.zero_le _,mH.zero _⟩
 case round=>
  obtain⟨k,pre,rfl,hk,hr⟩:=hrel;have HR:=Hh hr;clear hr
  by_cases h:k<s.size
  ·obtain⟨c,n,h1⟩:∃c n,aD ((bs s).drop k)=(c,n):=⟨_,_,rfl⟩
   have Aa:=(jS ((bs s).drop k) (fun x hx=>fK x (List.mem_of_mem_drop hx))).1;have hF:=uY s k w hT hs;unfold gU at hF;rw[h1] at hF Aa;simp only[List.length_drop,ay] at Aa;have H1:=Hh h1;clear h1
   by_cases hn:n=0
   ·subst hn
    have h2:=Hh (HR.out.bad (by rw[ay];exact h) (by rw[H1.out]));go_wp2_with fail;refine hF.mono ?_;clear hF;rintro e w1 ⟨rfl,rfl⟩;go_wp2;go_ret;rw[h2.out];exact⟨rfl,rfl⟩
   ·have h2:=Hh (HR.out.good (by rw[ay];exact h) H1.out hn)
    have hb:((n:Int)==0)=false:=by rw[beq_eq_false_iff_ne];omega
    have Ab:1<=n:=by omega
    clear hn;go_wp2_with fail;refine hF.mono ?_;clear hF;rintro e w1 ⟨rfl,rfl⟩;go_wp2;go_round
    case rel=>exact⟨k+n,_,by go_num,by omega,h2.out⟩
    case measure=>simp[intOf];omega
  ·have h2:=Hh (HR.out.done (by rw[ay];omega))
   go_wp2;go_ret;rw[h2.out];exact⟨rfl,rfl⟩
def Li(r:List (Nat×Nat)×Option Nat):Nat:=if r.2.isNone then r.1.length else 0
theorem Jp(s:ByteArray)(w:World)(hT:Tab w)(hs:s.size<=1048576) :
  Calls Tryz.prog 110 #[.string s] w fun e w'=>e=.returned (.tuple #[.int .i64 (Li (scan (bs s) 0)),.bool (scan (bs s) 0).2.isNone])/\w=w':=by
 go_enter Tryz.func110,Tryz.ntmps110;go_wp2_with fail;go_loop [4,5] (fun m i=>∃(k:Nat) (pre:List (Nat×Nat)),m=.int .i64 (pre.length:Nat)/\i=.int .i64 k/\k<=s.size/\pre.length<=k/\mH (bs s) k pre) (fun _ i=>s.size-(intOf i).toNat)
 case atStart=>exact⟨0,[],rfl,rfl,Nat.zero_le _,Nat.le_refl _,mH.zero _⟩
 case round=>
  obtain⟨k,pre,rfl,rfl,hk,Ac,hr⟩:=hrel;have HR:=Hh hr;clear hr
  by_cases h:k<s.size
  ·obtain⟨c,n,h1⟩:∃c n,aD ((bs s).drop k)=(c,n):=⟨_,_,rfl⟩
   have Aa:=(jS ((bs s).drop k) (fun x hx=>fK x (List.mem_of_mem_drop hx))).1;have hF:=uY s k w hT hs;unfold gU at hF;rw[h1] at hF Aa;simp only[List.length_drop,ay] at Aa;have H1:=Hh h1;clear h1
   by_cases hn:n=0
   ·subst hn
    have h2:=Hh (HR.out.bad (by rw[ay];exact h) (by rw[H1.out]));go_wp2_with fail;refine hF.mono ?_;clear hF;rintro e w1 ⟨rfl,rfl⟩;go_wp2;go_ret2
    rw[h2.out];exact⟨rfl,rfl⟩
   ·have h2:=Hh (HR.out.good (by rw[ay];exact h) H1.out hn)
    have hb:((n:Int)==0)=false:=by rw[beq_eq_false_iff_ne];omega
    have Ab:1<=n:=by omega
    clear hn;go_wp2_with fail;refine hF.mono ?_;clear hF;rintro e w1 ⟨rfl,rfl⟩;go_wp2;go_round
    case rel=>exact⟨k+n,_,by simp,by go_num,by omega,by simp;omega,h2.out⟩
    case measure=>simp[intOf];omega
  ·have h2:=Hh (HR.out.done (by rw[ay];omega))
   go_wp2;go_ret2
   rw[h2.out];exact⟨rfl,rfl⟩
def bg(l:List UInt8):ByteArray:=⟨l.toArray⟩
theorem wD(k m x:Nat)(hx:x<2 ^ k)(hm:2 ^ k*m<256)(hx2:x<256):bits .or .i64 ((2 ^ k*m:Nat):Int) (x:Int)=((2 ^ k*m+x:Nat):Int):=by
 have:=rV (2 ^ k*m) x (by omega) (by omega);rw[<-Nat.two_pow_add_eq_or_of_lt hx m] at this;exact this
theorem OH(x:Nat)(h:x<64):bits .or .i64 128 (x:Int)=((128+x:Nat):Int):=wD 6 2 x h (by decide) (by omega)
theorem OG(x:Nat)(h:x<64):bits .or .i64 192 (x:Int)=((192+x:Nat):Int):=wD 6 3 x h (by decide) (by omega)
theorem OE(x:Nat)(h:x<32):bits .or .i64 224 (x:Int)=((224+x:Nat):Int):=wD 5 7 x h (by decide) (by omega)
theorem OD(x:Nat)(h:x<16):bits .or .i64 240 (x:Int)=((240+x:Nat):Int):=wD 4 15 x h (by decide) (by omega)
theorem nK(c:Nat)(w:World)(hc:c<=1114111):Calls Tryz.prog 227 #[.int .i64 c] w fun e w'=>e=.returned (.int .u8 (128+c % 64:Nat))/\w=w':=by
 have m1:=Nn c (by omega);have m2:=OH (c % 64) (by omega);push_cast at m1 m2;clear hc;go_enter Tryz.func227,Tryz.ntmps227;go_wp2;go_ret;exact⟨dV (by simp),rfl⟩
theorem Tryz.underS:Tryz.prog.underlying 9=some .string:=by kernel_rfl
theorem jF(w:World)(l:List UInt8)(cs:Array Value)(n:Nat)(m:List UInt8)(hm:m=l)(h:cs=(l.map lF).toArray)(hn:n=l.length) :
  (convert 67 9 (.slice (some ⟨w.heap.size,0,none⟩) n n)).run Tryz.prog (w.alloc (.cells cs 5))=.ok (.string (bg m)) (w.alloc (.cells cs 5)):=by
 subst hm h hn;refine run_convert_bytes_back (P:=Tryz.prog) _ _ _ 5 _ m.length m Tryz.underlying67 Tryz.underlying5 Tryz.underS fun j hj=>?_;rw[Addr.add_lit,World.cell?_alloc_new];simp[hj]
theorem BC(c:Nat)(w:World)(h:jW c=true) :
  Calls Tryz.prog 209 #[.int .i64 c] w fun e w'=>e=.returned (.tuple #[.string (bg (gG c)),.bool true])/\Below w.heap.size w w':=by
 have hS:=jT (c:Int) w;rw[fD,h] at hS;rw[bZ] at h;obtain⟨h,-⟩:=h
 by_cases h1:c<128
 ·have hW:=lI c w
  rw[show qi c=1 by simp[qi,h1]] at hW;have hp:gG c=[UInt8.ofNat c]:=by simp[gG,fu,h1]
  have Aa:=jF w [UInt8.ofNat c] #[.int .u8 c] 1 (gG c) hp (by simp[lF];omega) rfl;clear hp;go_enter Tryz.func209,Tryz.ntmps209;go_wp2_with fail;refine hS.mono ?_;rintro e w1 ⟨rfl,rfl⟩;go_wp2_with fail;refine hW.mono ?_;rintro e w1 ⟨rfl,rfl⟩;go_wp2;go_ret2
  exact⟨rfl,(Below.refl _ _).alloc lz _⟩
 ·by_cases h2:c<2048
  ·have hW:=lI c w
   rw[show qi c=2 by simp[qi,h1,h2]] at hW;have hp:gG c=[UInt8.ofNat (192+c / 64),UInt8.ofNat (128+c % 64)]:=by simp[gG,fu,h1,h2]
   have m1:=OG (c / 64) (by omega);push_cast at m1;have H:=Hh h;have Aa:=jF w [UInt8.ofNat (192+c / 64),UInt8.ofNat (128+c % 64)] #[.int .u8 (192+(c:Int) / 64),.int .u8 (128+(c:Int) % 64)] 2 (gG c) hp (by simp[lF];omega) rfl;have hb:c / 64<=31:=by omega
   clear hp h h1 h2;go_enter Tryz.func209,Tryz.ntmps209;go_wp2_with fail;refine hS.mono ?_;rintro e w1 ⟨rfl,rfl⟩;go_wp2_with fail;refine hW.mono ?_;rintro e w1 ⟨rfl,rfl⟩;go_wp2_with fail;refine (nK c w H.out).mono ?_;rintro e w1 ⟨rfl,rfl⟩;go_wp2;go_ret2
   exact⟨rfl,(Below.refl _ _).alloc lz _⟩
  ·by_cases h3:c<65536
   ·have hW:=lI c w
    rw[show qi c=3 by simp[qi,h1,h2,h3]] at hW;have hp:gG c=[UInt8.ofNat (224+c / 4096),UInt8.ofNat (128+c / 64 % 64),UInt8.ofNat (128+c % 64)]:=by simp[gG,fu,h1,h2,h3]
    have m1:=OE (c / 4096) (by omega);push_cast at m1;have H:=Hh h;have H2:=Hh (show c / 64<=1114111 by omega);have Aa:=jF w [UInt8.ofNat (224+c / 4096),UInt8.ofNat (128+c / 64 % 64),UInt8.ofNat (128+c % 64)] #[.int .u8 (224+(c:Int) / 4096),.int .u8 (128+(c:Int) / 64 % 64),.int .u8 (128+(c:Int) % 64)] 3 (gG c) hp (by simp[lF];omega) rfl;have hb:c / 4096<=15:=by omega
    clear hp h h1 h2 h3;go_enter Tryz.func209,Tryz.ntmps209;go_wp2_with fail;refine hS.mono ?_;rintro e w1 ⟨rfl,rfl⟩;go_wp2_with fail;refine hW.mono ?_;rintro e w1 ⟨rfl,rfl⟩;go_wp2_with fail;refine (nK (c / 64) w H2.out).mono ?_;rintro e w1 ⟨rfl,rfl⟩;go_wp2_with fail;refine (nK c w H.out).mono ?_;rintro e w1 ⟨rfl,rfl⟩;go_wp2;go_ret2
    exact⟨rfl,(Below.refl _ _).alloc lz _⟩
   ·have hW:=lI c w
    rw[show qi c=4 by simp[qi,h1,h2,h3]] at hW;have hp:gG c=[UInt8.ofNat (240+c / 262144),UInt8.ofNat (128+c / 4096 % 64),UInt8.ofNat (128+c / 64 % 64),UInt8.ofNat (128+c % 64)]:=by simp[gG,fu,h1,h2,h3]
    have m1:bits .or .i64 240 ((c:Int) / 262144)=240+(c:Int) / 262144:=by
     have:=OD (c / 262144) (by omega);rw[Int.natCast_add,Int.natCast_ediv] at this;exact this
    have H:=Hh h;have H2:=Hh (show c / 64<=1114111 by omega);have H3:=Hh (show c / 4096<=1114111 by omega);have Aa:=jF w [UInt8.ofNat (240+c / 262144),UInt8.ofNat (128+c / 4096 % 64),UInt8.ofNat (128+c / 64 % 64),UInt8.ofNat (128+c % 64)] #[.int .u8 (240+(c:Int) / 262144),.int .u8 (128+(c:Int) / 4096 % 64),.int .u8 (128+(c:Int) / 64 % 64),.int .u8 (128+(c:Int) % 64)] 4 (gG c) hp (by simp[lF];omega) rfl;have hb:c / 262144<=4:=by omega
    clear hp h h1 h2 h3;go_enter Tryz.func209,Tryz.ntmps209;go_wp2_with fail;refine hS.mono ?_;rintro e w1 ⟨rfl,rfl⟩;go_wp2_with fail;refine hW.mono ?_;rintro e w1 ⟨rfl,rfl⟩;go_wp2_with fail;refine (nK (c / 4096) w H3.out).mono ?_;rintro e w1 ⟨rfl,rfl⟩;go_wp2_with fail;refine (nK (c / 64) w H2.out).mono ?_;rintro e w1 ⟨rfl,rfl⟩;go_wp2_with fail;refine (nK c w H.out).mono ?_;rintro e w1 ⟨rfl,rfl⟩;go_wp2;go_ret2
    exact⟨rfl,(Below.refl _ _).alloc lz _⟩
theorem LG(c:Int)(w:World)(h:kL c=false) :
  Calls Tryz.prog 209 #[.int .i64 c] w fun e w'=>e=.returned (.tuple #[.string (bg []),.bool false])/\w=w':=by
 have hS:=jT c w;rw[h] at hS;go_enter Tryz.func209,Tryz.ntmps209;go_wp2_with fail;refine hS.mono ?_;rintro e w1 ⟨rfl,rfl⟩;go_wp2;go_ret2
 exact⟨rfl,rfl⟩
abbrev yu(n:Int):Value:=.iface 176 (.agg #[.int .i64 n])
abbrev Nw(n:Int):Ending:=.panicked [{ v:=yu n,recovered:=false }]
theorem iD(n:Int)(w:World):Calls Tryz.prog 156 #[.int .i64 n] w fun e w'=>e=Nw n/\w=w':=by
 go_enter Tryz.func156,Tryz.ntmps156;go_wp2;exact⟨rfl,rfl,rfl⟩
def cu(w:World)(g:Nat)(s:ByteArray)(k:Nat)(l:List UInt8):Prop:=
 ∃cs,FK 180 g w g 2 cs l/\cs.size=4/\cs[0]?=some (.string s)/\cs[1]?=some (.int .i64 (k:Int))
theorem Py:Au 180 4 2:=⟨by decide,by kernel_rfl,by decide⟩
theorem cu.drewN{w:World}{g:Nat}{s:ByteArray}{k:Nat}{l:List UInt8}(h:cu w g s k l)(n:Nat):cu (w.drewN n) g s k l:=by
 obtain⟨cs,⟨h1,h2,v,h3,h4⟩,h5⟩:=h;exact⟨cs,⟨h1.drewN n,h2,v,h3,h4.drewN n⟩,h5⟩
theorem cu.lt{w:World}{g:Nat}{s:ByteArray}{k:Nat}{l:List UInt8}(h:cu w g s k l):g<w.heap.size:=by
 obtain⟨cs,h1,_⟩:=h;exact h1.cells.lt
theorem cu.moved{w:World}{g:Nat}{s:ByteArray}{k:Nat}{l:List UInt8}(h:cu w g s k l)(k':Nat):cu (w.setCell ⟨g,1,none⟩ (.int .i64 (k':Int))) g s k' l:=by
 obtain⟨cs,⟨h1,h2,v,h3,h4⟩,h5,h6,h7⟩:=h;refine⟨cs.set 1 (.int .i64 (k':Int)) (by omega),⟨h1.set 1 (by omega) _,?_,v,?_,h4.setOther _ _ (lX h4 h1 (by decide))⟩,by simpa using h5,?_,by simp⟩
 ·rwa [Array.getElem?_set_ne (by omega) (by omega)]
 ·rwa [Array.getElem?_set_ne (by omega) (by omega)]
 ·rwa [Array.getElem?_set_ne (by omega) (by omega)]
theorem p8{w:World}(g:Nat)(v:Value):Below g w (w.setCell ⟨g,1,none⟩ v):=(Below.refl g w).setCell (p:=⟨g,1,none⟩) lz v
def Ow(g:Nat)(s:ByteArray)(w:World)(v:Value)(k':Nat)(l':List UInt8)(e:Ending)(w':World):Prop:=
 e=.returned v/\cu w' g s k' l'/\Below g w w'/\bA 5 g w w'
def D5(g:Nat)(w:World)(n:Int)(e:Ending)(w':World):Prop:=e=Nw n/\Below g w w'
theorem bA.drewN{E:TypeId}{g:Nat}{w w':World}(h:bA E g w w')(n:Nat):bA E g w (w'.drewN n):=h
theorem Below.drewN'{B:Nat}{w w':World}(h:Below B w w')(n:Nat):Below B w (w'.drewN n):=h.trans (bV B w' n)
theorem Hz(w:World)(g:Nat)(s:ByteArray)(k:Nat)(l:List UInt8)(h:cu w g s k l)(hk:k=s.size)(hs:s.size<=1048576) :
  Calls Tryz.prog 155 #[.pointer (some ⟨g,0,none⟩)] w (D5 g w 2):=by
 obtain⟨cs,hb,h5,h6,h7⟩:=h;have c0:=hb.cells.cell 0 _ h6;have c1:=hb.cells.cell 1 _ h7;have hd:decide (s.size<=k)=true:=by simp;omega
 clear hk hb h5 h6 h7;go_enter Tryz.func155,Tryz.ntmps155;go_wp2_with fail;go_quiet (fail)
 go_wp2_with fail;refine (iD 2 _).mono ?_;rintro e w1 ⟨rfl,rfl⟩;go_wp2;exact⟨rfl,rfl,Below.drewN' (Below.refl g w) _⟩
theorem Ia(w:World)(g:Nat)(s:ByteArray)(k:Nat)(l:List UInt8)(h:cu w g s k l)(hk:k<s.size)(hs:s.size<=1048576) :
  Calls Tryz.prog 155 #[.pointer (some ⟨g,0,none⟩)] w (Ow g s w (.int .u8 ((s[k]'hk).toNat:Nat)) (k+1) l):=by
 obtain⟨cs,hb,h5,h6,h7⟩:=id h;have c0:=hb.cells.cell 0 _ h6;have c1:=hb.cells.cell 1 _ h7;have f1:=hb.cells.frozen 1;have hd:decide (s.size<=k)=false:=by simp;omega
 have Aa:=hb.cells.lt;clear hb h5 h6 h7;go_enter Tryz.func155,Tryz.ntmps155;go_wp2_with fail;go_quiet (fail)
 go_wp2_with fail;go_quiet (fail)
 go_wp2;go_ret;exact⟨rfl,((h.drewN _).moved (k+1)).drewN _,Below.drewN' ((Below.drewN' (Below.refl g w) _).setCell (p:=⟨g,1,none⟩) lz _) _,((bA.refl.drewN _).setCell 1 _).drewN _⟩
theorem gK{s:ByteArray}{k:Nat}(hk:k<=s.size)(h:(bs s).drop k=[]):k=s.size:=by
 have:=congrArg List.length h;simp[ay] at this;omega
theorem lL(w:World)(g:Nat)(s:ByteArray)(k:Nat)(l:List UInt8)(h:cu w g s k l)(hk:k<=s.size)(hr:(bs s).drop k=[])(hs:s.size<=1048576) :
  Calls Tryz.prog 155 #[.pointer (some ⟨g,0,none⟩)] w (D5 g w 2):=Hz w g s k l h (gK hk hr) hs
theorem kr(w:World)(g:Nat)(s:ByteArray)(k:Nat)(l:List UInt8){c:Nat}{r:List Nat}(h:cu w g s k l)(hr:(bs s).drop k=c::r)(hs:s.size<=1048576) :
  Calls Tryz.prog 155 #[.pointer (some ⟨g,0,none⟩)] w (Ow g s w (.int .u8 (c:Int)) (k+1) l):=by
 obtain⟨hk,he⟩:=Ak hr (j:=0) (by simp);have Aa:k<s.size:=hk;have e:(s[k]'Aa).toNat=c:=he;have:=Ia w g s k l h Aa hs
 rwa [e] at this
theorem gV{l r:List Nat}{k c:Nat}(h:l.drop k=c::r):l.drop (k+1)=r/\k<l.length:=by
 refine⟨?_,?_⟩
 ·rw[<-List.drop_drop,h];rfl
 ·have:=congrArg List.length h;simp at this;omega
theorem NK(a b:Nat)(h:a<16777216)(hb:b<16):bits .or .i64 ((a:Int)*16) (b:Int)=((a*16+b:Nat):Int):=by
 have:=rV (a*16) b (by omega) (by omega);push_cast at this;rw[this,show a*16=2 ^ 4*a by omega,<-Nat.two_pow_add_eq_or_of_lt (by omega:b<2 ^ 4)]
def O0(g:Nat)(s:ByteArray)(w:World)(k:Nat)(l:List UInt8)(r:List Nat)(e:Ending)(w':World):Prop:=
 ((aJ r).2=0/\Ow g s w (.int .i64 ((aJ r).1:Nat)) (k+4) l e w')\/((aJ r).2≠0/\D5 g w ((aJ r).2:Nat) e w')
theorem OJ{j m:Nat}(hj:j<4)(hm:m<16 ^ j):m<4096/\∀d,d<16->m*16+d<16 ^ (j+1):=by
 have:j=0\/j=1\/j=2\/j=3:=by omega
 rcases this with rfl|rfl|rfl|rfl<;>simp at hm ⊢<;>refine⟨by omega,fun d hd=>by omega⟩
theorem Dn(w:World)(g:Nat)(s:ByteArray)(k:Nat)(l:List UInt8)(h:cu w g s k l)(hk:k<=s.size)(hs:s.size<=1048576) :
  Calls Tryz.prog 226 #[.pointer (some ⟨g,0,none⟩)] w (O0 g s w k l ((bs s).drop k)):=by
 go_enter Tryz.func226,Tryz.ntmps226;go_wp2_with fail;go_loopw [3,5] (fun n i wr=>∃(j m:Nat),j<=4/\n=.int .i64 m/\i=.int .i64 j/\m<16 ^ j/\cu wr g s (k+j) l/\k+j<=s.size/\Below g w wr/\bA 5 g w wr/\ig (4-j) m ((bs s).drop (k+j))=aJ ((bs s).drop k)) (fun _ i _=>4-(intOf i).toNat)
 case atStart=>exact⟨0,0,by omega,rfl,rfl,by simp,h,hk,Below.refl _ _,bA.refl,rfl⟩
 case round=>
  obtain⟨j,m,hj,rfl,rfl,hm,hR,Af,hb,hB,hu⟩:=hrel
  by_cases hj4:j<4
  ·obtain⟨Ag,Aa⟩:=OJ hj4 hm
   obtain⟨i,hi⟩:∃i,4-j=i+1:=⟨3-j,by omega⟩;rw[hi] at hu
   cases hr:(bs s).drop (k+j) with
   |nil=>
    rw[hr,ig] at hu;have HU:=Hh hu;have hN:=lL wr g s (k+j) l hR Af hr hs;clear hu hr hi Aa hm;go_wp2_with fail;refine hN.mono ?_;rintro e w1 ⟨rfl,hb1⟩;go_wp2;exact⟨rfl,.inr ⟨by rw[<-HU.out];simp,by rw[<-HU.out];rfl,hb.trans hb1⟩⟩
   |cons c r=>
    obtain⟨Ad,Ae⟩:=gV hr;rw[ay] at Ae;have HR:=Hh (show (bs s).drop (k+(j+1))=r from Ad);have hc:c<256:=fK c (List.mem_of_mem_drop (by rw[hr];simp));have hN:=kr wr g s (k+j) l hR hr hs;rw[hr] at hu;simp only[ig] at hu;clear Ad
    by_cases h1:48<=c/\c<=57
    ·obtain⟨x,hx⟩:=exq (m*16+(c-48))
     have ho:bits .or .i64 ((m:Int)*16) ((c:Int)-48)=(x:Int):=by
      have:=NK m (c-48) (by omega) (by omega);rw[show (((c-48:Nat)):Int)=(c:Int)-48 by omega] at this;rw[this,hx]
     have Ab:x<16 ^ (j+1):=by rw[hx];exact Aa _ (by omega)
     rw[show nk c=some (c-48) by unfold nk;rw[if_pos h1]] at hu;simp only[<-hx] at hu;have HU:=Hh hu;have Ac:=Hh Ab;clear hu hr Aa hm Ab hx;have HI:=Hh hi;clear hi;go_wp2_with fail;refine hN.mono ?_;clear hN;rintro e w1 ⟨rfl,hR1,hb1,hB1⟩;go_wp2;go_roundw
     case rel=>exact⟨j+1,x,by omega,rfl,by go_num,Ac.out,hR1,by omega,hb.trans hb1,hB.trans hB1,by rw[show 4-(j+1)=i by have:=HI.out;omega,HR.out];exact HU.out⟩
     case measure=>simp[intOf];omega
    by_cases h2:97<=c/\c<=102
    ·obtain⟨x,hx⟩:=exq (m*16+(c-87))
     have ho:bits .or .i64 ((m:Int)*16) ((c:Int)-97+10)=(x:Int):=by
      have:=NK m (c-87) (by omega) (by omega);rw[show (((c-87:Nat)):Int)=(c:Int)-97+10 by omega] at this;rw[this,hx]
     have Ab:x<16 ^ (j+1):=by rw[hx];exact Aa _ (by omega)
     rw[show nk c=some (c-87) by unfold nk;rw[if_neg h1,if_pos h2]] at hu;simp only[<-hx] at hu;have HU:=Hh hu;have Ac:=Hh Ab;clear hu hr Aa hm Ab hx;have HI:=Hh hi;clear hi;go_wp2_with fail;refine hN.mono ?_;clear hN;rintro e w1 ⟨rfl,hR1,hb1,hB1⟩;go_wp2;go_roundw
     case rel=>exact⟨j+1,x,by omega,rfl,by go_num,Ac.out,hR1,by omega,hb.trans hb1,hB.trans hB1,by rw[show 4-(j+1)=i by have:=HI.out;omega,HR.out];exact HU.out⟩
     case measure=>simp[intOf];omega
    by_cases h3:65<=c/\c<=70
    ·obtain⟨x,hx⟩:=exq (m*16+(c-55))
     have ho:bits .or .i64 ((m:Int)*16) ((c:Int)-65+10)=(x:Int):=by
      have:=NK m (c-55) (by omega) (by omega);rw[show (((c-55:Nat)):Int)=(c:Int)-65+10 by omega] at this;rw[this,hx]
     have Ab:x<16 ^ (j+1):=by rw[hx];exact Aa _ (by omega)
     rw[show nk c=some (c-55) by unfold nk;rw[if_neg h1,if_neg h2,if_pos h3]] at hu;simp only[<-hx] at hu;have HU:=Hh hu;have Ac:=Hh Ab;clear hu hr Aa hm Ab hx;have HI:=Hh hi;clear hi;go_wp2_with fail;refine hN.mono ?_;clear hN;rintro e w1 ⟨rfl,hR1,hb1,hB1⟩;go_wp2;go_roundw
     case rel=>exact⟨j+1,x,by omega,rfl,by go_num,Ac.out,hR1,by omega,hb.trans hb1,hB.trans hB1,by rw[show 4-(j+1)=i by have:=HI.out;omega,HR.out];exact HU.out⟩
     case measure=>simp[intOf];omega
    ·rw[show nk c=none by unfold nk;rw[if_neg h1,if_neg h2,if_neg h3]] at hu
     have HU:=Hh hu;clear hu hr Aa hm hi;have h4:c<48\/(58<=c/\c<=64)\/(71<=c/\c<=96)\/103<=c:=by omega
     clear h1 h2 h3;rcases h4 with h4|h4|h4|h4
     all_goals
      go_wp2_with fail;refine hN.mono ?_;rintro e w1 ⟨rfl,hR1,hb1,hB1⟩;go_wp2_with fail;refine (iD 3 _).mono ?_;rintro e w2 ⟨rfl,rfl⟩;go_wp2;exact⟨rfl,.inr ⟨by rw[<-HU.out];simp,by rw[<-HU.out];rfl,hb.trans hb1⟩⟩
  ·obtain rfl:j=4:=by omega
   simp only[Nat.sub_self,ig] at hu;have HU:=Hh hu;clear hu hm;go_wp2;go_ret;exact .inl ⟨by rw[<-HU.out],by rw[<-HU.out];rfl,hR,hb,hB⟩
def un(l:List Nat):List UInt8:=l.map UInt8.ofNat
theorem G5(a b:List Nat):un (a++b)=un a++un b:=by simp[un]
theorem cu.wrote{w:World}{g:Nat}{s:ByteArray}{k:Nat}{l':List UInt8}{w':World}{cs:Array Value}(h5:cs.size=4)(h6:cs[0]?=some (.string s))(h7:cs[1]?=some (.int .i64 (k:Int)))
  (h:∃cs',FK 180 g w' g 2 cs' l'/\Bz g 2 cs cs'/\Below g w w'/\bA 5 g w w'):cu w' g s k l'/\Below g w w'/\bA 5 g w w':=by
 obtain⟨cs',hb,⟨h1,h2,h3⟩,h8,h9⟩:=h;exact⟨⟨cs',hb,by rw[h1,h5],by rw[h2 0 (by omega) (by omega)];exact h6,by rw[h2 1 (by omega) (by omega)];exact h7⟩,h8,h9⟩
theorem Mc(w:World)(g:Nat)(s:ByteArray)(k:Nat)(l:List UInt8)(c:Nat)(n:Int)(hn:n=(c:Int))(hc:c<256)(h:cu w g s k l)(hl:l.length<=100000000) :
  Calls Tryz.prog 183 #[.pointer (some ⟨g,2,none⟩),.int .u8 n] w fun e w'=>e=.returned .nilIface/\cu w' g s k (l++un [c])/\Below g w w'/\bA 5 g w w':=by
 obtain⟨cs,hb,h5,h6,h7⟩:=h;refine (zq w (UInt8.ofNat c) n (by rw[hn,UInt8.toNat_ofNat'];omega) hb (by rw[h5];exact Py) lz (by omega)).mono ?_;rintro e w' ⟨rfl,hh⟩;exact⟨rfl,cu.wrote h5 h6 h7 hh⟩
theorem O4(w:World)(g:Nat)(s:ByteArray)(k:Nat)(l:List UInt8)(x:ByteArray)(h:cu w g s k l)(hl:l.length+x.size<=100000000) :
  Calls Tryz.prog 113 #[.pointer (some ⟨g,2,none⟩),.string x] w fun e w'=>e=.returned (.tuple #[.int .i64 x.size,.nilIface])/\cu w' g s k (l++x.data.toList)/\Below g w w'/\bA 5 g w w':=by
 obtain⟨cs,hb,h5,h6,h7⟩:=h;refine (oO w x hb (by rw[h5];exact Py) lz (by omega)).mono ?_;rintro e w' ⟨rfl,hh⟩;exact⟨rfl,cu.wrote h5 h6 h7 hh⟩
def Np(g:Nat)(s:ByteArray)(w:World)(v:Value)(k0:Nat)(l:List UInt8)(q:og)(e:Ending)(w':World):Prop:=
 (q.2.2=0/\Ow g s w v (k0+q.2.1) (l++un q.1) e w')\/(q.2.2≠0/\D5 g w (q.2.2:Nat) e w')
theorem lT(l:List UInt8):(bg l).size=l.length:=by simp[bg,ByteArray.size]
theorem bA.of_below{E:TypeId}{g:Nat}{w w':World}(h:Below w.heap.size w w'):bA E g w w':=
 ⟨h.size,fun k o _ ho _=>(h.block k (Array.getElem?_eq_some_iff.1 ho).1).trans ho⟩
theorem cu.below{w w':World}{g:Nat}{s:ByteArray}{k:Nat}{l:List UInt8}(h:cu w g s k l)(hb:Below w.heap.size w w'):cu w' g s k l:=by
 obtain⟨cs,⟨h1,h2,v,h3,h4⟩,h5⟩:=h;exact⟨cs,⟨h1.below hb h1.lt,h2,v,h3,h4.below hb lz⟩,h5⟩
theorem EN(w:World)(g:Nat)(s:ByteArray)(k:Nat)(l:List UInt8)(h:cu w g s (k+2) l)(hk:k+2<=s.size)(hs:s.size<=1048576)(hl:l.length<=9000000) :
  Calls Tryz.prog 208 #[.pointer (some ⟨g,0,none⟩)] w (Np g s w (.tuple #[]) k l (aM ((bs s).drop (k+2)))):=by
 have h4:=Dn w g s (k+2) l h hk hs;have Aq:g<=w.heap.size:=Nat.le_of_lt h.lt;obtain⟨r,hr⟩:=exq ((bs s).drop (k+2));rw[<-hr] at h4 ⊢
 by_cases hu:(aJ r).2=0
 ·obtain⟨Ak,Ar⟩:=jy hu
  obtain⟨n,hn⟩:=exq ((aJ r).1);have Au:k+6<=s.size:=by rw[hr] at Ak;simp[ay] at Ak;omega
  rw[<-hn] at Ar
  have Ab:Calls Tryz.prog 226 #[.pointer (some ⟨g,0,none⟩)] w (Ow g s w (.int .i64 (n:Int)) (k+2+4) l):=h4.mono fun e w' h=>by
   rcases h with ⟨_,h⟩|⟨h,_⟩
   ·rwa [hn]
   ·exact absurd hu h
  by_cases h1:56320<=n/\n<=57343
  ·have HC:Hid (aM r=aG 3):=Hh (by unfold aM;rw[if_neg (by simp[hu]),if_pos (by rw[<-hn];exact h1)])
   clear h4 hu hn hr Ak;go_enter Tryz.func208,Tryz.ntmps208;go_wp2_with fail;refine Ab.mono ?_;rintro e w1 ⟨rfl,hR1,hb1,hB1⟩;go_wp2_with fail;refine (iD 3 _).mono ?_;rintro e w2 ⟨rfl,rfl⟩;go_wp2;exact⟨rfl,.inr ⟨by rw[HC.out];simp[aG],by rw[HC.out];rfl,hb1⟩⟩
  ·by_cases h2:n<55296\/57343<n
   ·have HC:Hid (aM r=(fu n,6,0)):=Hh (by unfold aM;rw[if_neg (by simp[hu]),if_neg (by rw[<-hn];exact h1),if_pos (by rw[<-hn];exact h2),<-hn])
    have hP:=fun W=>BC n W (by rw[bZ];omega);have Av:(bg (gG n)).size<=4:=by rw[lT,jB];exact (oh n).2
    clear h4 hu hn hr Ak;rcases h2 with h2|h2
    all_goals
     go_enter Tryz.func208,Tryz.ntmps208;go_wp2_with fail;refine Ab.mono ?_;rintro e w1 ⟨rfl,hR1,hb1,hB1⟩;go_wp2_with fail;refine (hP _).mono ?_;rintro e w2 ⟨rfl,hb2⟩;have Aa:=hR1.below hb2;have Aw:=hb2.size;have An:=hR1.lt;go_wp2_with fail;refine (O4 w2 g s _ l _ Aa (by omega)).mono ?_;rintro e w3 ⟨rfl,hR3,hb3,hB3⟩;go_wp2;go_end0
     exact .inl ⟨by rw[HC.out],by rw[HC.out];exact⟨rfl,hR3,(hb1.trans (hb2.mono (by omega))).trans hb3,(hB1.trans (bA.of_below hb2)).trans hB3⟩⟩
   ·have Ag:Hid (aM r=jb n (r.drop 4)):=Hh (by unfold aM;rw[if_neg (by simp[hu]),if_neg (by rw[<-hn];exact h1),if_neg (by rw[<-hn];exact h2),<-hn])
    have Af:r.drop 4=(bs s).drop (k+6):=by rw[hr,List.drop_drop]
    have Am:55296<=n/\n<=56319:=by omega
    have b1:decide ((56320:Int)<=(n:Int))=false:=by simp;omega
    have b2:decide ((55296:Int)<=(n:Int))=true:=by simp;omega
    have b3:decide ((n:Int)<=56319)=true:=by simp;omega
    have Ap:=Hh Am;clear h4 hu hn Ak h1 h2 Ar;have HR:=Hh hr;clear hr Am
    cases hq:(bs s).drop (k+6) with
    |nil=>
     have HC:Hid (aM r=aG 2):=Hh (by rw[Ag.out,Af,hq];rfl);have hN:=fun W h=>lL W g s (k+2+4) l h (by omega) hq hs;clear hq Af;go_enter Tryz.func208,Tryz.ntmps208;go_wp2_with fail;refine Ab.mono ?_;rintro e w1 ⟨rfl,hR1,hb1,hB1⟩;go_wp2_with fail;refine (hN _ hR1).mono ?_;rintro e w2 ⟨rfl,hb2⟩;go_wp2;exact⟨rfl,.inr ⟨by rw[HC.out];simp[aG],by rw[HC.out];rfl,hb1.trans hb2⟩⟩
    |cons c t=>
     have hN:=fun W h=>kr W g s (k+2+4) l h hq hs;have hc:c<256:=fK c (List.mem_of_mem_drop (by rw[hq];simp))
     by_cases hc92:c=92
     ·subst hc92
      obtain⟨hd,As⟩:=gV hq;rw[ay] at As;have Ac:r.drop 4=92::t:=by rw[Af,hq]
      cases ht:t with
      |nil=>
       have HC:Hid (aM r=aG 2):=Hh (by rw[Ag.out,Ac,ht];rfl);have Ai:=fun W h=>lL W g s (k+2+4+1) l h (by omega) (by rw[<-ht];exact hd) hs;clear hq Af Ac ht hd;go_enter Tryz.func208,Tryz.ntmps208;go_wp2_with fail;refine Ab.mono ?_;rintro e w1 ⟨rfl,hR1,hb1,hB1⟩;go_wp2_with fail;refine (hN _ hR1).mono ?_;rintro e w2 ⟨rfl,Aa,hb2,hB2⟩;go_wp2_with fail;refine (Ai _ Aa).mono ?_;rintro e w3 ⟨rfl,hb3⟩;go_wp2;exact⟨rfl,.inr ⟨by rw[HC.out];simp[aG],by rw[HC.out];rfl,(hb1.trans hb2).trans hb3⟩⟩
      |cons d u=>
       subst ht;have Ai:=fun W h=>kr W g s (k+2+4+1) l h hd hs;have A1:d<256:=fK d (List.mem_of_mem_drop (by rw[hd];simp));obtain⟨he,At⟩:=gV hd;rw[ay] at At
       by_cases hd117:d=117
       ·subst hd117
        have hF:=fun W h=>Dn W g s (k+2+4+1+1) l h (by omega) hs;rw[show (bs s).drop (k+2+4+1+1)=u from he] at hF;clear hq Af he hd
        by_cases hm:(aJ u).2=0
        ·obtain⟨A2,Ao⟩:=jy hm
         obtain⟨m,Ah⟩:=exq ((aJ u).1)
         have Al:∀W,cu W g s (k+2+4+1+1) l->Calls Tryz.prog 226 #[.pointer (some ⟨g,0,none⟩)] W (Ow g s W (.int .i64 (m:Int)) (k+2+4+1+1+4) l):=fun W h=>(hF W h).mono fun e w' h=>by
          rcases h with ⟨_,h⟩|⟨h,_⟩
          ·rwa [Ah]
          ·exact absurd hm h
         rw[<-Ah] at Ao;clear hF
         by_cases hlow:m<56320\/57343<m
         ·have HC:Hid (aM r=aG 3):=Hh (by rw[Ag.out,Ac];simp only[jb];rw[if_neg (by simp),if_neg (by simp),if_neg (by simp[hm]),if_pos (by rw[<-Ah];exact hlow)])
          clear Ac hm Ah;have Ad:=Hh hlow;clear hlow Ao
          ·go_enter Tryz.func208,Tryz.ntmps208
           go_wp2_with fail;refine Ab.mono ?_;rintro e w1 ⟨rfl,hR1,hb1,hB1⟩;go_wp2_with fail;refine (hN _ hR1).mono ?_;rintro e w2 ⟨rfl,Aa,hb2,hB2⟩;go_wp2_with fail;refine (Ai _ Aa).mono ?_;rintro e w3 ⟨rfl,hR3,hb3,hB3⟩;go_wp2_with fail;refine (Al _ hR3).mono ?_;rintro e w4 ⟨rfl,hR4,hb4,hB4⟩
           have Aj:(decide ((m:Int)<56320)=true)\/(decide ((m:Int)<56320)=false/\decide ((57343:Int)<(m:Int))=true):=by
            rcases Ad.out with hlow|hlow
            ·exact .inl (by simp;omega)
            ·exact .inr ⟨by simp;omega,by simp;omega⟩
           rcases Aj with hlow|⟨hlow,hlow3⟩
           all_goals
            go_wp2_with fail;refine (iD 3 _).mono ?_;rintro e w5 ⟨rfl,rfl⟩;go_wp2;exact⟨rfl,.inr ⟨by rw[HC.out];simp[aG],by rw[HC.out];rfl,((hb1.trans hb2).trans hb3).trans hb4⟩⟩
         ·obtain⟨x,hx⟩:=exq (65536+(n-55296)*1024+(m-56320))
          have HC:Hid (aM r=(fu x,12,0)):=Hh (by rw[Ag.out,Ac];simp only[jb];rw[if_neg (by simp),if_neg (by simp),if_neg (by simp[hm]),if_neg (by rw[<-Ah];exact hlow),hx,Ah]);have hP:=fun W=>BC x W (by have:=Ap.out;rw[bZ];omega);have Av:(bg (gG x)).size<=4:=by rw[lT,jB];exact (oh x).2
          have Ae:56320<=m/\m<=57343:=by omega
          have Ad:=Hh Ae;have Am:=Ap.out;have E1:=Jh (show (0:Int)<=(n:Int)-55296/\(n:Int)-55296<=1023 by omega) (And.intro (show (0:Int)<=(m:Int)-56320/\(m:Int)-56320<=1023 by omega) (show (65536:Int)+1024*((n:Int)-55296)+((m:Int)-56320)=(x:Int) by omega));clear Ac hm Ah hx hlow Ae Ao Am;go_enter Tryz.func208,Tryz.ntmps208;go_wp2_with fail;refine Ab.mono ?_;rintro e w1 ⟨rfl,hR1,hb1,hB1⟩;go_wp2_with fail;refine (hN _ hR1).mono ?_;rintro e w20 ⟨rfl,hR20,hb20,hB20⟩;go_wp2_with fail;refine (Ai _ hR20).mono ?_;rintro e w30 ⟨rfl,hR30,hb30,hB30⟩;go_wp2_with fail;refine (Al _ hR30).mono ?_;rintro e w40 ⟨rfl,hR40,hb40,hB40⟩;have Az:decide ((m:Int)<56320)=false:=by have:=Ad.out;simp;omega
          have A0:decide ((57343:Int)<(m:Int))=false:=by have:=Ad.out;simp;omega
          obtain⟨e1,e2,A3⟩:=E1.out;go_wp2_with fail;refine (hP _).mono ?_;rintro e w2 ⟨rfl,hb2⟩;have Aa:=hR40.below hb2;have Aw:=hb2.size;have An:=hR40.lt;go_wp2_with fail;refine (O4 w2 g s _ l _ Aa (by omega)).mono ?_;rintro e w3 ⟨rfl,hR3,hb3,hB3⟩;go_wp2;go_end0
          exact .inl ⟨by rw[HC.out],by rw[HC.out];exact⟨rfl,hR3,((((hb1.trans hb20).trans hb30).trans hb40).trans (hb2.mono (by omega))).trans hb3,((((hB1.trans hB20).trans hB30).trans hB40).trans (bA.of_below hb2)).trans hB3⟩⟩
        ·have HC:Hid (aM r=aG (aJ u).2):=Hh (by rw[Ag.out,Ac];simp only[jb];rw[if_neg (by simp),if_neg (by simp),if_pos (by simpa using hm)])
         have Al:∀W,cu W g s (k+2+4+1+1) l->Calls Tryz.prog 226 #[.pointer (some ⟨g,0,none⟩)] W (D5 g W ((aJ u).2:Nat)):=fun W h=>(hF W h).mono fun e w' h=>by
          rcases h with ⟨h,_⟩|⟨_,h⟩
          ·exact absurd h hm
          ·exact h
         clear hF Ac;go_enter Tryz.func208,Tryz.ntmps208;go_wp2_with fail;refine Ab.mono ?_;rintro e w1 ⟨rfl,hR1,hb1,hB1⟩;go_wp2_with fail;refine (hN _ hR1).mono ?_;rintro e w2 ⟨rfl,Aa,hb2,hB2⟩;go_wp2_with fail;refine (Ai _ Aa).mono ?_;rintro e w3 ⟨rfl,hR3,hb3,hB3⟩;go_wp2_with fail;refine (Al _ hR3).mono ?_;rintro e w4 ⟨rfl,hb4⟩;go_wp2;exact⟨rfl,.inr ⟨by rw[HC.out];exact hm,by rw[HC.out];rfl,((hb1.trans hb2).trans hb3).trans hb4⟩⟩
       ·have HC:Hid (aM r=aG 3):=Hh (by rw[Ag.out,Ac];simp only[jb];rw[if_neg (by simp),if_pos (by simpa using hd117)])
        have Ay:((d:Int) != 117)=true:=by rw[bne_iff_ne];omega
        clear hq Af Ac hd he hd117;go_enter Tryz.func208,Tryz.ntmps208;go_wp2_with fail;refine Ab.mono ?_;rintro e w1 ⟨rfl,hR1,hb1,hB1⟩;go_wp2_with fail;refine (hN _ hR1).mono ?_;rintro e w2 ⟨rfl,Aa,hb2,hB2⟩;go_wp2_with fail;refine (Ai _ Aa).mono ?_;rintro e w3 ⟨rfl,hR3,hb3,hB3⟩;go_wp2_with fail;refine (iD 3 _).mono ?_;rintro e w4 ⟨rfl,rfl⟩;go_wp2;exact⟨rfl,.inr ⟨by rw[HC.out];simp[aG],by rw[HC.out];rfl,(hb1.trans hb2).trans hb3⟩⟩
     ·have HC:Hid (aM r=aG 3):=Hh (by rw[Ag.out,Af,hq];simp only[jb];rw[if_pos (by simpa using hc92)])
      have Ax:((c:Int) != 92)=true:=by rw[bne_iff_ne];omega
      clear hq Af hc92;go_enter Tryz.func208,Tryz.ntmps208;go_wp2_with fail;refine Ab.mono ?_;rintro e w1 ⟨rfl,hR1,hb1,hB1⟩;go_wp2_with fail;refine (hN _ hR1).mono ?_;rintro e w2 ⟨rfl,Aa,hb2,hB2⟩;go_wp2_with fail;refine (iD 3 _).mono ?_;rintro e w3 ⟨rfl,rfl⟩;go_wp2;exact⟨rfl,.inr ⟨by rw[HC.out];simp[aG],by rw[HC.out];rfl,hb1.trans hb2⟩⟩
 ·have Ab:Calls Tryz.prog 226 #[.pointer (some ⟨g,0,none⟩)] w (D5 g w ((aJ r).2:Nat)):=h4.mono fun e w' h=>by
   rcases h with ⟨h,_⟩|⟨_,h⟩
   ·exact absurd h hu
   ·exact h
  have HC:Hid (aM r=aG (aJ r).2):=Hh (by unfold aM;rw[if_pos (by simpa using hu)]);clear h4;have HR:=Hh hr;clear hr;go_enter Tryz.func208,Tryz.ntmps208;go_wp2_with fail;refine Ab.mono ?_;rintro e w1 ⟨rfl,hb1⟩;go_wp2;exact⟨rfl,.inr ⟨by rw[HC.out];exact hu,by rw[HC.out];rfl,hb1⟩⟩
theorem Fg(w:World)(g:Nat)(s:ByteArray)(k:Nat)(l:List UInt8)(h:cu w g s (k+1) l)(hk:k+1<=s.size)(hs:s.size<=1048576)(hl:l.length<=9000000) :
  Calls Tryz.prog 182 #[.pointer (some ⟨g,0,none⟩)] w (Np g s w (.tuple #[]) k l (mf ((bs s).drop (k+1)))):=by
 obtain⟨r,hr⟩:=exq ((bs s).drop (k+1));rw[<-hr]
 cases hq:r with
 |nil=>
  have hN:=fun W h=>lL W g s (k+1) l h hk (by rw[<-hr];exact hq) hs;have HC:Hid (mf r=aG 2):=Hh (by rw[hq];rfl);rw[<-hq];have HR:=Hh hr;clear hq hr;go_enter Tryz.func182,Tryz.ntmps182;go_wp2_with fail;refine (hN _ h).mono ?_;rintro e w1 ⟨rfl,hb1⟩;go_wp2;exact⟨rfl,.inr ⟨by rw[HC.out];simp[aG],by rw[HC.out];rfl,hb1⟩⟩
 |cons c t=>
  rw[<-hq];have Aa:(bs s).drop (k+1)=c::t:=by rw[<-hr];exact hq
  have hN:=fun W h=>kr W g s (k+1) l h Aa hs;have hc:c<256:=fK c (List.mem_of_mem_drop (by rw[Aa];simp));have HR:=Hh hr;clear hr
  by_cases hc34:c=34
  ·subst hc34
   have HC:Hid (mf r=([34],2,0)):=Hh (by rw[hq];rfl);clear hq Aa;go_enter Tryz.func182,Tryz.ntmps182;go_wp2_with fail;refine (hN _ h).mono ?_;rintro e w1 ⟨rfl,hR1,hb1,hB1⟩;go_wp2_with fail;refine (Mc w1 g s _ l 34 _ (by first|rfl|decide) (by omega) hR1 (by omega)).mono ?_;rintro e w2 ⟨rfl,hR2,hb2,hB2⟩;go_wp2;go_end0
   exact .inl ⟨by rw[HC.out],by rw[HC.out];exact⟨rfl,hR2,hb1.trans hb2,hB1.trans hB2⟩⟩
  by_cases hc92:c=92
  ·subst hc92
   have HC:Hid (mf r=([92],2,0)):=Hh (by rw[hq];rfl);clear hq Aa;go_enter Tryz.func182,Tryz.ntmps182;go_wp2_with fail;refine (hN _ h).mono ?_;rintro e w1 ⟨rfl,hR1,hb1,hB1⟩;go_wp2_with fail;refine (Mc w1 g s _ l 92 _ (by first|rfl|decide) (by omega) hR1 (by omega)).mono ?_;rintro e w2 ⟨rfl,hR2,hb2,hB2⟩;go_wp2;go_end0
   exact .inl ⟨by rw[HC.out],by rw[HC.out];exact⟨rfl,hR2,hb1.trans hb2,hB1.trans hB2⟩⟩
  by_cases hc47:c=47
  ·subst hc47
   have HC:Hid (mf r=([47],2,0)):=Hh (by rw[hq];rfl);clear hq Aa;go_enter Tryz.func182,Tryz.ntmps182;go_wp2_with fail;refine (hN _ h).mono ?_;rintro e w1 ⟨rfl,hR1,hb1,hB1⟩;go_wp2_with fail;refine (Mc w1 g s _ l 47 _ (by first|rfl|decide) (by omega) hR1 (by omega)).mono ?_;rintro e w2 ⟨rfl,hR2,hb2,hB2⟩;go_wp2;go_end0
   exact .inl ⟨by rw[HC.out],by rw[HC.out];exact⟨rfl,hR2,hb1.trans hb2,hB1.trans hB2⟩⟩
  by_cases hc98:c=98
  ·subst hc98
   have HC:Hid (mf r=([8],2,0)):=Hh (by rw[hq];rfl);clear hq Aa;go_enter Tryz.func182,Tryz.ntmps182;go_wp2_with fail;refine (hN _ h).mono ?_;rintro e w1 ⟨rfl,hR1,hb1,hB1⟩;go_wp2_with fail;refine (Mc w1 g s _ l 8 _ (by first|rfl|decide) (by omega) hR1 (by omega)).mono ?_;rintro e w2 ⟨rfl,hR2,hb2,hB2⟩;go_wp2;go_end0
   exact .inl ⟨by rw[HC.out],by rw[HC.out];exact⟨rfl,hR2,hb1.trans hb2,hB1.trans hB2⟩⟩
  by_cases hc102:c=102
  ·subst hc102
   have HC:Hid (mf r=([12],2,0)):=Hh (by rw[hq];rfl);clear hq Aa;go_enter Tryz.func182,Tryz.ntmps182;go_wp2_with fail;refine (hN _ h).mono ?_;rintro e w1 ⟨rfl,hR1,hb1,hB1⟩;go_wp2_with fail;refine (Mc w1 g s _ l 12 _ (by first|rfl|decide) (by omega) hR1 (by omega)).mono ?_;rintro e w2 ⟨rfl,hR2,hb2,hB2⟩;go_wp2;go_end0
   exact .inl ⟨by rw[HC.out],by rw[HC.out];exact⟨rfl,hR2,hb1.trans hb2,hB1.trans hB2⟩⟩
  by_cases hc110:c=110
  ·subst hc110
   have HC:Hid (mf r=([10],2,0)):=Hh (by rw[hq];rfl);clear hq Aa;go_enter Tryz.func182,Tryz.ntmps182;go_wp2_with fail;refine (hN _ h).mono ?_;rintro e w1 ⟨rfl,hR1,hb1,hB1⟩;go_wp2_with fail;refine (Mc w1 g s _ l 10 _ (by first|rfl|decide) (by omega) hR1 (by omega)).mono ?_;rintro e w2 ⟨rfl,hR2,hb2,hB2⟩;go_wp2;go_end0
   exact .inl ⟨by rw[HC.out],by rw[HC.out];exact⟨rfl,hR2,hb1.trans hb2,hB1.trans hB2⟩⟩
  by_cases hc114:c=114
  ·subst hc114
   have HC:Hid (mf r=([13],2,0)):=Hh (by rw[hq];rfl);clear hq Aa;go_enter Tryz.func182,Tryz.ntmps182;go_wp2_with fail;refine (hN _ h).mono ?_;rintro e w1 ⟨rfl,hR1,hb1,hB1⟩;go_wp2_with fail;refine (Mc w1 g s _ l 13 _ (by first|rfl|decide) (by omega) hR1 (by omega)).mono ?_;rintro e w2 ⟨rfl,hR2,hb2,hB2⟩;go_wp2;go_end0
   exact .inl ⟨by rw[HC.out],by rw[HC.out];exact⟨rfl,hR2,hb1.trans hb2,hB1.trans hB2⟩⟩
  by_cases hc116:c=116
  ·subst hc116
   have HC:Hid (mf r=([9],2,0)):=Hh (by rw[hq];rfl);clear hq Aa;go_enter Tryz.func182,Tryz.ntmps182;go_wp2_with fail;refine (hN _ h).mono ?_;rintro e w1 ⟨rfl,hR1,hb1,hB1⟩;go_wp2_with fail;refine (Mc w1 g s _ l 9 _ (by first|rfl|decide) (by omega) hR1 (by omega)).mono ?_;rintro e w2 ⟨rfl,hR2,hb2,hB2⟩;go_wp2;go_end0
   exact .inl ⟨by rw[HC.out],by rw[HC.out];exact⟨rfl,hR2,hb1.trans hb2,hB1.trans hB2⟩⟩
  have Ac:yx c=none:=by
   unfold yx;rw[if_neg (by omega),if_neg hc98,if_neg hc102,if_neg hc110,if_neg hc114,if_neg hc116]
  by_cases hc117:c=117
  ·subst hc117
   obtain⟨Ad,Ae⟩:=gV Aa;rw[ay] at Ae;have Ab:=fun W h=>EN W g s k l h (by omega) hs hl;rw[show (bs s).drop (k+2)=t from Ad] at Ab;have HC:Hid (mf r=aM t):=Hh (by rw[hq];rfl);clear hq Aa Ac Ad hc34 hc92 hc47 hc98 hc102 hc110 hc114 hc116;go_enter Tryz.func182,Tryz.ntmps182;go_wp2_with fail;refine (hN _ h).mono ?_;rintro e w1 ⟨rfl,hR1,hb1,hB1⟩;go_wp2_with fail;refine (Ab _ hR1).mono ?_;rintro e w2 (⟨h0,rfl,hR2,hb2,hB2⟩|⟨h0,rfl,hb2⟩)
   ·have H0:=Hh h0
    clear h0;go_wp2;go_end0
    exact .inl ⟨by rw[HC.out];exact H0.out,by rw[HC.out];exact⟨rfl,hR2,hb1.trans hb2,hB1.trans hB2⟩⟩
   ·have H0:=Hh h0
    clear h0;go_wp2;exact⟨rfl,.inr ⟨by rw[HC.out];exact H0.out,by rw[HC.out];exact⟨rfl,hb1.trans hb2⟩⟩⟩
  ·have HC:Hid (mf r=aG 3):=Hh (by rw[hq];simp only[mf,Ac,if_neg hc117])
   have b1:((c:Int)==34)=false:=by rw[beq_eq_false_iff_ne];omega
   have b2:((c:Int)==92)=false:=by rw[beq_eq_false_iff_ne];omega
   have b3:((c:Int)==47)=false:=by rw[beq_eq_false_iff_ne];omega
   have b4:((c:Int)==98)=false:=by rw[beq_eq_false_iff_ne];omega
   have b5:((c:Int)==102)=false:=by rw[beq_eq_false_iff_ne];omega
   have b6:((c:Int)==110)=false:=by rw[beq_eq_false_iff_ne];omega
   have b7:((c:Int)==114)=false:=by rw[beq_eq_false_iff_ne];omega
   have b8:((c:Int)==116)=false:=by rw[beq_eq_false_iff_ne];omega
   have b9:((c:Int)==117)=false:=by rw[beq_eq_false_iff_ne];omega
   clear hq Aa Ac hc34 hc92 hc47 hc98 hc102 hc110 hc114 hc116 hc117;go_enter Tryz.func182,Tryz.ntmps182;go_wp2_with fail;refine (hN _ h).mono ?_;rintro e w1 ⟨rfl,hR1,hb1,hB1⟩;go_wp2_with fail;refine (iD 3 _).mono ?_;rintro e w2 ⟨rfl,rfl⟩;go_wp2;exact⟨rfl,.inr ⟨by rw[HC.out];simp[aG],by rw[HC.out];rfl,hb1⟩⟩
def uT(n:Nat):Int:=if n=0 then 0 else if n=1 then 192 else if n=2 then 224 else 240
def rW:List Nat->Int->Int
 |[],c=>c
 |b::r,c=>rW r (c*64+b-128)
def iO:List Nat->Int
 |[]=>0
 |a::r=>rW r (a-uT r.length)
theorem Aa{c:Nat}(h:jW c=true):iO (fu c)=c:=by
 rw[bZ] at h;unfold fu
 by_cases h1:c<128
 ·simp[h1,iO,rW,uT]
 by_cases h2:c<2048
 ·rw[if_neg h1,if_pos h2]
  show (((192+c / 64:Nat):Int)-192)*64+((128+c % 64:Nat):Int)-128=c;omega
 by_cases h3:c<65536
 ·rw[if_neg h1,if_neg h2,if_pos h3]
  show ((((224+c / 4096:Nat):Int)-224)*64+((128+c / 64 % 64:Nat):Int)-128)*64+((128+c % 64:Nat):Int)-128=c;omega
 ·rw[if_neg h1,if_neg h2,if_neg h3]
  show (((((240+c / 262144:Nat):Int)-240)*64+((128+c / 4096 % 64:Nat):Int)-128)*64+((128+c / 64 % 64:Nat):Int)-128)*64+((128+c % 64:Nat):Int)-128=c;omega
theorem I4{l:List Nat}(hl:∀x∈l,x<256){n:Nat}(h1:1<=n)(h2:n<=l.length):((aD l).2=n)↔(kL (iO (l.take n))=true/\fu (iO (l.take n)).toNat=l.take n):=by
 constructor
 ·intro h
  obtain⟨c,m,h3⟩:∃c m,aD l=(c,m):=⟨_,_,rfl⟩;rw[h3] at h;simp only at h;subst h;obtain⟨g1,g2,g3,g4⟩:=iY hl h3 (by omega);have hg:iO (l.take m)=c:=by rw[<-g3];exact Aa g1
  rw[hg,fD];exact⟨g1,by simpa using g3⟩
 ·rintro⟨g1,g2⟩
  obtain⟨c,hc⟩:∃c:Nat,iO (l.take n)=c:=by
   refine⟨(iO (l.take n)).toNat,?_⟩;unfold kL at g1;simp at g1
   omega
  rw[hc] at g1 g2;rw[fD] at g1;simp only[Int.toNat_natCast] at g2;have hw:qi c=n:=by rw[<-pI,g2];simp;omega
  have:=tN g1 (l.drop n);rw[g2,List.take_append_drop] at this;rw[this,hw]
theorem KX{l:List Nat}(hl:∀x∈l,x<256){n:Nat}(h1:1<=n)(h:(aD l).2=n):iO (l.take n)=(aD l).1:=by
 obtain⟨c,m,h3⟩:∃c m,aD l=(c,m):=⟨_,_,rfl⟩;rw[h3] at h ⊢;simp only at h ⊢;subst h;obtain⟨g1,g2,g3,g4⟩:=iY hl h3 (by omega);rw[<-g3];exact Aa g1
def sJ(c:Int):List UInt8:=if kL c then gG c.toNat else []
theorem Im(c:Int)(w:World)(h:kL c=false) :
  Calls Tryz.prog 150 #[.int .i64 c] w fun e w'=>e=.returned (.string (bg []))/\w=w':=by
 unfold kL at h
 by_cases h0:c<0
 ·clear h
  go_enter Tryz.func150,Tryz.ntmps150;go_wp2;go_ret;exact⟨rfl,rfl⟩
 ·by_cases h1:1114111<c
  ·have d0:decide (c<0)=false:=by simp;omega
   have d1:decide (1114111<c)=true:=by simp;omega
   clear h h0 h1;go_enter Tryz.func150,Tryz.ntmps150;go_wp2;go_ret;exact⟨rfl,rfl⟩
  ·have d0:decide (c<0)=false:=by simp;omega
   have d1:decide (1114111<c)=false:=by simp;omega
   have d2:decide (55296<=c)=true:=by simp at h;simp;omega
   have d3:decide (c<=57343)=true:=by simp at h;simp;omega
   clear h h0 h1;go_enter Tryz.func150,Tryz.ntmps150;go_wp2;go_ret;exact⟨rfl,rfl⟩
theorem J9(c:Nat)(w:World)(h:jW c=true) :
  Calls Tryz.prog 150 #[.int .i64 c] w fun e w'=>e=.returned (.string (bg (gG c)))/\Below w.heap.size w w':=by
 rw[bZ] at h;have d0:decide ((c:Int)<0)=false:=by rw[decide_eq_false_iff_not];omega
 have d1:decide (1114111<(c:Int))=false:=by simp;omega
 have hg:decide (55296<=(c:Int))=false\/decide (55296<=(c:Int))=true/\decide ((c:Int)<=57343)=false:=by
  rcases h.2 with h|h
  ·exact .inl (by simp;omega)
  ·exact .inr ⟨by simp;omega,by simp;omega⟩
 by_cases h1:c<128
 ·have hp:gG c=[UInt8.ofNat c]:=by simp[gG,fu,h1]
  have Aa:=jF w [UInt8.ofNat c] #[.int .u8 c] 1 (gG c) hp (by simp[lF];omega) rfl;have e1:decide ((c:Int)<128)=true:=by simp;omega
  have hb:c<=127:=by omega
  clear hp h h1;rcases hg with d2|⟨d2,d3⟩
  all_goals
   go_enter Tryz.func150,Tryz.ntmps150;go_wp2;go_ret;exact⟨rfl,(Below.refl _ _).alloc lz _⟩
 have e1:decide ((c:Int)<128)=false:=by simp;omega
 by_cases h2:c<2048
 ·have hp:gG c=[UInt8.ofNat (192+c / 64),UInt8.ofNat (128+c % 64)]:=by simp[gG,fu,h1,h2]
  have Aa:=jF w [UInt8.ofNat (192+c / 64),UInt8.ofNat (128+c % 64)] #[.int .u8 (192+(c:Int) / 64),.int .u8 (128+(c:Int) % 64)] 2 (gG c) hp (by simp[lF];omega) rfl;have e2:decide ((c:Int)<2048)=true:=by simp;omega
  have hb:c / 64<=31:=by omega
  clear hp h h1 h2;rcases hg with d2|⟨d2,d3⟩
  all_goals
   go_enter Tryz.func150,Tryz.ntmps150;go_wp2;go_ret;exact⟨rfl,(Below.refl _ _).alloc lz _⟩
 have e2:decide ((c:Int)<2048)=false:=by simp;omega
 by_cases h3:c<65536
 ·have hp:gG c=[UInt8.ofNat (224+c / 4096),UInt8.ofNat (128+c / 64 % 64),UInt8.ofNat (128+c % 64)]:=by simp[gG,fu,h1,h2,h3]
  have Aa:=jF w [UInt8.ofNat (224+c / 4096),UInt8.ofNat (128+c / 64 % 64),UInt8.ofNat (128+c % 64)] #[.int .u8 (224+(c:Int) / 4096),.int .u8 (128+(c:Int) / 64 % 64),.int .u8 (128+(c:Int) % 64)] 3 (gG c) hp (by simp[lF];omega) rfl;have e3:decide ((c:Int)<65536)=true:=by simp;omega
  have hb:c / 4096<=15:=by omega
  clear hp h h1 h2 h3;rcases hg with d2|⟨d2,d3⟩
  all_goals
   go_enter Tryz.func150,Tryz.ntmps150;go_wp2;go_ret;exact⟨rfl,(Below.refl _ _).alloc lz _⟩
 ·have e3:decide ((c:Int)<65536)=false:=by simp;omega
  have hp:gG c=[UInt8.ofNat (240+c / 262144),UInt8.ofNat (128+c / 4096 % 64),UInt8.ofNat (128+c / 64 % 64),UInt8.ofNat (128+c % 64)]:=by simp[gG,fu,h1,h2,h3]
  have Aa:=jF w [UInt8.ofNat (240+c / 262144),UInt8.ofNat (128+c / 4096 % 64),UInt8.ofNat (128+c / 64 % 64),UInt8.ofNat (128+c % 64)] #[.int .u8 (240+(c:Int) / 262144),.int .u8 (128+(c:Int) / 4096 % 64),.int .u8 (128+(c:Int) / 64 % 64),.int .u8 (128+(c:Int) % 64)] 4 (gG c) hp (by simp[lF];omega) rfl;have hb:c / 262144<=4:=by omega
  clear hp h h1 h2 h3;rcases hg with d2|⟨d2,d3⟩
  all_goals
   go_enter Tryz.func150,Tryz.ntmps150;go_wp2;go_ret;exact⟨rfl,(Below.refl _ _).alloc lz _⟩
theorem xE(c:Int)(w:World) :
  Calls Tryz.prog 150 #[.int .i64 c] w fun e w'=>e=.returned (.string (bg (sJ c)))/\Below w.heap.size w w':=by
 unfold sJ
 cases h:kL c with
 |false=>exact (Im c w h).mono fun e w' ⟨h1,h2⟩=>⟨by rw[h1];rfl,by rw[<-h2];exact Below.refl _ _⟩
 |true=>
  obtain⟨n,rfl⟩:∃n:Nat,c=n:=⟨c.toNat,by unfold kL at h;simp at h;omega⟩;rw[fD] at h
  simpa using J9 n w h
theorem I5(s:ByteArray)(l:List Nat)(w:World)(hl:bs s=l)(h1:1<=l.length)(h4:l.length<=4) :
  Calls Tryz.prog 149 #[.string s] w fun e w'=>e=.returned (.int .i64 (iO l))/\Below w.heap.size w w':=by
 have Ac:s.size=l.length:=by rw[<-ay,hl]
 have Aa:∀j (hj:j<l.length),∃h':j<s.size,(s[j]'h').toNat=l[j]:=fun j hj=>by
  have:=Ak (s:=s) (i:=0) (l:=l) (by simpa using hl) hj
  simpa using this
 have Ab:∀x∈l,x<256:=by rw[<-hl];exact fK
 clear hl;rcases l with _|⟨a,_|⟨b,_|⟨c,_|⟨d,_|⟨f,r⟩⟩⟩⟩⟩
 ·simp at h1
 ·obtain⟨i0,e0⟩:=Aa 0 (by simp)
  simp only[List.getElem_cons_zero] at e0;have b0:=Ab a (by simp);simp only[List.length_cons,List.length_nil] at Ac;clear Aa Ab h1 h4;go_enter Tryz.func149,Tryz.ntmps149;go_wp2_with fail;go_quiet (fail)
  go_wp2_with fail;refine wp_loop_rounds 1 ?_;rw[rounds_succ];go_wp2;go_ret;refine⟨dV (by simp[iO,rW,uT]),?_⟩;exact ((Below.refl _ _).alloc lz _).trans (bV _ _ _)
 ·obtain⟨i0,e0⟩:=Aa 0 (by simp)
  obtain⟨i1,e1⟩:=Aa 1 (by simp);simp only[List.getElem_cons_zero,List.getElem_cons_succ] at e0 e1;have b0:=Ab a (by simp);have b1:=Ab b (by simp);simp only[List.length_cons,List.length_nil] at Ac;clear Aa Ab h1 h4;go_enter Tryz.func149,Tryz.ntmps149;go_wp2_with fail;go_quiet (fail)
  go_wp2_with fail;refine wp_loop_rounds 2 ?_;rw[rounds_succ];go_wp2_with fail;rw[rounds_succ];go_wp2;go_ret;refine⟨dV (by simp[iO,rW,uT]),?_⟩;exact ((Below.refl _ _).alloc lz _).trans (bV _ _ _)
 ·obtain⟨i0,e0⟩:=Aa 0 (by simp)
  obtain⟨i1,e1⟩:=Aa 1 (by simp);obtain⟨i2,e2⟩:=Aa 2 (by simp);simp only[List.getElem_cons_zero,List.getElem_cons_succ] at e0 e1 e2;have b0:=Ab a (by simp);have b1:=Ab b (by simp);have b2:=Ab c (by simp);simp only[List.length_cons,List.length_nil] at Ac;clear Aa Ab h1 h4;go_enter Tryz.func149,Tryz.ntmps149;go_wp2_with fail;go_quiet (fail)
  go_wp2_with fail;refine wp_loop_rounds 3 ?_;rw[rounds_succ];go_wp2_with fail;rw[rounds_succ];go_wp2_with fail;rw[rounds_succ];go_wp2;go_ret;refine⟨dV (by simp[iO,rW,uT]),?_⟩;exact ((Below.refl _ _).alloc lz _).trans (bV _ _ _)
 ·obtain⟨i0,e0⟩:=Aa 0 (by simp)
  obtain⟨i1,e1⟩:=Aa 1 (by simp);obtain⟨i2,e2⟩:=Aa 2 (by simp);obtain⟨i3,e3⟩:=Aa 3 (by simp);simp only[List.getElem_cons_zero,List.getElem_cons_succ] at e0 e1 e2 e3;have b0:=Ab a (by simp);have b1:=Ab b (by simp);have b2:=Ab c (by simp);have b3:=Ab d (by simp);simp only[List.length_cons,List.length_nil] at Ac;clear Aa Ab h1 h4;go_enter Tryz.func149,Tryz.ntmps149;go_wp2_with fail;go_quiet (fail)
  go_wp2_with fail;refine wp_loop_rounds 4 ?_;rw[rounds_succ];go_wp2_with fail;rw[rounds_succ];go_wp2_with fail;rw[rounds_succ];go_wp2_with fail;rw[rounds_succ];go_wp2;go_ret;refine⟨dV (by simp[iO,rW,uT]),?_⟩;exact ((Below.refl _ _).alloc lz _).trans (bV _ _ _)
 ·simp at h4
theorem Fs{a b:ByteArray}(h:bs a=bs b):a=b:=by
 have h1:a.data.toList=b.data.toList:=by
  unfold bs at h;exact (List.map_inj_right (fun _ _=>UInt8.toNat_inj.1)).1 h
 exact ByteArray.ext (Array.toList_inj.1 h1)
theorem wR{a b:ByteArray}:(a.toList==b.toList)=true↔a=b:=by
 constructor
 ·intro h
  have h1:=beq_iff_eq.1 h;rw[ByteArray.toList_eq,ByteArray.toList_eq] at h1;exact ByteArray.ext (Array.toList_inj.1 h1)
 ·rintro rfl;simp
theorem rX(s:ByteArray)(i j:Nat):bs (s.extract i j)=((bs s).take j).drop i:=by
 unfold bs;rw[ByteArray.data_extract,Array.toList_extract,List.extract_eq_drop_take',<-List.map_take,<-List.map_drop]
theorem yD(l:List UInt8):bs (bg l)=l.map UInt8.toNat:=by simp[bs,bg]
theorem Me{c:Nat}(h:c<=1114111):∀x∈fu c,x<256:=by
 intro x hx;unfold fu at hx;split at hx
 ·simp at hx;omega
 split at hx
 ·simp at hx;omega
 split at hx
 ·simp at hx;omega
 ·simp at hx;omega
theorem GH{c:Nat}(h:jW c=true):bs (bg (gG c))=fu c:=by
 rw[bZ] at h;have hp:=Me h.1;rw[yD];unfold gG;rw[List.map_map]
 conv=>rhs;rw[<-List.map_id (fu c)]
 apply List.map_congr_left
 intro x hx;have:=hp x hx;simp[UInt8.toNat_ofNat']
 omega
theorem E9{s:ByteArray}{i k:Nat}(h1:1<=k)(h2:i+k<=s.size) :
  (bg (sJ (iO (((bs s).drop i).take k)))=s.extract i (i+k))↔(aD ((bs s).drop i)).2=k:=by
 have hl:∀x∈(bs s).drop i,x<256:=fun x hx=>fK x (List.mem_of_mem_drop hx);have Aa:k<=((bs s).drop i).length:=by simp[ay];omega
 have Ab:bs (s.extract i (i+k))=((bs s).drop i).take k:=by
  rw[rX,List.drop_take];congr 1;omega
 rw[I4 hl h1 Aa];generalize iO (((bs s).drop i).take k)=g;constructor
 ·intro h
  have h3:=congrArg bs h;rw[Ab] at h3;unfold sJ at h3
  cases hg:kL g with
  |false=>
   rw[hg] at h3;have:=congrArg List.length h3;simp[yD,ay] at this
   omega
  |true=>
   obtain⟨n,rfl⟩:∃n:Nat,g=n:=⟨g.toNat,by unfold kL at hg;simp at hg;omega⟩;rw[hg] at h3;rw[fD] at hg;simp only[if_true,Int.toNat_natCast] at h3 ⊢;rw[GH hg] at h3;exact⟨trivial,h3⟩
 ·rintro⟨hg,h3⟩
  apply Fs
  rw[Ab,<-h3];unfold sJ;rw[hg];obtain⟨n,rfl⟩:∃n:Nat,g=n:=⟨g.toNat,by unfold kL at hg;simp at hg;omega⟩;rw[fD] at hg;simp only[if_true,Int.toNat_natCast];exact GH hg
theorem BF(s:ByteArray)(i:Nat)(w:World)(hs:s.size<=1048576)(hi:i<=s.size) :
  Calls Tryz.prog 120 #[.string s,.int .i64 i] w fun e w'=>e=.returned (.tuple #[.int .i64 (aD ((bs s).drop i)).1,.int .i64 (aD ((bs s).drop i)).2])/\Below w.heap.size w w':=by
 have Ad:∀x∈(bs s).drop i,x<256:=fun x hx=>fK x (List.mem_of_mem_drop hx);have Ac:=jS _ Ad;simp only[List.length_drop,ay] at Ac;have Ae:=Hh Ac;have Ak:=Hh Ad;clear Ac Ad;go_enter Tryz.func120,Tryz.ntmps120;go_wp2_with fail;go_loopw [6] (fun n wr=>∃k:Nat,n=.int .i64 k/\1<=k/\k<=5/\(∀m,1<=m->m<k->(aD ((bs s).drop i)).2≠m)/\Below w.heap.size w wr) (fun n _=>6-(intOf n).toNat)
 case atStart=>exact⟨1,rfl,by omega,by omega,fun m h1 h2=>by omega,Below.refl _ _⟩
 case round=>
  obtain⟨k,rfl,h1,h5,Ah,hb⟩:=hrel;have HN:=Hh Ah;clear Ah
  by_cases hk:k=5
  ·subst hk
   have h0:(aD ((bs s).drop i)).2=0:=by
    have h2:=Ae.out.2;have h3:=HN.out;rcases Nat.lt_or_ge (aD ((bs s).drop i)).2 1 with h|h
    ·omega
    ·exact absurd rfl (h3 _ h (by omega))
   have hc:=zO (l:=(bs s).drop i) (c:=(aD ((bs s).drop i)).1) (n:=(aD ((bs s).drop i)).2) rfl h0;have H0:=Hh h0;have HC:=Hh hc;clear h0 hc;go_wp2;go_ret2
   rw[H0.out,HC.out];exact⟨rfl,hb⟩
  by_cases hsz:s.size<i+k
  ·have h0:(aD ((bs s).drop i)).2=0:=by
    have h2:=Ae.out.1;have h3:=HN.out;rcases Nat.lt_or_ge (aD ((bs s).drop i)).2 1 with h|h
    ·omega
    ·exact absurd rfl (h3 _ h (by omega))
   have hc:=zO (l:=(bs s).drop i) (c:=(aD ((bs s).drop i)).1) (n:=(aD ((bs s).drop i)).2) rfl h0;have H0:=Hh h0;have HC:=Hh hc;have Ao:k<=4:=by omega
   clear h0 hc;go_wp2;go_ret2
   rw[H0.out,HC.out];exact⟨rfl,hb⟩
  have Ao:k<=4:=by omega
  have An:i+k<=s.size:=by omega
  clear hk hsz h5;have hz:=hb.size
  have Af:bs (s.extract i (i+k))=((bs s).drop i).take k:=by
   rw[rX,List.drop_take];congr 1;omega
  have hG:=I5 (s.extract i (i+k)) (((bs s).drop i).take k) wr Af (by simp[ay];omega) (by simp;omega);have Ai:=Hh (E9 h1 An);have Am:=Hh (fun h=>KX Ak.out h1 (n:=k) h);clear Af;go_wp2_with fail;refine hG.mono ?_;clear hG;rintro e w2 ⟨rfl,hb2'⟩;have Aa:=hb.trans (hb2'.mono hz);have Aj:=Aa.size;clear hb2';generalize iO (((bs s).drop i).take k)=g at *;go_wp2_with fail;refine jg w2 (by kernel_rfl) (by kernel_rfl) (Below.refl _ _) ?_;repeat (go_big_quiet_step ((go_at_call 150;exact gq.call _ (xE g _))))
  by_cases hyes:(aD ((bs s).drop i)).2=k
  ·have hq:((bg (sJ g)).toList==(s.extract i (i+k)).toList)=true:=wR.2 (Ai.out.2 hyes)
   have Ag:=Am.out hyes;have HY:=Hh hyes;have HG:=Hh Ag;rw[hq];refine wpQuiet_nil ?_;rintro _ ⟨x,rfl⟩;have Ab:=Aa.trans (x.below.mono Aj);clear hyes Ag hq;go_wp2;go_ret2
   rw[HY.out];exact⟨by rw[HG.out];rfl,Ab⟩
  ·have hq:((bg (sJ g)).toList==(s.extract i (i+k)).toList)=false:=by
    rw[Bool.eq_false_iff];exact fun h=>hyes (Ai.out.1 (wR.1 h))
   have Al:Hid (∀m,1<=m->m<k+1->(aD ((bs s).drop i)).2≠m):=by
    refine Hh (fun m m1 m2=>?_)
    by_cases hm:m=k
    ·subst hm;exact hyes
    ·exact HN.out m m1 (by omega)
   rw[hq];refine wpQuiet_nil ?_;rintro _ ⟨x,rfl⟩;have Ab:=Aa.trans (x.below.mono Aj);clear hyes hq;go_wp2;go_roundw
   case rel=>exact⟨k+1,by go_num,by omega,by omega,Al.out,Ab⟩
   case measure=>simp[intOf];omega
def xN(p:Nat×Nat):List Value:=[.int .i64 (p.1:Int),.int .i64 (p.2:Int)]
def qc(base:Nat)(w:World)(v:Value)(l:List (Nat×Nat)):Prop:=w.ownsRow base 171 2 v l.length (l.flatMap xN)
theorem qc.nil{base:Nat}{w:World}:qc base w (.slice none 0 0) []:=World.ownsRow_nil _ _ _ _
theorem qc.alloc{base:Nat}{w:World}{v:Value}{l:List (Nat×Nat)}(h:qc base w v l)(o:Obj):qc base (w.alloc o) v l:=World.ownsRow.alloc h o
theorem qc.below{base:Nat}{w w':World}{v:Value}{l:List (Nat×Nat)}(h:qc base w v l)(hb:Below w.heap.size w w'):qc base w' v l:=by
 obtain⟨h1,h2⟩:=h;refine⟨h1,?_⟩;rcases h2 with h2|⟨g,cap,cur,rfl,hg0,hg,r⟩
 ·exact .inl h2
 ·refine .inr ⟨g,cap,cur,rfl,hg0,?_,r⟩
  rw[hb.block g (Array.getElem?_eq_some_iff.1 hg).1];exact hg
theorem qc.len{base:Nat}{w:World}{v:Value}{l:List (Nat×Nat)}(h:qc base w v l):∃a cap,v=.slice a l.length cap:=by
 obtain⟨h1,h2⟩:=h;rcases h2 with ⟨rfl,h3⟩|⟨g,cap,cur,rfl,_⟩
 ·exact⟨none,0,by rw[h3]⟩
 ·exact⟨_,cap,rfl⟩
theorem Tryz.infoP:(Tryz.prog.info? 171).map (fun i=>(i.zero,i.size,i.bytes))=some (some (.agg #[.int .i64 0,.int .i64 0]),2,16):=by kernel_rfl
section
variable {w:World} {ops:Array Oper} {rest:List Oper} {o:Oper} {a:Act} {Q:Exit->Act->World->Prop}
theorem rq(hgd:Region.wanted o (yielded ops a.tmps)=true)(s x:Operand)
  (ho:o.op=.call { callee:=.builtin .append,args:=#[s,x],argTypes:=#[152,152] })
  (base:Nat) (l:List (Nat×Nat)) (p:Nat×Nat) (hown:qc base w (a.eval s) l) (g:Nat) (hx:a.eval x=.slice (some ⟨g,0,none⟩) 1 1)
  (hc0:w.cell? ⟨g,0,none⟩=some (.int .i64 (p.1:Int))) (hc1:w.cell? ⟨g,1,none⟩=some (.int .i64 (p.2:Int)))
  (hm:l.length<=1048576) (hbase:base<=w.heap.size) (w0:World) (hb:Below base w0 w)
  (hK:∀v' w',qc base w' v' (l++[p])->Below base w0 w'->wpList Tryz.prog ops Q rest (a.put o.dst v') w'):wpList Tryz.prog ops Q (o::rest) a w:=by
 refine fF hgd fun K hK'=>?_;obtain⟨i,Aa,Ab,Ac,Ad⟩:=info_parts Tryz.infoP;refine wp_append_own w s x 152 ho base 171 i _ 2 16 Tryz.underlying152 Aa Ab Ac Ad rfl (by decide) (a.eval s) l.length (l.flatMap xN) rfl hown ⟨g,0,none⟩ 1 1 (xN p) hx rfl ?_ ?_ (by unfold maxLen;omega) (by omega) hbase ?_
 ·intro j u hu
  rw[Addr.add_lit]
  match j with
  |0=>simp[xN] at hu;subst hu;simpa using hc0
  |1=>simp[xN] at hu;subst hu;simpa using hc1
  |j+2=>simp[xN] at hu
 ·intro u hu
  simp[xN] at hu
  rcases hu with rfl|rfl<;>rfl
 ·intro v' w' hown' hg _
  refine hK' _ _ (hK v' w' ?_ (hb.trans (fI hg hbase (fun k hk=>(World.ownsRow.lt hown k hk).1))));unfold qc
  simpa using hown'
end
end Go.Proofs.YtbcdaaobbebooaaGreatDoor
namespace Go.Proofs.YtbcdaaobbebooaaGreatDoor
open Go.RowKit Go.Tab Go.Shelf
attribute [local go_sem] Oper.semAt_some
theorem wO(s:ByteArray)(w:World) :
  Calls Tryz.prog 189 #[.string s] w fun e w'=>e=.returned (.func (.func 212) #[] #[.pointer (some ⟨w.heap.size,0,none⟩)])/\w'=w.alloc (.cells #[.string s] 9):=by
 go_enter Tryz.func189,Tryz.ntmps189;go_wp2;go_ret;exact⟨rfl,rfl⟩
def dB(g:Nat)(A B:World):Prop:=A.heap.size<=B.heap.size/\B.heap[1]?=A.heap[1]?/\B.heap[g]?=A.heap[g]?
theorem dB.refl(g:Nat)(A:World):dB g A A:=⟨Nat.le_refl _,rfl,rfl⟩
theorem dB.trans{g:Nat}{A B C:World}(h:dB g A B)(h2:dB g B C):dB g A C:=⟨Nat.le_trans h.1 h2.1,h2.2.1.trans h.2.1,h2.2.2.trans h.2.2⟩
theorem dB.tab{g:Nat}{A B:World}(h:dB g A B)(hT:Tab A):Tab B:=fun j hj=>(World.cell?_of_block h.2.1).trans (hT j hj)
theorem dB.box{g:Nat}{A B:World}(h:dB g A B){v:Value}(hc:A.cell? ⟨g,0,none⟩=some v):B.cell? ⟨g,0,none⟩=some v:=(World.cell?_of_block h.2.2).trans hc
theorem JH(n:Nat)(hn:2<=n)(l0 Bn:Nat)(s:ByteArray)(hs:s.size<=1048576)(J Jx:List (Nat×Nat)->World->Prop)
  (hY:∀pre x W,J pre W->pre.length<(scan (bs s) 0).1.length->YieldAt Fence.wide (n-1) Tryz.prog l0 #[.int .i64 (x.1:Nat),.int .i64 (x.2:Nat)] W fun e W'=>
   (e=.returned (.bool true)/\J (pre++[x]) W'/\dB Bn W W')\/(e=.returned (.bool false)/\Jx (pre++[x]) W'))
  (W:World) (hBn:W.cell? ⟨Bn,0,none⟩=some (.string s)) (hT:Tab W) (h0:J [] W) :
  CallsIn Fence.wide n Tryz.prog 212 #[.func (.yield l0) #[] #[],.pointer (some ⟨Bn,0,none⟩)] W fun e W'=>(∃v,e=.returned v)/\
   ((∃ys,ys=(scan (bs s) 0).1/\J ys W')\/(∃pre,pre <+: (scan (bs s) 0).1/\Jx pre W')):=by
 refine callsIn_of_wp Tryz.func212 rfl trivial ?_ rfl;simp only[Tryz.ntmps212,List.size_toArray,List.length_cons,List.length_nil,Nat.reduceAdd,Nat.reduceSub,Array.replicate_succ,Array.replicate_zero,List.push_toArray,List.append_toArray,List.nil_append,List.cons_append]
 gi_wp2
 gi_loopw [3] (fun i wr=>∃(k:Nat) (pre:List (Nat×Nat)),i=.int .i64 k/\k<=s.size/\mH (bs s) k pre/\J pre wr/\dB Bn W wr)
  (fun i wr=>s.size-(intOf i).toNat)
 case atStart=>exact⟨0,[],rfl,Nat.zero_le _,mH.zero _,h0,dB.refl _ _⟩
 case round=>
  obtain⟨k,pre,rfl,hk,hr,hJ,hb⟩:=hrel;have HR:=Hh hr;have Ai:=hb.box hBn;have Ae:=hb.tab hT;clear hr
  by_cases h:k<s.size
  ·obtain⟨c,m,h1⟩:∃c m,aD ((bs s).drop k)=(c,m):=⟨_,_,rfl⟩
   have Ac:=(jS ((bs s).drop k) (fun x hx=>fK x (List.mem_of_mem_drop hx))).1;have hF:=uY s k wr Ae (by omega);unfold gU at hF;rw[h1] at hF Ac;simp only[List.length_drop,ay] at Ac;have H1:=Hh h1;have HF:=Hh hF;clear h1 hF
   by_cases hm:m=0
   ·subst hm
    have h2:=Hh (HR.out.bad (by rw[ay];exact h) (by rw[H1.out]));clear hY
    gi_wp2
    refine⟨trivial,fun _=>by omega,?_⟩;refine (callsIn_wide.2 HF.out).mono ?_;rintro e w9 ⟨rfl,rfl⟩;clear HF
    gi_wp2
    refine⟨fun _ h=>(by cases h),?_⟩
    gi_wp2
    refine bodyPost_ret (results_none rfl _ _ _) rfl ?_;exact⟨⟨_,rfl⟩,.inl ⟨pre,by rw[h2.out],hJ⟩⟩
   ·have h2:=Hh (HR.out.good (by rw[ay];exact h) H1.out hm)
    have Ah:((m:Int)==0)=false:=by rw[beq_eq_false_iff_ne];omega
    have Aj:1<=m:=by omega
    have Af:pre.length<(scan (bs s) 0).1.length:=by rw[h2.out];simp
    obtain⟨fn,Ag,Aa,Ad,hy,hR⟩:=hY pre (k,c) wr hJ Af;have Ab:Hid (pre++[(k,c)] <+: (scan (bs s) 0).1):=Hh ⟨(scan ((bs s).drop (k+m)) (k+m)).1,by rw[h2.out]⟩;clear hm hY
    gi_wp2
    refine⟨trivial,fun _=>by omega,?_⟩;refine (callsIn_wide.2 HF.out).mono ?_;rintro e w9 ⟨rfl,rfl⟩;clear HF
    gi_wp2
    refine⟨fun _=>by omega,hR.mono ?_⟩;rintro e W3 (⟨rfl,hJ3,hk3⟩|⟨rfl,hJx3⟩)
    ·gi_wp2
     refine⟨⟨k+m,pre++[(k,c)],by go_num,by omega,h2.out,hJ3,hb.trans hk3⟩,?_⟩;simp[intOf];omega
    ·gi_wp2
     refine bodyPost_ret (results_none rfl _ _ _) rfl ?_;exact⟨⟨_,rfl⟩,.inr ⟨_,Ab.out,hJx3⟩⟩
  ·have h2:=Hh (HR.out.done (by rw[ay];omega))
   clear hY
   gi_wp2
   refine bodyPost_end (results_none rfl _ _ _) rfl ?_;exact⟨⟨_,rfl⟩,.inl ⟨pre,by rw[h2.out],hJ⟩⟩
end Go.Proofs.YtbcdaaobbebooaaGreatDoor
