import Derived.Test.YtbcdaaobbebooaaGreatDoorMgm
set_option linter.unusedSimpArgs false
set_option linter.unusedVariables false
set_option maxRecDepth 100000
set_option maxHeartbeats 20000000
namespace Go.Proofs.YtbcdaaobbebooaaGreatDoor
open Go.RowKit Go.Tab
def DY(l:List ag):Prop:=∀t∈l,t.kind≠5
theorem CJ{l:List ag}(h:DY l):l.filter jQ=eu l:=by
 unfold eu;refine List.filter_congr fun t ht=>?_;have h5:=h t ht;unfold jQ dS
 by_cases h6:t.kind=6<;>by_cases h7:t.kind=7<;>simp[h5,h6,h7]
theorem sU(w:World)(lv:Value)(l:List ag)(h:aH w lv l)(h5:DY l)(hl:l.length<=1000000):Calls Tryz.prog 73 #[lv] w fun e w'=>e=.returned (.bool (iK l))/\Below w.heap.size w w':=by
 have hP:=xF lv l w h hl;rw[CJ h5] at hP;have Ab:(eu l).length<=l.length:=List.length_filter_le _ _;have HD:Hid (iK l=match (eu l).getLast? with|some t=>bT t rF|none=>false):=Hh (by unfold iK;rfl);generalize eu l=p at *;clear h h5;go_enter Tryz.func73,Tryz.ntmps73;go_wp2_with fail;refine hP.mono ?_;clear hP;rintro _ w2 ⟨v,rfl,hO,hb2⟩;have hT:=hO.toks;obtain⟨a,c,rfl,Ac,Ad,-⟩:=hT.len;unfold maxLen at Ad;have HB:=Hh hb2;clear hO hb2
 cases p with
 |nil=>
  clear hT;go_wp2_with fail;go_ret;exact⟨by rw[HD.out];rfl,HB.out⟩
 |cons t0 q=>
  obtain⟨n,hn⟩:=exq ((t0::q).length);have Af:0<n:=by rw[hn];simp
  rw[<-hn] at Ac Ab;obtain⟨b,Ag,rfl,Ae,c0,c1,c2⟩:=hT.get (j:=n-1) (by rw[<-hn];omega)
  have Aa:Hid (iK l=bT ((t0::q)[n-1]'(by rw[<-hn];omega)) rF):=Hh (by
   rw[HD.out]
   simp only[hn];rw[List.getLast?_eq_getElem?,List.getElem?_eq_getElem (by simp)])
  rw[<-hn];have hC:=fun W=>qo ((t0::q)[n-1]'(by rw[<-hn];omega)) rF W;have hX:=fun W=>dM W ((t0::q)[n-1]'(by rw[<-hn];omega));generalize (t0::q)[n-1]'(by rw[<-hn];omega)=t at *;obtain⟨kd,tx,ps⟩:=t;simp only[eO] at hC c0 c1 c2
  (try simp only[Nat.zero_mul,Nat.add_zero] at c0 c1 c2)
  have HX:=Hh hX;clear hX hT hn HD;have i1:IntKind.i64.wrap ((n:Int)-1)=((n-1:Nat):Int):=by rw[IntWalk.i64_in _ (by omega)];omega
  have i2:(0:Int)<(n:Int):=by omega
  go_wp2_with fail;refine (hC _).mono ?_;rintro _ _ ⟨rfl,rfl⟩;clear hC;go_wp2_with fail;go_ret;exact⟨by rw[Aa.out];rfl,HB.out.trans ((HX.out _).mono HB.out.size)⟩
theorem yZ(w:World)(lv:Value)(l:List ag)(h:aH w lv l)(h5:DY l)(hl:l.length<=1000000):Calls Tryz.prog 74 #[lv] w fun e w'=>e=.returned (.bool (kZ l))/\Below w.heap.size w w':=by
 have hP:=xF lv l w h hl;rw[CJ h5] at hP;have Ab:(eu l).length<=l.length:=List.length_filter_le _ _;have HD:Hid (kZ l=match (eu l).head? with|some t=>bT t ng|none=>false):=Hh (by unfold kZ;cases eu l<;>rfl);generalize eu l=p at *;clear h h5;go_enter Tryz.func74,Tryz.ntmps74;go_wp2_with fail;refine hP.mono ?_;clear hP;rintro _ w2 ⟨v,rfl,hO,hb2⟩;have hT:=hO.toks;obtain⟨a,c,rfl,Ac,Ad,-⟩:=hT.len;unfold maxLen at Ad;have HB:=Hh hb2;clear hO hb2
 cases p with
 |nil=>
  clear hT;go_wp2_with fail;go_ret;exact⟨by rw[HD.out];rfl,HB.out⟩
 |cons t0 q=>
  obtain⟨n,hn⟩:=exq ((t0::q).length);have Af:0<n:=by rw[hn];simp
  rw[<-hn] at Ac Ab;obtain⟨b,Ag,rfl,Ae,c0,c1,c2⟩:=hT.get (j:=0) (by rw[<-hn];omega)
  have Aa:Hid (kZ l=bT ((t0::q)[0]'(by rw[<-hn];omega)) ng):=Hh (by
   rw[HD.out]
   rfl)
  rw[<-hn];have hC:=fun W=>qo ((t0::q)[0]'(by rw[<-hn];omega)) ng W;have hX:=fun W=>dM W ((t0::q)[0]'(by rw[<-hn];omega));generalize (t0::q)[0]'(by rw[<-hn];omega)=t at *;obtain⟨kd,tx,ps⟩:=t;simp only[eO] at hC c0 c1 c2
  (try simp only[Nat.zero_mul,Nat.add_zero] at c0 c1 c2)
  have HX:=Hh hX;clear hX hT hn HD;have i1:IntKind.i64.wrap ((n:Int)-1)=((n-1:Nat):Int):=by rw[IntWalk.i64_in _ (by omega)];omega
  have i2:(0:Int)<(n:Int):=by omega
  go_wp2_with fail;refine (hC _).mono ?_;rintro _ _ ⟨rfl,rfl⟩;clear hC;go_wp2_with fail;go_ret;exact⟨by rw[Aa.out];rfl,HB.out.trans ((HX.out _).mono HB.out.size)⟩
theorem qp(w:World)(lv:Value)(l:List ag)(h:aH w lv l)(hl:l.length<=1000000) :
  Calls Tryz.prog 75 #[lv] w fun e w'=>e=.returned (.int .i64 (sM (oG l)))/\Below w.heap.size w w':=by
 obtain⟨a,c,rfl,h1,h2,-⟩:=h.len;unfold maxLen at h2;have HT:=Hh h;clear h;go_enter Tryz.func75,Tryz.ntmps75;go_wp2_with fail;go_loopw [3,4] (fun nn i wr=>∃(k m:Nat),k<=l.length/\i=.int .i64 (k:Int)/\nn=.int .i64 (m:Int)/\m<=1/\Hid (mr (l.drop k) k (1-m)=mr l 0 1)/\Below w.heap.size w wr) (fun _ i _=>l.length-(intOf i).toNat)
 case atStart=>exact⟨0,0,Nat.zero_le _,rfl,rfl,by omega,Hh rfl,Below.refl _ _⟩
 case round=>
  obtain⟨k,m,hk,rfl,rfl,hm,HA,hb⟩:=hrel;have HB:=Hh hb
  by_cases hkl:k<l.length
  ·obtain⟨b,Ac,rfl,Ab,hq⟩:=kE (HT.out.below hb lz) hkl
   obtain⟨q0,q1,q2⟩:=hq wr (Below.refl _ _);have hX:=dM wr l[k];have hC:=qm l[k] wr;have hS:=fun W=>dw l[k] Ca W;have H1:=Hh (fun hc n=>wC (n:=n) hkl hc);have H2:=Hh (fun hc=>wB hkl hc);have H3:=Hh (fun hc n=>tC (n:=n) hkl hc);have H4:=Hh (fun h=>Gx (l:=l) (k:=k) h hkl);generalize l[k]=t at *;obtain⟨kd,tx,ps⟩:=t;simp only[eO] at hC hS q0 q1 q2;generalize dS ⟨kd,tx,ps⟩=cb at *;generalize bT ⟨kd,tx,ps⟩ Ca=sb at *;have HX:=Hh (HB.out.trans (hX.mono HB.out.size));have Aa:=Hh (HX.out.alloc HX.out.size (kg ⟨kd,tx,ps⟩));clear hX hb hq
   cases cb with
   |true=>
    go_wp2_with fail;refine hC.mono ?_;rintro _ _ ⟨rfl,rfl⟩;clear hC hS;go_wp2_with fail;go_roundw
    case rel=>exact⟨k+1,m,hkl,by go_num,rfl,hm,Hh (by rw[<-HA.out,H1.out (by trivial)]),HX.out⟩
    case measure=>simp[intOf]<;>omega
   |false=>
    go_wp2_with fail;refine hC.mono ?_;rintro _ _ ⟨rfl,rfl⟩;clear hC
    by_cases hm1:m=1
    ·subst hm1
     have HE:Hid (oG l=if sb then some k else none):=Hh (H4.out (by rw[<-HA.out];exact H2.out (by trivial)));go_wp2_with fail;refine (hS _).mono ?_;rintro _ _ ⟨rfl,rfl⟩;clear hS;cases sb
     all_goals
      go_wp2_with fail;go_ret;rw[HE.out];exact⟨rfl,Aa.out⟩
    ·obtain rfl:m=0:=by omega
     go_wp2_with fail;go_roundw
     case rel=>exact⟨k+1,1,hkl,by go_num,by go_num,by omega,Hh (by rw[<-HA.out,H3.out (by trivial)]),HX.out⟩
     case measure=>simp[intOf]<;>omega
  ·obtain rfl:k=l.length:=by omega
   have hE:=tu (l:=l) (n:=1-m) lz;have HE:Hid (oG l=none):=Hh (Dv (by rw[<-HA.out,hE]));clear hE hb;go_wp2_with fail;go_ret;rw[HE.out];exact⟨rfl,HB.out⟩
theorem xH(w:World)(s:ByteArray)(hs:s.size<=1048576)(hv:VT s.data.toList) :
  Calls Tryz.prog 77 #[.string s] w fun e w'=>e=.returned (.int .i64 (dG s.data.toList:Nat))/\Below w.heap.size w w':=by
 have hA:=Kb s w hs
 have HC:Hid (dG s.data.toList=(scan (bs s) 0).1.length):=Hh (by
  unfold dG;rw[show scan (nb s.data.toList) 0=scan (bs s) 0 from rfl];rw[show (scan (bs s) 0).2=none from hv]
  rfl)
 generalize (scan (bs s) 0).1=L at *;clear hv;go_enter Tryz.func77,Tryz.ntmps77;go_wp2_with fail;refine hA.mono ?_;clear hA;rintro _ w2 ⟨v,rfl,hO,hb2⟩;obtain⟨a,c,rfl⟩:=pJ hO;have HB:=Hh hb2;clear hO hb2;go_wp2_with fail;go_ret;exact⟨by rw[HC.out];rfl,HB.out⟩
theorem CB(row:List ag)(k:Nat):eP row k k=[]:=by unfold eP;rw[if_neg (by omega)]
theorem Kh{row:List ag}{k:Nat}(h:k<row.length):eP row k (k+1)=vC row[k]:=by
 unfold eP;rw[if_pos (by omega),lQ,List.append_nil,List.getElem?_eq_getElem h];rfl
theorem Mf{row:List ag}{fr k:Nat}(h1:fr<k)(h2:k<row.length):eP row fr (k+1)=eP row fr k++(kY (tZ row k)++vC row[k]):=by
 unfold eP;rw[if_pos (by omega),if_pos h1,tJ (by omega) h2,List.append_assoc];unfold qX;rw[if_neg (by omega)]
theorem sV{row:List ag}{fr en:Nat}:∀{k:Nat},k<=en->(eP row fr k).length<=(eP row fr en).length:=by
 intro k h;unfold eP;split
 ·rw[if_pos (by omega),List.length_append,List.length_append]
  have:=xK (row:=row) (ind:=0) (fr:=fr+1) h;omega
 ·exact Nat.zero_le _
theorem vH(w:World)(lv:Value)(l:List ag)(fr en:Nat)(h:aH w lv l)(hfe:fr<=en)(hen:en<=l.length)(hl:l.length<=1000000)(hsz:(eP l fr en).length<=1000000) :
  Calls Tryz.prog 76 #[lv,.int .i64 (fr:Nat),.int .i64 (en:Nat)] w fun e w'=>e=.returned (.string (av (eP l fr en)))/\Below w.heap.size w w':=by
 obtain⟨a,c,rfl,h1,h2,-⟩:=h.len;unfold maxLen at h2;have HT:=Hh h;have Aj:=Hh hsz;clear h hsz;go_enter Tryz.func76,Tryz.ntmps76;go_wp2_with fail;go_loopw [7,8] (fun sv i wr=>∃(k:Nat) (S:ByteArray),fr<=k/\k<=en/\i=.int .i64 (k:Int)/\sv=.string S/\Hid (S=av (eP l fr k))/\Below w.heap.size w wr) (fun _ i _=>en-(intOf i).toNat)
 case atStart=>exact⟨fr,⟨#[]⟩,Nat.le_refl _,hfe,rfl,rfl,Hh (by rw[CB];rfl),Below.refl _ _⟩
 case round=>
  obtain⟨k,S,Aq,hk,rfl,rfl,HS,hb⟩:=hrel;have HB:=Hh hb
  by_cases hkl:k<en
  ·have Ae:k<l.length:=by omega
   have hT:=HT.out.below hb lz;obtain⟨b,Am,rfl,Ak,hq⟩:=kE hT Ae;have hG:=EE wr _ l hT hl (k:Int) (JF (by omega));rw[Int.toNat_natCast] at hG;have Ai:=Bj l k;have Ab:=sV (row:=l) (fr:=fr) (show k+1<=en by omega);have Ag:S.size=(eP l fr k).length:=by rw[HS.out];rfl
   have HQ:Hid (∀W,Below wr.heap.size wr W->W.cell? ⟨b,Am+k*3+1,none⟩=some (.string l[k].text)):=Hh fun W hW=>(hq W hW).2.1;have Ao:(0:Int)<=(k:Int):=by omega
   have Ap:(k:Int)<(l.length:Int):=by omega
   have Ah:Hid (∀x:Bs,eP l fr (k+1)=eP l fr k++(x++vC l[k])->x.length<=1->S.size+(x.length+l[k].text.size)<=1000000):=Hh fun x hx _=>by
    rw[hx] at Ab;simp only[List.length_append] at Ab;have e:l[k].text.size=(vC l[k]).length:=rfl;have:=Aj.out;omega
   by_cases hf:k=fr
   ·subst hf
    have Aa:eP l k (k+1)=eP l k k++([]++vC l[k]):=by rw[Kh Ae,CB];rfl
    have hz:=Ah.out [] Aa (by simp);have HN:Hid (S++l[k].text=av (eP l k (k+1))):=Hh (ji (by rw[kT,HS.out,bi,bi,Aa];rfl));have q1:=HQ.out wr (Below.refl _ _);generalize l[k].text=tx at *;clear Aa hG Ab Ag hq hT;simp only[List.length_nil,Nat.zero_add] at hz;go_wp2_with fail;go_roundw
    case rel=>exact⟨k+1,_,by omega,hkl,by go_num,rfl,HN,HB.out⟩
    case measure=>simp[intOf]<;>omega
   ·have hd:fr<k:=by omega
    have Aa:=Mf (show fr<k by omega) Ae;have hz:=Ah.out _ Aa (by simp[kY];omega);have HN:Hid (∀n,tZ l k=n->S++D6 n++l[k].text=av (eP l fr (k+1))):=Hh (fun n hn=>ji (by rw[kT,kT,HS.out,bi,bi,Aa,hn];unfold D6;rw[bi];simp[List.append_assoc]));simp only[kY,List.length_replicate] at hz;generalize hgg:tZ l k=g at *;have An:=HQ;generalize l[k].text=tx at *;clear Aa Ab Ag hq hT hf;go_wp2_with fail;refine hG.mono ?_;clear hG;rintro _ w3 ⟨rfl,hb3⟩;have q1:=HQ.out w3 hb3;have Al:b<w3.heap.size:=Nat.lt_of_lt_of_le Ak hb3.size;have Af:=Hh (HB.out.trans (hb3.mono HB.out.size));clear hb3;have Ad:g=0\/g=1:=by omega
    rcases Ad with rfl|rfl
    ·have Ac:Hid (S++tx=av (eP l fr (k+1))):=Hh (by rw[<-HN.out 0 (by trivial),show S++D6 0=S from ji (by rw[kT];simp[D6,kY,av])])
     clear HN Ai;go_wp2_with fail;go_roundw
     case rel=>exact⟨k+1,_,by omega,hkl,by go_num,rfl,Ac,Af.out⟩
     case measure=>simp[intOf]<;>omega
    ·have Ac:Hid (S++⟨#[32]⟩++tx=av (eP l fr (k+1))):=Hh (by rw[<-HN.out 1 (by trivial)];rfl)
     clear HN Ai;go_wp2_with fail;go_roundw
     case rel=>exact⟨k+1,_,by omega,hkl,by go_num,rfl,Ac,Af.out⟩
     case measure=>simp[intOf]<;>omega
  ·obtain rfl:k=en:=by omega
   go_wp2_with fail;go_ret;exact⟨by rw[HS.out];rfl,HB.out⟩
theorem aI.one(base:Nat)(w:World)(t:ag)(hb:base<=w.heap.size):aI base (w.alloc (.cells #[.int .i64 t.kind,.string t.text,.int .i64 t.pos] 63)) (.slice (some ⟨w.heap.size,0,Option.none⟩) 1 1) [t]:=by
 have h:=World.ownsRow_lit (base:=base) (e:=63) (size:=3) w #[.int .i64 t.kind,.string t.text,.int .i64 t.pos] 1 hb (by decide) (by simp);unfold aI
 simpa [gN] using h
def Aq(w:World)(l:List ag)(a e:Int)(r:Ending)(w':World):Prop:=∃v,r=.returned (.agg #[v,.int .i64 a,.int .i64 e])/\aI w.heap.size w' v l/\Below w.heap.size w w'
theorem iG(c:UInt8)(w:World):Calls Tryz.prog 80 #[.int .u8 c.toNat] w fun e w'=>e=.returned (.bool (lq c))/\w=w':=by
 have hL:lq c=(decide (65<=c.toNat/\c.toNat<=90) || (decide (97<=c.toNat/\c.toNat<=122) || decide (c.toNat=95))):=rfl;generalize lq c=b at hL;generalize c.toNat=n at hL
 have hr:((n<65\/(n<97/\65<=n/\90<n/\n<95)\/(n<97/\65<=n/\90<n/\n=96)\/(97<=n/\122<n))/\b=false)\/(((n<97/\65<=n/\n<=90)\/(97<=n/\n<=122)\/(n<97/\65<=n/\90<n/\n=95))/\b=true):=by
  cases b with
  |false=>
   have h:=hL.symm;simp only[Bool.or_eq_false_iff,decide_eq_false_iff_not] at h
   left
   exact⟨by omega,rfl⟩
  |true=>
   have h:=hL.symm;simp only[Bool.or_eq_true,decide_eq_true_eq] at h
   right
   exact⟨by omega,rfl⟩
 clear hL;rcases hr with ⟨(h|⟨h1,h2,h3,h4⟩|⟨h1,h2,h3,rfl⟩|⟨h1,h2⟩),rfl⟩|⟨(⟨h1,h2,h3⟩|⟨h1,h2⟩|⟨h1,h2,h3,rfl⟩),rfl⟩
 all_goals
  go_enter Tryz.func80,Tryz.ntmps80;go_wp2;go_ret;first
  |exact⟨rfl,rfl⟩
  |exact⟨iW (by simp only[ne_eq,Bool.or_eq_false_iff,Bool.or_eq_true,Bool.and_eq_true,Bool.and_eq_false_iff,decide_eq_false_iff_not,decide_eq_true_eq,beq_eq_false_iff_ne,beq_iff_eq];omega),rfl⟩
theorem Av(c:UInt8)(w:World):Calls Tryz.prog 45 #[.int .u8 c.toNat] w fun e w'=>e=.returned (.bool (cz c))/\w=w':=by
 by_cases h1:c=32
 ·subst h1
  go_enter Tryz.func45,Tryz.ntmps45;go_wp2;go_ret;exact⟨rfl,rfl⟩
 by_cases h2:c=9
 ·subst h2
  go_enter Tryz.func45,Tryz.ntmps45;go_wp2;go_ret;exact⟨rfl,rfl⟩
 by_cases h3:c=13
 ·subst h3
  go_enter Tryz.func45,Tryz.ntmps45;go_wp2;go_ret;exact⟨rfl,rfl⟩
 have hb:cz c=false:=by simp[cz,kG,h1,h2,h3]
 rw[hb];have d1:=fA h1 (m:=32) rfl;have d2:=fA h2 (m:=9) rfl;have d3:=fA h3 (m:=13) rfl;clear h1 h2 h3 hb;go_enter Tryz.func45,Tryz.ntmps45;go_wp2;go_ret;exact⟨rfl,rfl⟩
theorem MP{s w:ByteArray}{k:Nat}(h:k+w.size<=s.size):(s.extract k (k+w.size)=w)↔w.data.toList.isPrefixOf (s.data.toList.drop k)=true:=by
 rw[List.isPrefixOf_iff_prefix]
 have e1:(s.extract k (k+w.size)).data.toList=(s.data.toList.drop k).take w.data.toList.length:=by
  rw[fe,List.drop_take,<-au];congr 1;omega
 constructor
 ·intro he
  rw[he] at e1;rw[List.prefix_iff_eq_take];exact e1
 ·intro hp
  apply ji
  rw[e1];exact (List.prefix_iff_eq_take.1 hp).symm
theorem rU(s:ByteArray)(k:Nat)(p:ByteArray)(w:World)(hs:s.size<=1048576)(hk:k<=s.size)(hp:p.size<=1000) :
  Calls Tryz.prog 84 #[.string s,.int .i64 (k:Nat),.string p] w fun e w'=>e=.returned (.bool (p.data.toList.isPrefixOf (s.data.toList.drop k)))/\w=w':=by
 by_cases h:k+p.size<=s.size
 ·have hx:=MP h
  generalize p.data.toList.isPrefixOf (s.data.toList.drop k)=b at hx;have Aa:s.extract k (k+p.size)=s.extract k (k+p.size):=rfl;have HX:=Hh hx;clear hx
  cases b with
  |true=>
   have he:=HX.out.2 rfl;go_enter Tryz.func84,Tryz.ntmps84;go_wp2;go_ret;exact⟨rfl,rfl⟩
  |false=>
   have he:=wV (fun e=>by have:=HX.out.1 e;cases this);go_enter Tryz.func84,Tryz.ntmps84;go_wp2;go_ret;exact⟨rfl,rfl⟩
 ·have hb:p.data.toList.isPrefixOf (s.data.toList.drop k)=false:=by
   rw[<-Bool.not_eq_true];intro hp;have:=(List.isPrefixOf_iff_prefix.1 hp).length_le;rw[List.length_drop,<-au,<-au] at this;omega
  rw[hb];clear hb;go_enter Tryz.func84,Tryz.ntmps84;go_wp2;go_ret;exact⟨rfl,rfl⟩
theorem EU(l:Bs)(k:Nat)(h:k<l.length):dz (l.drop k)=if l[k]=10 then 0 else dz (l.drop (k+1))+1:=by
 rw[List.drop_eq_getElem_cons h,dz]
theorem Gz(s:ByteArray)(k:Nat)(w:World)(hs:s.size<=1048576)(hk:k<=s.size) :
  Calls Tryz.prog 85 #[.string s,.int .i64 (k:Nat)] w fun e w'=>e=.returned (.int .i64 ((k+dz (s.data.toList.drop k):Nat):Int))/\w=w':=by
 obtain⟨q,hq⟩:∃q,k+dz (s.data.toList.drop k)=q:=⟨_,rfl⟩;rw[hq];have HQ:=Hh hq;clear hq;go_enter Tryz.func85,Tryz.ntmps85;go_wp2_with fail;go_loop [1] (fun i=>∃j:Nat,i=.int .i64 (j:Int)/\j<=s.size/\j+dz (s.data.toList.drop j)=q) (fun i=>s.size-(intOf i).toNat)
 case atStart=>exact⟨k,rfl,hk,HQ.out⟩
 case round=>
  clear HQ;obtain⟨j,rfl,hj,hI⟩:=hrel
  by_cases hlt:j<s.size
  ·have Aa:=EU s.data.toList j (by rw[<-au];exact hlt)
   rw[Aa,<-jd hlt] at hI;clear Aa
   by_cases h10:s[j]'hlt=10
   ·have d:(((s[j]'hlt).toNat:Int) != 10)=false:=by rw[h10];rfl
    rw[if_pos h10] at hI;have HI:=Hh hI;clear hI h10;go_wp2;go_ret;exact⟨dV (by have:=HI.out;omega),rfl⟩
   ·have d:(((s[j]'hlt).toNat:Int) != 10)=true:=by
     have:=fA h10 (m:=10) rfl;rw[beq_eq_false_iff_ne] at this;rw[bne_iff_ne];exact this
    rw[if_neg h10] at hI;have HI:=Hh hI;clear hI h10;go_wp2;go_round
    case rel=>exact⟨j+1,by go_num,by omega,by have:=HI.out;omega⟩
    case measure=>simp[intOf];omega
  ·obtain rfl:j=s.size:=by omega
   have he:dz (s.data.toList.drop s.size)=0:=by rw[au,List.drop_length];rfl
   rw[he] at hI;have HI:=Hh hI;clear hI he;go_wp2;go_ret;exact⟨dV (by have:=HI.out;omega),rfl⟩
theorem lJ(s:ByteArray)(k n:Nat)(kd:Int)(w:World)(hs:s.size<=1048576)(hk:k+n<=s.size) :
  Calls Tryz.prog 79 #[.string s,.int .i64 (k:Nat),.int .i64 kd,.int .i64 (n:Nat)] w (Aq w [⟨kd,s.extract k (k+n),(k:Nat)⟩] 0 0):=by
 go_enter Tryz.func79,Tryz.ntmps79;go_wp2;have hc:=(aa.new w #[.slice (some ⟨w.heap.size+1,0,none⟩) 1 1,.int .i64 0,.int .i64 0] 38).alloc (.cells #[.int .i64 kd,.string (s.extract k (k+n)),.int .i64 (k:Nat)] 63);obtain⟨Ab,Ae,Ac,Af,Ad,Ag⟩:=hc.n3 rfl;have Aa:=aI.one w.heap.size (w.alloc (.cells #[.slice (some ⟨w.heap.size+1,0,none⟩) 1 1,.int .i64 0,.int .i64 0] 38)) ⟨kd,s.extract k (k+n),(k:Nat)⟩ (by simp);rw[World.size_alloc] at Aa;refine bodyPost_ret (v:=.agg #[.slice (some ⟨w.heap.size+1,0,none⟩) 1 1,.int .i64 0,.int .i64 0]) (by simp[results,Tryz.results79,go_sem,Ab,Ac,Ad]) rfl ?_;exact⟨_,rfl,Aa,((Below.refl _ w).alloc lz _).alloc (by simp) _⟩
def xS(s:ByteArray)(k:Nat):LR->List ag×Int×Int
 |.tok kd n=>([⟨(kd:Nat),s.extract k (k+n),(k:Nat)⟩],0,0)
 |.bad o e=>([],((k+o:Nat):Int),e)
theorem Oc(s:ByteArray)(a b:Nat):bs (s.extract a b)=nb ((s.data.toList.take b).drop a):=by
 unfold bs nb;rw[fe]
theorem Mr(l:Bs)(k:Nat):nb (l.drop k)=(nb l).drop k:=by unfold nb;rw[List.map_drop]
theorem vO(s:ByteArray)(k stop kd:Nat)(w:World)(hs:s.size<=1048576)(hk:k<=stop)(hst:stop<=s.size) :
  Calls Tryz.prog 86 #[.string s,.int .i64 (k:Nat),.int .i64 (stop:Nat),.int .i64 (kd:Nat)] w
   (Aq w (xS s k (iX ((s.data.toList.take stop).drop k) kd)).1 (xS s k (iX ((s.data.toList.take stop).drop k) kd)).2.1 (xS s k (iX ((s.data.toList.take stop).drop k) kd)).2.2):=by
 obtain⟨L,hL⟩:∃L,(s.data.toList.take stop).drop k=L:=⟨_,rfl⟩;have Ar:L.length=stop-k:=by rw[<-hL,List.length_drop,List.length_take,<-au];omega
 have Ab:∀(j:Nat) W,j<=L.length->Calls Tryz.prog 120 #[.string (s.extract 0 stop),.int .i64 ((k+j:Nat):Int)] W fun e w'=>e=.returned (.tuple #[.int .i64 (aD ((nb L).drop j)).1,.int .i64 (aD ((nb L).drop j)).2])/\Below W.heap.size W w':=fun j W hj=>by
  have h:=BF (s.extract 0 stop) (k+j) W (by rw[kQ hst];omega) (by rw[kQ hst];omega);rw[Oc,List.drop_zero] at h;rw[<-hL,Mr,List.drop_drop];exact h
 rw[hL];clear hL;go_enter Tryz.func86,Tryz.ntmps86;go_wp2_with fail;go_loopw [9,10,11] (fun i _ _ wr=>∃(j:Nat) (pre:List (Nat×Nat)),i=.int .i64 ((k+j:Nat):Int)/\j<=L.length/\mH (nb L) j pre/\(∀x∈pre,nu x=false)/\Below w.heap.size w wr/\aa wr w.heap.size #[.slice none 0 0,.int .i64 0,.int .i64 0] 38) (fun i _ _ _=>stop-(intOf i).toNat)
 case atStart=>exact⟨0,[],rfl,Nat.zero_le _,mH.zero _,by simp,(Below.refl _ w).alloc lz _,aa.new w _ _⟩
 case round=>
  obtain⟨j,pre,rfl,hj,hR,hg,hb,hc⟩:=hrel;have Ak:=hc.lt
  by_cases h:j<L.length
  ·have A1:k+j<stop:=by omega
   have hO:=fun W=>Ab j W hj;obtain⟨c,n,h1⟩:∃c n,aD ((nb L).drop j)=(c,n):=⟨_,_,rfl⟩;rw[h1] at hO;have At:=(jS ((nb L).drop j) ((iB L).drop j)).1;rw[h1] at At;simp only[List.length_drop,ky] at At;have HR:=Hh hR;have HG:=Hh hg;have H1:=Hh h1;clear hR hg h1 Ab
   by_cases hn:n=0
   ·subst hn
    have hw:wM L=some (j,7):=by
     have h2:=HR.out.bad (by rw[ky];exact h) (by rw[H1.out]);rw[wL (by rw[h2];exact HG.out),h2]
    have HW:=Hh hw;clear hw;go_wp2_with fail;refine (hO _).mono ?_;rintro _ w2 ⟨rfl,hb2⟩;have Aa:=hc.below hb2 Ak;have Ao:=Aa.lt;have HB:=Hh (hb.trans (hb2.mono hb.size));clear hb hb2 hc;obtain⟨Ad,Ag,Ae,Ah,Af,Ai⟩:=Aa.n3 rfl;go_wp2;have hq:=((Aa.setI 0 (.slice none 0 0)).setI 1 (.int .i64 ((k:Int)+j))).setI 2 (.int .i64 7);obtain⟨hx,hy,hz⟩:=hq.m3 rfl;refine bodyPost_ret (v:=.agg #[.slice none 0 0,.int .i64 ((k:Int)+j),.int .i64 7]) (by simp[results,Tryz.results86,go_sem,hx,hy,hz]) rfl ?_;rw[kw HW.out];exact⟨_,by simp[xS],aI.nil,aL _ _ lz [.slice none 0 0,.int .i64 ((k:Int)+j),.int .i64 7] 0 _ _ HB.out⟩
   ·have As:=HR.out.good (by rw[ky];exact h) H1.out hn
    have A2:((n:Int)==0)=false:=by rw[beq_eq_false_iff_ne];omega
    have Al:=Hh As;clear As
    by_cases hx:c<32/\c≠9
    ·have d1:decide ((c:Int)<32)=true:=by rw[decide_eq_true_eq];omega
     have d2:((c:Int) != 9)=true:=by rw[bne_iff_ne];omega
     have Ac:nu (j,c)=true:=by simp[nu,hx.1,hx.2]
     have hw:wM L=some (j,3):=BJ (x:=(j,c)) ⟨(scan ((nb L).drop (j+n)) (j+n)).1,by have:=Al.out;unfold mH at this;rw[this]⟩ HG.out Ac;clear hx Ac;have HW:=Hh hw;clear hw;go_wp2_with fail;refine (hO _).mono ?_;rintro _ w2 ⟨rfl,hb2⟩;have Aa:=hc.below hb2 Ak;have Ao:=Aa.lt;have HB:=Hh (hb.trans (hb2.mono hb.size));clear hb hb2 hc;obtain⟨Ad,Ag,Ae,Ah,Af,Ai⟩:=Aa.n3 rfl;go_wp2;have hq:=((Aa.setI 0 (.slice none 0 0)).setI 1 (.int .i64 ((k:Int)+j))).setI 2 (.int .i64 3);obtain⟨hx,hy,hz⟩:=hq.m3 rfl;refine bodyPost_ret (v:=.agg #[.slice none 0 0,.int .i64 ((k:Int)+j),.int .i64 3]) (by simp[results,Tryz.results86,go_sem,hx,hy,hz]) rfl ?_;rw[kw HW.out];exact⟨_,by simp[xS],aI.nil,aL _ _ lz [.slice none 0 0,.int .i64 ((k:Int)+j),.int .i64 3] 0 _ _ HB.out⟩
    ·have Ac:nu (j,c)=false:=by
      simp only[nu,Bool.and_eq_false_iff,decide_eq_false_iff_not,bne_eq_false_iff_eq];omega
     have Ap:=Hh (uW HG.out Ac);have hr:32<=c\/c=9:=by omega
     have A3:1<=n:=by omega
     clear hx Ac hn;rcases hr with hr|hr
     ·have d1:decide ((c:Int)<32)=false:=by rw[decide_eq_false_iff_not];omega
      go_wp2_with fail;refine (hO _).mono ?_;rintro _ w2 ⟨rfl,hb2⟩;have Aa:=hc.below hb2 Ak;have Am:=hb.trans (hb2.mono hb.size);go_wp2;go_roundw
      case rel=>exact⟨j+n,_,by go_num,by omega,Al.out,Ap.out,Am,Aa⟩
      case measure=>simp[intOf];omega
     ·have d1:decide ((c:Int)<32)=true:=by rw[decide_eq_true_eq];omega
      have d2:((c:Int) != 9)=false:=by rw[bne_eq_false_iff_eq];omega
      go_wp2_with fail;refine (hO _).mono ?_;rintro _ w2 ⟨rfl,hb2⟩;have Aa:=hc.below hb2 Ak;have Am:=hb.trans (hb2.mono hb.size);go_wp2;go_roundw
      case rel=>exact⟨j+n,_,by go_num,by omega,Al.out,Ap.out,Am,Aa⟩
      case measure=>simp[intOf];omega
  ·obtain rfl:j=L.length:=by omega
   have hw:wM L=none:=by
    have h2:=hR.done (by rw[ky]);rw[wL (by rw[h2];exact hg),h2]
   have An:k+L.length=stop:=by omega
   have HW:=Hh hw;have A0:=Hh Ar;clear hw hR hg Ab h Ar;rw[An];have Aa:=hc;have HB:=Hh hb;clear hb;obtain⟨Au,Ax,Av,Ay,Aw,Az⟩:=hc.n3 rfl;go_wp2;have hq:=(((Aa.setI 0 (.slice (some ⟨wr.heap.size,0,none⟩) 1 1)).setI 1 (.int .i64 0)).setI 2 (.int .i64 0)).alloc (.cells #[.int .i64 (kd:Nat),.string (s.extract k stop),.int .i64 (k:Nat)] 63);obtain⟨hx,hy,hz⟩:=hq.m3 rfl;refine bodyPost_ret (v:=.agg #[.slice (some ⟨wr.heap.size,0,none⟩) 1 1,.int .i64 0,.int .i64 0]) (by simp[results,Tryz.results86,go_sem,hx,hy,hz]) rfl ?_;rw[lN HW.out];have Aj:=aI.one w.heap.size (ai wr w.heap.size 0 [.slice (some ⟨wr.heap.size,0,none⟩) 1 1,.int .i64 0,.int .i64 0]) ⟨(kd:Nat),s.extract k (k+L.length),(k:Nat)⟩ (by rw[aB];exact HB.out.size);rw[aB,An] at Aj;exact⟨_,rfl,by simp only[xS];rw[An];exact Aj,(aL _ _ lz [.slice (some ⟨wr.heap.size,0,none⟩) 1 1,.int .i64 0,.int .i64 0] 0 _ _ HB.out).alloc (by rw[aB];exact HB.out.size) _⟩
end Go.Proofs.YtbcdaaobbebooaaGreatDoor
namespace Go.Proofs.YtbcdaaobbebooaaGreatDoor
def yT(x:Bs×Int×Bool)(c:UInt8):Bs×Int×Bool:=
 if c=46 then (x.1,x.2.1,true) else (if x.1≠[]\/c≠48 then x.1++[c] else x.1,if x.2.2 then x.2.1-1 else x.2.1,x.2.2)
theorem Ef(a:Bs)(c:UInt8):Lib.trimLeftB (a++[c]) 48=if Lib.trimLeftB a 48≠[]\/c≠48 then Lib.trimLeftB a 48++[c] else Lib.trimLeftB a 48:=by
 unfold Lib.trimLeftB
 induction a with
 |nil=>
  by_cases h:c=48
  ·subst h;rfl
  ·simp[h,List.dropWhile]
 |cons x a ih=>
  by_cases h:x=48
  ·subst h
   simpa [List.dropWhile_cons] using ih
  ·simp[List.dropWhile_cons,h]
theorem rD(p:Bool):∀(b a:Bs) (e:Int),b.all dg=true->b.foldl yT (Lib.trimLeftB a 48,e,p)=(Lib.trimLeftB (a++b) 48,if p then e-b.length else e,p)
 |[],a,e,_=>by simp
 | c::b,a,e,h=>by
  rw[List.all_cons,Bool.and_eq_true] at h;have hc:c≠46:=qY h.1 (by decide)
  have h1:yT (Lib.trimLeftB a 48,e,p) c=(Lib.trimLeftB (a++[c]) 48,if p then e-1 else e,p):=by
   rw[yT,if_neg hc,Ef]
  rw[List.foldl_cons,h1,rD p b (a++[c]) _ h.2,List.append_assoc,List.singleton_append,List.length_cons];cases p
  ·rfl
  ·simp only[if_true]
   congr 2
   omega
section
variable {l:Bs} {neg:Bool} {ip fr mk sg pw:Bs}
theorem bq.gather(h:bq l neg ip fr mk sg pw):∃p,(aF ip fr).foldl yT ([],0,false)=(iV ip fr,-(fr.length:Int),p):=by
 have e0:(([]:Bs),(0:Int),false)=(Lib.trimLeftB [] 48,(0:Int),false):=rfl;rw[aF,List.foldl_append,e0,rD false ip [] 0 h.dip,List.nil_append]
 by_cases hf:fr=[]
 ·subst hf
  exact⟨false,by simp[iV]⟩
 ·rw[if_neg hf,List.foldl_cons]
  have h1:yT (Lib.trimLeftB ip 48,if false then (0:Int)-ip.length else 0,false) 46=(Lib.trimLeftB ip 48,0,true):=rfl;rw[h1,rD true fr ip 0 h.dfr];exact⟨true,by simp[iV]⟩
end
def FQ(x:Nat×Bool)(c:UInt8):Nat×Bool:=(if dg c then qL x.1 c else x.1,x.2 || decide (c=45))
theorem om:∀(b:Bs) (n:Nat) (p:Bool),b.all dg=true->b.foldl FQ (n,p)=(b.foldl qL n,p)
 |[],_,_,_=>rfl
 | c::b,n,p,h=>by
  rw[List.all_cons,Bool.and_eq_true] at h;have hc:decide (c=45)=false:=decide_eq_false (qY h.1 (by decide));rw[List.foldl_cons,List.foldl_cons,FQ,if_pos h.1,hc,Bool.or_false,om b _ p h.2]
theorem AP(sg pw:Bs)(hs:sg=[]\/sg=[43]\/sg=[45])(hp:pw.all dg=true):(sg++pw).foldl FQ (0,false)=(pw.foldl qL 0,decide (sg=[45])):=by
 rcases hs with rfl|rfl|rfl
 ·exact om pw 0 false hp
 ·rw[List.foldl_append];exact om pw 0 false hp
 ·rw[List.foldl_append];exact om pw 0 true hp
theorem wP(a:Bs)(c:UInt8):Lib.trimRightB (a++[c]) 48=if c=48 then Lib.trimRightB a 48 else a++[c]:=by
 unfold Lib.trimRightB;rw[List.reverse_append,List.reverse_cons,List.reverse_nil,List.nil_append,List.singleton_append,List.dropWhile_cons]
 by_cases h:c=48
 ·subst h;simp
 ·simp[h]
end Go.Proofs.YtbcdaaobbebooaaGreatDoor
namespace Go.Proofs.YtbcdaaobbebooaaGreatDoor
open Go.RowKit Go.Tab
theorem Cm(s:ByteArray)(k:Nat)(w:World)(h:k<s.size)(hd:48<=(s[k]'h).toNat/\(s[k]'h).toNat<=57) :
  Calls Tryz.prog 116 #[.string s,.int .i64 k] w fun r w'=>r=.returned (.bool true)/\w=w':=by
 go_enter Tryz.func116,Tryz.ntmps116;go_wp2;go_ret;refine⟨?_,rfl⟩;show Ending.returned (.bool (decide _))=_;rw[decide_eq_true (by omega)]
theorem F4(s:ByteArray)(k:Nat)(w:World)(h:k<s.size)(hd:¬(48<=(s[k]'h).toNat/\(s[k]'h).toNat<=57)) :
  Calls Tryz.prog 116 #[.string s,.int .i64 k] w fun r w'=>r=.returned (.bool false)/\w=w':=by
 have Aa:(s[k]'h).toNat<48\/(48<=(s[k]'h).toNat/\57<(s[k]'h).toNat):=by omega
 clear hd;rcases Aa with hdg|hdg
 all_goals
  go_enter Tryz.func116,Tryz.ntmps116;go_wp2;go_ret;refine⟨?_,rfl⟩;first|rfl|(show Ending.returned (.bool (decide _))=_;rw[decide_eq_false (by omega)])
theorem yY(neg:Bool)(d:ByteArray)(e:Int)(w:World)(hd:d.size<=1048576) :
  Calls Tryz.prog 118 #[.agg #[.bool neg,.string d,.int .i64 e]] w fun r w'=>r=.returned (.bool (oQ neg d e))/\Below w.heap.size w w':=by
 have Al:=aa.new w #[.bool neg,.string d,.int .i64 e] 122;have Ab:Below w.heap.size w (w.alloc (.cells #[.bool neg,.string d,.int .i64 e] 122)):=(Below.refl _ w).alloc lz _
 by_cases h0:d.size=0
 ·have hR:=Hh (xP (neg:=neg) (e:=e) h0)
  cases neg
  all_goals
   go_enter Tryz.func118,Tryz.ntmps118;go_wp2;go_ret;refine⟨?_,Ab⟩;rw[hR.out];first|rfl|(congr 2;by_cases he:e=0<;>simp[he])
 ·by_cases h1:1000<d.size\/e < -10000\/10000<e
  ·have hR:=Hh (rR (neg:=neg) h0 h1)
   have Ak:1000<d.size\/(d.size<=1000/\e < -10000)\/(d.size<=1000/\-10000<=e/\10000<e):=by omega
   clear h1;have q0:((d.size:Int)==0)=false:=by rw[beq_eq_false_iff_ne];omega
   have q1:decide ((1000:Int)<(d.size:Int))=decide (1000<d.size):=by congr 1;apply propext;omega
   have q2:decide (e < -10000)=decide (e < -10000):=rfl;rcases Ak with h1|⟨h1,h2⟩|⟨h1,h2,h3⟩
   all_goals
    go_enter Tryz.func118,Tryz.ntmps118;go_wp2;go_ret;refine⟨?_,Ab⟩;rw[hR.out];try rfl
  ·have H1:=Hh h1
   have h2:d.size<=1000/\-10000<=e/\e<=10000:=by omega
   clear h1;have hp:0<d.size:=by omega
   go_enter Tryz.func118,Tryz.ntmps118;go_wp2_with fail;go_loop [3] (fun i=>∃k:Nat,k<=d.size/\i=.int .i64 (k:Int)/\∀j (hj:j<d.size),j<k->48<=(d[j]'hj).toNat/\(d[j]'hj).toNat<=57) (fun i=>d.size-(intOf i).toNat)
   case atStart=>exact⟨0,Nat.zero_le _,rfl,fun j _ h=>by omega⟩
   case round=>
    obtain⟨k,hk,rfl,Aa⟩:=hrel;have HA:=Hh Aa;clear Aa;obtain⟨Ac,Af,Ad,Ag,Ae,Ah⟩:=Al.n3 rfl
    by_cases hkl:k<d.size
    ·by_cases hdg:48<=(d[k]'hkl).toNat/\(d[k]'hkl).toNat<=57
     ·have Aj:Hid (∀j (hj:j<d.size),j<k+1->48<=(d[j]'hj).toNat/\(d[j]'hj).toNat<=57):=Hh (fun j hj h=>by
       by_cases hjk:j=k
       ·subst hjk;exact hdg
       ·exact HA.out j hj (by omega))
      clear HA;have hF:=fun W=>Cm d k W hkl hdg;go_wp2_with fail;refine (hF _).mono ?_;rintro r w1 ⟨rfl,rfl⟩;go_wp2;go_round
      case rel=>exact⟨k+1,by omega,by go_num,Aj.out⟩
      case measure=>simp[intOf];omega
     ·have hR:=Hh (CS (neg:=neg) (e:=e) hkl hdg)
      have hF:=fun W=>F4 d k W hkl hdg;clear hdg;go_wp2_with fail;refine (hF _).mono ?_;rintro r w1 ⟨rfl,rfl⟩;go_wp2;go_ret;refine⟨?_,Ab⟩;rw[hR.out];try rfl
    ·obtain rfl:k=d.size:=by omega
     have hR:=Hh (CR (neg:=neg) hp H1.out (fun j hj=>HA.out j hj hj))
     by_cases hz:(d[0]'hp).toNat=48
     ·go_wp2
      go_ret;refine⟨?_,Ab⟩;rw[hR.out];simp[hz]
     ·go_wp2
      go_ret;refine⟨?_,Ab⟩;rw[hR.out];have Ai:¬(((d[0]'hp).toNat:Int)=48):=by omega
      by_cases hy:(d[d.size-1]'(by omega)).toNat=48
      ·simp[hz,Ai,hy,bne]
      ·have Am:¬(((d[d.size-1]'(by omega)).toNat:Int)=48):=by omega
       simp[hz,Ai,hy,Am,bne]
def kR(s:ByteArray)(k:Nat):Bool:=decide (bI (s.data.toList.drop k)≠0)
theorem jU{s:ByteArray}{k:Nat}(h:¬k<s.size):s.data.toList.drop k=[]:=by
 rw[List.drop_eq_nil_iff,<-au];omega
theorem qE{s:ByteArray}{k:Nat}(h:k<s.size):bI (s.data.toList.drop k)=if dg (s[k]'h) then bI (s.data.toList.drop (k+1))+1 else 0:=by
 rw[eT h,bI]
theorem Lg{c:UInt8}:dg c=true↔48<=c.toNat/\c.toNat<=57:=by simp[dg,I9]
theorem pE(s:ByteArray)(k:Nat)(w:World)(hk:k<=4611686018427387904) :
  Calls Tryz.prog 116 #[.string s,.int .i64 k] w fun r w'=>r=.returned (.bool (kR s k))/\w=w':=by
 by_cases h:k<s.size
 ·by_cases hd:48<=(s[k]'h).toNat/\(s[k]'h).toNat<=57
  ·have:kR s k=true:=by
    rw[kR,qE h,if_pos (Lg.2 hd)];simp
   rw[this];exact Cm s k w h hd
  ·have:kR s k=false:=by
    rw[kR,qE h,if_neg (fun e=>hd (Lg.1 e))];rfl
   rw[this];exact F4 s k w h hd
 ·have hR:=Hh (show kR s k=false by rw[kR,jU h];rfl)
  go_enter Tryz.func116,Tryz.ntmps116;go_wp2;go_ret;exact⟨by rw[hR.out];rfl,rfl⟩
theorem xq(s:ByteArray)(i:Nat)(w:World)(hs:s.size<=1048576)(hi:i<=s.size) :
  Calls Tryz.prog 117 #[.string s,.int .i64 i] w fun r w'=>r=.returned (.int .i64 (i+bI (s.data.toList.drop i):Nat))/\w=w':=by
 obtain⟨z,hz⟩:∃z,i+bI (s.data.toList.drop i)=z:=⟨_,rfl⟩;rw[hz];have HZ:=Hh hz;clear hz;go_enter Tryz.func117,Tryz.ntmps117;go_wp2_with fail;go_loop [1] (fun x=>∃k:Nat,k<=s.size/\x=.int .i64 k/\k+bI (s.data.toList.drop k)=z) (fun x=>s.size-(intOf x).toNat)
 case atStart=>exact⟨i,hi,rfl,HZ.out⟩
 case round=>
  obtain⟨k,hk,rfl,hr⟩:=hrel;have HR:=Hh hr;clear hr;have hF:=fun W=>pE s k W (by omega)
  cases hd:kR s k with
  |true=>
   have Aa:k<s.size:=by
    false_or_by_contra
    rename_i h;rw[kR,jU h] at hd;cases hd
   have hN:=Hh (show k+1+bI (s.data.toList.drop (k+1))=z by
    have:=HR.out;rw[qE Aa] at this;split at this
    ·omega
    ·next e=>rw[kR,qE Aa,if_neg e] at hd;cases hd)
   rw[hd] at hF;clear hd;go_wp2_with ((with_reducible refine (hF _).mono ?_);rintro _ _ ⟨rfl,rfl⟩)
   go_round
   case rel=>exact⟨k+1,by omega,by go_num,hN.out⟩
   case measure=>simp[intOf];omega
  |false=>
   have hN:=Hh (show k=z by
    have:=HR.out;have h0:bI (s.data.toList.drop k)=0:=by simpa [kR] using hd
    omega)
   rw[hd] at hF;clear hd;go_wp2_with ((with_reducible refine (hF _).mono ?_);rintro _ _ ⟨rfl,rfl⟩)
   go_ret;exact⟨by rw[<-hN.out];rfl,rfl⟩
theorem zY(l:Bs):eQ l=0↔bI l=0:=by
 cases l with
 |nil=>exact Iff.rfl
 |cons c l=>
  rw[eQ];split
  ·next h=>subst h;simp[bI,show dg 48=true from rfl]
  ·exact Iff.rfl
theorem uM(s:ByteArray)(w:World)(hs:s.size<=1048576) :
  Calls Tryz.prog 81 #[.string s] w fun e w'=>e=.returned (.int .i64 (df s.data.toList:Nat))/\w=w':=by
 obtain⟨i0,Aj⟩:∃i0,lY s.data.toList=i0:=⟨_,rfl⟩;have An:i0<=s.size:=by rw[<-Aj,au];exact KD _
 have Ai:=fun W=>pE s i0 W (by omega)
 have Ax:i0=0\/i0=1:=by
  rw[<-Aj]
  cases s.data.toList with
  |nil=>exact .inl rfl
  |cons c l=>rw[lY];split<;>simp
 obtain⟨i1,Ao⟩:∃i1,i0+eQ (s.data.toList.drop i0)=i1:=⟨_,rfl⟩
 have Ay:i1<=s.size:=by
  have:=Gn (s.data.toList.drop i0);rw[List.length_drop,<-au] at this;omega
 obtain⟨i2,Al⟩:∃i2,i1+bX (s.data.toList.drop i1)=i2:=⟨_,rfl⟩
 have Az:i2<=s.size:=by
  have:=Dm (s.data.toList.drop i1);rw[List.length_drop,<-au] at this;omega
 have Av:kR s i0=true->∃h:i0<s.size,dg (s[i0]'h)=true:=by
  intro hd
  by_cases h:i0<s.size
  ·refine⟨h,?_⟩
   rw[kR,qE h] at hd;split at hd
   ·assumption
   ·cases hd
  ·rw[kR,jU h] at hd;cases hd
 have Aa:kR s i0=true->df s.data.toList=i2+iZ (s.data.toList.drop i2):=by
  intro hd
  have hn:eQ (s.data.toList.drop i0)≠0:=by
   rw[Ne,zY]
   simpa [kR] using hd
  rw[df,Aj,if_neg hn,Ao,gz,List.drop_drop,Al,<-Al];omega
 obtain⟨bM,At⟩:∃b,decide (i0=1)=b:=⟨_,rfl⟩;have Ae:=Hh At;clear At;have Ag:=Hh Aj;have Ap:=Hh Ao;have Am:=Hh Al;have Aq:=Hh Av;have Ah:=Hh Aa;clear Aj Ao Al Av Aa;go_enter Tryz.func81,Tryz.ntmps81;go_upto_region 2 with fail
 go_cut [12] (fun x wc=>x=.bool bM/\w=wc)
 case first=>
  by_cases h0:0<s.size
  ·by_cases h1:s[0]'h0=45
   ·have d1:(((s[0]'h0).toNat:Int)==45)=true:=by rw[h1];rfl
    have h2:Hid (i0=1):=Hh (by rw[<-Ag.out,<-List.drop_zero (l:=s.data.toList),eT h0,h1];rfl);clear h1;go_wp2;go_meet
    case rel=>exact⟨by rw[<-Ae.out,decide_eq_true h2.out],rfl⟩
   ·have d1:(((s[0]'h0).toNat:Int)==45)=false:=fA h1 rfl
    have h2:Hid (i0=0):=Hh (by rw[<-Ag.out,<-List.drop_zero (l:=s.data.toList),eT h0,lY,if_neg h1]);clear h1;go_wp2;go_meet
    case rel=>exact⟨by rw[<-Ae.out,h2.out];rfl,rfl⟩
  ·have h2:Hid (i0=0):=Hh (by rw[<-Ag.out,<-List.drop_zero (l:=s.data.toList),jU h0,lY])
   go_wp2;go_meet
   case rel=>exact⟨by rw[<-Ae.out,h2.out];rfl,rfl⟩
 case rest=>
  obtain⟨rfl,rfl⟩:=hcut;go_upto_if 12 with fail
  go_cut [3] (fun x wc=>x=.int .i64 i0/\w=wc)
  case first=>
   cases bM with
   |false=>
    have H:=Hh (show i0=0 by have:=of_decide_eq_false Ae.out;omega);go_wp2;go_meet
    case rel=>exact⟨by rw[H.out];rfl,rfl⟩
   |true=>
    have H:=Hh (of_decide_eq_true Ae.out);go_wp2;go_meet
    case rel=>exact⟨by rw[H.out];rfl,rfl⟩
  case rest=>
   obtain⟨rfl,rfl⟩:=hcut
   cases hd:kR s i0 with
   |false=>
    have hz:=Hh (show df s.data.toList=0 by
     rw[df,Ag.out,if_pos];rw[zY]
     simpa [kR] using hd)
    rw[hd] at Ai;clear hd;go_wp2_with ((with_reducible refine (Ai _).mono ?_);rintro _ _ ⟨rfl,rfl⟩)
    go_ret;exact⟨by rw[hz.out];rfl,rfl⟩
   |true=>
    have HF:=Hh (Ah.out hd);obtain⟨Ak,Aw⟩:=Aq.out hd
    have Ac:Hid (i1=if s[i0]'Ak=48 then i0+1 else i0+bI (s.data.toList.drop i0)):=Hh (by
     rw[<-Ap.out,eT Ak,eQ]
     split<;>rfl)
    rw[hd] at Ai;clear hd Aw Aq Ah;go_upto_if 20 with ((with_reducible refine (Ai _).mono ?_);rintro _ _ ⟨rfl,rfl⟩)
    go_cut [3] (fun x wc=>x=.int .i64 i1/\w=wc)
    case first=>
     by_cases h48:s[i0]'Ak=48
     ·have d1:(((s[i0]'Ak).toNat:Int)==48)=true:=by rw[h48];rfl
      have h2:Hid (i1=i0+1):=Hh (by rw[Ac.out,if_pos h48]);clear h48;go_wp2;go_meet
      case rel=>exact⟨by rw[h2.out];rfl,rfl⟩
     ·have d1:(((s[i0]'Ak).toNat:Int)==48)=false:=fA h48 rfl
      have h2:Hid (i1=i0+bI (s.data.toList.drop i0)):=Hh (by rw[Ac.out,if_neg h48]);have hR:=fun W=>xq s i0 W hs An;rw[<-h2.out] at hR;clear h48;go_wp2_with ((with_reducible refine (hR _).mono ?_);rintro _ _ ⟨rfl,rfl⟩)
      go_meet
      case rel=>exact⟨rfl,rfl⟩
    case rest=>
     obtain⟨rfl,rfl⟩:=hcut;clear Ai Ac;obtain⟨bF,As⟩:∃b,decide (bX (s.data.toList.drop i1)≠0)=b:=⟨_,rfl⟩;have Ad:=Hh As;clear As;go_upto_region 9 with fail
     go_cut [41] (fun x wc=>x=.bool bF/\w=wc)
     case first=>
      by_cases h0:i1<s.size
      ·by_cases h1:s[i1]'h0=46
       ·have d1:(((s[i1]'h0).toNat:Int)==46)=true:=by rw[h1];rfl
        have hD:∀W,Calls Tryz.prog 116 #[.string s,.int .i64 ((i1:Int)+1)] W fun r w'=>r=.returned (.bool (kR s (i1+1)))/\W=w':=fun W=>pE s (i1+1) W (by omega)
        have h2:kR s (i1+1)=bF:=by
         rw[<-Ad.out,eT h0,bX,h1,kR]
         by_cases hz:bI (s.data.toList.drop (i1+1))=0
         ·rw[if_neg (by simp[hz])];simp[hz]
         ·rw[if_pos ⟨rfl,hz⟩];simp[hz]
        rw[h2] at hD;clear h1 h2;go_wp2_with ((with_reducible refine (hD _).mono ?_);rintro _ _ ⟨rfl,rfl⟩)
        go_meet
        case rel=>exact⟨rfl,rfl⟩
       ·have d1:(((s[i1]'h0).toNat:Int)==46)=false:=fA h1 rfl
        have h2:Hid (bF=false):=Hh (by rw[<-Ad.out,eT h0,bX,if_neg (fun e=>h1 e.1)];rfl);clear h1;go_wp2;go_meet
        case rel=>exact⟨by rw[h2.out],rfl⟩
      ·have h2:Hid (bF=false):=Hh (by rw[<-Ad.out,jU h0];rfl)
       go_wp2;go_meet
       case rel=>exact⟨by rw[h2.out],rfl⟩
     case rest=>
      obtain⟨rfl,rfl⟩:=hcut;go_upto_if 41 with fail
      go_cut [3] (fun x wc=>x=.int .i64 i2/\w=wc)
      case first=>
       cases bF with
       |false=>
        have H:=Hh (show i2=i1 by have h1:=of_decide_eq_false Ad.out;have:=Am.out;omega);go_wp2;go_meet
        case rel=>exact⟨by rw[H.out],rfl⟩
       |true=>
        have h1:=of_decide_eq_true Ad.out
        have h0:i1<s.size:=by
         false_or_by_contra
         rename_i h;rw[jU h] at h1;exact h1 rfl
        have hR:∀W,Calls Tryz.prog 117 #[.string s,.int .i64 ((i1:Int)+1)] W fun r w'=>r=.returned (.int .i64 (i1+1+bI (s.data.toList.drop (i1+1)):Nat))/\W=w':=fun W=>xq s (i1+1) W hs (by omega)
        have h2:i1+1+bI (s.data.toList.drop (i1+1))=i2:=by
         rw[<-Am.out];rw[eT h0,bX] at h1 ⊢;split at h1
         ·next h3=>rw[if_pos h3];omega
         ·exact absurd rfl h1
        rw[h2] at hR;clear h1 h2;go_wp2_with ((with_reducible refine (hR _).mono ?_);rintro _ _ ⟨rfl,rfl⟩)
        go_meet
        case rel=>exact⟨rfl,rfl⟩
      case rest=>
       obtain⟨rfl,rfl⟩:=hcut;clear Ad Ae Ag Ap Am;obtain⟨bE,Ar⟩:∃b:Bool,(∃h:i2<s.size,s[i2]'h=101\/s[i2]'h=69)↔b=true:=⟨decide (∃h:i2<s.size,s[i2]'h=101\/s[i2]'h=69),by simp⟩;have Ab:=Hh Ar;clear Ar;go_upto_region 11 with fail
       go_cut [61] (fun x wc=>x=.bool bE/\w=wc)
       case first=>
        by_cases h0:i2<s.size
        ·by_cases h1:s[i2]'h0=101
         ·have d1:(((s[i2]'h0).toNat:Int)==101)=true:=by rw[h1];rfl
          have h2:Hid (bE=true):=Hh (Ab.out.1 ⟨h0,.inl h1⟩);clear h1;go_wp2;go_meet
          case rel=>exact⟨by rw[h2.out],rfl⟩
         ·have d1:(((s[i2]'h0).toNat:Int)==101)=false:=fA h1 rfl
          by_cases h3:s[i2]'h0=69
          ·have d2:(((s[i2]'h0).toNat:Int)==69)=true:=by rw[h3];rfl
           have h2:Hid (bE=true):=Hh (Ab.out.1 ⟨h0,.inr h3⟩);clear h1 h3;go_wp2;go_meet
           case rel=>exact⟨by rw[h2.out],rfl⟩
          ·have d2:(((s[i2]'h0).toNat:Int)==69)=false:=fA h3 rfl
           have h2:Hid (bE=false):=Hh (by
            rw[Bool.eq_false_iff];intro e;obtain⟨_,h|h⟩:=Ab.out.2 e
            ·exact h1 h
            ·exact h3 h)
           clear h1 h3;go_wp2;go_meet
           case rel=>exact⟨by rw[h2.out],rfl⟩
        ·have h2:Hid (bE=false):=Hh (by
          rw[Bool.eq_false_iff];intro e;obtain⟨h,_⟩:=Ab.out.2 e
          exact h0 h)
         go_wp2;go_meet
         case rel=>exact⟨by rw[h2.out],rfl⟩
       case rest=>
        obtain⟨rfl,rfl⟩:=hcut
        cases bE with
        |false=>
         have hz:=Hh (show df s.data.toList=i2 by
          rw[HF.out]
          by_cases h0:i2<s.size
          ·have hn:¬(s[i2]'h0=101\/s[i2]'h0=69):=fun e=>by have:=Ab.out.1 ⟨h0,e⟩;cases this
           rw[eT h0,iZ,if_neg (fun e=>hn e.1)];rfl
          ·rw[jU h0];rfl)
         go_wp2;go_ret;exact⟨by rw[hz.out];rfl,rfl⟩
        |true=>
         obtain⟨h0,hm⟩:=Ab.out.2 rfl;obtain⟨k,hk⟩:∃k,i2+1+nL (s.data.toList.drop (i2+1))=k:=⟨_,rfl⟩
         have A0:nL (s.data.toList.drop (i2+1))<=1:=by
          cases s.data.toList.drop (i2+1) with
          |nil=>exact Nat.zero_le _
          |cons c t=>rw[nL];split<;>omega
         have A4:i2<=k/\k<=i2+2:=by omega
         have Aa:=Hh (show df s.data.toList=if bI (s.data.toList.drop k)=0 then i2 else k+bI (s.data.toList.drop k) by
          rw[HF.out,eT h0,iZ];simp only[hm,true_and];rw[List.drop_drop,hk];split
          ·next h=>(try rw[if_neg h]);omega
          ·next h=>first|rfl|(rw[if_pos (by simpa using h)];rfl))
         have A1:k<=s.size:=by
          by_cases h1:i2+1<s.size
          ·omega
          ·rw[jU h1] at hk
           simp only[nL] at hk;omega
         have HK:=Hh hk;clear hm hk A0 Ab HF;obtain⟨bS,Au⟩:∃b,decide (k=i2+2)=b:=⟨_,rfl⟩;have Af:=Hh Au;clear Au;go_upto_region 13 with fail
         go_cut [79] (fun x wc=>x=.bool bS/\w=wc)
         case first=>
          by_cases h1:i2+1<s.size
          ·have A2:(i2:Int)+1<(s.size:Int):=by omega
           have A3:0<=(i2:Int)+1/\(i2:Int)+1<(s.size:Int):=by omega
           by_cases h3:s[i2+1]'h1=43
           ·have d1:(((s[i2+1]'h1).toNat:Int)==43)=true:=by rw[h3];rfl
            have h2:Hid (bS=true):=Hh (by rw[<-Af.out,<-HK.out,eT h1,nL,if_pos (.inl h3)];simp);clear h3;go_wp2;go_meet
            case rel=>exact⟨by rw[h2.out],rfl⟩
           ·have d1:(((s[i2+1]'h1).toNat:Int)==43)=false:=fA h3 rfl
            by_cases h4:s[i2+1]'h1=45
            ·have d2:(((s[i2+1]'h1).toNat:Int)==45)=true:=by rw[h4];rfl
             have h2:Hid (bS=true):=Hh (by rw[<-Af.out,<-HK.out,eT h1,nL,if_pos (.inr h4)];simp);clear h3 h4;go_wp2;go_meet
             case rel=>exact⟨by rw[h2.out],rfl⟩
            ·have d2:(((s[i2+1]'h1).toNat:Int)==45)=false:=fA h4 rfl
             have h2:Hid (bS=false):=Hh (by rw[<-Af.out,<-HK.out,eT h1,nL,if_neg (by simp[h3,h4])];simp);clear h3 h4;go_wp2;go_meet
             case rel=>exact⟨by rw[h2.out],rfl⟩
          ·have h2:Hid (bS=false):=Hh (by rw[<-Af.out,<-HK.out,jU h1];simp[nL])
           go_wp2;go_meet
           case rel=>exact⟨by rw[h2.out],rfl⟩
         case rest=>
          obtain⟨rfl,rfl⟩:=hcut;go_upto_if 79 with fail
          go_cut [4] (fun x wc=>x=.int .i64 k/\w=wc)
          case first=>
           cases bS with
           |false=>
            have H:=Hh (show (i2:Int)+1=(k:Int) by
             have h1:=of_decide_eq_false Af.out;have:=HK.out
             omega)
            go_wp2;go_meet
            case rel=>exact⟨by first|rw[H.out]|(congr 1;exact H.out),rfl⟩
           |true=>
            have H:=Hh (show (i2:Int)+1+1=(k:Int) by
             have h1:=of_decide_eq_true Af.out
             omega)
            go_wp2;go_meet
            case rel=>exact⟨by first|rw[H.out]|(congr 1;have:=H.out;omega),rfl⟩
          case rest=>
           obtain⟨rfl,rfl⟩:=hcut;have hD:=fun W=>pE s k W (by omega);have hR:=fun W=>xq s k W hs A1
           cases hd:kR s k with
           |false=>
            have hz:Hid (df s.data.toList=i2):=Hh (by rw[Aa.out,if_pos (by simpa [kR] using hd)]);rw[hd] at hD;clear hd;go_wp2_with ((with_reducible refine (hD _).mono ?_);rintro _ _ ⟨rfl,rfl⟩)
            go_ret;exact⟨by rw[hz.out];rfl,rfl⟩
           |true=>
            have hz:Hid (df s.data.toList=k+bI (s.data.toList.drop k)):=Hh (by rw[Aa.out,if_neg (by simpa [kR] using hd)]);rw[hd] at hD;clear hd;go_wp2_with (first|((with_reducible refine (hD _).mono ?_);rintro _ _ ⟨rfl,rfl⟩)|((with_reducible refine (hR _).mono ?_);rintro _ _ ⟨rfl,rfl⟩))
            go_ret;exact⟨by rw[hz.out];rfl,rfl⟩
theorem EB(s:ByteArray)(w:World)(hs:s.size<=1048576)(h:s.data.toList=[]\/df s.data.toList≠s.size) :
  Calls Tryz.prog 82 #[.string s] w fun e w'=>e=.returned (dJ ((false,[],0),3))/\Below w.heap.size w w':=by
 by_cases h0:s.size=0
 ·have hd:s=⟨#[]⟩:=Fh h0
  subst hd;clear h h0 hs;go_enter Tryz.func82,Tryz.ntmps82;go_wp2;refine bodyPost_ret (v:=dJ ((false,[],0),3)) (by simp[results,Tryz.results82,go_sem,dJ,av]) rfl ⟨rfl,?_⟩
  (with_reducible repeat' first|refine Below.setCell ?_ ?_ _|refine Below.alloc ?_ ?_ _|refine Below.drew ?_|refine ah ?_ _|assumption|exact Below.refl _ _|(simp only[World.size_alloc,World.size_setCell,World.size_drew];first|done|omega)|omega)
 ·have Aa:=A7 h0
  have hz:((s.size:Int)==0)=false:=by rw[beq_eq_false_iff_ne];omega
  have hn:((df s.data.toList:Int) != (s.size:Int))=true:=by
   rcases h with h|h
   ·rw[au,h] at h0;exact absurd rfl h0
   ·rw[bne_iff_ne];omega
  have hS:=fun W=>uM s W hs;clear h h0;go_enter Tryz.func82,Tryz.ntmps82;go_wp2_with fail;refine (hS _).mono ?_;rintro _ _ ⟨rfl,rfl⟩;go_wp2;refine bodyPost_ret (v:=dJ ((false,[],0),3)) (by simp[results,Tryz.results82,go_sem,dJ,av]) rfl ⟨rfl,?_⟩
  (with_reducible repeat' first|refine Below.setCell ?_ ?_ _|refine Below.alloc ?_ ?_ _|refine Below.drew ?_|refine ah ?_ _|assumption|exact Below.refl _ _|(simp only[World.size_alloc,World.size_setCell,World.size_drew];first|done|omega)|omega)
theorem Dl{c m:UInt8}(h:dg c=true\/c=46)(hm:dg m=false/\m≠46):c≠m:=by
 rcases h with h|rfl
 ·exact qY h hm.1
 ·exact hm.2.symm
theorem JI{c:UInt8}{n:UInt8}(h:c≠n){m:Int}(hm:(n.toNat:Int)=m):((c.toNat:Int) != m)=true:=by
 rw[bne,fA h hm];rfl
theorem yz(d:Bs):d=[]\/∃d' c,d=d'++[c]:=by
 rcases List.eq_nil_or_concat d with h|⟨d',c,h⟩
 ·exact .inl h
 ·exact .inr ⟨d',c,by rw[h,List.concat_eq_append]⟩
theorem Cq(s:ByteArray)(neg:Bool)(ip fr mk sg pw:Bs)(w:World)(hs:s.size<=1048576)(h:bq s.data.toList neg ip fr mk sg pw) :
  Calls Tryz.prog 82 #[.string s] w fun e w'=>e=.returned (dJ (gI neg ip fr (vU sg pw)))/\Below w.heap.size w w':=by
 have BO:s.size≠0:=by rw[au];exact oC h.scan.2
 have hz:((s.size:Int)==0)=false:=by rw[beq_eq_false_iff_ne];omega
 have At:0<s.size:=by omega
 have hn:((df s.data.toList:Int) != (s.size:Int))=false:=by
  rw[h.scan.1,au];exact bne_self_eq_false _
 have hS:=fun W=>uM s W hs;obtain⟨Aa,Ae⟩:∃Aa,(if neg then 1 else 0)=Aa:=⟨_,rfl⟩;have Bz:Aa<=1:=by rw[<-Ae];split<;>omega
 obtain⟨F,hF⟩:∃F,aF ip fr=F:=⟨_,rfl⟩;obtain⟨R,hR⟩:∃R,sg++pw=R:=⟨_,rfl⟩;have AB:s.data.toList=(if neg then [45] else [])++(F++(mk++R)):=by rw[<-hF,<-hR];exact h.eq'
 have Bo:s.size=Aa+F.length+mk.length+R.length:=by
  rw[au,AB,<-Ae];simp only[List.length_append];split<;>simp<;>omega
 have AV:∀j (hj:Aa+j<s.size),s[Aa+j]'hj=(F++(mk++R))[j]'(by simp only[List.length_append];omega):=by
  intro j hj;rw[jd]
  have h1:s.data.toList[Aa+j]?=(F++(mk++R))[j]?:=by
   rw[AB,<-Ae];cases neg
   ·simp
   ·simp[Nat.add_comm 1]
  rw[List.getElem?_eq_getElem (by rw[<-au];exact hj),List.getElem?_eq_getElem (by simp only[List.length_append];omega)] at h1;exact Option.some.inj h1
 have Bl:(((s[0]'At).toNat:Int)==45)=neg:=by
  cases neg with
  |true=>
   have:s[0]'At=45:=by
    rw[jd];have h1:s.data.toList[0]?=some 45:=by rw[AB];rfl
    rw[List.getElem?_eq_getElem (by rw[<-au];exact At)] at h1;exact Option.some.inj h1
   rw[this];rfl
  |false=>
   have BD:=h.ip0;have B9:=h.dip
   have h1:∃c,dg c=true/\s.data.toList[0]?=some c:=by
    rw[AB,<-hF,aF]
    cases ip with
    |nil=>exact absurd rfl BD
    |cons c p=>exact⟨c,p9 B9 (c:=c) rfl,rfl⟩
   obtain⟨c,hc,h2⟩:=h1;rw[List.getElem?_eq_getElem (by rw[<-au];exact At)] at h2;rw[jd,Option.some.inj h2];exact fA (n:=45) (qY hc (by decide)) rfl
 have AC:∀i (hi:i<s.size) (h1:Aa<=i) (h2:i-Aa<F.length),s[i]'hi=F[i-Aa]:=by
  intro i hi h1 h2;have:=AV (i-Aa) (by omega);simp only[Nat.add_sub_cancel' h1] at this;rw[this,List.getElem_append_left h2]
 have AD:∀i (hi:i<s.size) (h1:Aa+F.length+mk.length<=i) (h2:i-(Aa+F.length+mk.length)<R.length),s[i]'hi=R[i-(Aa+F.length+mk.length)]:=by
  intro i hi h1 h2;have:=AV (i-Aa) (by omega);simp only[Nat.add_sub_cancel' (show Aa<=i by omega)] at this;rw[this,List.getElem_append_right (by omega),List.getElem_append_right (by omega)]
  congr 1
  omega
 have Bv:∀x∈F,dg x=true\/x=46:=fun x hx=>h.front_mem (by rw[hF];exact hx);obtain⟨pF,Bj⟩:=h.gather;rw[hF] at Bj
 have Bx:R.foldl FQ (0,false)=(pw.foldl qL 0,decide (sg=[45])):=by
  rw[<-hR];refine AP sg pw ?_ h.dpw;rcases h.exp with ⟨_,h2,_⟩|⟨_,h2,_⟩
  ·exact .inl h2
  ·exact h2
 have AA:(iV ip fr).length<=1048576:=by
  have h1:=wQ (ip++fr);have h2:=h.len.1;rw[<-au] at h2;rw[List.length_append] at h1;unfold iV;omega
 have BW:fr.length<=1048576:=by have h2:=h.len.1;rw[<-au] at h2;omega
 have HF:=Hh AC;have HR:=Hh AD;have B1:=Hh Bv;have B3:=Hh Bj;have B4:=Hh Bx;have A7:=Hh Bo
 have BJ:(mk=[]/\R=[])\/mk=[101]\/mk=[69]:=by
  rcases h.exp with ⟨h1,h2,h3⟩|⟨h1,_,_⟩
  ·exact .inl ⟨h1,by rw[<-hR,h2,h3];rfl⟩
  ·exact .inr h1
 have Ad:∀m,mk=[m]->∃hi:Aa+F.length<s.size,s[Aa+F.length]'hi=m:=by
  intro m hm;have hi:Aa+F.length<s.size:=by rw[Bo,hm];simp;omega
  refine⟨hi,?_⟩;rw[AV F.length hi,List.getElem_append_right lz];subst hm;simp
 obtain⟨q,hq⟩:∃q,Aa+F.length=q:=⟨_,rfl⟩;rw[hq] at Ad;have Hq:=Hh hq;have BY:q<=s.size:=by omega
 have BM:Aa<=q:=by omega
 clear AB AV AC AD Bv Bj Bx hF hR BO Bo hq;rcases BJ with ⟨rfl,hRn⟩|rfl|rfl
 all_goals
  first
   | (
    clear Ad;have Ao:=Hh (show s.size=q by have:=A7.out;have:=Hq.out;rw[hRn] at *;simp at *;omega);have Bm:¬q<s.size:=by have:=Ao.out;omega
    have A0:Hid (∀k (hk:k<s.size) (h1:q+1<=k) (h2:k-(q+1)<R.length),s[k]'hk=R[k-(q+1)]):=Hh (fun k hk h1 h2=>by have:=Ao.out;omega);have Bd:Hid (∀k,k<s.size->q+1<=k->k-(q+1)<R.length):=Hh (fun k hk h1=>by have:=Ao.out;omega);have Bc:Hid (∀k,¬k<s.size->q+1<=k->k<=q+1+R.length->k-(q+1)=R.length):=Hh (fun k _ _ h=>by rw[hRn] at h ⊢;simp at h ⊢;omega);have Az:R.length<=1048576:=by rw[hRn];simp
    clear HR A7 hRn
    have Bn:=True.intro)
   | (
    obtain⟨AZ,A9⟩:=Ad _ rfl;clear Ad;have Ao:=Hh (show s.size=q+1+R.length by have:=A7.out;have:=Hq.out;simp at *;omega)
    have A0:Hid (∀k (hk:k<s.size) (h1:q+1<=k) (h2:k-(q+1)<R.length),s[k]'hk=R[k-(q+1)]):=Hh (fun k hk h1 h2=>by
     have e:=Hq.out;subst e
     exact HR.out k hk h1 h2)
    have Bd:Hid (∀k,k<s.size->q+1<=k->k-(q+1)<R.length):=Hh (fun k hk h1=>by have:=Ao.out;omega);have Bc:Hid (∀k,¬k<s.size->q+1<=k->k<=q+1+R.length->k-(q+1)=R.length):=Hh (fun k h1 h2 h3=>by have:=Ao.out;omega);have Az:R.length<=1048576:=by have:=Ao.out;omega
    clear HR A7;have Bm:(((s[q]'AZ).toNat:Int) != 101)=false:=by rw[A9];rfl
    clear A9
    have Bn:=True.intro)
   | (
    obtain⟨AZ,A9⟩:=Ad _ rfl;clear Ad;have Ao:=Hh (show s.size=q+1+R.length by have:=A7.out;have:=Hq.out;simp at *;omega)
    have A0:Hid (∀k (hk:k<s.size) (h1:q+1<=k) (h2:k-(q+1)<R.length),s[k]'hk=R[k-(q+1)]):=Hh (fun k hk h1 h2=>by
     have e:=Hq.out;subst e
     exact HR.out k hk h1 h2)
    have Bd:Hid (∀k,k<s.size->q+1<=k->k-(q+1)<R.length):=Hh (fun k hk h1=>by have:=Ao.out;omega);have Bc:Hid (∀k,¬k<s.size->q+1<=k->k<=q+1+R.length->k-(q+1)=R.length):=Hh (fun k h1 h2 h3=>by have:=Ao.out;omega);have Az:R.length<=1048576:=by have:=Ao.out;omega
    clear HR A7;have Bm:(((s[q]'AZ).toNat:Int) != 101)=true:=by rw[A9];rfl
    have Bn:(((s[q]'AZ).toNat:Int) != 69)=false:=by rw[A9];rfl
    clear A9)
  go_enter Tryz.func82,Tryz.ntmps82;go_wp2_with fail;refine (hS _).mono ?_;rintro _ _ ⟨rfl,rfl⟩;go_upto_if 23 with fail
  clear hS hz hn;go_cut [5] (fun x wc=>x=.int .i64 Aa/\aa wc w.heap.size #[.bool false,.string ⟨#[]⟩,.int .i64 0] 122/\aa wc (w.heap.size+1) #[.bool neg,.string ⟨#[]⟩,.int .i64 0] 122/\Below w.heap.size w wc)
  case first=>
   have Bw:=fun b:Bool=>(show Below w.heap.size w ((w.alloc (.cells #[.bool false,.string ⟨#[]⟩,.int .i64 0] 122)).alloc (.cells #[.bool b,.string ⟨#[]⟩,.int .i64 0] 122)) from ((Below.refl _ w).alloc lz _).alloc (by simp) _);have AW:=fun b:Bool=>(aa.new w #[.bool false,.string ⟨#[]⟩,.int .i64 0] 122).alloc (.cells #[.bool b,.string ⟨#[]⟩,.int .i64 0] 122);have Bg:=fun b:Bool=>aa.new (w.alloc (.cells #[.bool false,.string ⟨#[]⟩,.int .i64 0] 122)) #[.bool b,.string ⟨#[]⟩,.int .i64 0] 122;rw[World.size_alloc] at Bg
   cases neg with
   |false=>
    have A1:=Hh (show 0=Aa from Ae);clear Ae;go_wp2;go_meet
    case rel=>exact⟨by rw[<-A1.out];rfl,AW _,Bg _,Bw _⟩
   |true=>
    have A1:=Hh (show 1=Aa from Ae);clear Ae;go_wp2;go_meet
    case rel=>exact⟨by rw[<-A1.out];rfl,AW _,Bg _,Bw _⟩
  case rest=>
   obtain⟨rfl,hx,hy,hb⟩:=hcut;clear Bl Ae;go_wp2_with fail;go_loopw [5,6] (fun x5 x6 wr=>∃(i:Nat) (d:Bs) (e:Int) (p:Bool),x5=.int .i64 i/\x6=.bool p/\Aa<=i/\i<=q/\(F.take (i-Aa)).foldl yT ([],0,false)=(d,e,p)/\-(i:Int)<=e/\e<=0/\d.length<=i/\aa wr w.heap.size #[.bool false,.string ⟨#[]⟩,.int .i64 0] 122/\aa wr (w.heap.size+1) #[.bool neg,.string (av d),.int .i64 e] 122/\Below w.heap.size w wr) (fun x5 _ _=>q-(intOf x5).toNat)
   case atStart=>exact⟨Aa,[],0,false,rfl,rfl,Nat.le_refl _,BM,by rw[Nat.sub_self];rfl,by omega,by omega,Nat.zero_le _,hx,hy,hb⟩
   case round=>
    clear hx hy hb;obtain⟨i,d,e,p,rfl,rfl,BB,BC,Ab,BA,AY,A8,hx,hy,hb⟩:=hrel;have BE:i<=s.size:=by omega
    by_cases hlt:i<q
    ·have As:i<s.size:=by omega
     have By:i-Aa<F.length:=by have:=Hq.out;omega
     obtain⟨c,AX⟩:∃c,F[i-Aa]=c:=⟨_,rfl⟩;have Ba:s[i]'As=c:=by rw[HF.out i As BB By,AX]
     have Bi:=B1.out c (by rw[<-AX];exact List.getElem_mem _);have n1:(((s[i]'As).toNat:Int) != 101)=true:=by rw[Ba];exact JI (n:=101) (Dl Bi (by decide)) rfl
     have n2:(((s[i]'As).toNat:Int) != 69)=true:=by rw[Ba];exact JI (n:=69) (Dl Bi (by decide)) rfl
     have hN:Hid ((F.take (i+1-Aa)).foldl yT ([],0,false)=yT (d,e,p) c):=Hh (by
      rw[show i+1-Aa=(i-Aa)+1 by omega,ma yT _ F By,Ab,AX])
     have Hc:=Hh Ba;obtain⟨D,hD⟩:∃D,av d=D:=⟨_,rfl⟩;have HD:=Hh hD;rw[hD] at hy;clear Ab AX Bi Ba hD;obtain⟨Ag,Ai,Af,Aj,Ah,Ak⟩:=hy.n3 rfl
     by_cases h46:c=46
     ·have d1:(((s[i]'As).toNat:Int)==46)=true:=by rw[Hc.out,h46];rfl
      have Ac:=Hh (show (F.take (i+1-Aa)).foldl yT ([],0,false)=(d,e,true) by rw[hN.out,yT,if_pos h46]);clear hN h46;go_wp2;go_roundw
      case rel=>exact⟨i+1,d,e,true,by go_num,rfl,by omega,by omega,Ac.out,by omega,by omega,by omega,hx,by rw[HD.out];exact hy,hb⟩
      case measure=>simp[intOf];omega
     ·have d1:(((s[i]'As).toNat:Int)==46)=false:=by rw[Hc.out];exact fA h46 rfl
      by_cases hap:d≠[]\/c≠48
      ·obtain⟨D2,Ay⟩:∃D2,D++s.extract i (i+1)=D2:=⟨_,rfl⟩
       have A6:Hid (av (d++[c])=D2):=Hh (ji (by
        rw[<-Ay,kT,fe,<-HD.out,bi,bi]
        have e1:(s.data.toList.take (i+1)).drop i=[c]:=by
         rw[List.take_add_one,List.getElem?_eq_getElem (by rw[<-au];exact As),List.drop_append_of_le_length (by rw[List.length_take,<-au];omega),List.drop_eq_nil_of_le (by rw[List.length_take];omega),List.nil_append,<-Hc.out];rfl
        rw[e1]))
       have Al:Hid ((F.take (i+1-Aa)).foldl yT ([],0,false)=(d++[c],if p then e-1 else e,p)):=Hh (by rw[hN.out,yT,if_neg h46,if_pos hap])
       have Am:(0<D.size)\/(¬0<D.size/\(((s[i]'As).toNat:Int) != 48)=true):=by
        by_cases hd:d=[]
        ·rcases hap with h|h
         ·exact absurd hd h
         ·exact .inr ⟨by rw[<-HD.out,aU,hd];simp,by rw[Hc.out];exact JI h rfl⟩
        ·exact .inl (by rw[<-HD.out,aU];exact List.length_pos_iff.2 hd)
       have BR:D.size<=1048576:=by rw[<-HD.out,aU];omega
       have BZ:(s.extract i (i+1)).size<=1:=by rw[ByteArray.size_extract];omega
       clear hN h46 hap;rcases Am with hz|⟨hz,d2⟩
       ·cases p with
        |true=>
         have Ac:Hid ((F.take (i+1-Aa)).foldl yT ([],0,false)=(d++[c],e-1,true)):=Hh Al.out;clear Al;go_wp2_with fail
         (go_region;go_wp2_with fail)
         go_roundw
         case rel=>exact⟨i+1,d++[c],e-1,true,by go_num,rfl,by omega,by omega,Ac.out,by omega,by omega,by first|omega|(simp;omega),(hx.setOther _ _ (by simp)).setOther _ _ (by simp),by rw[A6.out];exact (hy.set 2 (by simp) _).set 1 (by simp) _,by (with_reducible repeat' first|refine Below.setCell ?_ ?_ _|refine Below.alloc ?_ ?_ _|refine Below.drew ?_|refine ah ?_ _|assumption|exact Below.refl _ _|(simp only[World.size_alloc,World.size_setCell,World.size_drew];first|done|omega)|omega)⟩
         case measure=>simp[intOf];omega
        |false=>
         have Ac:Hid ((F.take (i+1-Aa)).foldl yT ([],0,false)=(d++[c],e,false)):=Hh Al.out;clear Al;go_wp2_with fail
         (go_region;go_wp2_with fail)
         go_roundw
         case rel=>exact⟨i+1,d++[c],e,false,by go_num,rfl,by omega,by omega,Ac.out,by omega,by omega,by first|omega|(simp;omega),hx.setOther _ _ (by simp),by rw[A6.out];exact hy.set 1 (by simp) _,by (with_reducible repeat' first|refine Below.setCell ?_ ?_ _|refine Below.alloc ?_ ?_ _|refine Below.drew ?_|refine ah ?_ _|assumption|exact Below.refl _ _|(simp only[World.size_alloc,World.size_setCell,World.size_drew];first|done|omega)|omega)⟩
         case measure=>simp[intOf];omega
       ·cases p with
        |true=>
         have Ac:Hid ((F.take (i+1-Aa)).foldl yT ([],0,false)=(d++[c],e-1,true)):=Hh Al.out;clear Al;go_wp2_with fail
         (go_region;go_wp2_with fail)
         go_roundw
         case rel=>exact⟨i+1,d++[c],e-1,true,by go_num,rfl,by omega,by omega,Ac.out,by omega,by omega,by first|omega|(simp;omega),(hx.setOther _ _ (by simp)).setOther _ _ (by simp),by rw[A6.out];exact (hy.set 2 (by simp) _).set 1 (by simp) _,by (with_reducible repeat' first|refine Below.setCell ?_ ?_ _|refine Below.alloc ?_ ?_ _|refine Below.drew ?_|refine ah ?_ _|assumption|exact Below.refl _ _|(simp only[World.size_alloc,World.size_setCell,World.size_drew];first|done|omega)|omega)⟩
         case measure=>simp[intOf];omega
        |false=>
         have Ac:Hid ((F.take (i+1-Aa)).foldl yT ([],0,false)=(d++[c],e,false)):=Hh Al.out;clear Al;go_wp2_with fail
         (go_region;go_wp2_with fail)
         go_roundw
         case rel=>exact⟨i+1,d++[c],e,false,by go_num,rfl,by omega,by omega,Ac.out,by omega,by omega,by first|omega|(simp;omega),hx.setOther _ _ (by simp),by rw[A6.out];exact hy.set 1 (by simp) _,by (with_reducible repeat' first|refine Below.setCell ?_ ?_ _|refine Below.alloc ?_ ?_ _|refine Below.drew ?_|refine ah ?_ _|assumption|exact Below.refl _ _|(simp only[World.size_alloc,World.size_setCell,World.size_drew];first|done|omega)|omega)⟩
         case measure=>simp[intOf];omega
      ·have Al:Hid ((F.take (i+1-Aa)).foldl yT ([],0,false)=(d,if p then e-1 else e,p)):=Hh (by rw[hN.out,yT,if_neg h46,if_neg hap])
       have Am:d=[]/\c=48:=by
        refine⟨?_,?_⟩
        ·by_cases hd:d=[]
         ·exact hd
         ·exact absurd (.inl hd) hap
        ·by_cases hd:c=48
         ·exact hd
         ·exact absurd (.inr hd) hap
       have hz:¬0<D.size:=by rw[<-HD.out,aU,Am.1];simp
       have d2:(((s[i]'As).toNat:Int) != 48)=false:=by rw[Hc.out,Am.2];rfl
       clear hN h46 hap Am
       cases p with
       |true=>
        have Ac:Hid ((F.take (i+1-Aa)).foldl yT ([],0,false)=(d,e-1,true)):=Hh Al.out;clear Al;go_wp2_with fail
        skip
        go_roundw
        case rel=>exact⟨i+1,d,e-1,true,by go_num,rfl,by omega,by omega,Ac.out,by omega,by omega,by first|omega|(simp;omega),hx.setOther _ _ (by simp),by rw[HD.out];exact hy.set 2 (by simp) _,by (with_reducible repeat' first|refine Below.setCell ?_ ?_ _|refine Below.alloc ?_ ?_ _|refine Below.drew ?_|refine ah ?_ _|assumption|exact Below.refl _ _|(simp only[World.size_alloc,World.size_setCell,World.size_drew];first|done|omega)|omega)⟩
        case measure=>simp[intOf];omega
       |false=>
        have Ac:Hid ((F.take (i+1-Aa)).foldl yT ([],0,false)=(d,e,false)):=Hh Al.out;clear Al;go_wp2_with fail
        skip
        go_roundw
        case rel=>exact⟨i+1,d,e,false,by go_num,rfl,by omega,by omega,Ac.out,by omega,by omega,by first|omega|(simp;omega),hx,by rw[HD.out];exact hy,by (with_reducible repeat' first|refine Below.setCell ?_ ?_ _|refine Below.alloc ?_ ?_ _|refine Below.drew ?_|refine ah ?_ _|assumption|exact Below.refl _ _|(simp only[World.size_alloc,World.size_setCell,World.size_drew];first|done|omega)|omega)⟩
        case measure=>simp[intOf];omega
    ·obtain rfl:i=q:=by omega
     have A2:Hid (d=iV ip fr/\e = -(fr.length:Int)):=Hh (by
      have h1:=Ab;rw[show i-Aa=F.length by have:=Hq.out;omega,List.take_length,B3.out] at h1
      exact⟨(congrArg (fun x=>x.1) h1).symm,(congrArg (fun x=>x.2.1) h1).symm⟩)
     clear Ab;clear hlt BC BE;go_wp2_with fail;clear Bm Bn;go_loop [5,7,8] (fun x5 x7 x8=>∃(k n:Nat) (p:Bool),x5=.int .i64 k/\x7=.int .i64 n/\x8=.bool p/\i+1<=k/\k<=i+1+R.length/\(R.take (k-(i+1))).foldl FQ (0,false)=(n,p)/\n<10000000000) (fun x5 _ _=>i+1+R.length-(intOf x5).toNat)
     case atStart=>exact⟨i+1,0,false,by go_num,rfl,rfl,Nat.le_refl _,by omega,by rw[Nat.sub_self];rfl,by omega⟩
     case round=>
      obtain⟨k,n,p,rfl,rfl,rfl,Bk,BF,Ab,AG⟩:=hrel;have hD:=fun W=>pE s k W (by omega)
      by_cases hks:k<s.size
      ·have BX:=Bd.out k hks Bk
       obtain⟨c,Bh⟩:∃c,R[k-(i+1)]'(by omega)=c:=⟨_,rfl⟩;have Au:s[k]'hks=c:=by rw[A0.out k hks Bk (by omega),Bh]
       have hN:Hid ((R.take (k+1-(i+1))).foldl FQ (0,false)=FQ (n,p) c):=Hh (by
        rw[show k+1-(i+1)=(k-(i+1))+1 by omega,ma FQ _ R (by omega),Ab,Bh])
       have AE:kR s k=dg c:=by
        rw[kR,qE hks,Au];cases dg c<;>simp
       rw[AE] at hD;clear Ab Bh AE
       by_cases h45:c=45
       ·have Ac:=Hh (show (R.take (k+1-(i+1))).foldl FQ (0,false)=(n,true) by rw[hN.out,FQ,h45];simp[show dg 45=false from rfl])
        rw[h45] at hD Au;have Ay:∀W,Calls Tryz.prog 116 #[.string s,.int .i64 k] W fun r w'=>r=.returned (.bool false)/\W=w':=hD;have d1:(((s[k]'hks).toNat:Int)==45)=true:=by rw[Au];rfl
        clear hN h45 hD Au;go_wp2_with ((with_reducible refine (Ay _).mono ?_);rintro _ _ ⟨rfl,rfl⟩)
        go_round
        case rel=>exact⟨k+1,n,true,by go_num,rfl,rfl,by omega,by omega,Ac.out,AG⟩
        case measure=>(simp[intOf]<;>omega)
       ·have d1:(((s[k]'hks).toNat:Int)==45)=false:=by rw[Au];exact fA h45 rfl
        cases hdc:dg c with
        |false=>
         have Ac:=Hh (show (R.take (k+1-(i+1))).foldl FQ (0,false)=(n,p) by rw[hN.out,FQ,hdc];simp[h45]);rw[hdc] at hD;clear hN h45 Au hdc;go_wp2_with ((with_reducible refine (hD _).mono ?_);rintro _ _ ⟨rfl,rfl⟩)
         go_round
         case rel=>exact⟨k+1,n,p,by go_num,rfl,rfl,by omega,by omega,Ac.out,AG⟩
         case measure=>simp[intOf]<;>omega
        |true=>
         have BU:48<=(s[k]'hks).toNat/\(s[k]'hks).toNat<=57:=by rw[Au];exact qZ hdc
         have Ac:=Hh (show (R.take (k+1-(i+1))).foldl FQ (0,false)=(qL n c,p) by rw[hN.out,FQ,hdc];simp[h45]);rw[hdc] at hD;have Bt:=Hh Au;clear hN h45 hdc Au d1;have d1:¬((s[k]'hks).toNat:Int)=45:=by omega
         by_cases hn9:n<1000000000
         ·have BK:n<=999999999:=by omega
          have hA:=Hh (show qL n c=n*10+(c.toNat-48) by rw[qL,if_pos hn9]);have Br:=Hh hn9;clear AG hn9;go_upto_region 22 with fail
          go_upto_if 82 with fail
          go_upto_region 24 with fail
          go_upto_if 89 with ((with_reducible refine (hD _).mono ?_);rintro _ _ ⟨rfl,rfl⟩)
          rw[show decide ((n:Int)<1000000000)=true from decide_eq_true (by omega)];go_wp2;go_round
          case rel=>exact⟨k+1,qL n c,p,by go_num,by rw[hA.out,<-Bt.out];congr 1;have:=Br.out;(try unfold wrap64);omega,rfl,by omega,by omega,Ac.out,by rw[hA.out,<-Bt.out];have:=Br.out;omega⟩
          case measure=>(simp[intOf]<;>omega)
         ·have BK:1000000000<=n:=by omega
          have hA:=Hh (show qL n c=n by rw[qL,if_neg hn9]);have B2:=Hh AG;clear hn9 AG;go_upto_region 22 with fail
          go_upto_if 82 with fail
          go_upto_region 24 with fail
          go_upto_if 89 with ((with_reducible refine (hD _).mono ?_);rintro _ _ ⟨rfl,rfl⟩)
          rw[show decide ((n:Int)<1000000000)=false from decide_eq_false (by omega)];go_wp2;go_round
          case rel=>exact⟨k+1,qL n c,p,by go_num,by rw[hA.out],rfl,by omega,by omega,Ac.out,by rw[hA.out];exact B2.out⟩
          case measure=>(simp[intOf]<;>omega)
      ·have BG:=Bc.out k hks Bk BF
       have An:n=pw.foldl qL 0/\p=decide (sg=[45]):=by
        have h1:=Ab;rw[show k-(i+1)=R.length by omega,List.take_length,B4.out] at h1;exact⟨(congrArg (fun x=>x.1) h1).symm,(congrArg (fun x=>x.2) h1).symm⟩
       have AT:vU sg pw=if p then -(n:Int) else n:=by
        rw[vU,NB,An.1,An.2]
        by_cases h:sg=[45]<;>simp[h]
       obtain⟨P,hP⟩:∃P,vU sg pw=P:=⟨_,rfl⟩;have HP:=Hh hP;rw[hP] at AT;have Bb:=Hh AT;have BT : -10000000000<=P/\P<=10000000000:=by rw[AT];split<;>omega
       clear Ab An AT hP BG hD;go_upto_if 98 with fail
       go_cut [7] (fun x wc=>x=.int .i64 P/\wr=wc)
       case first=>
        cases p with
        |false=>
         go_wp2;go_meet
         case rel=>exact⟨by rw[Bb.out];rfl,rfl⟩
        |true=>
         go_wp2;go_meet
         case rel=>exact⟨by rw[Bb.out];simp,rfl⟩
       case rest=>
        obtain⟨rfl,rfl⟩:=hcut;rw[A2.out.1,A2.out.2] at hy;clear A2 BA AY A8 Bb;obtain⟨Ag,Ai,Af,Aj,Ah,Ak⟩:=hy.n3 rfl;go_wp2_with fail;go_loopw [] (fun wr2=>∃(d:Bs) (e:Int),Lib.trimRightB d 48=gM ip fr/\e+d.length = -(fr.length:Int)+P+(iV ip fr).length/\d.length<=(iV ip fr).length/\aa wr2 w.heap.size #[.bool false,.string ⟨#[]⟩,.int .i64 0] 122/\aa wr2 (w.heap.size+1) #[.bool neg,.string (av d),.int .i64 e] 122/\Below w.heap.size w wr2) (fun wr2=>match wr2.cell? ⟨w.heap.size+1,1,none⟩ with|some v=>Lib.strSize v|none=>0)
        case atStart=>exact⟨iV ip fr,-(fr.length:Int)+P,rfl,rfl,Nat.le_refl _,hx.setOther _ _ (by simp),hy.set 2 (by simp) _,by (with_reducible repeat' first|refine Below.setCell ?_ ?_ _|refine Below.alloc ?_ ?_ _|refine Below.drew ?_|refine ah ?_ _|assumption|exact Below.refl _ _|(simp only[World.size_alloc,World.size_setCell,World.size_drew];first|done|omega)|omega)⟩
        case round=>
         clear hx hy hb Ag Af Ah Ai Aj Ak;obtain⟨d,e,ht,he,A8,hx,hy,hb⟩:=hrel;have AF:(av d).size=d.length:=aU d;have BV : -20000000000<=e/\e<=20000000000:=by omega
         rcases yz d with hd0|⟨d',c,hd0⟩
         ·subst hd0
          have hV:=Hh (show gI neg ip fr (vU sg pw)=((false,[],0),0) by
           rw[gI,if_pos (show gM ip fr=[] from ht.symm)])
          have hy:aa wr (w.heap.size+1) #[.bool neg,.string ⟨#[]⟩,.int .i64 e] 122:=hy;have hz:((⟨#[]⟩:ByteArray).size:Int)=0:=rfl;clear ht he A8 AF;obtain⟨Av,A3,Aw,A4,Ax,A5⟩:=hx.n3 rfl;obtain⟨Ag,Ai,Af,Aj,Ah,Ak⟩:=hy.n3 rfl;go_wp2;refine bodyPost_ret (v:=dJ ((false,[],0),0)) (by simp[results,Tryz.results82,go_sem,dJ,av,Av,Aw,Ax]) rfl ⟨by rw[hV.out],?_⟩
          (with_reducible repeat' first|refine Below.setCell ?_ ?_ _|refine Below.alloc ?_ ?_ _|refine Below.drew ?_|refine ah ?_ _|assumption|exact Below.refl _ _|(simp only[World.size_alloc,World.size_setCell,World.size_drew];first|done|omega)|omega)
         ·subst hd0
          obtain⟨D,hD⟩:∃D,av (d'++[c])=D:=⟨_,rfl⟩;rw[hD] at hy AF;have Bu:D.size=d'.length+1:=by rw[AF];simp
          have BQ:0<D.size:=by omega
          have B6:D.size<=1048576:=by omega
          have Be:D.size-1<D.size:=by omega
          have BP:0<=(D.size:Int)-1/\(D.size:Int)-1<(D.size:Int):=by omega
          have AA:D[D.size-1]'Be=c:=by
           subst hD;rw[LZ];simp[aU]
          by_cases h48:c=48
          ·have d2:(((D[D.size-1]'Be).toNat:Int)==48)=true:=by rw[AA,h48];rfl
           have AI:D.extract 0 (D.size-1)=av d':=by
            rw[<-hD,wW,aU];simp
           have B0:Lib.trimRightB d' 48=gM ip fr:=by rw[<-ht,wP,if_pos h48]
           have BH:d'.length<=(iV ip fr).length:=by simp at A8;omega
           have AY:e+1+d'.length = -(fr.length:Int)+P+(iV ip fr).length:=by rw[<-he];simp;omega
           have HT:=Hh B0;have HE:=Hh AY;have BI:d'.length<D.size:=by omega
           clear ht he A8 AF Bu AA h48 hD B0 AY;obtain⟨D2,Ay⟩:∃D2,av d'=D2:=⟨_,rfl⟩;have Bp:=Hh (show D2.size=d'.length by rw[<-Ay,aU]);have A6:=Hh Ay;rw[Ay] at AI;clear Ay;obtain⟨Ag,Ai,Af,Aj,Ah,Ak⟩:=hy.n3 rfl;go_wp2;go_roundw
           case rel=>exact⟨d',e+1,HT.out,HE.out,BH,(hx.setOther _ _ (by simp)).setOther _ _ (by simp),by rw[A6.out];exact (hy.set 1 (by simp) _).set 2 (by simp) _,by (with_reducible repeat' first|refine Below.setCell ?_ ?_ _|refine Below.alloc ?_ ?_ _|refine Below.drew ?_|refine ah ?_ _|assumption|exact Below.refl _ _|(simp only[World.size_alloc,World.size_setCell,World.size_drew];first|done|omega)|omega)⟩
           case measure=>
            have m1:=((hy.set 1 (by simp) (.string D2)).set 2 (by simp) (.int .i64 (e+1))).cell 1 _ rfl;rw[m1,Af];show D2.size<D.size;rw[Bp.out];exact BI
          ·have d2:(((D[D.size-1]'Be).toNat:Int)==48)=false:=by rw[AA];exact fA h48 rfl
           have AH:d'++[c]=gM ip fr:=by rw[<-ht,wP,if_neg h48]
           have BS:((D.size:Int)==0)=false:=by rw[beq_eq_false_iff_ne];omega
           have AU:=fun W=>yY neg D e W B6
           have hV:=Hh (show gI neg ip fr (vU sg pw)=if oQ neg D e then ((neg,gM ip fr,e),0) else ((false,[],0),4) by
            have AW:gM ip fr≠[]:=by rw[<-AH];simp
            have B7:BL ip fr (vU sg pw)=e:=by
             have h1:=HP.out;have h2:(gM ip fr).length<=(iV ip fr).length:=BN _;rw[BL,h1];rw[AH] at he;omega
            rw[gI,if_neg AW,B7,show (⟨(gM ip fr).toArray⟩:ByteArray)=D by rw[<-AH];exact hD])
           have HC:=Hh (show av (gM ip fr)=D by rw[<-AH];exact hD);clear ht he A8 AF Bu AA h48 hD AH;obtain⟨Av,A3,Aw,A4,Ax,A5⟩:=hx.n3 rfl;obtain⟨Ag,Ai,Af,Aj,Ah,Ak⟩:=hy.n3 rfl
           cases hr:oQ neg D e with
           |true=>
            have Bf:=Hh (show gI neg ip fr (vU sg pw)=((neg,gM ip fr,e),0) by rw[hV.out,if_pos hr]);rw[hr] at AU;clear hV hr;go_wp2_with fail;refine (AU _).mono ?_;rintro _ w2 ⟨rfl,hb2⟩;have AI:=hx.below hb2 hx.lt;have Bq:=hy.below hb2 hy.lt;have B8:=hb.trans (hb2.mono hb.size);clear hb2 Av Aw Ax A3 A4 A5 Ag Af Ah Ai Aj Ak;obtain⟨Ap,AJ,Aq,AK,Ar,AL⟩:=AI.n3 rfl;obtain⟨AM,AQ,AN,AR,AO,AS⟩:=Bq.n3 rfl;go_wp2;have B5:=HC.out;refine bodyPost_ret (v:=dJ ((neg,gM ip fr,e),0)) (by simp[results,Tryz.results82,go_sem,dJ,B5,Ap,Aq,Ar]) rfl ⟨by rw[Bf.out],?_⟩
            (with_reducible repeat' first|refine Below.setCell ?_ ?_ _|refine Below.alloc ?_ ?_ _|refine Below.drew ?_|refine ah ?_ _|assumption|exact Below.refl _ _|(simp only[World.size_alloc,World.size_setCell,World.size_drew];first|done|omega)|omega)
           |false=>
            have Bf:=Hh (show gI neg ip fr (vU sg pw)=((false,[],0),4) by rw[hV.out,if_neg (by rw[hr];decide)]);rw[hr] at AU;clear hV hr;go_wp2_with fail;refine (AU _).mono ?_;rintro _ w2 ⟨rfl,hb2⟩;have AI:=hx.below hb2 hx.lt;have Bq:=hy.below hb2 hy.lt;have B8:=hb.trans (hb2.mono hb.size);clear hb2 Av Aw Ax A3 A4 A5 Ag Af Ah Ai Aj Ak;obtain⟨Ap,AJ,Aq,AK,Ar,AL⟩:=AI.n3 rfl;obtain⟨AM,AQ,AN,AR,AO,AS⟩:=Bq.n3 rfl;go_wp2;refine bodyPost_ret (v:=dJ ((false,[],0),4)) (by simp[results,Tryz.results82,go_sem,dJ,av,Ap,Aq,Ar]) rfl ⟨by rw[Bf.out],?_⟩
            (with_reducible repeat' first|refine Below.setCell ?_ ?_ _|refine Below.alloc ?_ ?_ _|refine Below.drew ?_|refine ah ?_ _|assumption|exact Below.refl _ _|(simp only[World.size_alloc,World.size_setCell,World.size_drew];first|done|omega)|omega)
theorem Cr(s:ByteArray)(w:World)(hs:s.size<=1048576) :
  Calls Tryz.prog 82 #[.string s] w fun e w'=>e=.returned (dJ (decR s.data.toList))/\Below w.heap.size w w':=by
 by_cases h:df s.data.toList=s.data.toList.length/\s.data.toList≠[]
 ·obtain⟨Aa,ip,fr,mk,sg,pw,hn⟩:=qV _ h.1 h.2
  rw[hn.decR];have h2:=Cq s Aa ip fr mk sg pw w hs hn;rw[<-CQ Aa ip fr sg pw hn.dpw (by have:=hn.len.1;rw[<-au] at this;omega)] at h2;exact h2
 ·have h2:s.data.toList=[]\/df s.data.toList≠s.size:=by
   rw[au]
   by_cases h3:s.data.toList=[]
   ·exact .inl h3
   ·exact .inr (fun e=>h ⟨e,h3⟩)
  rw[show decR s.data.toList=((false,[],0),3) by unfold decR;rw[if_neg h]];exact EB s w hs h2
end Go.Proofs.YtbcdaaobbebooaaGreatDoor
