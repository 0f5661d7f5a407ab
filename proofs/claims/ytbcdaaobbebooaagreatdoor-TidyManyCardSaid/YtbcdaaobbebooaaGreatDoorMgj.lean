import Derived.Test.YtbcdaaobbebooaaGreatDoorMgi
set_option linter.unusedSimpArgs false
set_option linter.unusedVariables false
set_option maxRecDepth 100000
set_option maxHeartbeats 20000000
namespace Go.Proofs.YtbcdaaobbebooaaGreatDoor
open Go.RowKit Go.Tab
def sM:Option Nat->Int
 |some i=>(i:Int)
 |none=>-1
theorem tu{l:List ag}{k n:Nat}(h:l.length<=k):mr (l.drop k) k n=none:=by rw[List.drop_eq_nil_of_le h];cases n<;>rfl
theorem wC{l:List ag}{k n:Nat}(h:k<l.length)(hc:dS l[k]=true):mr (l.drop k) k n=mr (l.drop (k+1)) (k+1) n:=by
 rw[List.drop_eq_getElem_cons h];cases n<;>rw[mr,if_pos hc]
theorem wB{l:List ag}{k:Nat}(h:k<l.length)(hc:dS l[k]=false):mr (l.drop k) k 0=some k:=by
 rw[List.drop_eq_getElem_cons h,mr,if_neg (by rw[hc];decide)]
theorem tC{l:List ag}{k n:Nat}(h:k<l.length)(hc:dS l[k]=false):mr (l.drop k) k (n+1)=mr (l.drop (k+1)) (k+1) n:=by
 rw[List.drop_eq_getElem_cons h,mr,if_neg (by rw[hc];decide)]
theorem zM:∀(l:List ag) (i:Nat),match mr l i 0 with
  |some j=>∃h:j-i<l.length,i<=j/\(eu l).head?=some l[j-i]
  |none=>eu l=[]
 |[],i=>by simp[mr,eu]
 | t::l,i=>by
  by_cases hc:dS t=true
  ·rw[mr,if_pos hc]
   have ih:=zM l (i+1);have hp:eu (t::l)=eu l:=by unfold eu;rw[List.filter_cons_of_neg (by rw[hc];decide)]
   rw[hp];split at ih
   ·next j hj=>
    obtain⟨h1,h2,h3⟩:=ih;obtain⟨m,rfl⟩:∃m,j=i+1+m:=⟨j-(i+1),by omega⟩;have e1:i+1+m-(i+1)=m:=by omega
    have e2:i+1+m-i=m+1:=by omega
    simp only[e1,e2] at *;exact⟨by simp;omega,by omega,h3⟩
   ·exact ih
  ·rw[mr,if_neg hc]
   have hp:eu (t::l)=t::eu l:=by unfold eu;rw[List.filter_cons_of_pos (by simpa using hc)]
   rw[hp];simp
theorem Lj(l:List ag):kZ l=match mr l 0 0 with
  |some j=>bT (l[j]?.getD ⟨0,⟨#[]⟩,0⟩) ng
  |none=>false:=by
 have h:=zM l 0;unfold kZ;split at h
 ·next j hj=>
  obtain⟨h1,-,h3⟩:=h;simp only[Nat.sub_zero] at h1 h3;rw[List.getElem?_eq_getElem h1]
  cases hp:eu l with
  |nil=>rw[hp] at h3;cases h3
  |cons t r=>rw[hp] at h3;cases h3;rfl
 ·rw[h]
theorem CO{l:List ag}{k:Nat}(h:k<l.length):iK (l.take (k+1))=if dS l[k] then iK (l.take k) else bT l[k] rF:=by
 unfold iK eu;rw[List.take_succ_eq_append_getElem h,List.filter_append]
 by_cases hc:dS l[k]=true
 ·rw[if_pos hc,List.filter_cons_of_neg (by rw[hc];decide),List.filter_nil,List.append_nil]
 ·rw[if_neg hc,List.filter_cons_of_pos (by simpa using hc),List.filter_nil,List.getLast?_concat]
abbrev NG(v:Value)(lo hi d:Int):Value:=.agg #[v,.int .i64 lo,.int .i64 hi,.int .i64 d]
theorem kE{w:World}{a:Option Addr}{n c:Nat}{l:List ag}(h:aH w (.slice a n c) l){k:Nat}(hk:k<l.length) :
  ∃b off,a=some ⟨b,off,none⟩/\b<w.heap.size/\∀W,Below w.heap.size w W->W.cell? ⟨b,off+k*3,none⟩=some (.int .i64 l[k].kind)/\W.cell? ⟨b,off+k*3+1,none⟩=some (.string l[k].text)/\W.cell? ⟨b,off+k*3+2,none⟩=some (.int .i64 l[k].pos):=by
 obtain⟨b,off,rfl,Aa,q0,q1,q2⟩:=h.get hk;exact⟨b,off,rfl,Aa,fun W hW=>⟨(hW.cell (p:=⟨b,off+k*3,none⟩) Aa).trans q0,(hW.cell (p:=⟨b,off+k*3+1,none⟩) Aa).trans q1,(hW.cell (p:=⟨b,off+k*3+2,none⟩) Aa).trans q2⟩⟩
theorem CY(w:World)(lv:Value)(l:List ag)(lo hi d:Int)(n:Nat)(h:aH w lv l)(hl:l.length<=1000000)(hn:n<=10) :
  Calls Tryz.prog 136 #[NG lv lo hi d,.int .i64 (n:Nat)] w fun e w'=>e=.returned (.int .i64 (sM (mr l 0 n)))/\Below w.heap.size w w':=by
 obtain⟨a,c,rfl,h1,h2,-⟩:=h.len;unfold maxLen at h2;have Aa:Below w.heap.size w (w.alloc (.cells #[.slice a l.length c,.int .i64 lo,.int .i64 hi,.int .i64 d] 110)):=(Below.refl _ w).alloc lz _;have Ab:=Hh Aa;have HT:=Hh h;clear h Aa;go_enter Tryz.func136,Tryz.ntmps136;go_wp2_with fail;go_loopw [1,10] (fun nn i wr=>∃(k m:Nat),k<=l.length/\i=.int .i64 (k:Int)/\nn=.int .i64 (m:Int)/\m<=10/\Hid (mr (l.drop k) k m=mr l 0 n)/\Below w.heap.size w wr) (fun _ i _=>l.length-(intOf i).toNat)
 case atStart=>exact⟨0,n,Nat.zero_le _,rfl,rfl,hn,Hh rfl,Ab.out⟩
 case round=>
  obtain⟨k,m,hk,rfl,rfl,hm,HA,hb⟩:=hrel;have HB:=Hh hb
  by_cases hkl:k<l.length
  ·obtain⟨b,Af,rfl,Ac,hq⟩:=kE (HT.out.below hb lz) hkl
   obtain⟨q0,q1,q2⟩:=hq wr (Below.refl _ _);have hX:=dM wr l[k];have hC:=nT l[k] (wr.alloc (kg l[k]));have H1:=Hh (fun hc=>wC (n:=m) hkl hc);have H2:=Hh (fun hc=>wB hkl hc);have H3:=Hh (fun hc n=>tC (n:=n) hkl hc);generalize l[k]=t at *;obtain⟨kd,tx,ps⟩:=t;simp only[eO] at hC q0 q1 q2;generalize dS ⟨kd,tx,ps⟩=cb at *;have HX:=Hh ((HB.out.trans (hX.mono HB.out.size)).alloc (by have:=HB.out.size;simp;omega) (kg ⟨kd,tx,ps⟩));clear hX hb hq
   cases cb with
   |true=>
    go_wp2_with fail;refine hC.mono ?_;rintro _ _ ⟨rfl,rfl⟩;clear hC;go_wp2_with fail;go_roundw
    case rel=>exact⟨k+1,m,hkl,by go_num,rfl,hm,Hh (by rw[<-HA.out,H1.out (by trivial)]),HX.out⟩
    case measure=>simp[intOf]<;>omega
   |false=>
    go_wp2_with fail;refine hC.mono ?_;rintro _ _ ⟨rfl,rfl⟩;clear hC
    cases m with
    |zero=>
     go_wp2_with fail;go_ret;rw[<-HA.out,H2.out (by trivial)];exact⟨rfl,HX.out⟩
    |succ m=>
     have Ad:(((m+1:Nat):Int)==0)=false:=by simp;omega
     have Ae:((m+1:Nat):Int)-1=(m:Int):=by omega
     go_wp2_with fail;go_roundw
     case rel=>exact⟨k+1,m,hkl,by go_num,by go_num,by omega,Hh (by rw[<-HA.out,H3.out (by trivial)]),HX.out⟩
     case measure=>simp[intOf]<;>omega
  ·obtain rfl:k=l.length:=by omega
   have hE:=tu (l:=l) (n:=m) lz;have HE:=Hh hE;clear hE hb;go_wp2_with fail;go_ret;rw[<-HA.out,HE.out];exact⟨rfl,HB.out⟩
theorem Bb(w:World)(lv:Value)(l:List ag)(lo hi d:Int)(h:aH w lv l)(hl:l.length<=1000000) :
  Calls Tryz.prog 101 #[NG lv lo hi d] w fun e w'=>e=.returned (.bool (kZ l))/\Below w.heap.size w w':=by
 obtain⟨a,c,rfl,h1,h2,-⟩:=h.len;unfold maxLen at h2;have Aa:Below w.heap.size w (w.alloc (.cells #[.slice a l.length c,.int .i64 lo,.int .i64 hi,.int .i64 d] 110)):=(Below.refl _ w).alloc lz _;have hR:=Lj l;have hP:=CY _ _ l lo hi d 0 (h.below Aa lz) hl (by omega);have hc:=(aa.new w #[.slice a l.length c,.int .i64 lo,.int .i64 hi,.int .i64 d] 110)
 cases hp:mr l 0 0 with
 |none=>
  rw[hp] at hR hP;rw[hR];simp only[sM] at hP;clear h hR hp hc;go_enter Tryz.func101,Tryz.ntmps101;go_wp2_with fail;refine hP.mono ?_;rintro _ w2 ⟨rfl,hb2⟩;have HB:=Hh (Aa.trans (hb2.mono Aa.size));clear hP Aa hb2;go_wp2_with fail;go_ret;exact⟨rfl,HB.out⟩
 |some j=>
  have hj:=(xJ l 0 0 j hp).2;rw[Nat.zero_add] at hj;rw[hp] at hR hP;simp only[List.getElem?_eq_getElem hj,Option.getD_some] at hR;rw[hR];simp only[sM] at hP;obtain⟨b,Ao,rfl,Am,hq⟩:=kE h hj;have hM:=fun W=>fE l[j] ⟨#[125]⟩ W (by decide);have Ak:bT l[j] ng=aZ l[j] [125]:=(u7 l[j] 125).symm;have HQ:=Hh hq;generalize l[j]=t at *;obtain⟨kd,tx,ps⟩:=t;simp only[eO] at hM HQ;rw[Ak];change ∀W,Calls _ _ _ _ (fun e w'=>e=.returned (.bool (aZ ⟨kd,tx,ps⟩ [125]))/\_) at hM;generalize aZ ⟨kd,tx,ps⟩ [125]=ab at *;have HC:=Hh hc;clear h hR hp hq hc Ak;go_enter Tryz.func101,Tryz.ntmps101;go_wp2_with fail;refine hP.mono ?_;rintro _ w2 ⟨rfl,hb2⟩;have Ab:=HC.out.below hb2 HC.out.lt;obtain⟨q0,q1,q2⟩:=HQ.out w2 (Aa.trans (hb2.mono Aa.size));have An:=Ab.lt;have HB:=Hh (Aa.trans (hb2.mono Aa.size));obtain⟨Ac,Ag,Ad,Ah,Ae,Ai,Af,Aj⟩:=Ab.n4 rfl;clear hP Aa hb2 Ab;go_wp2_with fail;refine (hM _).mono ?_;rintro _ w3 ⟨rfl,hb3⟩;have Al:=Hh (HB.out.trans (hb3.mono HB.out.size));clear hM hb3;go_wp2_with fail;go_ret;exact⟨rfl,Al.out⟩
theorem vJ(w:World)(lv:Value)(l:List ag)(lo hi d:Int)(h:aH w lv l)(hl:l.length<=1000000) :
  Calls Tryz.prog 102 #[NG lv lo hi d] w fun e w'=>e=.returned (.bool (iK l))/\Below w.heap.size w w':=by
 obtain⟨a,c,rfl,h1,h2,-⟩:=h.len;unfold maxLen at h2;have Aj:Below w.heap.size w (w.alloc (.cells #[.slice a l.length c,.int .i64 lo,.int .i64 hi,.int .i64 d] 110)):=(Below.refl _ w).alloc lz _;have HC:=Hh (aa.new w #[.slice a l.length c,.int .i64 lo,.int .i64 hi,.int .i64 d] 110);have Am:=Hh Aj;have HT:=Hh h;have kq:IntKind.i64.wrap ((l.length:Int)-1)=(l.length:Int)-1:=IntWalk.i64_in _ (by omega);clear h Aj;go_enter Tryz.func102,Tryz.ntmps102;go_wp2_with fail;go_loopw [3] (fun v wr=>∃k:Nat,k<=l.length/\v=.int .i64 ((k:Int)-1)/\Hid (iK (l.take k)=iK l)/\Below w.heap.size w wr/\aa wr w.heap.size #[.slice a l.length c,.int .i64 lo,.int .i64 hi,.int .i64 d] 110) (fun v _=>(intOf v+1).toNat)
 case atStart=>exact⟨l.length,Nat.le_refl _,by go_num,Hh (by rw[List.take_length]),Am.out,HC.out⟩
 case round=>
  obtain⟨k,hk,rfl,HA,hb,Aa⟩:=hrel;have HB:=Hh hb;have Ao:=Hh Aa;have Aq:=Aa.lt
  cases k with
  |zero=>
   clear hb;obtain⟨Ab,Af,Ac,Ag,Ad,Ah,Ae,Ai⟩:=Aa.n4 rfl;clear Aa;go_wp2_with fail;go_ret;rw[<-HA.out];exact⟨rfl,HB.out⟩
  |succ k=>
   have Al:k<l.length:=by omega
   obtain⟨b,As,rfl,Ap,hq⟩:=kE (HT.out.below hb lz) Al;obtain⟨q0,q1,q2⟩:=hq wr (Below.refl _ _);have hS:=CO Al;have Ar:IntKind.i64.wrap ((k:Int)-1)=(k:Int)-1:=IntWalk.i64_in _ (by omega);have Ak:((k+1:Nat):Int)-1=(k:Int):=by omega
   rw[Ak];have HQ:=Hh hq;generalize l[k]=t at *;have hC:=nT t wr;have hM:=fun W=>fE t ⟨#[123]⟩ W (by decide);rw[show bT t rF=aZ t [123] from (u7 t 123).symm] at hS;obtain⟨kd,tx,ps⟩:=t;simp only[eO] at hC hM q0 q1 q2 HQ;change ∀W,Calls _ _ _ _ (fun e w'=>e=.returned (.bool (aZ ⟨kd,tx,ps⟩ [123]))/\_) at hM;generalize dS ⟨kd,tx,ps⟩=cb at *;generalize aZ ⟨kd,tx,ps⟩ [123]=ab at *;have HS:=Hh hS;have HX:=Hh (HB.out.alloc HB.out.size (kg ⟨kd,tx,ps⟩));have HD:=Hh (Ao.out.alloc (kg ⟨kd,tx,ps⟩));obtain⟨Ab,Af,Ac,Ag,Ad,Ah,Ae,Ai⟩:=Aa.n4 rfl;clear hS hb Ak hq Aa
   cases cb with
   |true=>
    go_wp2_with fail;refine hC.mono ?_;rintro _ _ ⟨rfl,rfl⟩;clear hC hM;go_wp2_with fail;go_roundw
    case rel=>exact⟨k,by omega,rfl,Hh (by rw[<-HA.out,HS.out];try rfl),HX.out,HD.out⟩
    case measure=>simp[intOf]<;>omega
   |false=>
    go_wp2_with fail;refine hC.mono ?_;rintro _ _ ⟨rfl,rfl⟩;clear hC;go_wp2_with fail;refine (hM _).mono ?_;rintro _ w4 ⟨rfl,hb4⟩;have An:=Hh (fo HX.out hb4);clear hM hb4;go_wp2_with fail;go_ret;rw[<-HA.out,HS.out];exact⟨rfl,An.out⟩
abbrev Cc(v:Value)(d:Int):Value:=.agg #[v,.int .i64 d]
def JK(l:List ag):Option Nat->ag
 |some i=>l[i]?.getD ⟨0,⟨#[]⟩,0⟩
 |none=>⟨0,⟨#[]⟩,0⟩
theorem MV(l:List ag):bT (JK l (mr l 0 0)) ng=kZ l:=by
 rw[Lj];cases mr l 0 0<;>rfl
theorem o8(w:World)(lv:Value)(l:List ag)(d:Int)(h:aH w lv l)(hl:l.length<=1000000) :
  Calls Tryz.prog 71 #[Cc lv d] w fun e w'=>e=.returned (.bool (iK l))/\Below w.heap.size w w':=by
 obtain⟨a,c,rfl,h1,h2,-⟩:=h.len;unfold maxLen at h2;have Af:Below w.heap.size w (w.alloc (.cells #[.slice a l.length c,.int .i64 d] 103)):=(Below.refl _ w).alloc lz _;have HC:=Hh (aa.new w #[.slice a l.length c,.int .i64 d] 103);have Ai:=Hh Af;have HT:=Hh h;have kq:IntKind.i64.wrap ((l.length:Int)-1)=(l.length:Int)-1:=IntWalk.i64_in _ (by omega);clear h Af;go_enter Tryz.func71,Tryz.ntmps71;go_wp2_with fail;go_loopw [3] (fun v wr=>∃k:Nat,k<=l.length/\v=.int .i64 ((k:Int)-1)/\Hid (iK (l.take k)=iK l)/\Below w.heap.size w wr/\aa wr w.heap.size #[.slice a l.length c,.int .i64 d] 103) (fun v _=>(intOf v+1).toNat)
 case atStart=>exact⟨l.length,Nat.le_refl _,by go_num,Hh (by rw[List.take_length]),Ai.out,HC.out⟩
 case round=>
  obtain⟨k,hk,rfl,HA,hb,Aa⟩:=hrel;have HB:=Hh hb;have Ak:=Hh Aa;have Am:=Aa.lt
  cases k with
  |zero=>
   clear hb;obtain⟨Ab,Ad,Ac,Ae⟩:=Aa.n2 rfl;clear Aa;go_wp2_with fail;go_ret;rw[<-HA.out];exact⟨rfl,HB.out⟩
  |succ k=>
   have Ah:k<l.length:=by omega
   obtain⟨b,Ao,rfl,Al,hq⟩:=kE (HT.out.below hb lz) Ah;obtain⟨q0,q1,q2⟩:=hq wr (Below.refl _ _);have hS:=CO Ah;have An:IntKind.i64.wrap ((k:Int)-1)=(k:Int)-1:=IntWalk.i64_in _ (by omega);have Ag:((k+1:Nat):Int)-1=(k:Int):=by omega
   rw[Ag];have HQ:=Hh hq;generalize l[k]=t at *;have hC:=uF t wr;have hM:=fun W=>nJ t rF W;obtain⟨kd,tx,ps⟩:=t;simp only[eO] at hC hM q0 q1 q2 HQ;generalize dS ⟨kd,tx,ps⟩=cb at *;generalize bT ⟨kd,tx,ps⟩ rF=ab at *;have HS:=Hh hS;have HX:=Hh (HB.out.alloc HB.out.size (kg ⟨kd,tx,ps⟩));have HD:=Hh (Ak.out.alloc (kg ⟨kd,tx,ps⟩));obtain⟨Ab,Ad,Ac,Ae⟩:=Aa.n2 rfl;clear hS hb Ag hq Aa
   cases cb with
   |true=>
    go_wp2_with fail;refine hC.mono ?_;rintro _ _ ⟨rfl,rfl⟩;clear hC hM;go_wp2_with fail;go_roundw
    case rel=>exact⟨k,by omega,rfl,Hh (by rw[<-HA.out,HS.out];try rfl),HX.out,HD.out⟩
    case measure=>simp[intOf]<;>omega
   |false=>
    go_wp2_with fail;refine hC.mono ?_;rintro _ _ ⟨rfl,rfl⟩;clear hC;go_wp2_with fail;refine (hM _).mono ?_;rintro _ _ ⟨rfl,rfl⟩;have Aj:=Hh (HX.out.alloc HX.out.size (kg ⟨kd,tx,ps⟩));clear hM;go_wp2_with fail;go_ret;rw[<-HA.out,HS.out];exact⟨rfl,Aj.out⟩
theorem BS(w:World)(lv:Value)(l:List ag)(d:Int)(n:Nat)(h:aH w lv l)(hl:l.length<=1000000)(hn:n<=10) :
  Calls Tryz.prog 70 #[Cc lv d,.int .i64 (n:Nat)] w fun e w'=>e=.returned (eO (JK l (mr l 0 n)))/\Below w.heap.size w w':=by
 obtain⟨a,c,rfl,h1,h2,-⟩:=h.len;unfold maxLen at h2;have Al:Below w.heap.size w (w.alloc (.cells #[.slice a l.length c,.int .i64 d] 103)):=(Below.refl _ w).alloc lz _;have Am:=Al.alloc (by simp) (.cells #[.int .i64 0,.string ⟨#[]⟩,.int .i64 0] 63);have Ah:=aa.new (w.alloc (.cells #[.slice a l.length c,.int .i64 d] 103)) #[.int .i64 0,.string ⟨#[]⟩,.int .i64 0] 63;simp only[World.size_alloc] at Ah;have An:=Jh Am Ah;have HT:=Hh h;clear h Al Am Ah;go_enter Tryz.func70,Tryz.ntmps70;go_wp2_with fail;go_loopw [1,10] (fun nn i wr=>∃(k m:Nat),k<=l.length/\i=.int .i64 (k:Int)/\nn=.int .i64 (m:Int)/\m<=10/\Hid (mr (l.drop k) k m=mr l 0 n)/\Below w.heap.size w wr/\aa wr (w.heap.size+1) #[.int .i64 0,.string ⟨#[]⟩,.int .i64 0] 63) (fun _ i _=>l.length-(intOf i).toNat)
 case atStart=>exact⟨0,n,Nat.zero_le _,rfl,rfl,hn,Hh rfl,An.out⟩
 case round=>
  obtain⟨k,m,hk,rfl,rfl,hm,HA,hb,Aa⟩:=hrel;have HB:=Hh hb;have HC:=Hh Aa;have Av:=Aa.lt
  by_cases hkl:k<l.length
  ·obtain⟨b,Ay,rfl,Au,hq⟩:=kE (HT.out.below hb lz) hkl
   obtain⟨q0,q1,q2⟩:=hq wr (Below.refl _ _);have hX:=dM wr l[k];have hM:=uF l[k] (wr.alloc (kg l[k]));have H1:=Hh (fun hc=>wC (n:=m) hkl hc);have H2:=Hh (fun hc=>wB hkl hc);have H3:=Hh (fun hc n=>tC (n:=n) hkl hc);have H4:Hid (JK l (some k)=l[k]):=Hh (by show (l[k]?).getD _=_;rw[List.getElem?_eq_getElem hkl];rfl);generalize l[k]=t at *;obtain⟨kd,tx,ps⟩:=t;simp only[eO] at hM q0 q1 q2;generalize dS ⟨kd,tx,ps⟩=cb at *;have HX:=Hh ((HB.out.trans (hX.mono HB.out.size)).alloc (by have:=HB.out.size;simp;omega) (kg ⟨kd,tx,ps⟩));have HD:=Hh ((HC.out.alloc (kg ⟨kd,tx,ps⟩)).alloc (kg ⟨kd,tx,ps⟩));obtain⟨Ab,Ae,Ac,Af,Ad,Ag⟩:=Aa.n3 rfl;clear hX hb hq Aa
   cases cb with
   |true=>
    go_wp2_with fail;refine hM.mono ?_;rintro _ _ ⟨rfl,rfl⟩;clear hM;go_wp2_with fail;go_roundw
    case rel=>exact⟨k+1,m,hkl,by go_num,rfl,hm,Hh (by rw[<-HA.out,H1.out (by trivial)]),HX.out,HD.out⟩
    case measure=>simp[intOf]<;>omega
   |false=>
    go_wp2_with fail;refine hM.mono ?_;rintro _ _ ⟨rfl,rfl⟩;clear hM
    cases m with
    |zero=>
     obtain⟨Ao,Ar,Ap,As,Aq,At⟩:=HD.out.n3 rfl;go_wp2_with fail;have hq:=(((HD.out.setI 0 (.int .i64 kd)).setI 1 (.string tx)).setI 2 (.int .i64 ps));obtain⟨Ai,Aj,Ak⟩:=hq.m3 rfl;refine bodyPost_ret (v:=.agg #[.int .i64 kd,.string tx,.int .i64 ps]) (by simp[results,Tryz.results70,go_sem,Ai,Aj,Ak]) rfl ?_;rw[<-HA.out,H2.out (by trivial),H4.out];exact⟨rfl,((HX.out.setCell (by show w.heap.size<=w.heap.size+1;omega) _).setCell (by show w.heap.size<=w.heap.size+1;omega) _).setCell (by show w.heap.size<=w.heap.size+1;omega) _⟩
    |succ m=>
     have Aw:(((m+1:Nat):Int)==0)=false:=by simp;omega
     have Ax:((m+1:Nat):Int)-1=(m:Int):=by omega
     go_wp2_with fail;go_roundw
     case rel=>exact⟨k+1,m,hkl,by go_num,by go_num,by omega,Hh (by rw[<-HA.out,H3.out (by trivial)]),HX.out,HD.out⟩
     case measure=>simp[intOf]<;>omega
  ·obtain rfl:k=l.length:=by omega
   have hE:=tu (l:=l) (n:=m) lz;have HE:=Hh hE;obtain⟨Ab,Ae,Ac,Af,Ad,Ag⟩:=Aa.n3 rfl;clear hE hb Aa;go_wp2_with fail;have hq:=(((HC.out.setI 0 (.int .i64 0)).setI 1 (.string ⟨#[]⟩)).setI 2 (.int .i64 0));obtain⟨Ai,Aj,Ak⟩:=hq.m3 rfl;refine bodyPost_ret (v:=.agg #[.int .i64 0,.string ⟨#[]⟩,.int .i64 0]) (by simp[results,Tryz.results70,go_sem,Ai,Aj,Ak]) rfl ?_;rw[<-HA.out,HE.out];exact⟨rfl,((HB.out.setCell (by show w.heap.size<=w.heap.size+1;omega) _).setCell (by show w.heap.size<=w.heap.size+1;omega) _).setCell (by show w.heap.size<=w.heap.size+1;omega) _⟩
theorem Gx{l:List ag}{k:Nat}(h:mr l 0 1=some k)(hk:k<l.length):oG l=if bT l[k] Ca then some k else none:=by
 unfold oG;rw[h];simp only[List.getElem?_eq_getElem hk,Option.getD_some]
theorem Dv{l:List ag}(h:mr l 0 1=none):oG l=none:=by
 unfold oG;rw[h]
theorem wU(w:World)(lv:Value)(l:List ag)(d:Int)(h:aH w lv l)(hl:l.length<=1000000) :
  Calls Tryz.prog 65 #[Cc lv d] w fun e w'=>e=.returned (.int .i64 (sM (oG l)))/\Below w.heap.size w w':=by
 obtain⟨a,c,rfl,h1,h2,-⟩:=h.len;unfold maxLen at h2;have Aa:Below w.heap.size w (w.alloc (.cells #[.slice a l.length c,.int .i64 d] 103)):=(Below.refl _ w).alloc lz _;have Ab:=Hh Aa;have HT:=Hh h;clear h Aa;go_enter Tryz.func65,Tryz.ntmps65;go_wp2_with fail;go_loopw [3,9] (fun nn i wr=>∃(k m:Nat),k<=l.length/\i=.int .i64 (k:Int)/\nn=.int .i64 (m:Int)/\m<=1/\Hid (mr (l.drop k) k (1-m)=mr l 0 1)/\Below w.heap.size w wr) (fun _ i _=>l.length-(intOf i).toNat)
 case atStart=>exact⟨0,0,Nat.zero_le _,rfl,rfl,by omega,Hh rfl,Ab.out⟩
 case round=>
  obtain⟨k,m,hk,rfl,rfl,hm,HA,hb⟩:=hrel;have HB:=Hh hb
  by_cases hkl:k<l.length
  ·obtain⟨b,Ae,rfl,Ad,hq⟩:=kE (HT.out.below hb lz) hkl
   obtain⟨q0,q1,q2⟩:=hq wr (Below.refl _ _);have hX:=dM wr l[k];have hC:=uF l[k] (wr.alloc (kg l[k]));have hS:=fun W=>nJ l[k] Ca W;have H1:=Hh (fun hc n=>wC (n:=n) hkl hc);have H2:=Hh (fun hc=>wB hkl hc);have H3:=Hh (fun hc n=>tC (n:=n) hkl hc);have H4:=Hh (fun h=>Gx (l:=l) (k:=k) h hkl);generalize l[k]=t at *;obtain⟨kd,tx,ps⟩:=t;simp only[eO] at hC hS q0 q1 q2;generalize dS ⟨kd,tx,ps⟩=cb at *;generalize bT ⟨kd,tx,ps⟩ Ca=sb at *;have HX:=Hh ((HB.out.trans (hX.mono HB.out.size)).alloc (by have:=HB.out.size;simp;omega) (kg ⟨kd,tx,ps⟩));have Ac:=Hh (HX.out.alloc HX.out.size (kg ⟨kd,tx,ps⟩));clear hX hb hq
   cases cb with
   |true=>
    go_wp2_with fail;refine hC.mono ?_;rintro _ _ ⟨rfl,rfl⟩;clear hC hS;go_wp2_with fail;go_roundw
    case rel=>exact⟨k+1,m,hkl,by go_num,rfl,hm,Hh (by rw[<-HA.out,H1.out (by trivial)]),HX.out⟩
    case measure=>simp[intOf]<;>omega
   |false=>
    go_wp2_with fail;refine hC.mono ?_;rintro _ _ ⟨rfl,rfl⟩;clear hC
    by_cases hm1:m=1
    ·subst hm1
     have HE:Hid (oG l=if sb then some k else none):=Hh (H4.out (by rw[<-HA.out];exact H2.out (by trivial)));go_wp2_with fail;refine (hS _).mono ?_;rintro _ _ ⟨rfl,rfl⟩;clear hS;cases sb
     all_goals
      go_wp2_with fail;go_ret;rw[HE.out];exact⟨rfl,Ac.out⟩
    ·obtain rfl:m=0:=by omega
     go_wp2_with fail;go_roundw
     case rel=>exact⟨k+1,1,hkl,by go_num,by go_num,by omega,Hh (by rw[<-HA.out,H3.out (by trivial)]),HX.out⟩
     case measure=>simp[intOf]<;>omega
  ·obtain rfl:k=l.length:=by omega
   have hE:=tu (l:=l) (n:=1-m) lz;have HE:Hid (oG l=none):=Hh (Dv (by rw[<-HA.out,hE]));clear hE hb;go_wp2_with fail;go_ret;rw[HE.out];exact⟨rfl,HB.out⟩
def D6(n:Nat):ByteArray:=av (kY n)
theorem wX(n:Nat):(D6 n).size=n:=by unfold D6 kY;show (List.replicate n _).toArray.size=n;simp
theorem Et(n:Nat):Lib.repeatL [32] n=kY n:=by
 unfold kY
 induction n with
 |zero=>rfl
 |succ n ih=>rw[Lib.repeatL,ih,List.replicate_succ];rfl
theorem Em(n:Nat)(w:World)(hn:n<=1000000000):Calls Tryz.prog 111 #[.string ⟨#[32]⟩,.int .i64 n] w fun e w'=>e=.returned (.string (D6 n))/\Below w.heap.size w w':=by
 have:=Go.Proofs.Tryz.strings_Repeat ⟨#[32]⟩ n w (by omega) (by show 1*n<=_;omega);rw[show (⟨#[32]⟩:ByteArray).data.toList=[32] from rfl,Et] at this;exact this
theorem Pe:Au 69 2 0:=⟨by decide,by kernel_rfl,by decide⟩
def BW(B:Nat)(w:World)(g:Nat)(l:Bs):Prop:=B<=g/\∃cs,cs.size=2/\FK 69 B w g 0 cs l
theorem BW.lt{B g:Nat}{w:World}{l:Bs}(h:BW B w g l):g<w.heap.size:=by
 obtain⟨-,cs,-,hb⟩:=h;exact hb.cells.lt
structure oU(B g:Nat)(w w':World):Prop where
 b:Below B w w'
 s:bA 5 g w w'
theorem oU.refl(B g:Nat)(w:World):oU B g w w:=⟨Below.refl _ _,bA.refl⟩
theorem oU.trans{B g:Nat}{w w' w'':World}(h:oU B g w w')(h2:oU B g w' w''):oU B g w w'':=⟨h.b.trans h2.b,h.s.trans h2.s⟩
theorem oU.of{B g:Nat}{w w':World}(h:Below w.heap.size w w')(hB:B<=w.heap.size):oU B g w w':=⟨h.mono hB,h.size,fun k o _ ho _=>(h.block k (Array.getElem?_eq_some_iff.1 ho).1).trans ho⟩
theorem oU.cells{B g:Nat}{w w':World}(h:oU B g w w'){k:Nat}{cs:Array Value}{t:TypeId}(hc:aa w k cs t)(hk:k≠g)(ht:t≠5):aa w' k cs t:=h.s.cells hc hk ht
theorem BW.below{B g:Nat}{w w':World}{l:Bs}(h:BW B w g l)(hb:Below w.heap.size w w'):BW B w' g l:=by
 obtain⟨h1,cs,h2,hc,ha,v,hv,ho⟩:=h;exact⟨h1,cs,h2,hc.below hb hc.lt,ha,v,hv,ho.below hb lz⟩
theorem BW.write{B g:Nat}{w:World}{l:Bs}(h:BW B w g l)(s:ByteArray)(hl:l.length+s.size<=1000000000) :
  Calls Tryz.prog 113 #[.pointer (some ⟨g,0,none⟩),.string s] w fun e w'=>e=.returned (.tuple #[.int .i64 s.size,.nilIface])/\BW B w' g (l++s.data.toList)/\oU B g w w':=by
 obtain⟨h1,cs,h2,hb⟩:=h;refine (oO w s hb (by rw[h2];exact Pe) h1 hl).mono ?_;rintro e w' ⟨rfl,cs',h3,h4,h5,h6⟩;exact⟨rfl,⟨h1,cs',h4.1.trans h2,h3⟩,h5,h6⟩
theorem BW.ne{B g k:Nat}{w:World}{l:Bs}{cs:Array Value}{t:TypeId}(h:BW B w g l)(hc:aa w k cs t)(ht:t≠69):k≠g:=by
 rintro rfl;obtain⟨-,Aa,-,hb⟩:=h;have h1:w.heap[k]?=some (.cells cs t (0,0)):=hc;have h2:w.heap[k]?=some (.cells Aa 69 (0,0)):=hb.cells;rw[h1] at h2;simp only[Option.some.injEq,Obj.cells.injEq] at h2;exact ht h2.2.1
def iP(ps:List ByteArray):Bs:=ps.flatMap (fun s=>s.data.toList)
theorem Jb{ps:List ByteArray}{k:Nat}(hk:k<ps.length):iP (ps.take (k+1))=iP (ps.take k)++ps[k].data.toList:=by
 unfold iP;rw[List.take_succ_eq_append_getElem hk,List.flatMap_append];simp
theorem MX(ps:List ByteArray)(k:Nat):(iP (ps.take k)).length<=(iP ps).length:=by
 have:iP ps=iP (ps.take k)++iP (ps.drop k):=by unfold iP;rw[<-List.flatMap_append,List.take_append_drop]
 rw[this,List.length_append];omega
theorem wu{B g b:Nat}{w:World}{l:Bs}(ps:List ByteArray)(h:BW B w g l)(hp:aa w b (ps.map Value.string).toArray 9)(hl:l.length+(iP ps).length<=1000000000)(hn:ps.length<=10) :
  Calls Tryz.prog 66 #[.pointer (some ⟨g,0,none⟩),.slice (some ⟨b,0,none⟩) ps.length ps.length] w fun e w'=>e=.returned (.tuple #[])/\BW B w' g (l++iP ps)/\oU B g w w':=by
 have Ab:=h.ne hp (by decide);have HP:=Jh h hp;clear h hp;go_enter Tryz.func66,Tryz.ntmps66;go_wp2_with fail;go_loopw [8] (fun i wr=>∃k:Nat,k<=ps.length/\i=.int .i64 (k:Int)/\BW B wr g (l++iP (ps.take k))/\oU B g w wr) (fun i _=>ps.length-(intOf i).toNat)
 case atStart=>exact⟨0,Nat.zero_le _,rfl,by rw[List.take_zero];simpa [iP] using HP.out.1,oU.refl _ _ _⟩
 case round=>
  obtain⟨k,hk,rfl,hW,hR⟩:=hrel
  by_cases hkl:k<ps.length
  ·have hc:=hR.cells HP.out.2 Ab (by decide)
   have Ac:=hc.lt;have q0:=hc.cell k (.string ps[k]) (by simp[hkl]);have hT:=Jb hkl;have Aa:=MX ps (k+1);rw[hT] at Aa
   have hC:=hW.write ps[k] (by
    have e:(ps[k].data.toList).length=ps[k].size:=eX _;rw[List.length_append] at Aa ⊢
    omega)
   have HT:=Hh hT;have HR:=Hh hR;generalize ps[k]=s at *;clear hc hW hR hT Aa;go_wp2_with fail;refine hC.mono ?_;rintro _ w3 ⟨rfl,h3,hr3⟩;have HN:Hid (BW B w3 g (l++iP (ps.take (k+1)))/\oU B g w w3):=Hh ⟨by rw[HT.out,<-List.append_assoc];exact h3,HR.out.trans hr3⟩;clear hC h3 hr3;go_wp2_with fail;go_roundw
   case rel=>exact⟨k+1,hkl,by go_num,HN.out.1,HN.out.2⟩
   case measure=>simp[intOf];omega
  ·obtain rfl:k=ps.length:=by omega
   rw[List.take_length] at hW;have HN:=Jh hW hR;clear hW hR;go_wp2_with fail;refine bodyPost_end (v:=.tuple #[]) (by simp[results,Tryz.results66,go_sem]) rfl ?_;exact⟨rfl,HN.out.1,HN.out.2⟩
theorem JF{k:Nat}(h:k<=1000000000):(Lit.int .i64 (k:Int)).wf=true:=by
 rw[Lit.wf,Bool.and_eq_true,decide_eq_true_eq,decide_eq_true_eq];have e1:IntKind.i64.min = -9223372036854775808:=rfl;have e2:IntKind.i64.max=9223372036854775807:=rfl;omega
theorem Bj(l:List ag)(i:Nat):tZ l i<=1:=by
 cases i with
 |zero=>exact Nat.zero_le _
 |succ i=>
  rw[tZ];split
  ·unfold Fa
   repeat' split
   all_goals omega
  ·exact Nat.zero_le _
theorem BW.start(w:World)(B:Nat)(hB:B<=w.heap.size):BW B (w.alloc (.cells #[.pointer none,.slice none 0 0] 69)) w.heap.size []:=
 ⟨hB,_,rfl,aa.new _ _ _,.inl rfl,_,rfl,aX.nil⟩
theorem xK{row:List ag}{ind fr k en:Nat}(h:k<=en):(aW row ind fr k).length<=(aW row ind fr en).length:=by
 unfold aW
 have e:((rP row ind).take k).drop fr=(((rP row ind).take en).drop fr).take (k-fr):=by
  rw[<-List.drop_take,List.take_take]
  congr 2
  omega
 rw[e]
 conv=>rhs;rw[<-List.take_append_drop (k-fr) (((rP row ind).take en).drop fr),uq,List.length_append]
 omega
theorem rA(w:World)(lv:Value)(l:List ag)(d:Int)(fr en:Nat)(h:aH w lv l)(hd:0<=d/\d<=1000000)(hfe:fr<=en)(hen:en<=l.length)(hl:l.length<=1000000)(hsz:(aW l (2*d).toNat fr en).length<=500000000) :
  Calls Tryz.prog 67 #[Cc lv d,.int .i64 (fr:Nat),.int .i64 (en:Nat)] w fun e w'=>e=.returned (.string (av (aW l (2*d).toNat fr en)))/\Below w.heap.size w w':=by
 obtain⟨a,c,rfl,h1,h2,-⟩:=h.len;unfold maxLen at h2;have Au:Below w.heap.size w (w.alloc (.cells #[.slice a l.length c,.int .i64 d] 103)):=(Below.refl _ w).alloc lz _;have Av:=Au.alloc (by simp) (.cells #[.pointer none,.slice none 0 0] 69);have Aw:=(aa.new w #[.slice a l.length c,.int .i64 d] 103).alloc (.cells #[.pointer none,.slice none 0 0] 69);have At:=BW.start (w.alloc (.cells #[.slice a l.length c,.int .i64 d] 103)) w.heap.size (by simp);simp only[World.size_alloc] at At;have H0:=Jh Av (And.intro Aw At);have HT:=Hh h;have k2:IntKind.i64.wrap (2*d)=2*d:=IntWalk.i64_in _ (by omega);have k3:(((2*d).toNat:Nat):Int)=2*d:=by omega
 have K3:=Hh k3;have Ar:=Hh hsz;clear h Au Av Aw At k3 hsz;go_enter Tryz.func67,Tryz.ntmps67;go_wp2_with fail;go_loopw [8] (fun i wr=>∃k:Nat,fr<=k/\k<=en/\i=.int .i64 (k:Int)/\BW w.heap.size wr (w.heap.size+1) (aW l (2*d).toNat fr k)/\aa wr w.heap.size #[.slice a l.length c,.int .i64 d] 103/\Below w.heap.size w wr) (fun i _=>en-(intOf i).toNat)
 case atStart=>exact⟨fr,Nat.le_refl _,hfe,rfl,by rw[lQ];exact H0.out.2.2,H0.out.2.1,H0.out.1⟩
 case round=>
  clear H0;obtain⟨k,A0,hk,rfl,hW,Aj,hb⟩:=hrel;have HW:=Jh hW (And.intro Aj hb);have A3:=hW.lt
  by_cases hkl:k<en
  ·obtain⟨b,Ab,rfl,Az,hq⟩:=kE HT.out (k:=k) (by omega)
   have hG:=IM wr _ l (HT.out.below hb lz) hl (k:Int) (JF (by omega));rw[Int.toNat_natCast] at hG;have As:=tJ (row:=l) (ind:=(2*d).toNat) A0 (show k<l.length by omega);have Ak:=xK (row:=l) (ind:=(2*d).toNat) (fr:=fr) (show k+1<=en by omega);have Ax:qX l (2*d).toNat k=if k=0 then (2*d).toNat else tZ l k:=rfl;have Ap:=Bj l k;rw[As] at Ak;have HG:=Jh As (And.intro Ak Ax);clear As Ak Ax hb hW;have A1:=Aj.lt;obtain⟨Aa,Ad,Ac,Ae⟩:=Aj.n2 rfl;clear Aj;go_wp2_with fail;refine hG.mono ?_;rintro _ w4 ⟨rfl,hb4⟩;have h4:Hid (BW w.heap.size w4 (w.heap.size+1) (aW l (2*d).toNat fr k)/\aa w4 w.heap.size #[.slice (some ⟨b,Ab,none⟩) l.length c,.int .i64 d] 103/\Below w.heap.size w w4):=Hh ⟨HW.out.1.below hb4,HW.out.2.1.below hb4 HW.out.2.1.lt,fo HW.out.2.2 hb4⟩;have HQ:Hid (∀W,Below w.heap.size w W->W.cell? ⟨b,Ab+k*3+1,none⟩=some (.string l[k].text)):=Hh fun W hW=>(hq W hW).2.1;have q1:=HQ.out w4 h4.out.2.2;have Ao:b<w4.heap.size:=Nat.lt_of_lt_of_le Az h4.out.2.2.size;have i1:(0:Int)<=(k:Int):=by omega
   have i2:(k:Int)<(l.length:Int):=by omega
   have Aj:=h4.out.2.1;have A1:=Aj.lt;have Al:Hid (vC l[k]=l[k].text.data.toList):=Hh rfl;generalize l[k].text=tx at *;clear hG hb4 hq Aa Ac Ad Ae HW;obtain⟨Aa,Ad,Ac,Ae⟩:=Aj.n2 rfl;clear Aj
   by_cases hk00:k=0
   ·have e0:((k:Int)==0)=true:=by simpa using hk00
    obtain⟨n,hn⟩:=exq ((2*d).toNat);have Ap:n<=2000000:=by omega
    have k4:IntKind.i64.wrap (2*d)=(n:Int):=by rw[k2];omega
    have HN:Hid (qX l (2*d).toNat k=n):=Hh (by rw[HG.out.2.2,if_pos hk00,hn]);clear hn hk00 k2;go_wp2_with fail;have Ag:=fun W=>Em n W (by omega);have Am:Hid ((D6 n).data.toList=kY n/\(D6 n).size=n):=Hh ⟨rfl,wX n⟩;generalize D6 n=sp at *;have An:=Hh q1
    have H5:Hid (∀W,Below w4.drew.heap.size w4.drew W->BW w.heap.size W (w.heap.size+1) (aW l (2*d).toNat fr k)/\aa W w.heap.size #[.slice (some ⟨b,Ab,none⟩) l.length c,.int .i64 d] 103/\Below w.heap.size w W/\W.cell? ⟨b,Ab+k*3+1,none⟩=some (.string tx)):=
     Hh fun W hW=>by
      have Ai:Below w4.heap.size w4 W:=((Below.refl _ w4).drew).trans hW;exact⟨h4.out.1.below Ai,h4.out.2.1.below Ai h4.out.2.1.lt,fo h4.out.2.2 Ai,(Ai.cell (p:=⟨b,Ab+k*3+1,none⟩) Ao).trans An.out⟩
    have Af:∀W,BW w.heap.size W (w.heap.size+1) (aW l (2*d).toNat fr k)/\aa W w.heap.size #[.slice (some ⟨b,Ab,none⟩) l.length c,.int .i64 d] 103/\Below w.heap.size w W/\W.cell? ⟨b,Ab+k*3+1,none⟩=some (.string tx)->
      Calls Tryz.prog 66 #[.pointer (some ⟨w.heap.size+1,0,none⟩),.slice (some ⟨W.heap.size,0,none⟩) 2 2] (W.alloc (.cells #[.string sp,.string tx] 9)) fun e w'=>e=.returned (.tuple #[])/\BW w.heap.size w' (w.heap.size+1) (aW l (2*d).toNat fr (k+1))/\aa w' w.heap.size #[.slice (some ⟨b,Ab,none⟩) l.length c,.int .i64 d] 103/\Below w.heap.size w w':=fun W ⟨g1,g2,g3,g4⟩=>by
     have hA:Below W.heap.size W (W.alloc (.cells #[.string sp,.string tx] 9)):=(Below.refl _ W).alloc lz _;have Ah:iP [sp,tx]=kY n++tx.data.toList:=by simp[iP,Am.out.1]
     have Ak:=HG.out.2.1;have hsz:=Ar.out;rw[HN.out] at Ak;refine (wu [sp,tx] (g1.below hA) (aa.new W #[.string sp,.string tx] 9) (by rw[Ah];rw[Al.out,List.length_append] at Ak;omega) (by simp)).mono ?_;rintro e w' ⟨rfl,h5,h6⟩;refine⟨rfl,?_,h6.cells (g2.below hA g2.lt) (by omega) (by decide),(g3.trans (hA.mono g3.size)).trans h6.b⟩;rw[HG.out.1,HN.out,Al.out,<-Ah];exact h5
    clear Ap
    go_region_held3 (fun w'=>w'.cell? ⟨w.heap.size,0,none⟩=some (.slice (some ⟨b,Ab,none⟩) l.length c)/\w'.cell? ⟨b,Ab+k*3+1,none⟩=some (.string tx)) (first|(with_reducible exact⟨Aa,q1⟩)|(with_reducible exact⟨g60,g61⟩)|(with_reducible exact⟨g50,g51⟩)|go_keep) (first
     |(go_at_call 66;(refine (Af _ hx5).mono ?_);rintro _ w6 ⟨rfl,h6⟩;have g60:=h6.2.1.cell 0 _ rfl;have g61:=HQ.out w6 h6.2.2)
     |(go_at_call 111;(with_reducible refine (Ag _).mono ?_);rintro _ w5 ⟨rfl,hb5⟩;have hx5:=H5.out w5 hb5;have g50:=hx5.2.1.cell 0 _ rfl;have g51:=hx5.2.2.2;have A2:=hx5.2.1.lt))
    all_goals
     have Aq:=Hh h6;clear h6 H5 Af Ag Am An h4 Al HN HG q1 Aa Ac Ad Ae;go_wp2_with fail;go_roundw
     case rel=>exact⟨k+1,by omega,hkl,by go_num,Aq.out⟩
     case measure=>simp[intOf];omega
   ·have e0:((k:Int)==0)=false:=by simpa using hk00
    obtain⟨n,hn⟩:=exq (tZ l k);rw[<-hn] at Ap ⊢;have HN:Hid (qX l (2*d).toNat k=n):=Hh (by rw[HG.out.2.2,if_neg hk00,hn]);clear hn hk00;go_wp2_with fail;have Ag:=fun W=>Em n W (by omega);have Am:Hid ((D6 n).data.toList=kY n/\(D6 n).size=n):=Hh ⟨rfl,wX n⟩;generalize D6 n=sp at *;have An:=Hh q1
    have H5:Hid (∀W,Below w4.drew.heap.size w4.drew W->BW w.heap.size W (w.heap.size+1) (aW l (2*d).toNat fr k)/\aa W w.heap.size #[.slice (some ⟨b,Ab,none⟩) l.length c,.int .i64 d] 103/\Below w.heap.size w W/\W.cell? ⟨b,Ab+k*3+1,none⟩=some (.string tx)):=
     Hh fun W hW=>by
      have Ai:Below w4.heap.size w4 W:=((Below.refl _ w4).drew).trans hW;exact⟨h4.out.1.below Ai,h4.out.2.1.below Ai h4.out.2.1.lt,fo h4.out.2.2 Ai,(Ai.cell (p:=⟨b,Ab+k*3+1,none⟩) Ao).trans An.out⟩
    have Af:∀W,BW w.heap.size W (w.heap.size+1) (aW l (2*d).toNat fr k)/\aa W w.heap.size #[.slice (some ⟨b,Ab,none⟩) l.length c,.int .i64 d] 103/\Below w.heap.size w W/\W.cell? ⟨b,Ab+k*3+1,none⟩=some (.string tx)->
      Calls Tryz.prog 66 #[.pointer (some ⟨w.heap.size+1,0,none⟩),.slice (some ⟨W.heap.size,0,none⟩) 2 2] (W.alloc (.cells #[.string sp,.string tx] 9)) fun e w'=>e=.returned (.tuple #[])/\BW w.heap.size w' (w.heap.size+1) (aW l (2*d).toNat fr (k+1))/\aa w' w.heap.size #[.slice (some ⟨b,Ab,none⟩) l.length c,.int .i64 d] 103/\Below w.heap.size w w':=fun W ⟨g1,g2,g3,g4⟩=>by
     have hA:Below W.heap.size W (W.alloc (.cells #[.string sp,.string tx] 9)):=(Below.refl _ W).alloc lz _;have Ah:iP [sp,tx]=kY n++tx.data.toList:=by simp[iP,Am.out.1]
     have Ak:=HG.out.2.1;have hsz:=Ar.out;rw[HN.out] at Ak;refine (wu [sp,tx] (g1.below hA) (aa.new W #[.string sp,.string tx] 9) (by rw[Ah];rw[Al.out,List.length_append] at Ak;omega) (by simp)).mono ?_;rintro e w' ⟨rfl,h5,h6⟩;refine⟨rfl,?_,h6.cells (g2.below hA g2.lt) (by omega) (by decide),(g3.trans (hA.mono g3.size)).trans h6.b⟩;rw[HG.out.1,HN.out,Al.out,<-Ah];exact h5
    clear Ap
    go_region_held3 (fun w'=>w'.cell? ⟨w.heap.size,0,none⟩=some (.slice (some ⟨b,Ab,none⟩) l.length c)/\w'.cell? ⟨b,Ab+k*3+1,none⟩=some (.string tx)) (first|(with_reducible exact⟨Aa,q1⟩)|(with_reducible exact⟨g60,g61⟩)|(with_reducible exact⟨g50,g51⟩)|go_keep) (first
     |(go_at_call 66;(refine (Af _ hx5).mono ?_);rintro _ w6 ⟨rfl,h6⟩;have g60:=h6.2.1.cell 0 _ rfl;have g61:=HQ.out w6 h6.2.2)
     |(go_at_call 111;(with_reducible refine (Ag _).mono ?_);rintro _ w5 ⟨rfl,hb5⟩;have hx5:=H5.out w5 hb5;have g50:=hx5.2.1.cell 0 _ rfl;have g51:=hx5.2.2.2;have A2:=hx5.2.1.lt))
    all_goals
     have Aq:=Hh h6;clear h6 H5 Af Ag Am An h4 Al HN HG q1 Aa Ac Ad Ae;go_wp2_with fail;go_roundw
     case rel=>exact⟨k+1,by omega,hkl,by go_num,Aq.out⟩
     case measure=>simp[intOf];omega
  ·obtain rfl:k=en:=by omega
   obtain⟨-,cs,h2,hB⟩:=HW.out.1;have hS:=sj wr hB (by omega) (by have:=Ar.out;omega);have HB:=Hh hb;clear hB hW Aj hb;go_wp2_with fail;refine hS.mono ?_;rintro _ w5 ⟨rfl,hb5,-⟩;have Ay:=Hh (HB.out.trans hb5);clear hS hb5;go_wp2_with fail;go_ret;exact⟨rfl,Ay.out⟩
structure lH where
 x:bP
 cs:List Value
 iv:Value
def zu(B g:Nat)(rb:Option Nat)(v:Value)(C:List lH)(b:Nat):Prop:=B<=b/\b≠g/\rb≠some b/\v.ownBlock≠some b/\∀c∈C,c.iv.ownBlock≠some b
def j4(P:Nat->Prop)(B:Nat)(w:World)(c:lH):Prop:=
 ∃(b:Bool) (n:ByteArray) (e:gu) (ls:List ByteArray) (vo vt:ByteArray) (vk lv:Value) (L:List (bP×List Value)),c.x=.mk b n e ls (L.map (·.1))/\c.cs=[.bool b,.string n,.string vo,.string vt,vk,lv,c.iv]/\
  ae P w e [.string vo,.string vt,vk]/\mo P w lv ls/\w.ownsRow B 54 7 c.iv L.length (L.flatMap (·.2))/\∀s∈L,aN P w s.1 s.2
structure O3(g:Nat)(rb:Option Nat)(v:Value)(C:List lH):Prop where
 vg:v.ownBlock≠some g
 vr:∀b,v.ownBlock=some b->rb≠some b
 rg:rb≠some g
 one:∀c∈C,∀b,c.iv.ownBlock=some b->v.ownBlock≠some b/\b≠g/\rb≠some b
 two:C.Pairwise (fun c d=>∀b,c.iv.ownBlock=some b->d.iv.ownBlock≠some b)
structure ny(B g:Nat)(rb:Option Nat)(w:World)(v:Value)(C:List lH):Prop where
 gl:g<w.heap.size
 rl:∀b,rb=some b->b<w.heap.size
 row:w.ownsRow B 54 7 v C.length (C.flatMap (·.cs))
 apart:O3 g rb v C
 all:∀c∈C,j4 (zu B g rb v C) B w c
def Pj(B g:Nat)(rb:Option Nat)(w:World)(v:Value)(st:List bP):Prop:=∃C,st=C.map (·.x)/\ny B g rb w v C
theorem bJ{base size n:Nat}{e:TypeId}{w w':World}{v:Value}{xs:List Value}(h:w.ownsRow base e size v n xs)(hc:∀k,v.ownBlock=some k->w'.heap[k]?=w.heap[k]?):w'.ownsRow base e size v n xs:=by
 obtain⟨h1,h2⟩:=h;refine⟨h1,?_⟩;rcases h2 with h2|⟨g,cap,cur,rfl,hg0,hg,r⟩
 ·exact .inl h2
 ·exact .inr ⟨g,cap,cur,rfl,hg0,by rw[hc g rfl];exact hg,r⟩
theorem j4.move{P Q:Nat->Prop}{B:Nat}{w w':World}{c:lH}(hs:w.heap.size<=w'.heap.size)(hb:∀k,P k->k<w.heap.size->w'.heap[k]?=w.heap[k]?)(hq:∀k,P k->k<w.heap.size->Q k)
  (hi:∀k,c.iv.ownBlock=some k->w'.heap[k]?=w.heap[k]?) (h:j4 P B w c):j4 Q B w' c:=by
 obtain⟨b,n,e,ls,vo,vt,vk,lv,L,h1,h2,h3,h4,h5,h6⟩:=h;exact⟨b,n,e,ls,vo,vt,vk,lv,L,h1,h2,ae.move hs hb hq e _ h3,h4.move hs hb hq,bJ h5 hi,fun s hm=>aN.move hs hb hq _ _ (h6 s hm)⟩
theorem Km{base:Nat}{e:TypeId}{w:World}{v:Value}{n m:Nat}{xs ys:List Value}(h1:w.ownsRow base e 7 v n xs)(h2:w.ownsRow base e 7 v m ys):n=m/\xs=ys:=by
 obtain⟨a1,a2⟩:=h1;obtain⟨b1,b2⟩:=h2;rcases a2 with ⟨rfl,rfl⟩|⟨g,cap,cur,rfl,-,hg,-,-,-,r⟩
 ·rcases b2 with ⟨-,rfl⟩|⟨g',cap',cur',he,-⟩
  ·exact⟨rfl,(List.eq_nil_of_length_eq_zero (by simpa using a1)).trans (List.eq_nil_of_length_eq_zero (by simpa using b1)).symm⟩
  ·cases he
 ·rcases b2 with ⟨he,-⟩|⟨g',cap',cur',he,-,hg',-,-,-,r'⟩
  ·cases he
  ·cases he
   rw[hg] at hg';cases hg'
   exact⟨rfl,r.symm.trans r'⟩
theorem j4.len{P:Nat->Prop}{B:Nat}{w:World}{c:lH}(h:j4 P B w c):c.cs.length=7:=by
 obtain⟨b,n,e,ls,vo,vt,vk,lv,L,h1,h2,-⟩:=h;rw[h2];rfl
theorem j4.cell6{P:Nat->Prop}{B:Nat}{w:World}{c:lH}(h:j4 P B w c):c.cs[6]?=some c.iv:=by
 obtain⟨b,n,e,ls,vo,vt,vk,lv,L,h1,h2,-⟩:=h;rw[h2];rfl
theorem ny.lt{B g:Nat}{rb:Option Nat}{w:World}{v:Value}{C:List lH}(h:ny B g rb w v C){b:Nat}(hb:v.ownBlock=some b\/∃c∈C,c.iv.ownBlock=some b):B<=b/\b<w.heap.size:=by
 rcases hb with hb|⟨c,hc,hb⟩
 ·exact World.ownsRow.lt h.row b hb
 ·obtain⟨_,_,_,_,_,_,_,_,_,-,-,-,-,h5,-⟩:=h.all c hc
  exact World.ownsRow.lt h5 b hb
theorem ny.keep{B g:Nat}{rb rb':Option Nat}{w w':World}{v:Value}{C:List lH}(h:ny B g rb w v C)(hs:w.heap.size<=w'.heap.size)(hk:∀b,b<w.heap.size->b≠g->rb≠some b->w'.heap[b]?=w.heap[b]?)
  (hr:∀b,rb'=some b->(rb=some b\/w.heap.size<=b)/\b<w'.heap.size):ny B g rb' w' v C:=by
 have Aa:∀b,b<w.heap.size->rb≠some b->rb'≠some b:=fun b hl hn e=>(hr b e).1.elim hn (fun q=>by omega);refine⟨Nat.lt_of_lt_of_le h.gl hs,fun b e=>(hr b e).2,bJ h.row (fun k e=>hk k (h.lt (.inl e)).2 (fun q=>h.apart.vg (by rw[e,q])) (h.apart.vr k e)),⟨h.apart.vg,fun b e=>Aa b (h.lt (.inl e)).2 (h.apart.vr b e),Aa g h.gl h.apart.rg,fun c hc b e=>?_,h.apart.two⟩,fun c hc=>?_⟩
 ·obtain⟨q1,q2,q3⟩:=h.apart.one c hc b e
  exact⟨q1,q2,Aa b (h.lt (.inr ⟨c,hc,e⟩)).2 q3⟩
 ·refine (h.all c hc).move hs (fun k hP hl=>hk k hl hP.2.1 hP.2.2.1) (fun k hP hl=>⟨hP.1,hP.2.1,Aa k hl hP.2.2.1,hP.2.2.2⟩) (fun k e=>?_)
  obtain⟨q1,q2,q3⟩:=h.apart.one c hc k e;exact hk k (h.lt (.inr ⟨c,hc,e⟩)).2 q2 q3
theorem kP:∀(C:List lH),(∀c∈C,c.cs.length=7)->(C.flatMap (·.cs)).length=C.length*7
 |[],_=>rfl
 | c::r,h=>by
  have h1:=h c (by simp);have h2:=kP r (fun d hd=>h d (by simp[hd]));simp only[List.flatMap_cons,List.length_append,List.length_cons,h1,h2];omega
theorem Dp(C:List lH)(c:lH)(h:∀d∈C,d.cs.length=7)(j:Nat):((C++[c]).flatMap (·.cs))[C.length*7+j]?=c.cs[j]?:=by
 rw[List.flatMap_append,List.getElem?_append_right (by rw[kP C h];omega),kP C h,show C.length*7+j-C.length*7=j by omega];simp
theorem K8(C:List lH)(c:lH)(h:∀d∈C,d.cs.length=7)(j:Nat)(u iv:Value)(x:bP):((C++[c]).flatMap (·.cs)).set (C.length*7+j) u=(C++[lH.mk x (c.cs.set j u) iv]).flatMap (·.cs):=by
 rw[List.flatMap_append,List.flatMap_append,List.set_append_right _ _ (by rw[kP C h];omega),kP C h,show C.length*7+j-C.length*7=j by omega];simp
theorem ny.add{B g g2 cap2:Nat}{rb:Option Nat}{w w':World}{v:Value}{C:List lH}{c:lH}{k:Nat}{ts xs:List Value}{x:bP}(h:ny B g rb w v (C++[c]))(hx:aN (zu B g rb v (C++[c])) w x xs)
  (ht:w.ownsRow B 54 7 c.iv k ts) (h1:w'.ownsRow B 54 7 (.slice (some ⟨g2,0,none⟩) (k+1) cap2) (k+1) (ts++xs))
  (h2:w'.ownsRow B 54 7 v (C.length+1) (((C++[c]).flatMap (·.cs)).set (C.length*7+6) (.slice (some ⟨g2,0,none⟩) (k+1) cap2)))
  (h3:c.iv.ownBlock=some g2\/w.heap.size<=g2) (hs:w.heap.size<=w'.heap.size) (hf:∀b,b<w.heap.size->v.ownBlock≠some b->c.iv.ownBlock≠some b->w'.heap[b]?=w.heap[b]?) :
  ny B g rb w' v (C++[⟨c.x.add x,c.cs.set 6 (.slice (some ⟨g2,0,none⟩) (k+1) cap2),.slice (some ⟨g2,0,none⟩) (k+1) cap2⟩]):=by
 have h7:∀d∈C,d.cs.length=7:=fun d hd=>(h.all d (by simp[hd])).len
 have hP:∀b,zu B g rb v (C++[c]) b->b<w.heap.size->zu B g rb v (C++[⟨c.x.add x,c.cs.set 6 (.slice (some ⟨g2,0,none⟩) (k+1) cap2),.slice (some ⟨g2,0,none⟩) (k+1) cap2⟩]) b:=fun b hb hl=>by
  refine⟨hb.1,hb.2.1,hb.2.2.1,hb.2.2.2.1,fun d hd=>?_⟩;rcases List.mem_append.1 hd with hd|hd
  ·exact hb.2.2.2.2 d (by simp[hd])
  ·simp at hd
   subst hd;intro e;simp only[Value.ownBlock,Option.some.injEq] at e;subst e;exact h3.elim (fun q=>hb.2.2.2.2 c (by simp) q) (fun q=>by omega)
 have hC:∀b,zu B g rb v (C++[c]) b->b<w.heap.size->w'.heap[b]?=w.heap[b]?:=fun b hb hl=>hf b hl hb.2.2.2.1 (hb.2.2.2.2 c (by simp));have Aa:=h.apart.one c (by simp);have Ab:v.ownBlock≠some g2/\g2≠g/\rb≠some g2\/w.heap.size<=g2:=h3.imp (fun e=>Aa g2 e) id;refine⟨Nat.lt_of_lt_of_le h.gl hs,fun b e=>Nat.lt_of_lt_of_le (h.rl b e) hs,by rw[List.length_append];rw[K8 C c h7 6 _ (.slice (some ⟨g2,0,none⟩) (k+1) cap2) (c.x.add x)] at h2;exact h2,⟨h.apart.vg,h.apart.vr,h.apart.rg,fun d hd b e=>?_,?_⟩,fun d hd=>?_⟩
 ·rcases List.mem_append.1 hd with hd|hd
  ·exact h.apart.one d (by simp[hd]) b e
  ·simp at hd
   subst hd;simp only[Value.ownBlock,Option.some.injEq] at e;subst e;refine Ab.elim id (fun q=>⟨fun e=>?_,fun e=>?_,fun e=>?_⟩)
   ·have:=(h.lt (.inl e)).2;omega
   ·have:=h.gl;omega
   ·have:=h.rl _ e;omega
 ·have h2:=h.apart.two
  rw[List.pairwise_append] at h2 ⊢;refine⟨h2.1,by simp,fun d hd d2 hd2 b e=>?_⟩;simp at hd2
  subst hd2;intro e2;simp only[Value.ownBlock,Option.some.injEq] at e2;subst e2;exact h3.elim (fun q=>h2.2.2 d hd c (by simp) _ e q) (fun q=>by have:=(h.lt (.inr ⟨d,by simp[hd],e⟩)).2;omega)
 ·rcases List.mem_append.1 hd with hd|hd
  ·refine (h.all d (by simp[hd])).move hs hC hP (fun b e=>?_)
   have h2:=h.apart.two;rw[List.pairwise_append] at h2;exact hf b (h.lt (.inr ⟨d,by simp[hd],e⟩)).2 (h.apart.one d (by simp[hd]) b e).1 (h2.2.2 d hd c (by simp) b e)
  ·simp at hd
   subst hd;obtain⟨bb,n,e,ls,vo,vt,vk,lv,L,q1,q2,q3,q4,q5,q6⟩:=h.all c (by simp);obtain⟨rfl,rfl⟩:L.length=k/\L.flatMap (·.2)=ts:=Km q5 ht;refine⟨bb,n,e,ls,vo,vt,vk,lv,L++[(x,xs)],?_,?_,ae.move hs hC hP e _ q3,q4.move hs hC hP,by simpa using h1,fun s hm=>?_⟩
   ·rw[q1];simp[bP.add]
   ·rw[q2];rfl
   ·rcases List.mem_append.1 hm with hm|hm
    ·exact aN.move hs hC hP _ _ (q6 s hm)
    ·simp at hm
     subst hm;exact aN.move hs hC hP _ _ hx
abbrev eB:=Option Addr×Nat×Nat
def bQ(s:eB):Value:=.slice s.1 s.2.1 s.2.2
def nM(d:eB×kD):List Value:=[bQ d.1,.int .i64 d.2.lo,.int .i64 d.2.hi,.int .i64 d.2.dep]
theorem Tryz.infoRowL:(Tryz.prog.info? 110).map (fun i=>(i.zero,i.size,i.bytes))=some (some (.agg #[.slice none 0 0,.int .i64 0,.int .i64 0,.int .i64 0]),4,48):=by kernel_rfl
theorem AU{base n sz:Nat}{E:TypeId}{w:World}{v:Value}{xs:List Value}(h:w.ownsRow base E sz v n xs):∀k,v.ownBlock=some k->∃cs,w.heap[k]?=some (.cells cs E (0,0)):=by
 intro k hk;rcases h.2 with ⟨rfl,-⟩|⟨g,cap,cur,rfl,-,hg,-⟩
 ·cases hk
 ·cases hk;exact⟨cur,hg⟩
theorem dA{base n sz g:Nat}{E t:TypeId}{w:World}{v:Value}{xs:List Value}{cs:Array Value}(h:w.ownsRow base E sz v n xs)(hc:aa w g cs t)(ht:E≠t):∀k,v.ownBlock=some k->k≠g:=by
 rintro k hk rfl;obtain⟨Aa,h2⟩:=AU h k hk;have h3:w.heap[k]?=some (.cells cs t (0,0)):=hc;rw[h2] at h3;simp only[Option.some.injEq,Obj.cells.injEq] at h3;exact ht h3.2.1
theorem jR{base base2 n n2 sz sz2:Nat}{E t:TypeId}{w:World}{v u:Value}{xs ys:List Value}(h:w.ownsRow base E sz v n xs)(h2:w.ownsRow base2 t sz2 u n2 ys)(ht:E≠t):∀k,v.ownBlock=some k->u.ownBlock≠some k:=by
 intro k hk hk2;obtain⟨cs,h3⟩:=AU h k hk;obtain⟨Aa,h4⟩:=AU h2 k hk2;rw[h3] at h4;simp only[Option.some.injEq,Obj.cells.injEq] at h4;exact ht h4.2.1
structure qN(B gr go gl:Nat)(w:World)(lv:Value)(D:List (eB×kD))(cur:eB)(toks:List ag)(fr hi dp o:Int):Prop where
 r:aa w gr #[bQ cur,.int .i64 fr,.int .i64 hi,.int .i64 dp] 110
 o:aa w go #[.int .i64 o] 3
 l:aa w gl #[lv] 95
 own:w.ownsRow B 110 4 lv D.length (D.flatMap nM)
 lg:lv.ownBlock≠some gr
 tk:aI B w (bQ cur) toks
 fin:∀d∈D,aI B w (bQ d.1) d.2.toks/\∀k,(bQ d.1).ownBlock=some k->(bQ cur).ownBlock≠some k
 le:B<=gr/\B<=go/\B<=gl
section
variable {B gr go gl:Nat} {w w':World} {lv:Value} {D:List (eB×kD)} {cur:eB} {toks:List ag} {fr hi dp o:Int}
theorem tL{v:Value}{l:List ag}(h:aI B w v l):∀k,v.ownBlock=some k->k<w.heap.size:=fun k hk=>(World.ownsRow.lt h k hk).2
theorem qN.moved(h:qN B gr go gl w lv D cur toks fr hi dp o)(hk:∀k,k<w.heap.size->k≠gr->k≠go->k≠gl->w'.heap[k]?=w.heap[k]?){fr' hi' dp' o':Int}
  (hr:aa w' gr #[bQ cur,.int .i64 fr',.int .i64 hi',.int .i64 dp'] 110) (ho:aa w' go #[.int .i64 o'] 3) (hl:aa w' gl #[lv] 95):qN B gr go gl w' lv D cur toks fr' hi' dp' o':=by
 have hT:∀v l,aI B w v l->aI B w' v l:=fun v l hv=>hv.moved fun k e=>hk k (tL hv k e) (dA hv h.r (by decide) k e) (dA hv h.o (by decide) k e) (dA hv h.l (by decide) k e);refine⟨hr,ho,hl,bJ h.own (fun k e=>hk k (World.ownsRow.lt h.own k e).2 (fun q=>h.lg (by rw[e,q])) (dA h.own h.o (by decide) k e) (dA h.own h.l (by decide) k e)),h.lg,hT _ _ h.tk,fun d hd=>⟨hT _ _ (h.fin d hd).1,(h.fin d hd).2⟩,h.le⟩
theorem qN.below(h:qN B gr go gl w lv D cur toks fr hi dp o)(hb:Below w.heap.size w w'):qN B gr go gl w' lv D cur toks fr hi dp o:=
 h.moved (fun k hk _ _ _=>hb.block k hk) (h.r.below hb h.r.lt) (h.o.below hb h.o.lt) (h.l.below hb h.l.lt)
theorem qN.ne(h:qN B gr go gl w lv D cur toks fr hi dp o):gr≠go/\gr≠gl/\go≠gl:=by
 have hd:∀{g g2:Nat} {cs cs2:Array Value} {t t2:TypeId},aa w g cs t->aa w g2 cs2 t2->t≠t2->g≠g2:=by
  rintro g g2 cs cs2 t t2 h1 h2 ht rfl;have Ab:w.heap[g]?=some (.cells cs t (0,0)):=h1;have Aa:w.heap[g]?=some (.cells cs2 t2 (0,0)):=h2;rw[Ab] at Aa;simp only[Option.some.injEq,Obj.cells.injEq] at Aa;exact ht Aa.2.1
 exact⟨hd h.r h.o (by decide),hd h.r h.l (by decide),hd h.o h.l (by decide)⟩
theorem qN.setHi(h:qN B gr go gl w lv D cur toks fr hi dp o)(x:Int):qN B gr go gl (w.setCell ⟨gr,2,none⟩ (.int .i64 x)) lv D cur toks fr x dp o:=by
 obtain⟨n1,n2,n3⟩:=h.ne;exact h.moved (fun k _ hk _ _=>Below.heap_setCell _ _ _ _ hk) (h.r.set 2 (by simp) (.int .i64 x)) (h.o.setOther _ _ n1) (h.l.setOther _ _ n2)
theorem qN.setDp(h:qN B gr go gl w lv D cur toks fr hi dp o)(x:Int):qN B gr go gl (w.setCell ⟨gr,3,none⟩ (.int .i64 x)) lv D cur toks fr hi x o:=by
 obtain⟨n1,n2,n3⟩:=h.ne;exact h.moved (fun k _ hk _ _=>Below.heap_setCell _ _ _ _ hk) (h.r.set 3 (by simp) (.int .i64 x)) (h.o.setOther _ _ n1) (h.l.setOther _ _ n2)
theorem qN.setO(h:qN B gr go gl w lv D cur toks fr hi dp o)(x:Int):qN B gr go gl (w.setCell ⟨go,0,none⟩ (.int .i64 x)) lv D cur toks fr hi dp x:=by
 obtain⟨n1,n2,n3⟩:=h.ne;exact h.moved (fun k _ _ hk _=>Below.heap_setCell _ _ _ _ hk) (h.r.setOther _ _ n1.symm) (h.o.set 0 (by simp) (.int .i64 x)) (h.l.setOther _ _ n3)
theorem gF{w:World}{ops:Array Oper}{rest:List Oper}{p:Oper}{a:Act}{Q:Exit->Act->World->Prop}(hgd:p.guard=none)(s x:Operand)
  (hop:p.op=.call { callee:=.builtin .append,args:=#[s,x],argTypes:=#[95,95] }) (B:Nat) (lv:Value) (D:List (eB×kD)) (d:eB×kD) (hs:a.eval s=lv)
  (hown:w.ownsRow B 110 4 lv D.length (D.flatMap nM)) (g:Nat) (hx:a.eval x=.slice (some ⟨g,0,none⟩) 1 1) (hc:aa w g #[bQ d.1,.int .i64 d.2.lo,.int .i64 d.2.hi,.int .i64 d.2.dep] 110)
  (hD:D.length<=1000000) (hbase:B<=w.heap.size) (H:Nat) (hH:w.heap.size=H)
  (hK:∀g2 c2 w',w'.ownsRow B 110 4 (.slice (some ⟨g2,0,none⟩) (D.length+1) c2) (D.length+1) (D.flatMap nM++nM d)->w.grownBy w' lv.ownBlock->(lv.ownBlock=some g2\/g2=H)->g2<w'.heap.size->
   wpList Tryz.prog ops Q rest (a.put p.dst (.slice (some ⟨g2,0,none⟩) (D.length+1) c2)) w'):wpList Tryz.prog ops Q (p::rest) a w:=by
 obtain⟨i,Aa,Ab,Ac,Ad⟩:=info_parts Tryz.infoRowL;refine wpList_append_lies w hgd s x 95 hop B 110 i _ 4 48 Tryz.underlying95 Aa Ab Ac Ad rfl (by decide) lv D.length (D.flatMap nM) hs hown ⟨g,0,none⟩ 1 1 (nM d) hx rfl ?_ ?_ (by omega) (by unfold maxLen;omega) (by omega) hbase H hH hK
 ·intro j u hu
  rw[Addr.add_lit,Nat.zero_add];exact hc.cell _ _ (by simpa [nM] using hu)
 ·intro u hu
  simp only[nM,List.mem_cons,List.not_mem_nil,or_false] at hu;rcases hu with rfl|rfl|rfl|rfl<;>rfl
theorem qN.cur_fresh(h:qN B gr go gl w lv D cur toks fr hi dp o):∀k,(bQ cur).ownBlock=some k->k<w.heap.size/\k≠gr/\k≠go/\k≠gl/\lv.ownBlock≠some k:=fun k e=>
 ⟨tL h.tk k e,dA h.tk h.r (by decide) k e,dA h.tk h.o (by decide) k e,dA h.tk h.l (by decide) k e,jR h.tk h.own (by decide) k e⟩
theorem I6(D:List (eB×kD))(x:eB×kD):(D++[x]).flatMap nM=D.flatMap nM++nM x:=by simp
theorem qN.push(h:qN B gr go gl w lv D cur toks fr hi dp o){g2 c2:Nat}(hg:w.grownBy w' lv.ownBlock)(hown:w'.ownsRow B 110 4 (.slice (some ⟨g2,0,none⟩) (D.length+1) c2) (D.length+1) (D.flatMap nM++nM (cur,⟨toks,fr,hi,dp⟩)))
  (hat:lv.ownBlock=some g2\/w.heap.size<=g2) (x:Int) :
  qN B gr go gl (((((w'.setCell ⟨gl,0,none⟩ (.slice (some ⟨g2,0,none⟩) (D.length+1) c2)).setCell ⟨gr,0,none⟩ (.slice none 0 0)).setCell ⟨gr,1,none⟩ (.int .i64 x)).setCell ⟨gr,2,none⟩ (.int .i64 0)).setCell ⟨gr,3,none⟩ (.int .i64 0))
   (.slice (some ⟨g2,0,none⟩) (D.length+1) c2) (D++[(cur,⟨toks,fr,hi,dp⟩)]) (none,0,0) [] x 0 0 o:=by
 obtain⟨n1,n2,n3⟩:=h.ne;have Ab:lv.ownBlock≠some gr:=h.lg;have Ae:aa w' gr _ _:=h.r.kept hg (fun e=>Ab e.symm);have Ad:aa w' go _ _:=h.o.kept hg (fun e=>dA h.own h.o (by decide) go e.symm rfl);have Ac:aa w' gl _ _:=h.l.kept hg (fun e=>dA h.own h.l (by decide) gl e.symm rfl)
 have Aa:g2≠gr:=by
  rcases hat with e|e
  ·rintro rfl;exact Ab e
  ·have:=h.r.lt;omega
 have hT:∀v l,aI B w v l->aI B (((((w'.setCell ⟨gl,0,none⟩ (.slice (some ⟨g2,0,none⟩) (D.length+1) c2)).setCell ⟨gr,0,none⟩ (.slice none 0 0)).setCell ⟨gr,1,none⟩ (.int .i64 x)).setCell ⟨gr,2,none⟩ (.int .i64 0)).setCell ⟨gr,3,none⟩ (.int .i64 0)) v l:=fun v l hv=>
  hv.moved fun k e=>by
   have e1:k≠gr:=dA hv h.r (by decide) k e;have e2:k≠gl:=dA hv h.l (by decide) k e;have e3:=jR hv h.own (by decide) k e;rw[Below.heap_setCell _ _ _ _ (by exact e1),Below.heap_setCell _ _ _ _ (by exact e1),Below.heap_setCell _ _ _ _ (by exact e1),Below.heap_setCell _ _ _ _ (by exact e1),Below.heap_setCell _ _ _ _ (by exact e2)];exact hg.block k (tL hv k e) (fun q=>e3 q.symm)
 have s0:=(Ae.setOther ⟨gl,0,none⟩ (.slice (some ⟨g2,0,none⟩) (D.length+1) c2) (by exact n2.symm));refine⟨(((s0.set 0 (by simp) (.slice none 0 0)).set 1 (by simp) (.int .i64 x)).set 2 (by simp) (.int .i64 0)).set 3 (by simp) (.int .i64 0),?_,?_,?_,?_,aI.nil,?_,h.le⟩
 ·exact ((((Ad.setOther _ _ n3.symm).setOther _ _ n1).setOther _ _ n1).setOther _ _ n1).setOther _ _ n1
 ·exact ((((Ac.set 0 (by simp) _).setOther _ _ n2).setOther _ _ n2).setOther _ _ n2).setOther _ _ n2
 ·rw[I6,List.length_append,List.length_singleton]
  refine bJ hown (fun k e=>?_);cases e
  have e2:g2≠gl:=dA hown Ac (by decide) g2 rfl;rw[Below.heap_setCell _ _ _ _ (by exact Aa),Below.heap_setCell _ _ _ _ (by exact Aa),Below.heap_setCell _ _ _ _ (by exact Aa),Below.heap_setCell _ _ _ _ (by exact Aa),Below.heap_setCell _ _ _ _ (by exact e2)]
 ·intro e
  exact Aa (by simpa [Value.ownBlock] using e)
 ·intro d hd
  rcases List.mem_append.1 hd with hd|hd
  ·exact⟨hT _ _ (h.fin d hd).1,fun k _ e=>by cases e⟩
  ·rw[List.mem_singleton.1 hd]
   exact⟨hT _ _ h.tk,fun k _ e=>by cases e⟩
theorem qN.tok(h:qN B gr go gl w lv D cur toks fr hi dp o){t:ag}{gb cap:Nat}(hg:w.grownBy w' (bQ cur).ownBlock)(hown:aI B w' (.slice (some ⟨gb,0,none⟩) (toks.length+1) cap) (toks++[t]))(hat:(bQ cur).ownBlock=some gb\/w.heap.size<=gb) :
  qN B gr go gl (w'.setCell ⟨gr,0,none⟩ (.slice (some ⟨gb,0,none⟩) (toks.length+1) cap)) lv D (some ⟨gb,0,none⟩,toks.length+1,cap) (toks++[t]) fr hi dp o:=by
 obtain⟨n1,n2,n3⟩:=h.ne;have hc:=h.cur_fresh;have Aa:aa w' gr _ _:=h.r.kept hg (fun e=>(hc gr e.symm).2.1 rfl);have Ad:aa w' go _ _:=h.o.kept hg (fun e=>(hc go e.symm).2.2.1 rfl);have Ac:aa w' gl _ _:=h.l.kept hg (fun e=>(hc gl e.symm).2.2.2.1 rfl);have Ab:gb≠gr:=dA hown Aa (by decide) gb rfl;refine⟨Aa.set 0 (by simp) _,Ad.setOther _ _ n1,Ac.setOther _ _ n2,?_,h.lg,?_,?_,h.le⟩
 ·refine bJ h.own (fun k e=>?_)
  rw[Below.heap_setCell _ _ _ _ (by intro q;exact h.lg (by rw[e];exact congrArg some q))];exact hg.block k (World.ownsRow.lt h.own k e).2 (fun q=>(hc k q.symm).2.2.2.2 e)
 ·refine hown.moved (fun k e=>?_)
  cases e
  exact Below.heap_setCell _ _ _ _ (by exact Ab)
 ·intro d hd
  obtain⟨f1,f2⟩:=h.fin d hd;refine⟨f1.moved fun k e=>?_,fun k e q=>?_⟩
  ·rw[Below.heap_setCell _ _ _ _ (by exact dA f1 h.r (by decide) k e)]
   exact hg.block k (tL f1 k e) (fun q=>f2 k e q.symm)
  ·have q:gb=k:=by simpa [bQ,Value.ownBlock] using q
   subst q;rcases hat with hat|hat
   ·exact f2 _ e hat
   ·have:=tL f1 _ e;omega
end
def Pv(B gr go gl:Nat)(D:List (eB×kD))(o:Int)(x:Int)(w:World)(e:Ending)(w':World):Prop:=
 e=.returned (.tuple #[])/\(∃lv,qN B gr go gl w' lv D (none,0,0) [] (x+1) 0 0 o)/\Below B w w'
theorem vF{B gr go gl:Nat}{w:World}{lv:Value}{D:List (eB×kD)}{cur:eB}{toks:List ag}{fr hi dp o:Int}(h:qN B gr go gl w lv D cur toks fr hi dp o)(x:Int)
  (hx : -1<=x/\x<=1000000000) (ho : -1000000<=o/\o<=1000000) (hD:D.length<=1000000) (hT:toks.length<=1000000) :
  Calls Tryz.prog 100 #[.int .i64 x,.pointer (some ⟨gr,0,none⟩),.pointer (some ⟨go,0,none⟩),.pointer (some ⟨gl,0,none⟩)] w (Pv B gr go gl (D++[(cur,ui o toks fr x)]) (dD o toks) x w):=by
 have Ar:B<=w.heap.size:=by have:=h.le;have:=h.r.lt;omega
 have h1:=h.setHi x;have b1:Below B w (w.setCell ⟨gr,2,none⟩ (.int .i64 x)):=(Below.refl _ _).setCell (by exact h.le.1) _;have Ap:=Bb _ _ toks fr x dp h1.tk.toks hT;obtain⟨n1,n2,n3⟩:=h.ne;have As:=n1.symm;have At:=n2.symm;have Au:=n3.symm;have k1:IntKind.i64.wrap (o-1)=o-1:=IntWalk.i64_in _ (by omega);have k2:IntKind.i64.wrap (o+1)=o+1:=IntWalk.i64_in _ (by omega);have k3:IntKind.i64.wrap (o-1+1)=o:=by rw[IntWalk.i64_in _ (by omega)];omega
 have k4:IntKind.i64.wrap (x+1)=x+1:=IntWalk.i64_in _ (by omega);obtain⟨a,n,c⟩:=cur
 have Aq:kZ toks=true/\dR o toks=o-1\/kZ toks=false/\dR o toks=o:=by
  unfold dR;cases kZ toks
  ·exact .inr ⟨rfl,rfl⟩
  ·exact .inl ⟨rfl,rfl⟩
 have Ao:iK toks=true/\dD o toks=dR o toks+1\/iK toks=false/\dD o toks=dR o toks:=by
  unfold dD;cases iK toks
  ·exact .inr ⟨rfl,rfl⟩
  ·exact .inl ⟨rfl,rfl⟩
 unfold ui;have H1:=Jh h1 b1;have hr:=h.r;have ho:=h.o;have hl:=h.l;have lr:=hr.lt;have lo:=ho.lt;have ll:=hl.lt;obtain⟨Aa,Ag,Ad,Ah,Ae,Ai,Af,Aj⟩:=hr.n4 rfl;obtain⟨Ak,Al⟩:=ho.n1 rfl;obtain⟨Ab,Ac⟩:=hl.n1 rfl;clear hr ho hl;simp only[bQ] at Ap Aa;clear h h1 b1;go_enter Tryz.func100,Tryz.ntmps100;go_wp2_with fail;refine Ap.mono ?_;rintro _ w2 ⟨rfl,hb2⟩;have H2:=Jh (H1.out.1.below hb2) (H1.out.2.trans (hb2.mono (by have:=H1.out.2.size;omega)));clear Ap hb2 H1;clear Aa Ad Ae Af Ag Ah Ai Aj Ak Al Ab Ac lr lo ll;rcases Aq with ⟨ec,ed⟩|⟨ec,ed⟩
 ·rw[ed] at Ao
  have H3:=Jh ((H2.out.1.setO (o-1)).setDp (o-1)) ((H2.out.2.setCell (p:=⟨go,0,none⟩) H2.out.1.le.2.1 (.int .i64 (o-1))).setCell (p:=⟨gr,3,none⟩) H2.out.1.le.1 (.int .i64 (o-1)));have An:=vJ _ _ toks fr x (o-1) H3.out.1.tk.toks hT;have HD:=Hh ed;have hr:=H2.out.1.r;have ho:=H2.out.1.o;have hl:=H2.out.1.l;have lr:=hr.lt;have lo:=ho.lt;have ll:=hl.lt;obtain⟨Aa,Ag,Ad,Ah,Ae,Ai,Af,Aj⟩:=hr.n4 rfl;obtain⟨Ak,Al⟩:=ho.n1 rfl;obtain⟨Ab,Ac⟩:=hl.n1 rfl;clear hr ho hl;simp only[bQ] at An Aa;rw[ec];clear ed ec;go_wp2_with fail;refine An.mono ?_;rintro _ w4 ⟨rfl,hb4⟩;have H4:=Jh (H3.out.1.below hb4) (H3.out.2.trans (hb4.mono (by have:=H3.out.2.size;omega)));clear An hb4 H3 H2;clear Aa Ad Ae Af Ag Ah Ai Aj Ak Al Ab Ac lr lo ll;rcases Ao with ⟨ec,ed⟩|⟨ec,ed⟩
  ·have H5:=Jh (H4.out.1.setO o) (H4.out.2.setCell (p:=⟨go,0,none⟩) H4.out.1.le.2.1 (.int .i64 o))
   have HE:Hid (dR o toks=o-1/\dD o toks=o):=Hh ⟨HD.out,by omega⟩;have hr:=H4.out.1.r;have ho:=H4.out.1.o;have hl:=H4.out.1.l;have lr:=hr.lt;have lo:=ho.lt;have ll:=hl.lt;obtain⟨Aa,Ag,Ad,Ah,Ae,Ai,Af,Aj⟩:=hr.n4 rfl;obtain⟨Ak,Al⟩:=ho.n1 rfl;obtain⟨Ab,Ac⟩:=hl.n1 rfl;clear hr ho hl;rw[ec];clear ec ed;go_wp2_with (with_reducible first|refine aA ?_)
   refine Stop.out ?_;refine gF rfl _ _ rfl B lv D ((a,n,c),⟨toks,fr,x,o-1⟩) rfl (by exact H5.out.1.own.alloc _) w4.heap.size (by rfl) (by have q:=aa.new (w4.setCell ⟨go,0,none⟩ (.int .i64 o)) #[bQ (a,n,c),.int .i64 fr,.int .i64 x,.int .i64 (o-1)] 110;(try simp only[World.size_setCell] at q);exact q) hD (by have:=H5.out.1.r.lt;have:=H5.out.1.le;simp only[World.size_alloc,World.size_setCell] at *;omega) ((w4.setCell ⟨go,0,none⟩ (.int .i64 o)).heap.size+1) (by simp) ?_;intro g2 c2 w6 ho6 hg6 hat6 hlt6;have Am:=(World.grownBy_alloc (w4.setCell ⟨go,0,none⟩ (.int .i64 o)) (.cells #[bQ (a,n,c),.int .i64 fr,.int .i64 x,.int .i64 (o-1)] 110) lv.ownBlock).trans hg6;have HP:=Hh (H5.out.1.push Am ho6 (hat6.imp id (fun q=>by omega)) (x+1));have hr:=H5.out.1.r.kept Am (fun e=>H5.out.1.lg e.symm);have hl:=H5.out.1.l.kept Am (fun e=>dA H5.out.1.own H5.out.1.l (by decide) gl e.symm rfl);have HB:=Hh (H5.out.2.grown Am (by have:=H5.out.1.r.lt;have:=H5.out.1.le;omega) (fun k e=>(World.ownsRow.lt H5.out.1.own k e).1));have HL:=Hh H5.out.1.le;clear Aa Ad Ae Af Ag Ah Ai Aj Ak Al Ab Ac lr lo ll;have lr:=hr.lt;have ll:=hl.lt;obtain⟨Aa,Ag,Ad,Ah,Ae,Ai,Af,Aj⟩:=hr.n4 rfl
   obtain⟨Ab,Ac⟩:=hl.n1 rfl;clear hr hl Am ho6 hg6 hat6 hlt6;go_wp2_with fail;refine bodyPost_end (v:=.tuple #[]) (by simp[results,Tryz.results100,go_sem]) rfl ?_;rw[HE.out.1,HE.out.2];exact⟨rfl,⟨_,HP.out⟩,((((HB.out.setCell (by exact HL.out.2.2) _).setCell (by exact HL.out.1) _).setCell (by exact HL.out.1) _).setCell (by exact HL.out.1) _).setCell (by exact HL.out.1) _⟩
  ·have H5:=H4
   have HE:Hid (dR o toks=o-1/\dD o toks=o-1):=Hh ⟨HD.out,ed⟩;have hr:=H4.out.1.r;have ho:=H4.out.1.o;have hl:=H4.out.1.l;have lr:=hr.lt;have lo:=ho.lt;have ll:=hl.lt;obtain⟨Aa,Ag,Ad,Ah,Ae,Ai,Af,Aj⟩:=hr.n4 rfl;obtain⟨Ak,Al⟩:=ho.n1 rfl;obtain⟨Ab,Ac⟩:=hl.n1 rfl;clear hr ho hl;rw[ec];clear ec ed;go_wp2_with (with_reducible first|refine aA ?_)
   refine Stop.out ?_;refine gF rfl _ _ rfl B lv D ((a,n,c),⟨toks,fr,x,o-1⟩) rfl (by exact H5.out.1.own.alloc _) w4.heap.size (by rfl) (by have q:=aa.new (w4) #[bQ (a,n,c),.int .i64 fr,.int .i64 x,.int .i64 (o-1)] 110;(try simp only[World.size_setCell] at q);exact q) hD (by have:=H5.out.1.r.lt;have:=H5.out.1.le;simp only[World.size_alloc,World.size_setCell] at *;omega) ((w4).heap.size+1) (by simp) ?_;intro g2 c2 w6 ho6 hg6 hat6 hlt6;have Am:=(World.grownBy_alloc (w4) (.cells #[bQ (a,n,c),.int .i64 fr,.int .i64 x,.int .i64 (o-1)] 110) lv.ownBlock).trans hg6;have HP:=Hh (H5.out.1.push Am ho6 (hat6.imp id (fun q=>by omega)) (x+1));have hr:=H5.out.1.r.kept Am (fun e=>H5.out.1.lg e.symm);have hl:=H5.out.1.l.kept Am (fun e=>dA H5.out.1.own H5.out.1.l (by decide) gl e.symm rfl);have HB:=Hh (H5.out.2.grown Am (by have:=H5.out.1.r.lt;have:=H5.out.1.le;omega) (fun k e=>(World.ownsRow.lt H5.out.1.own k e).1));have HL:=Hh H5.out.1.le;clear Aa Ad Ae Af Ag Ah Ai Aj Ak Al Ab Ac lr lo ll;have lr:=hr.lt;have ll:=hl.lt;obtain⟨Aa,Ag,Ad,Ah,Ae,Ai,Af,Aj⟩:=hr.n4 rfl;obtain⟨Ab,Ac⟩:=hl.n1 rfl;clear hr hl Am ho6 hg6 hat6 hlt6;go_wp2_with fail
   refine bodyPost_end (v:=.tuple #[]) (by simp[results,Tryz.results100,go_sem]) rfl ?_;rw[HE.out.1,HE.out.2];exact⟨rfl,⟨_,HP.out⟩,((((HB.out.setCell (by exact HL.out.2.2) _).setCell (by exact HL.out.1) _).setCell (by exact HL.out.1) _).setCell (by exact HL.out.1) _).setCell (by exact HL.out.1) _⟩
 ·rw[ed] at Ao
  have H3:=Jh (H2.out.1.setDp o) (H2.out.2.setCell (p:=⟨gr,3,none⟩) H2.out.1.le.1 (.int .i64 o));have An:=vJ _ _ toks fr x o H3.out.1.tk.toks hT;have HD:=Hh ed;have hr:=H2.out.1.r;have ho:=H2.out.1.o;have hl:=H2.out.1.l;have lr:=hr.lt;have lo:=ho.lt;have ll:=hl.lt;obtain⟨Aa,Ag,Ad,Ah,Ae,Ai,Af,Aj⟩:=hr.n4 rfl;obtain⟨Ak,Al⟩:=ho.n1 rfl;obtain⟨Ab,Ac⟩:=hl.n1 rfl;clear hr ho hl;simp only[bQ] at An Aa;rw[ec];clear ed ec;go_wp2_with fail;refine An.mono ?_;rintro _ w4 ⟨rfl,hb4⟩;have H4:=Jh (H3.out.1.below hb4) (H3.out.2.trans (hb4.mono (by have:=H3.out.2.size;omega)));clear An hb4 H3 H2;clear Aa Ad Ae Af Ag Ah Ai Aj Ak Al Ab Ac lr lo ll;rcases Ao with ⟨ec,ed⟩|⟨ec,ed⟩
  ·have H5:=Jh (H4.out.1.setO (o+1)) (H4.out.2.setCell (p:=⟨go,0,none⟩) H4.out.1.le.2.1 (.int .i64 (o+1)))
   have HE:Hid (dR o toks=o/\dD o toks=o+1):=Hh ⟨HD.out,ed⟩;have hr:=H4.out.1.r;have ho:=H4.out.1.o;have hl:=H4.out.1.l;have lr:=hr.lt;have lo:=ho.lt;have ll:=hl.lt;obtain⟨Aa,Ag,Ad,Ah,Ae,Ai,Af,Aj⟩:=hr.n4 rfl;obtain⟨Ak,Al⟩:=ho.n1 rfl;obtain⟨Ab,Ac⟩:=hl.n1 rfl;clear hr ho hl;rw[ec];clear ec ed;go_wp2_with (with_reducible first|refine aA ?_)
   refine Stop.out ?_;refine gF rfl _ _ rfl B lv D ((a,n,c),⟨toks,fr,x,o⟩) rfl (by exact H5.out.1.own.alloc _) w4.heap.size (by rfl) (by have q:=aa.new (w4.setCell ⟨go,0,none⟩ (.int .i64 (o+1))) #[bQ (a,n,c),.int .i64 fr,.int .i64 x,.int .i64 (o)] 110;(try simp only[World.size_setCell] at q);exact q) hD (by have:=H5.out.1.r.lt;have:=H5.out.1.le;simp only[World.size_alloc,World.size_setCell] at *;omega) ((w4.setCell ⟨go,0,none⟩ (.int .i64 (o+1))).heap.size+1) (by simp) ?_;intro g2 c2 w6 ho6 hg6 hat6 hlt6;have Am:=(World.grownBy_alloc (w4.setCell ⟨go,0,none⟩ (.int .i64 (o+1))) (.cells #[bQ (a,n,c),.int .i64 fr,.int .i64 x,.int .i64 (o)] 110) lv.ownBlock).trans hg6;have HP:=Hh (H5.out.1.push Am ho6 (hat6.imp id (fun q=>by omega)) (x+1));have hr:=H5.out.1.r.kept Am (fun e=>H5.out.1.lg e.symm);have hl:=H5.out.1.l.kept Am (fun e=>dA H5.out.1.own H5.out.1.l (by decide) gl e.symm rfl);have HB:=Hh (H5.out.2.grown Am (by have:=H5.out.1.r.lt;have:=H5.out.1.le;omega) (fun k e=>(World.ownsRow.lt H5.out.1.own k e).1));have HL:=Hh H5.out.1.le;clear Aa Ad Ae Af Ag Ah Ai Aj Ak Al Ab Ac lr lo ll;have lr:=hr.lt;have ll:=hl.lt;obtain⟨Aa,Ag,Ad,Ah,Ae,Ai,Af,Aj⟩:=hr.n4 rfl
   obtain⟨Ab,Ac⟩:=hl.n1 rfl;clear hr hl Am ho6 hg6 hat6 hlt6;go_wp2_with fail;refine bodyPost_end (v:=.tuple #[]) (by simp[results,Tryz.results100,go_sem]) rfl ?_;rw[HE.out.1,HE.out.2];exact⟨rfl,⟨_,HP.out⟩,((((HB.out.setCell (by exact HL.out.2.2) _).setCell (by exact HL.out.1) _).setCell (by exact HL.out.1) _).setCell (by exact HL.out.1) _).setCell (by exact HL.out.1) _⟩
  ·have H5:=H4
   have HE:Hid (dR o toks=o/\dD o toks=o):=Hh ⟨HD.out,ed⟩;have hr:=H4.out.1.r;have ho:=H4.out.1.o;have hl:=H4.out.1.l;have lr:=hr.lt;have lo:=ho.lt;have ll:=hl.lt;obtain⟨Aa,Ag,Ad,Ah,Ae,Ai,Af,Aj⟩:=hr.n4 rfl;obtain⟨Ak,Al⟩:=ho.n1 rfl;obtain⟨Ab,Ac⟩:=hl.n1 rfl;clear hr ho hl;rw[ec];clear ec ed;go_wp2_with (with_reducible first|refine aA ?_)
   refine Stop.out ?_;refine gF rfl _ _ rfl B lv D ((a,n,c),⟨toks,fr,x,o⟩) rfl (by exact H5.out.1.own.alloc _) w4.heap.size (by rfl) (by have q:=aa.new (w4) #[bQ (a,n,c),.int .i64 fr,.int .i64 x,.int .i64 (o)] 110;(try simp only[World.size_setCell] at q);exact q) hD (by have:=H5.out.1.r.lt;have:=H5.out.1.le;simp only[World.size_alloc,World.size_setCell] at *;omega) ((w4).heap.size+1) (by simp) ?_;intro g2 c2 w6 ho6 hg6 hat6 hlt6;have Am:=(World.grownBy_alloc (w4) (.cells #[bQ (a,n,c),.int .i64 fr,.int .i64 x,.int .i64 (o)] 110) lv.ownBlock).trans hg6;have HP:=Hh (H5.out.1.push Am ho6 (hat6.imp id (fun q=>by omega)) (x+1));have hr:=H5.out.1.r.kept Am (fun e=>H5.out.1.lg e.symm);have hl:=H5.out.1.l.kept Am (fun e=>dA H5.out.1.own H5.out.1.l (by decide) gl e.symm rfl);have HB:=Hh (H5.out.2.grown Am (by have:=H5.out.1.r.lt;have:=H5.out.1.le;omega) (fun k e=>(World.ownsRow.lt H5.out.1.own k e).1));have HL:=Hh H5.out.1.le;clear Aa Ad Ae Af Ag Ah Ai Aj Ak Al Ab Ac lr lo ll;have lr:=hr.lt;have ll:=hl.lt;obtain⟨Aa,Ag,Ad,Ah,Ae,Ai,Af,Aj⟩:=hr.n4 rfl;obtain⟨Ab,Ac⟩:=hl.n1 rfl;clear hr hl Am ho6 hg6 hat6 hlt6;go_wp2_with fail;refine bodyPost_end (v:=.tuple #[]) (by simp[results,Tryz.results100,go_sem]) rfl ?_
   rw[HE.out.1,HE.out.2];exact⟨rfl,⟨_,HP.out⟩,((((HB.out.setCell (by exact HL.out.2.2) _).setCell (by exact HL.out.1) _).setCell (by exact HL.out.1) _).setCell (by exact HL.out.1) _).setCell (by exact HL.out.1) _⟩
theorem aH.drop{w:World}{a:Option Addr}{n cap:Nat}{l:List ag}(h:aH w (.slice a n cap) l){L:Nat}(h2:L<=l.length) :
  aH w (sliced a L l.length cap 3) (l.drop L)/\(sliced a L l.length cap 3).ownBlock=(Value.slice a n cap).ownBlock:=by
 obtain⟨a',Ab,he,h3,h4,h5,h6⟩:=h;cases he
 have Aa:(l.drop L).length=l.length-L:=List.length_drop;unfold sliced;refine⟨⟨_,_,by rw[Aa],by omega,by omega,fun hn=>?_,fun x hx hne=>?_⟩,?_⟩
 ·cases a with
  |none=>have:=h5 rfl;omega
  |some x=>split at hn<;>simp at hn
 ·cases a with
  |none=>split at hx<;>simp at hx
  |some y=>
   have Ac:l≠[]:=by intro h0;subst h0;simp at hne
   obtain⟨g1,g2,g3⟩:=h6 y rfl Ac;split at hx
   ·cases hx
    refine⟨g1,g2,fun j hj=>?_⟩;rw[List.length_drop] at hj;omega
   ·simp at hx
    obtain⟨b,Ad,sp⟩:=y;simp only at g1;subst g1;rw[Addr.add_lit] at hx;subst hx;refine⟨rfl,g2,fun j hj=>?_⟩;rw[List.length_drop] at hj;have:=g3 (L+j) (by omega);simp only[Nat.add_mul,<-Nat.add_assoc] at this;simp only[List.getElem_drop];exact this
 ·cases a with
  |none=>simp[Value.ownBlock]
  |some y=>split<;>simp[Value.ownBlock,Jd]
section
variable {P:Program} {w:World} {ops:Array Oper} {rest:List Oper} {o:Oper} {a:Act} {Q:Exit->Act->World->Prop}
theorem sH{e:TypeId}{n:Nat}(h:(P.info? e).map (fun i=>i.size)=some n)(w:World):(sizeOf e).run P w=.ok n w:=by
 obtain⟨i,hi,hs⟩:=Option.map_eq_some_iff.1 h;simp[sizeOf,typeInfo,hi,hs]
theorem nD(hgd:Region.wanted o (yielded ops a.tmps)=true)(x lo:Operand)(t:TypeId)(ho:o.op=.slice t x (some lo) none none)
  (ht:P.underlying t=some (.slice (P.elem t))) (hs:(P.info? (P.elem t)).map (fun i=>i.size)=some 3)
  (l:List ag) (hrow:aH w (a.eval x) l) (k:IntKind) (n:Int) (L:Nat) (eL:a.eval lo=.int k n) (hL:n=L) (h2:L<=l.length)
  (hK:∀v',aH w v' (l.drop L)->v'.ownBlock=(a.eval x).ownBlock->wpList P ops Q rest (a.put o.dst v') w):wpList P ops Q (o::rest) a w:=by
 obtain⟨ao,Ab,hv,h3,h4,h5⟩:=hrow.len;rw[hv] at hrow;obtain⟨r1,r2⟩:=hrow.drop h2;refine fF hgd fun K hK'=>?_;subst hL;have Aa:=run_slice_l (P:=P) w t ao l.length Ab ht k (L:Int) (by omega) (by omega);unfold Oper.wp;simp only[execOp,ho,hv,eL,Option.map_some,Option.map_none,Sem.run_bind,run_sliceAt_slice (P:=P) w t _ _ _ _ ht,Aa,sH hs,Result.andThen,Sem.run_pure,Oper.upon_value,Int.toNat_natCast];exact hK' _ _ (hK _ r1 (by rw[hv];exact r2))
end
def kV(g:Nat)(v:Value)(r:oW)(w:World)(e:Ending)(w':World):Prop:=aC g w w'/\iR w' g v (EP r).1 (EP r).2/\∃cs,e=.returned (.tuple #[.int .i64 (xU r),.agg cs.toArray])/\aN (fun b=>w.heap.size<=b) w' (zP r) cs/\cs[6]?=some (.slice none 0 0)
abbrev ak:List Value:=[.bool false,.string ⟨#[]⟩,.string ⟨#[]⟩,.string ⟨#[]⟩,.slice none 0 0,.slice none 0 0,.slice none 0 0]
theorem aN.zero(P:Nat->Prop)(w:World):aN P w bY ak:=aN.leaf (ae.leaf _ _ _ _) mo.nil
theorem Ad{P:Nat->Prop}{w:World}{t:gu}{o s:ByteArray}{v:Value}(h:ae P w t [.string o,.string s,v]):∃a n c,v=.slice a n c:=by
 obtain⟨o2,s2,a,n,c,he⟩:=h.shape;simp only[List.cons.injEq,and_true] at he;exact⟨a,n,c,he.2.2⟩
theorem MR{w3:World}{B n q:Nat}{x:gu}{cs vals:List Value}(hq:q<B)(hn:n<=B)(hx:ae (fun b=>B<=b) w3 x cs):ae (fun b=>n<=b) (ai w3 q 0 vals).drew x cs:=
 ae.move (P:=fun b=>B<=b) (Q:=fun b=>n<=b) (w:=w3) (w':=(ai w3 q 0 vals).drew) (Nat.le_of_eq (aB q vals 0 w3).symm) (fun b (hb:B<=b) _=>aK q vals 0 w3 b (by omega)) (fun b (hb:B<=b) _=>Nat.le_trans hn hb) x cs hx
theorem jD(row:List ag)(stop:Int)(last:Bool)(i:Nat):xU (eU row stop last i)=0/\zP (eU row stop last i)=bY:=by
 unfold eU;split
 ·exact⟨rfl,rfl⟩
 ·split<;>exact⟨rfl,rfl⟩
theorem zm(g:Nat)(v:Value)(t t2:ag)(row:List ag)(lv:Value)(stop:Int)(last:Bool)(w:World)(h:iR w g v 0 0)(hr:aH w lv (t::t2::row))(ho:∀b,lv.ownBlock=some b->b<w.heap.size)(hT:jf w)(hn:row.length<=900000)(hsh:∀t∈row,t.text.size<=1048576) :
  Calls Tryz.prog 133 #[.pointer (some ⟨g,0,none⟩),iL lv stop last] w (kV g v (j3 (t::t2::row) stop last t.text) w):=by
 obtain⟨ra,rc,rfl,AS,AT,-⟩:=hr.len;obtain⟨N,hN⟩:=exq ((t::t2::row).length);have AN:N=row.length+2:=by rw[hN];simp
 rw[<-hN] at hr AS ho ⊢;unfold maxLen at AT;have AO:N<=row.length+2/\row.length+2<=N:=by omega
 have HN:=Hh hN;clear hN AN;obtain⟨R,hR⟩:=exq (j3 (t::t2::row) stop last t.text);have HR:=Hh hR;rw[<-hR];clear hR;have Ax:Below w.heap.size w ((w.alloc (.cells (dH (.slice ra N rc) stop last) 86)).alloc (.cells ak.toArray 54)):=((Below.refl _ w).alloc lz _).alloc (by simp) _;have k0:=(aa.new w (dH (.slice ra N rc) stop last) 86).alloc (.cells ak.toArray 54);have k1:=aa.new (w.alloc (.cells (dH (.slice ra N rc) stop last) 86)) ak.toArray 54;simp only[World.size_alloc] at k1;have Ap:=h.below Ax h.lt;have At:=hr.below Ax lz;have Aq:=hT.below Ax;have Bm:=h.lt;have AK:((w.alloc (.cells (dH (.slice ra N rc) stop last) 86)).alloc (.cells ak.toArray 54)).heap.size=w.heap.size+2:=by simp
 have HB:=Hh Ax;have HK:=Jh k0 (And.intro k1 (And.intro Ap (And.intro At Aq)));clear h hr hT Ax k0 k1 Ap At Aq;go_enter Tryz.func133,Tryz.ntmps133;go_wp2_with (with_reducible first|refine jm ?_)
 refine Stop.out ?_;obtain⟨k0,k1,Ap,At,Aq⟩:=HK.out;generalize (w.alloc (.cells (dH (.slice ra N rc) stop last) 86)).alloc (.cells ak.toArray 54)=w1 at *;refine nD rfl _ _ _ rfl Tryz.underlying22 (by kernel_rfl) (t::t2::row) (by exact At) .i64 2 2 rfl rfl (by simp) ?_;intro v' hv' hvb;simp only[List.drop_succ_cons,List.drop_zero] at hv';obtain⟨va,vc,rfl,-⟩:=hv'.len;have hE:=ze w1 _ row hv' (fun b hb=>by rw[hvb] at hb;exact Nat.lt_of_lt_of_le (ho b hb) HB.out.size) Aq.utf Aq.utf.pos (by omega) hsh;clear hv' hvb;have HZ:=Hh AK;clear AK;go_wp2_with fail;refine hE.mono ?_;clear hE;rintro _ w2 ⟨hb2,o,tt,a,n,c,rfl,hX⟩;have Ar:=AR row;have AI:=CK row;obtain⟨⟨x,k,e⟩,hg⟩:∃q,gH row=q:=⟨_,rfl⟩;have Aa:=HR.out;unfold j3 at Aa;simp only[List.drop_succ_cons,List.drop_zero] at Aa;rw[hg] at hX Ar AI Aa ⊢;simp only at hX Ar AI Aa ⊢;rw[<-HN.out] at Aa;clear HR hg;have AE:Below w2.heap.size w2 (w2.alloc (.cells #[.string o,.string tt,.slice a n c] 52)):=(Below.refl _ _).alloc lz _;have As:=hb2.trans (AE.mono hb2.size);have k3:=k0.below As k0.lt;have q3:=k1.below As k1.lt;have p3:=Ap.below As Ap.lt;have r3:=At.below As lz;have e3:=aa.new w2 #[.string o,.string tt,.slice a n c] 52;have AJ:aC g w (w2.alloc (.cells #[.string o,.string tt,.slice a n c] 52)):=(aC.of HB.out).trans (aC.of As)
 have AG:ae (fun b=>w.heap.size+2<=b) (w2.alloc (.cells #[.string o,.string tt,.slice a n c] 52)) x [.string o,.string tt,.slice a n c]:=ae.below AE _ _ (ae.move lz (fun _ _ _=>rfl) (fun b hb _=>by rw[<-HZ.out];exact hb) _ _ hX);have Br:w.heap.size+2<=w2.heap.size:=by rw[<-HZ.out];exact hb2.size
 have Aw:=Jh AG AJ;have AD:=Jh k3 (And.intro q3 (And.intro p3 (And.intro r3 e3)));have AQ:=k3.lt;have AV:=q3.lt;have AP:=e3.lt;clear HK k0 k1 Ap At Aq hb2 As AE hX AG AJ HB
 by_cases hc1:e=2\/(e=0/\2+k<N)
 ·rw[if_pos hc1] at Aa
  have hL:=jC g v (t::t2::row) (.slice ra N rc) stop last (2+k) _ p3 r3 (by simp;omega);rw[show ((2+k:Nat):Int)=2+(k:Int) by omega,<-Aa] at hL;have Av:=Hh Aa;have h0:xU R=0/\zP R=bY:=by rw[Aa];exact jD _ _ _ _
  have H0:=Hh h0;clear Aa h0 r3 p3 Ar;obtain⟨Ah,Ak,Ai,Al,Aj,Am⟩:=k3.n3 rfl;obtain⟨Ab,Ae,Ac,Af,Ad,Ag⟩:=e3.n3 rfl;clear k3 q3 e3;simp only[iL] at hL;rcases hc1 with rfl|⟨rfl,hlt⟩
  ·go_wp2_with fail
   refine hL.mono ?_;clear hL Ah Ai Aj Ak Al Am Ab Ac Ad Ae Af Ag;rintro _ w4 ⟨rfl,hs4,p4⟩;have q4:=hs4.cells AD.out.2.1 (by omega);have AH:=q4.lt;have An:=Jh p4 (Aw.out.2.trans hs4);have Au:=Hh q4;obtain⟨Ay,A5,Az,A6,A0,A7,A1,A8,A2,A9,A3,AA,A4,AB⟩:=q4.n7 rfl;clear q4 p4 hs4;go_wp2_with fail;have Ao:=Au.out.put ak 0;obtain⟨y0,y1,y2,y3,y4,y5,y6⟩:=Ao.m7 rfl;simp only[ai] at y0 y1 y2 y3 y4 y5 y6;refine bodyPost_ret (v:=.tuple #[.int .i64 0,.agg #[.bool false,.string ⟨#[]⟩,.string ⟨#[]⟩,.string ⟨#[]⟩,.slice none 0 0,.slice none 0 0,.slice none 0 0]]) (by simp[results,Tryz.results133,go_sem,y0,y1,y2,y3,y4,y5,y6]) rfl ?_;show kV g v R w _ (ai w4 (w.heap.size+1) 0 ak);exact⟨An.out.2.setAllNew (by omega) _,An.out.1.setAllOther (by omega),ak,by rw[H0.out.1],(by rw[H0.out.2];exact aN.zero _ _),rfl⟩
  ·have hd:decide ((2:Int)+(k:Int)<(N:Int))=true:=by rw[decide_eq_true_iff];omega
   go_wp2_with fail;refine hL.mono ?_;clear hL Ah Ai Aj Ak Al Am Ab Ac Ad Ae Af Ag;rintro _ w4 ⟨rfl,hs4,p4⟩;have q4:=hs4.cells AD.out.2.1 (by omega);have AH:=q4.lt;have An:=Jh p4 (Aw.out.2.trans hs4);have Au:=Hh q4;obtain⟨Ay,A5,Az,A6,A0,A7,A1,A8,A2,A9,A3,AA,A4,AB⟩:=q4.n7 rfl;clear q4 p4 hs4;go_wp2_with fail;have Ao:=Au.out.put ak 0;obtain⟨y0,y1,y2,y3,y4,y5,y6⟩:=Ao.m7 rfl;simp only[ai] at y0 y1 y2 y3 y4 y5 y6;refine bodyPost_ret (v:=.tuple #[.int .i64 0,.agg #[.bool false,.string ⟨#[]⟩,.string ⟨#[]⟩,.string ⟨#[]⟩,.slice none 0 0,.slice none 0 0,.slice none 0 0]]) (by simp[results,Tryz.results133,go_sem,y0,y1,y2,y3,y4,y5,y6]) rfl ?_;show kV g v R w _ (ai w4 (w.heap.size+1) 0 ak);exact⟨An.out.2.setAllNew (by omega) _,An.out.1.setAllOther (by omega),ak,by rw[H0.out.1],(by rw[H0.out.2];exact aN.zero _ _),rfl⟩
 ·rw[if_neg hc1] at Aa
  have AC:e≠2:=fun h=>hc1 (.inl h)
  by_cases he:e=0
  ·subst he
   have hk:k=row.length:=by
    have:¬2+k<N:=fun h=>hc1 (.inr ⟨rfl,h⟩);omega
   rw[if_pos rfl] at Aa;have hd:decide ((2:Int)+(k:Int)<(N:Int))=false:=by rw[decide_eq_false_iff_not];omega
   obtain⟨b,AF,rfl,hlt,c0,c1,c2⟩:=r3.get (j:=0) (by simp);simp only[Nat.zero_mul,Nat.add_zero,List.getElem_cons_zero] at c0 c1 c2;have Av:=Hh Aa;have AM:=Hh q3;have AL:=Hh p3;clear Aa hk hc1 r3 p3 Ar AC;obtain⟨Ah,Ak,Ai,Al,Aj,Am⟩:=k3.n3 rfl;obtain⟨Ab,Ae,Ac,Af,Ad,Ag⟩:=e3.n3 rfl;obtain⟨AW,Bd,AX,Be,AY,Bf,AZ,Bg,Ba,Bh,Bb,Bi,Bc,Bj⟩:=q3.n7 rfl;clear k3 q3 e3;go_wp2_with fail;go_region
   all_goals
    go_wp2_with fail;have Ao:=(AM.out.put [.bool false,.string t.text,.string o,.string tt,.slice a n c,.slice none 0 0,.slice none 0 0] 0).drew;obtain⟨y0,y1,y2,y3,y4,y5,y6⟩:=Ao.m7 rfl;simp only[ai] at y0 y1 y2 y3 y4 y5 y6;refine bodyPost_ret (v:=.tuple #[.int .i64 2,.agg #[.bool false,.string t.text,.string o,.string tt,.slice a n c,.slice none 0 0,.slice none 0 0]]) (by simp[results,Tryz.results133,go_sem,y0,y1,y2,y3,y4,y5,y6]) rfl ?_;show kV g v R w _ (ai (w2.alloc (.cells #[.string o,.string tt,.slice a n c] 52)) (w.heap.size+1) 0 [.bool false,.string t.text,.string o,.string tt,.slice a n c,.slice none 0 0,.slice none 0 0]).drew;rw[Av.out];refine⟨(Aw.out.2.setAllNew (by omega) _).drew,(AL.out.setAllOther (by omega)).drew,[.bool false,.string t.text,.string o,.string tt,.slice a n c,.slice none 0 0,.slice none 0 0],rfl,?_⟩;refine⟨aN.leaf ?_ mo.nil,rfl⟩;exact MR (q:=w.heap.size+1) (B:=w.heap.size+2) (by omega) (by omega) Aw.out.1
  ·rw[if_neg he] at Aa
   have Bn:=Ar he AC;have hlt:2+k<(t::t2::row).length:=by simp;omega
   rw[List.getElem?_eq_getElem hlt] at Aa;obtain⟨b,AF,rfl,AU,c0,c1,c2⟩:=r3.get (j:=2+k) hlt;simp only at Aa;generalize (t::t2::row)[2+k]=tk at *;have hF:=qG g v 0 0 tk.pos e _ p3;have Bp:(e==0)=false:=by simpa using he
   have Bq:(e != 0)=true:=by simpa using he
   have Bo:(e==2)=false:=by simpa using AC
   have Av:=Hh Aa;clear Aa r3 p3 Ar hc1 he AC hlt;obtain⟨Ah,Ak,Ai,Al,Aj,Am⟩:=k3.n3 rfl;obtain⟨Ab,Ae,Ac,Af,Ad,Ag⟩:=e3.n3 rfl;clear k3 q3 e3;have Bl:(2:Int)+(k:Int)<(N:Int):=by omega
   have Bk:AF+(2+k)*3=AF+(2+k)*3:=rfl;go_wp2_with fail;refine hF.mono ?_;clear hF Ah Ai Aj Ak Al Am Ab Ac Ad Ae Af Ag c0 c1 c2;rintro _ w4 ⟨rfl,p4,hw4⟩;have hs4:aC g (w2.alloc (.cells #[.string o,.string tt,.slice a n c] 52)) w4:=by rw[hw4];exact ((aC.refl _ _).set _ _).set _ _
   clear hw4;have H0:Hid (xU R=0/\zP R=bY):=Hh (by rw[Av.out];exact⟨rfl,rfl⟩);have p4:iR w4 g v (EP R).1 (EP R).2:=by rw[Av.out];exact p4
   have q4:=hs4.cells AD.out.2.1 (by omega);have AH:=q4.lt;have An:=Jh p4 (Aw.out.2.trans hs4);have Au:=Hh q4;obtain⟨Ay,A5,Az,A6,A0,A7,A1,A8,A2,A9,A3,AA,A4,AB⟩:=q4.n7 rfl;clear q4 p4 hs4;go_wp2_with fail;have Ao:=Au.out.put ak 0;obtain⟨y0,y1,y2,y3,y4,y5,y6⟩:=Ao.m7 rfl;simp only[ai] at y0 y1 y2 y3 y4 y5 y6;refine bodyPost_ret (v:=.tuple #[.int .i64 0,.agg #[.bool false,.string ⟨#[]⟩,.string ⟨#[]⟩,.string ⟨#[]⟩,.slice none 0 0,.slice none 0 0,.slice none 0 0]]) (by simp[results,Tryz.results133,go_sem,y0,y1,y2,y3,y4,y5,y6]) rfl ?_;show kV g v R w _ (ai w4 (w.heap.size+1) 0 ak);exact⟨An.out.2.setAllNew (by omega) _,An.out.1.setAllOther (by omega),ak,by rw[H0.out.1],(by rw[H0.out.2];exact aN.zero _ _),rfl⟩
end Go.Proofs.YtbcdaaobbebooaaGreatDoor
