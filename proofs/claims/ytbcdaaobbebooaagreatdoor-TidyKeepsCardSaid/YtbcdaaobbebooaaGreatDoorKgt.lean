import Derived.Test.YtbcdaaobbebooaaGreatDoorKgs
set_option linter.unusedSimpArgs false
set_option linter.unusedVariables false
set_option maxRecDepth 100000
set_option maxHeartbeats 20000000
namespace Go.Proofs.YtbcdaaobbebooaaGreatDoor
def yP(x:Bs×Int×Bool)(c:UInt8):Bs×Int×Bool:=
 if c=46 then (x.1,x.2.1,true) else (if x.1≠[]\/c≠48 then x.1++[c] else x.1,if x.2.2 then x.2.1-1 else x.2.1,x.2.2)
theorem Eu(a:Bs)(c:UInt8):Lib.trimLeftB (a++[c]) 48=if Lib.trimLeftB a 48≠[]\/c≠48 then Lib.trimLeftB a 48++[c] else Lib.trimLeftB a 48:=by
 unfold Lib.trimLeftB
 induction a with
 |nil=>
  by_cases h:c=48
  ·subst h;rfl
  ·simp[h,List.dropWhile]
 |cons x a ih=>
  by_cases h:x=48
  ·subst h
   simpa [List.dropWhile_cons] using ih
  ·simp[List.dropWhile_cons,h]
theorem rA(p:Bool):∀(b a:Bs) (e:Int),b.all dg=true->b.foldl yP (Lib.trimLeftB a 48,e,p)=(Lib.trimLeftB (a++b) 48,if p then e-b.length else e,p)
 |[],a,e,_=>by simp
 | c::b,a,e,h=>by
  rw[List.all_cons,Bool.and_eq_true] at h;have hc:c≠46:=qP h.1 (by decide)
  have h1:yP (Lib.trimLeftB a 48,e,p) c=(Lib.trimLeftB (a++[c]) 48,if p then e-1 else e,p):=by
   rw[yP,if_neg hc,Eu]
  rw[List.foldl_cons,h1,rA p b (a++[c]) _ h.2,List.append_assoc,List.singleton_append,List.length_cons];cases p
  ·rfl
  ·simp only[if_true]
   congr 2
   omega
section
variable {l:Bs} {neg:Bool} {ip fr mk sg pw:Bs}
theorem bg.gather(h:bg l neg ip fr mk sg pw):∃p,(aC ip fr).foldl yP ([],0,false)=(iM ip fr,-(fr.length:Int),p):=by
 have e0:(([]:Bs),(0:Int),false)=(Lib.trimLeftB [] 48,(0:Int),false):=rfl;rw[aC,List.foldl_append,e0,rA false ip [] 0 h.dip,List.nil_append]
 by_cases hf:fr=[]
 ·subst hf
  exact⟨false,by simp[iM]⟩
 ·rw[if_neg hf,List.foldl_cons]
  have h1:yP (Lib.trimLeftB ip 48,if false then (0:Int)-ip.length else 0,false) 46=(Lib.trimLeftB ip 48,0,true):=rfl;rw[h1,rA true fr ip 0 h.dfr];exact⟨true,by simp[iM]⟩
end
def Gc(x:Nat×Bool)(c:UInt8):Nat×Bool:=(if dg c then qH x.1 c else x.1,x.2 || decide (c=45))
theorem nU:∀(b:Bs) (n:Nat) (p:Bool),b.all dg=true->b.foldl Gc (n,p)=(b.foldl qH n,p)
 |[],_,_,_=>rfl
 | c::b,n,p,h=>by
  rw[List.all_cons,Bool.and_eq_true] at h;have hc:decide (c=45)=false:=decide_eq_false (qP h.1 (by decide));rw[List.foldl_cons,List.foldl_cons,Gc,if_pos h.1,hc,Bool.or_false,nU b _ p h.2]
theorem AZ(sg pw:Bs)(hs:sg=[]\/sg=[43]\/sg=[45])(hp:pw.all dg=true):(sg++pw).foldl Gc (0,false)=(pw.foldl qH 0,decide (sg=[45])):=by
 rcases hs with rfl|rfl|rfl
 ·exact nU pw 0 false hp
 ·rw[List.foldl_append];exact nU pw 0 false hp
 ·rw[List.foldl_append];exact nU pw 0 true hp
theorem wu(a:Bs)(c:UInt8):Lib.trimRightB (a++[c]) 48=if c=48 then Lib.trimRightB a 48 else a++[c]:=by
 unfold Lib.trimRightB;rw[List.reverse_append,List.reverse_cons,List.reverse_nil,List.nil_append,List.singleton_append,List.dropWhile_cons]
 by_cases h:c=48
 ·subst h;simp
 ·simp[h]
end Go.Proofs.YtbcdaaobbebooaaGreatDoor
namespace Go.Proofs.YtbcdaaobbebooaaGreatDoor
open Go.RowKit Go.Tab
theorem CB(s:ByteArray)(k:Nat)(w:World)(h:k<s.size)(hd:48<=(s[k]'h).toNat/\(s[k]'h).toNat<=57) :
  Calls Tryz.prog 116 #[.string s,.int .i64 k] w fun r w'=>r=.returned (.bool true)/\w=w':=by
 go_enter Tryz.func116,Tryz.ntmps116;go_wp2;go_ret;refine⟨?_,rfl⟩;show Ending.returned (.bool (decide _))=_;rw[decide_eq_true (by omega)]
theorem Gl(s:ByteArray)(k:Nat)(w:World)(h:k<s.size)(hd:¬(48<=(s[k]'h).toNat/\(s[k]'h).toNat<=57)) :
  Calls Tryz.prog 116 #[.string s,.int .i64 k] w fun r w'=>r=.returned (.bool false)/\w=w':=by
 have Aa:(s[k]'h).toNat<48\/(48<=(s[k]'h).toNat/\57<(s[k]'h).toNat):=by omega
 clear hd;rcases Aa with hdg|hdg
 all_goals
  go_enter Tryz.func116,Tryz.ntmps116;go_wp2;go_ret;refine⟨?_,rfl⟩;first|rfl|(show Ending.returned (.bool (decide _))=_;rw[decide_eq_false (by omega)])
theorem yT(neg:Bool)(d:ByteArray)(e:Int)(w:World)(hd:d.size<=1048576) :
  Calls Tryz.prog 118 #[.agg #[.bool neg,.string d,.int .i64 e]] w fun r w'=>r=.returned (.bool (oM neg d e))/\Below w.heap.size w w':=by
 have Al:=ae.new w #[.bool neg,.string d,.int .i64 e] 122;have Ab:Below w.heap.size w (w.alloc (.cells #[.bool neg,.string d,.int .i64 e] 122)):=(Below.refl _ w).alloc lz _
 by_cases h0:d.size=0
 ·have hR:=Hh (xz (neg:=neg) (e:=e) h0)
  cases neg
  all_goals
   go_enter Tryz.func118,Tryz.ntmps118;go_wp2;go_ret;refine⟨?_,Ab⟩;rw[hR.out];first|rfl|(congr 2;by_cases he:e=0<;>simp[he])
 ·by_cases h1:1000<d.size\/e < -10000\/10000<e
  ·have hR:=Hh (rH (neg:=neg) h0 h1)
   have Ak:1000<d.size\/(d.size<=1000/\e < -10000)\/(d.size<=1000/\-10000<=e/\10000<e):=by omega
   clear h1;have q0:((d.size:Int)==0)=false:=by rw[beq_eq_false_iff_ne];omega
   have q1:decide ((1000:Int)<(d.size:Int))=decide (1000<d.size):=by congr 1;apply propext;omega
   have q2:decide (e < -10000)=decide (e < -10000):=rfl;rcases Ak with h1|⟨h1,h2⟩|⟨h1,h2,h3⟩
   all_goals
    go_enter Tryz.func118,Tryz.ntmps118;go_wp2;go_ret;refine⟨?_,Ab⟩;rw[hR.out];try rfl
  ·have H1:=Hh h1
   have h2:d.size<=1000/\-10000<=e/\e<=10000:=by omega
   clear h1;have hp:0<d.size:=by omega
   go_enter Tryz.func118,Tryz.ntmps118;go_wp2_with fail;go_loop [3] (fun i=>∃k:Nat,k<=d.size/\i=.int .i64 (k:Int)/\∀j (hj:j<d.size),j<k->48<=(d[j]'hj).toNat/\(d[j]'hj).toNat<=57) (fun i=>d.size-(intOf i).toNat)
   case atStart=>exact⟨0,Nat.zero_le _,rfl,fun j _ h=>by omega⟩
   case round=>
    obtain⟨k,hk,rfl,Aa⟩:=hrel;have HA:=Hh Aa;clear Aa;obtain⟨Ac,Af,Ad,Ag,Ae,Ah⟩:=Al.n3 rfl
    by_cases hkl:k<d.size
    ·by_cases hdg:48<=(d[k]'hkl).toNat/\(d[k]'hkl).toNat<=57
     ·have Aj:Hid (∀j (hj:j<d.size),j<k+1->48<=(d[j]'hj).toNat/\(d[j]'hj).toNat<=57):=Hh (fun j hj h=>by
       by_cases hjk:j=k
       ·subst hjk;exact hdg
       ·exact HA.out j hj (by omega))
      clear HA;have hF:=fun W=>CB d k W hkl hdg;go_wp2_with fail;refine (hF _).mono ?_;rintro r w1 ⟨rfl,rfl⟩;go_wp2;go_round
      case rel=>exact⟨k+1,by omega,by go_num,Aj.out⟩
      case measure=>simp[intOf];omega
     ·have hR:=Hh (Df (neg:=neg) (e:=e) hkl hdg)
      have hF:=fun W=>Gl d k W hkl hdg;clear hdg;go_wp2_with fail;refine (hF _).mono ?_;rintro r w1 ⟨rfl,rfl⟩;go_wp2;go_ret;refine⟨?_,Ab⟩;rw[hR.out];try rfl
    ·obtain rfl:k=d.size:=by omega
     have hR:=Hh (De (neg:=neg) hp H1.out (fun j hj=>HA.out j hj hj))
     by_cases hz:(d[0]'hp).toNat=48
     ·go_wp2
      go_ret;refine⟨?_,Ab⟩;rw[hR.out];simp[hz]
     ·go_wp2
      go_ret;refine⟨?_,Ab⟩;rw[hR.out];have Ai:¬(((d[0]'hp).toNat:Int)=48):=by omega
      by_cases hy:(d[d.size-1]'(by omega)).toNat=48
      ·simp[hz,Ai,hy,bne]
      ·have Am:¬(((d[d.size-1]'(by omega)).toNat:Int)=48):=by omega
       simp[hz,Ai,hy,Am,bne]
def kJ(s:ByteArray)(k:Nat):Bool:=decide (bC (s.data.toList.drop k)≠0)
theorem jG{s:ByteArray}{k:Nat}(h:¬k<s.size):s.data.toList.drop k=[]:=by
 rw[List.drop_eq_nil_iff,<-au];omega
theorem qy{s:ByteArray}{k:Nat}(h:k<s.size):bC (s.data.toList.drop k)=if dg (s[k]'h) then bC (s.data.toList.drop (k+1))+1 else 0:=by
 rw[eG h,bC]
theorem Lt{c:UInt8}:dg c=true↔48<=c.toNat/\c.toNat<=57:=by simp[dg,Jm]
theorem pm(s:ByteArray)(k:Nat)(w:World)(hk:k<=4611686018427387904) :
  Calls Tryz.prog 116 #[.string s,.int .i64 k] w fun r w'=>r=.returned (.bool (kJ s k))/\w=w':=by
 by_cases h:k<s.size
 ·by_cases hd:48<=(s[k]'h).toNat/\(s[k]'h).toNat<=57
  ·have:kJ s k=true:=by
    rw[kJ,qy h,if_pos (Lt.2 hd)];simp
   rw[this];exact CB s k w h hd
  ·have:kJ s k=false:=by
    rw[kJ,qy h,if_neg (fun e=>hd (Lt.1 e))];rfl
   rw[this];exact Gl s k w h hd
 ·have hR:=Hh (show kJ s k=false by rw[kJ,jG h];rfl)
  go_enter Tryz.func116,Tryz.ntmps116;go_wp2;go_ret;exact⟨by rw[hR.out];rfl,rfl⟩
theorem wM(s:ByteArray)(i:Nat)(w:World)(hs:s.size<=1048576)(hi:i<=s.size) :
  Calls Tryz.prog 117 #[.string s,.int .i64 i] w fun r w'=>r=.returned (.int .i64 (i+bC (s.data.toList.drop i):Nat))/\w=w':=by
 obtain⟨z,hz⟩:∃z,i+bC (s.data.toList.drop i)=z:=⟨_,rfl⟩;rw[hz];have HZ:=Hh hz;clear hz;go_enter Tryz.func117,Tryz.ntmps117;go_wp2_with fail;go_loop [1] (fun x=>∃k:Nat,k<=s.size/\x=.int .i64 k/\k+bC (s.data.toList.drop k)=z) (fun x=>s.size-(intOf x).toNat)
 case atStart=>exact⟨i,hi,rfl,HZ.out⟩
 case round=>
  obtain⟨k,hk,rfl,hr⟩:=hrel;have HR:=Hh hr;clear hr;have hF:=fun W=>pm s k W (by omega)
  cases hd:kJ s k with
  |true=>
   have Aa:k<s.size:=by
    false_or_by_contra
    rename_i h;rw[kJ,jG h] at hd;cases hd
   have hN:=Hh (show k+1+bC (s.data.toList.drop (k+1))=z by
    have:=HR.out;rw[qy Aa] at this;split at this
    ·omega
    ·next e=>rw[kJ,qy Aa,if_neg e] at hd;cases hd)
   rw[hd] at hF;clear hd;go_wp2_with ((with_reducible refine (hF _).mono ?_);rintro _ _ ⟨rfl,rfl⟩)
   go_round
   case rel=>exact⟨k+1,by omega,by go_num,hN.out⟩
   case measure=>simp[intOf];omega
  |false=>
   have hN:=Hh (show k=z by
    have:=HR.out;have h0:bC (s.data.toList.drop k)=0:=by simpa [kJ] using hd
    omega)
   rw[hd] at hF;clear hd;go_wp2_with ((with_reducible refine (hF _).mono ?_);rintro _ _ ⟨rfl,rfl⟩)
   go_ret;exact⟨by rw[<-hN.out];rfl,rfl⟩
theorem zW(l:Bs):eF l=0↔bC l=0:=by
 cases l with
 |nil=>exact Iff.rfl
 |cons c l=>
  rw[eF];split
  ·next h=>subst h;simp[bC,show dg 48=true from rfl]
  ·exact Iff.rfl
theorem uz(s:ByteArray)(w:World)(hs:s.size<=1048576) :
  Calls Tryz.prog 81 #[.string s] w fun e w'=>e=.returned (.int .i64 (cB s.data.toList:Nat))/\w=w':=by
 obtain⟨i0,Aj⟩:∃i0,lQ s.data.toList=i0:=⟨_,rfl⟩;have An:i0<=s.size:=by rw[<-Aj,au];exact KJ _
 have Ai:=fun W=>pm s i0 W (by omega)
 have Ax:i0=0\/i0=1:=by
  rw[<-Aj]
  cases s.data.toList with
  |nil=>exact .inl rfl
  |cons c l=>rw[lQ];split<;>simp
 obtain⟨i1,Ao⟩:∃i1,i0+eF (s.data.toList.drop i0)=i1:=⟨_,rfl⟩
 have Ay:i1<=s.size:=by
  have:=GI (s.data.toList.drop i0);rw[List.length_drop,<-au] at this;omega
 obtain⟨i2,Al⟩:∃i2,i1+bX (s.data.toList.drop i1)=i2:=⟨_,rfl⟩
 have Az:i2<=s.size:=by
  have:=DL (s.data.toList.drop i1);rw[List.length_drop,<-au] at this;omega
 have Av:kJ s i0=true->∃h:i0<s.size,dg (s[i0]'h)=true:=by
  intro hd
  by_cases h:i0<s.size
  ·refine⟨h,?_⟩
   rw[kJ,qy h] at hd;split at hd
   ·assumption
   ·cases hd
  ·rw[kJ,jG h] at hd;cases hd
 have Aa:kJ s i0=true->cB s.data.toList=i2+iF (s.data.toList.drop i2):=by
  intro hd
  have hn:eF (s.data.toList.drop i0)≠0:=by
   rw[Ne,zW]
   simpa [kJ] using hd
  rw[cB,Aj,if_neg hn,Ao,fT,List.drop_drop,Al,<-Al];omega
 obtain⟨bM,At⟩:∃b,decide (i0=1)=b:=⟨_,rfl⟩;have Ae:=Hh At;clear At;have Ag:=Hh Aj;have Ap:=Hh Ao;have Am:=Hh Al;have Aq:=Hh Av;have Ah:=Hh Aa;clear Aj Ao Al Av Aa;go_enter Tryz.func81,Tryz.ntmps81;go_upto_region 2 with fail
 go_cut [12] (fun x wc=>x=.bool bM/\w=wc)
 case first=>
  by_cases h0:0<s.size
  ·by_cases h1:s[0]'h0=45
   ·have d1:(((s[0]'h0).toNat:Int)==45)=true:=by rw[h1];rfl
    have h2:Hid (i0=1):=Hh (by rw[<-Ag.out,<-List.drop_zero (l:=s.data.toList),eG h0,h1];rfl);clear h1;go_wp2;go_meet
    case rel=>exact⟨by rw[<-Ae.out,decide_eq_true h2.out],rfl⟩
   ·have d1:(((s[0]'h0).toNat:Int)==45)=false:=eY h1 rfl
    have h2:Hid (i0=0):=Hh (by rw[<-Ag.out,<-List.drop_zero (l:=s.data.toList),eG h0,lQ,if_neg h1]);clear h1;go_wp2;go_meet
    case rel=>exact⟨by rw[<-Ae.out,h2.out];rfl,rfl⟩
  ·have h2:Hid (i0=0):=Hh (by rw[<-Ag.out,<-List.drop_zero (l:=s.data.toList),jG h0,lQ])
   go_wp2;go_meet
   case rel=>exact⟨by rw[<-Ae.out,h2.out];rfl,rfl⟩
 case rest=>
  obtain⟨rfl,rfl⟩:=hcut;go_upto_if 12 with fail
  go_cut [3] (fun x wc=>x=.int .i64 i0/\w=wc)
  case first=>
   cases bM with
   |false=>
    have H:=Hh (show i0=0 by have:=of_decide_eq_false Ae.out;omega);go_wp2;go_meet
    case rel=>exact⟨by rw[H.out];rfl,rfl⟩
   |true=>
    have H:=Hh (of_decide_eq_true Ae.out);go_wp2;go_meet
    case rel=>exact⟨by rw[H.out];rfl,rfl⟩
  case rest=>
   obtain⟨rfl,rfl⟩:=hcut
   cases hd:kJ s i0 with
   |false=>
    have hz:=Hh (show cB s.data.toList=0 by
     rw[cB,Ag.out,if_pos];rw[zW]
     simpa [kJ] using hd)
    rw[hd] at Ai;clear hd;go_wp2_with ((with_reducible refine (Ai _).mono ?_);rintro _ _ ⟨rfl,rfl⟩)
    go_ret;exact⟨by rw[hz.out];rfl,rfl⟩
   |true=>
    have HF:=Hh (Ah.out hd);obtain⟨Ak,Aw⟩:=Aq.out hd
    have Ac:Hid (i1=if s[i0]'Ak=48 then i0+1 else i0+bC (s.data.toList.drop i0)):=Hh (by
     rw[<-Ap.out,eG Ak,eF]
     split<;>rfl)
    rw[hd] at Ai;clear hd Aw Aq Ah;go_upto_if 20 with ((with_reducible refine (Ai _).mono ?_);rintro _ _ ⟨rfl,rfl⟩)
    go_cut [3] (fun x wc=>x=.int .i64 i1/\w=wc)
    case first=>
     by_cases h48:s[i0]'Ak=48
     ·have d1:(((s[i0]'Ak).toNat:Int)==48)=true:=by rw[h48];rfl
      have h2:Hid (i1=i0+1):=Hh (by rw[Ac.out,if_pos h48]);clear h48;go_wp2;go_meet
      case rel=>exact⟨by rw[h2.out];rfl,rfl⟩
     ·have d1:(((s[i0]'Ak).toNat:Int)==48)=false:=eY h48 rfl
      have h2:Hid (i1=i0+bC (s.data.toList.drop i0)):=Hh (by rw[Ac.out,if_neg h48]);have hR:=fun W=>wM s i0 W hs An;rw[<-h2.out] at hR;clear h48;go_wp2_with ((with_reducible refine (hR _).mono ?_);rintro _ _ ⟨rfl,rfl⟩)
      go_meet
      case rel=>exact⟨rfl,rfl⟩
    case rest=>
     obtain⟨rfl,rfl⟩:=hcut;clear Ai Ac;obtain⟨bF,As⟩:∃b,decide (bX (s.data.toList.drop i1)≠0)=b:=⟨_,rfl⟩;have Ad:=Hh As;clear As;go_upto_region 9 with fail
     go_cut [41] (fun x wc=>x=.bool bF/\w=wc)
     case first=>
      by_cases h0:i1<s.size
      ·by_cases h1:s[i1]'h0=46
       ·have d1:(((s[i1]'h0).toNat:Int)==46)=true:=by rw[h1];rfl
        have hD:∀W,Calls Tryz.prog 116 #[.string s,.int .i64 ((i1:Int)+1)] W fun r w'=>r=.returned (.bool (kJ s (i1+1)))/\W=w':=fun W=>pm s (i1+1) W (by omega)
        have h2:kJ s (i1+1)=bF:=by
         rw[<-Ad.out,eG h0,bX,h1,kJ]
         by_cases hz:bC (s.data.toList.drop (i1+1))=0
         ·rw[if_neg (by simp[hz])];simp[hz]
         ·rw[if_pos ⟨rfl,hz⟩];simp[hz]
        rw[h2] at hD;clear h1 h2;go_wp2_with ((with_reducible refine (hD _).mono ?_);rintro _ _ ⟨rfl,rfl⟩)
        go_meet
        case rel=>exact⟨rfl,rfl⟩
       ·have d1:(((s[i1]'h0).toNat:Int)==46)=false:=eY h1 rfl
        have h2:Hid (bF=false):=Hh (by rw[<-Ad.out,eG h0,bX,if_neg (fun e=>h1 e.1)];rfl);clear h1;go_wp2;go_meet
        case rel=>exact⟨by rw[h2.out],rfl⟩
      ·have h2:Hid (bF=false):=Hh (by rw[<-Ad.out,jG h0];rfl)
       go_wp2;go_meet
       case rel=>exact⟨by rw[h2.out],rfl⟩
     case rest=>
      obtain⟨rfl,rfl⟩:=hcut;go_upto_if 41 with fail
      go_cut [3] (fun x wc=>x=.int .i64 i2/\w=wc)
      case first=>
       cases bF with
       |false=>
        have H:=Hh (show i2=i1 by have h1:=of_decide_eq_false Ad.out;have:=Am.out;omega);go_wp2;go_meet
        case rel=>exact⟨by rw[H.out],rfl⟩
       |true=>
        have h1:=of_decide_eq_true Ad.out
        have h0:i1<s.size:=by
         false_or_by_contra
         rename_i h;rw[jG h] at h1;exact h1 rfl
        have hR:∀W,Calls Tryz.prog 117 #[.string s,.int .i64 ((i1:Int)+1)] W fun r w'=>r=.returned (.int .i64 (i1+1+bC (s.data.toList.drop (i1+1)):Nat))/\W=w':=fun W=>wM s (i1+1) W hs (by omega)
        have h2:i1+1+bC (s.data.toList.drop (i1+1))=i2:=by
         rw[<-Am.out];rw[eG h0,bX] at h1 ⊢;split at h1
         ·next h3=>rw[if_pos h3];omega
         ·exact absurd rfl h1
        rw[h2] at hR;clear h1 h2;go_wp2_with ((with_reducible refine (hR _).mono ?_);rintro _ _ ⟨rfl,rfl⟩)
        go_meet
        case rel=>exact⟨rfl,rfl⟩
      case rest=>
       obtain⟨rfl,rfl⟩:=hcut;clear Ad Ae Ag Ap Am;obtain⟨bE,Ar⟩:∃b:Bool,(∃h:i2<s.size,s[i2]'h=101\/s[i2]'h=69)↔b=true:=⟨decide (∃h:i2<s.size,s[i2]'h=101\/s[i2]'h=69),by simp⟩;have Ab:=Hh Ar;clear Ar;go_upto_region 11 with fail
       go_cut [61] (fun x wc=>x=.bool bE/\w=wc)
       case first=>
        by_cases h0:i2<s.size
        ·by_cases h1:s[i2]'h0=101
         ·have d1:(((s[i2]'h0).toNat:Int)==101)=true:=by rw[h1];rfl
          have h2:Hid (bE=true):=Hh (Ab.out.1 ⟨h0,.inl h1⟩);clear h1;go_wp2;go_meet
          case rel=>exact⟨by rw[h2.out],rfl⟩
         ·have d1:(((s[i2]'h0).toNat:Int)==101)=false:=eY h1 rfl
          by_cases h3:s[i2]'h0=69
          ·have d2:(((s[i2]'h0).toNat:Int)==69)=true:=by rw[h3];rfl
           have h2:Hid (bE=true):=Hh (Ab.out.1 ⟨h0,.inr h3⟩);clear h1 h3;go_wp2;go_meet
           case rel=>exact⟨by rw[h2.out],rfl⟩
          ·have d2:(((s[i2]'h0).toNat:Int)==69)=false:=eY h3 rfl
           have h2:Hid (bE=false):=Hh (by
            rw[Bool.eq_false_iff];intro e;obtain⟨_,h|h⟩:=Ab.out.2 e
            ·exact h1 h
            ·exact h3 h)
           clear h1 h3;go_wp2;go_meet
           case rel=>exact⟨by rw[h2.out],rfl⟩
        ·have h2:Hid (bE=false):=Hh (by
          rw[Bool.eq_false_iff];intro e;obtain⟨h,_⟩:=Ab.out.2 e
          exact h0 h)
         go_wp2;go_meet
         case rel=>exact⟨by rw[h2.out],rfl⟩
       case rest=>
        obtain⟨rfl,rfl⟩:=hcut
        cases bE with
        |false=>
         have hz:=Hh (show cB s.data.toList=i2 by
          rw[HF.out]
          by_cases h0:i2<s.size
          ·have hn:¬(s[i2]'h0=101\/s[i2]'h0=69):=fun e=>by have:=Ab.out.1 ⟨h0,e⟩;cases this
           rw[eG h0,iF,if_neg (fun e=>hn e.1)];rfl
          ·rw[jG h0];rfl)
         go_wp2;go_ret;exact⟨by rw[hz.out];rfl,rfl⟩
        |true=>
         obtain⟨h0,hm⟩:=Ab.out.2 rfl;obtain⟨k,hk⟩:∃k,i2+1+mQ (s.data.toList.drop (i2+1))=k:=⟨_,rfl⟩
         have A0:mQ (s.data.toList.drop (i2+1))<=1:=by
          cases s.data.toList.drop (i2+1) with
          |nil=>exact Nat.zero_le _
          |cons c t=>rw[mQ];split<;>omega
         have A4:i2<=k/\k<=i2+2:=by omega
         have Aa:=Hh (show cB s.data.toList=if bC (s.data.toList.drop k)=0 then i2 else k+bC (s.data.toList.drop k) by
          rw[HF.out,eG h0,iF];simp only[hm,true_and];rw[List.drop_drop,hk];split
          ·next h=>(try rw[if_neg h]);omega
          ·next h=>first|rfl|(rw[if_pos (by simpa using h)];rfl))
         have A1:k<=s.size:=by
          by_cases h1:i2+1<s.size
          ·omega
          ·rw[jG h1] at hk
           simp only[mQ] at hk;omega
         have HK:=Hh hk;clear hm hk A0 Ab HF;obtain⟨bS,Au⟩:∃b,decide (k=i2+2)=b:=⟨_,rfl⟩;have Af:=Hh Au;clear Au;go_upto_region 13 with fail
         go_cut [79] (fun x wc=>x=.bool bS/\w=wc)
         case first=>
          by_cases h1:i2+1<s.size
          ·have A2:(i2:Int)+1<(s.size:Int):=by omega
           have A3:0<=(i2:Int)+1/\(i2:Int)+1<(s.size:Int):=by omega
           by_cases h3:s[i2+1]'h1=43
           ·have d1:(((s[i2+1]'h1).toNat:Int)==43)=true:=by rw[h3];rfl
            have h2:Hid (bS=true):=Hh (by rw[<-Af.out,<-HK.out,eG h1,mQ,if_pos (.inl h3)];simp);clear h3;go_wp2;go_meet
            case rel=>exact⟨by rw[h2.out],rfl⟩
           ·have d1:(((s[i2+1]'h1).toNat:Int)==43)=false:=eY h3 rfl
            by_cases h4:s[i2+1]'h1=45
            ·have d2:(((s[i2+1]'h1).toNat:Int)==45)=true:=by rw[h4];rfl
             have h2:Hid (bS=true):=Hh (by rw[<-Af.out,<-HK.out,eG h1,mQ,if_pos (.inr h4)];simp);clear h3 h4;go_wp2;go_meet
             case rel=>exact⟨by rw[h2.out],rfl⟩
            ·have d2:(((s[i2+1]'h1).toNat:Int)==45)=false:=eY h4 rfl
             have h2:Hid (bS=false):=Hh (by rw[<-Af.out,<-HK.out,eG h1,mQ,if_neg (by simp[h3,h4])];simp);clear h3 h4;go_wp2;go_meet
             case rel=>exact⟨by rw[h2.out],rfl⟩
          ·have h2:Hid (bS=false):=Hh (by rw[<-Af.out,<-HK.out,jG h1];simp[mQ])
           go_wp2;go_meet
           case rel=>exact⟨by rw[h2.out],rfl⟩
         case rest=>
          obtain⟨rfl,rfl⟩:=hcut;go_upto_if 79 with fail
          go_cut [4] (fun x wc=>x=.int .i64 k/\w=wc)
          case first=>
           cases bS with
           |false=>
            have H:=Hh (show (i2:Int)+1=(k:Int) by
             have h1:=of_decide_eq_false Af.out;have:=HK.out
             omega)
            go_wp2;go_meet
            case rel=>exact⟨by first|rw[H.out]|(congr 1;exact H.out),rfl⟩
           |true=>
            have H:=Hh (show (i2:Int)+1+1=(k:Int) by
             have h1:=of_decide_eq_true Af.out
             omega)
            go_wp2;go_meet
            case rel=>exact⟨by first|rw[H.out]|(congr 1;have:=H.out;omega),rfl⟩
          case rest=>
           obtain⟨rfl,rfl⟩:=hcut;have hD:=fun W=>pm s k W (by omega);have hR:=fun W=>wM s k W hs A1
           cases hd:kJ s k with
           |false=>
            have hz:Hid (cB s.data.toList=i2):=Hh (by rw[Aa.out,if_pos (by simpa [kJ] using hd)]);rw[hd] at hD;clear hd;go_wp2_with ((with_reducible refine (hD _).mono ?_);rintro _ _ ⟨rfl,rfl⟩)
            go_ret;exact⟨by rw[hz.out];rfl,rfl⟩
           |true=>
            have hz:Hid (cB s.data.toList=k+bC (s.data.toList.drop k)):=Hh (by rw[Aa.out,if_neg (by simpa [kJ] using hd)]);rw[hd] at hD;clear hd;go_wp2_with (first|((with_reducible refine (hD _).mono ?_);rintro _ _ ⟨rfl,rfl⟩)|((with_reducible refine (hR _).mono ?_);rintro _ _ ⟨rfl,rfl⟩))
            go_ret;exact⟨by rw[hz.out];rfl,rfl⟩
theorem EW(s:ByteArray)(w:World)(hs:s.size<=1048576)(h:s.data.toList=[]\/cB s.data.toList≠s.size) :
  Calls Tryz.prog 82 #[.string s] w fun e w'=>e=.returned (dL ((false,[],0),3))/\Below w.heap.size w w':=by
 by_cases h0:s.size=0
 ·have hd:s=⟨#[]⟩:=FN h0
  subst hd;clear h h0 hs;go_enter Tryz.func82,Tryz.ntmps82;go_wp2;refine bodyPost_ret (v:=dL ((false,[],0),3)) (by simp[results,Tryz.results82,go_sem,dL,ay]) rfl ⟨rfl,?_⟩
  (with_reducible repeat' first|refine Below.setCell ?_ ?_ _|refine Below.alloc ?_ ?_ _|refine Below.drew ?_|refine ah ?_ _|assumption|exact Below.refl _ _|(simp only[World.size_alloc,World.size_setCell,World.size_drew];first|done|omega)|omega)
 ·have Aa:=Bh h0
  have hz:((s.size:Int)==0)=false:=by rw[beq_eq_false_iff_ne];omega
  have hn:((cB s.data.toList:Int) != (s.size:Int))=true:=by
   rcases h with h|h
   ·rw[au,h] at h0;exact absurd rfl h0
   ·rw[bne_iff_ne];omega
  have hS:=fun W=>uz s W hs;clear h h0;go_enter Tryz.func82,Tryz.ntmps82;go_wp2_with fail;refine (hS _).mono ?_;rintro _ _ ⟨rfl,rfl⟩;go_wp2;refine bodyPost_ret (v:=dL ((false,[],0),3)) (by simp[results,Tryz.results82,go_sem,dL,ay]) rfl ⟨rfl,?_⟩
  (with_reducible repeat' first|refine Below.setCell ?_ ?_ _|refine Below.alloc ?_ ?_ _|refine Below.drew ?_|refine ah ?_ _|assumption|exact Below.refl _ _|(simp only[World.size_alloc,World.size_setCell,World.size_drew];first|done|omega)|omega)
theorem DK{c m:UInt8}(h:dg c=true\/c=46)(hm:dg m=false/\m≠46):c≠m:=by
 rcases h with h|rfl
 ·exact qP h hm.1
 ·exact hm.2.symm
theorem JX{c:UInt8}{n:UInt8}(h:c≠n){m:Int}(hm:(n.toNat:Int)=m):((c.toNat:Int) != m)=true:=by
 rw[bne,eY h hm];rfl
theorem yg(d:Bs):d=[]\/∃d' c,d=d'++[c]:=by
 rcases List.eq_nil_or_concat d with h|⟨d',c,h⟩
 ·exact .inl h
 ·exact .inr ⟨d',c,by rw[h,List.concat_eq_append]⟩
theorem CG(s:ByteArray)(neg:Bool)(ip fr mk sg pw:Bs)(w:World)(hs:s.size<=1048576)(h:bg s.data.toList neg ip fr mk sg pw) :
  Calls Tryz.prog 82 #[.string s] w fun e w'=>e=.returned (dL (gq neg ip fr (vz sg pw)))/\Below w.heap.size w w':=by
 have BM:s.size≠0:=by rw[au];exact om h.scan.2
 have hz:((s.size:Int)==0)=false:=by rw[beq_eq_false_iff_ne];omega
 have At:0<s.size:=by omega
 have hn:((cB s.data.toList:Int) != (s.size:Int))=false:=by
  rw[h.scan.1,au];exact bne_self_eq_false _
 have hS:=fun W=>uz s W hs;obtain⟨Aa,Ae⟩:∃Aa,(if neg then 1 else 0)=Aa:=⟨_,rfl⟩;have Bz:Aa<=1:=by rw[<-Ae];split<;>omega
 obtain⟨F,hF⟩:∃F,aC ip fr=F:=⟨_,rfl⟩;obtain⟨R,hR⟩:∃R,sg++pw=R:=⟨_,rfl⟩;have AB:s.data.toList=(if neg then [45] else [])++(F++(mk++R)):=by rw[<-hF,<-hR];exact h.eq'
 have Bo:s.size=Aa+F.length+mk.length+R.length:=by
  rw[au,AB,<-Ae];simp only[List.length_append];split<;>simp<;>omega
 have AU:∀j (hj:Aa+j<s.size),s[Aa+j]'hj=(F++(mk++R))[j]'(by simp only[List.length_append];omega):=by
  intro j hj;rw[iU]
  have h1:s.data.toList[Aa+j]?=(F++(mk++R))[j]?:=by
   rw[AB,<-Ae];cases neg
   ·simp
   ·simp[Nat.add_comm 1]
  rw[List.getElem?_eq_getElem (by rw[<-au];exact hj),List.getElem?_eq_getElem (by simp only[List.length_append];omega)] at h1;exact Option.some.inj h1
 have Bl:(((s[0]'At).toNat:Int)==45)=neg:=by
  cases neg with
  |true=>
   have:s[0]'At=45:=by
    rw[iU];have h1:s.data.toList[0]?=some 45:=by rw[AB];rfl
    rw[List.getElem?_eq_getElem (by rw[<-au];exact At)] at h1;exact Option.some.inj h1
   rw[this];rfl
  |false=>
   have BD:=h.ip0;have B9:=h.dip
   have h1:∃c,dg c=true/\s.data.toList[0]?=some c:=by
    rw[AB,<-hF,aC]
    cases ip with
    |nil=>exact absurd rfl BD
    |cons c p=>exact⟨c,pR B9 (c:=c) rfl,rfl⟩
   obtain⟨c,hc,h2⟩:=h1;rw[List.getElem?_eq_getElem (by rw[<-au];exact At)] at h2;rw[iU,Option.some.inj h2];exact eY (n:=45) (qP hc (by decide)) rfl
 have AC:∀i (hi:i<s.size) (h1:Aa<=i) (h2:i-Aa<F.length),s[i]'hi=F[i-Aa]:=by
  intro i hi h1 h2;have:=AU (i-Aa) (by omega);simp only[Nat.add_sub_cancel' h1] at this;rw[this,List.getElem_append_left h2]
 have AD:∀i (hi:i<s.size) (h1:Aa+F.length+mk.length<=i) (h2:i-(Aa+F.length+mk.length)<R.length),s[i]'hi=R[i-(Aa+F.length+mk.length)]:=by
  intro i hi h1 h2;have:=AU (i-Aa) (by omega);simp only[Nat.add_sub_cancel' (show Aa<=i by omega)] at this;rw[this,List.getElem_append_right (by omega),List.getElem_append_right (by omega)]
  congr 1
  omega
 have Bv:∀x∈F,dg x=true\/x=46:=fun x hx=>h.front_mem (by rw[hF];exact hx);obtain⟨pF,Bj⟩:=h.gather;rw[hF] at Bj
 have Bx:R.foldl Gc (0,false)=(pw.foldl qH 0,decide (sg=[45])):=by
  rw[<-hR];refine AZ sg pw ?_ h.dpw;rcases h.exp with ⟨_,h2,_⟩|⟨_,h2,_⟩
  ·exact .inl h2
  ·exact h2
 have AA:(iM ip fr).length<=1048576:=by
  have h1:=ww (ip++fr);have h2:=h.len.1;rw[<-au] at h2;rw[List.length_append] at h1;unfold iM;omega
 have BU:fr.length<=1048576:=by have h2:=h.len.1;rw[<-au] at h2;omega
 have HF:=Hh AC;have HR:=Hh AD;have B1:=Hh Bv;have B3:=Hh Bj;have B4:=Hh Bx;have A7:=Hh Bo
 have BJ:(mk=[]/\R=[])\/mk=[101]\/mk=[69]:=by
  rcases h.exp with ⟨h1,h2,h3⟩|⟨h1,_,_⟩
  ·exact .inl ⟨h1,by rw[<-hR,h2,h3];rfl⟩
  ·exact .inr h1
 have Ad:∀m,mk=[m]->∃hi:Aa+F.length<s.size,s[Aa+F.length]'hi=m:=by
  intro m hm;have hi:Aa+F.length<s.size:=by rw[Bo,hm];simp;omega
  refine⟨hi,?_⟩;rw[AU F.length hi,List.getElem_append_right lz];subst hm;simp
 obtain⟨q,hq⟩:∃q,Aa+F.length=q:=⟨_,rfl⟩;rw[hq] at Ad;have Hq:=Hh hq;have BW:q<=s.size:=by omega
 have BL:Aa<=q:=by omega
 clear AB AU AC AD Bv Bj Bx hF hR BM Bo hq;rcases BJ with ⟨rfl,hRn⟩|rfl|rfl
 all_goals
  first
   | (
    clear Ad;have Ao:=Hh (show s.size=q by have:=A7.out;have:=Hq.out;rw[hRn] at *;simp at *;omega);have Bm:¬q<s.size:=by have:=Ao.out;omega
    have A0:Hid (∀k (hk:k<s.size) (h1:q+1<=k) (h2:k-(q+1)<R.length),s[k]'hk=R[k-(q+1)]):=Hh (fun k hk h1 h2=>by have:=Ao.out;omega);have Bd:Hid (∀k,k<s.size->q+1<=k->k-(q+1)<R.length):=Hh (fun k hk h1=>by have:=Ao.out;omega);have Bc:Hid (∀k,¬k<s.size->q+1<=k->k<=q+1+R.length->k-(q+1)=R.length):=Hh (fun k _ _ h=>by rw[hRn] at h ⊢;simp at h ⊢;omega);have Az:R.length<=1048576:=by rw[hRn];simp
    clear HR A7 hRn
    have Bn:=True.intro)
   | (
    obtain⟨AY,A9⟩:=Ad _ rfl;clear Ad;have Ao:=Hh (show s.size=q+1+R.length by have:=A7.out;have:=Hq.out;simp at *;omega)
    have A0:Hid (∀k (hk:k<s.size) (h1:q+1<=k) (h2:k-(q+1)<R.length),s[k]'hk=R[k-(q+1)]):=Hh (fun k hk h1 h2=>by
     have e:=Hq.out;subst e
     exact HR.out k hk h1 h2)
    have Bd:Hid (∀k,k<s.size->q+1<=k->k-(q+1)<R.length):=Hh (fun k hk h1=>by have:=Ao.out;omega);have Bc:Hid (∀k,¬k<s.size->q+1<=k->k<=q+1+R.length->k-(q+1)=R.length):=Hh (fun k h1 h2 h3=>by have:=Ao.out;omega);have Az:R.length<=1048576:=by have:=Ao.out;omega
    clear HR A7;have Bm:(((s[q]'AY).toNat:Int) != 101)=false:=by rw[A9];rfl
    clear A9
    have Bn:=True.intro)
   | (
    obtain⟨AY,A9⟩:=Ad _ rfl;clear Ad;have Ao:=Hh (show s.size=q+1+R.length by have:=A7.out;have:=Hq.out;simp at *;omega)
    have A0:Hid (∀k (hk:k<s.size) (h1:q+1<=k) (h2:k-(q+1)<R.length),s[k]'hk=R[k-(q+1)]):=Hh (fun k hk h1 h2=>by
     have e:=Hq.out;subst e
     exact HR.out k hk h1 h2)
    have Bd:Hid (∀k,k<s.size->q+1<=k->k-(q+1)<R.length):=Hh (fun k hk h1=>by have:=Ao.out;omega);have Bc:Hid (∀k,¬k<s.size->q+1<=k->k<=q+1+R.length->k-(q+1)=R.length):=Hh (fun k h1 h2 h3=>by have:=Ao.out;omega);have Az:R.length<=1048576:=by have:=Ao.out;omega
    clear HR A7;have Bm:(((s[q]'AY).toNat:Int) != 101)=true:=by rw[A9];rfl
    have Bn:(((s[q]'AY).toNat:Int) != 69)=false:=by rw[A9];rfl
    clear A9)
  go_enter Tryz.func82,Tryz.ntmps82;go_wp2_with fail;refine (hS _).mono ?_;rintro _ _ ⟨rfl,rfl⟩;go_upto_if 23 with fail
  clear hS hz hn;go_cut [5] (fun x wc=>x=.int .i64 Aa/\ae wc w.heap.size #[.bool false,.string ⟨#[]⟩,.int .i64 0] 122/\ae wc (w.heap.size+1) #[.bool neg,.string ⟨#[]⟩,.int .i64 0] 122/\Below w.heap.size w wc)
  case first=>
   have Bw:=fun b:Bool=>(show Below w.heap.size w ((w.alloc (.cells #[.bool false,.string ⟨#[]⟩,.int .i64 0] 122)).alloc (.cells #[.bool b,.string ⟨#[]⟩,.int .i64 0] 122)) from ((Below.refl _ w).alloc lz _).alloc (by simp) _);have AV:=fun b:Bool=>(ae.new w #[.bool false,.string ⟨#[]⟩,.int .i64 0] 122).alloc (.cells #[.bool b,.string ⟨#[]⟩,.int .i64 0] 122);have Bg:=fun b:Bool=>ae.new (w.alloc (.cells #[.bool false,.string ⟨#[]⟩,.int .i64 0] 122)) #[.bool b,.string ⟨#[]⟩,.int .i64 0] 122;rw[World.size_alloc] at Bg
   cases neg with
   |false=>
    have A1:=Hh (show 0=Aa from Ae);clear Ae;go_wp2;go_meet
    case rel=>exact⟨by rw[<-A1.out];rfl,AV _,Bg _,Bw _⟩
   |true=>
    have A1:=Hh (show 1=Aa from Ae);clear Ae;go_wp2;go_meet
    case rel=>exact⟨by rw[<-A1.out];rfl,AV _,Bg _,Bw _⟩
  case rest=>
   obtain⟨rfl,hx,hy,hb⟩:=hcut;clear Bl Ae;go_wp2_with fail;go_loopw [5,6] (fun x5 x6 wr=>∃(i:Nat) (d:Bs) (e:Int) (p:Bool),x5=.int .i64 i/\x6=.bool p/\Aa<=i/\i<=q/\(F.take (i-Aa)).foldl yP ([],0,false)=(d,e,p)/\-(i:Int)<=e/\e<=0/\d.length<=i/\ae wr w.heap.size #[.bool false,.string ⟨#[]⟩,.int .i64 0] 122/\ae wr (w.heap.size+1) #[.bool neg,.string (ay d),.int .i64 e] 122/\Below w.heap.size w wr) (fun x5 _ _=>q-(intOf x5).toNat)
   case atStart=>exact⟨Aa,[],0,false,rfl,rfl,Nat.le_refl _,BL,by rw[Nat.sub_self];rfl,by omega,by omega,Nat.zero_le _,hx,hy,hb⟩
   case round=>
    clear hx hy hb;obtain⟨i,d,e,p,rfl,rfl,BB,BC,Ab,BA,AX,A8,hx,hy,hb⟩:=hrel;have BE:i<=s.size:=by omega
    by_cases hlt:i<q
    ·have As:i<s.size:=by omega
     have By:i-Aa<F.length:=by have:=Hq.out;omega
     obtain⟨c,AW⟩:∃c,F[i-Aa]=c:=⟨_,rfl⟩;have Ba:s[i]'As=c:=by rw[HF.out i As BB By,AW]
     have Bi:=B1.out c (by rw[<-AW];exact List.getElem_mem _);have n1:(((s[i]'As).toNat:Int) != 101)=true:=by rw[Ba];exact JX (n:=101) (DK Bi (by decide)) rfl
     have n2:(((s[i]'As).toNat:Int) != 69)=true:=by rw[Ba];exact JX (n:=69) (DK Bi (by decide)) rfl
     have hN:Hid ((F.take (i+1-Aa)).foldl yP ([],0,false)=yP (d,e,p) c):=Hh (by
      rw[show i+1-Aa=(i-Aa)+1 by omega,lV yP _ F By,Ab,AW])
     have Hc:=Hh Ba;obtain⟨D,hD⟩:∃D,ay d=D:=⟨_,rfl⟩;have HD:=Hh hD;rw[hD] at hy;clear Ab AW Bi Ba hD;obtain⟨Ag,Ai,Af,Aj,Ah,Ak⟩:=hy.n3 rfl
     by_cases h46:c=46
     ·have d1:(((s[i]'As).toNat:Int)==46)=true:=by rw[Hc.out,h46];rfl
      have Ac:=Hh (show (F.take (i+1-Aa)).foldl yP ([],0,false)=(d,e,true) by rw[hN.out,yP,if_pos h46]);clear hN h46;go_wp2;go_roundw
      case rel=>exact⟨i+1,d,e,true,by go_num,rfl,by omega,by omega,Ac.out,by omega,by omega,by omega,hx,by rw[HD.out];exact hy,hb⟩
      case measure=>simp[intOf];omega
     ·have d1:(((s[i]'As).toNat:Int)==46)=false:=by rw[Hc.out];exact eY h46 rfl
      by_cases hap:d≠[]\/c≠48
      ·obtain⟨D2,Ay⟩:∃D2,D++s.extract i (i+1)=D2:=⟨_,rfl⟩
       have A6:Hid (ay (d++[c])=D2):=Hh (kg (by
        rw[<-Ay,yE,eQ,<-HD.out,bU,bU]
        have e1:(s.data.toList.take (i+1)).drop i=[c]:=by
         rw[List.take_add_one,List.getElem?_eq_getElem (by rw[<-au];exact As),List.drop_append_of_le_length (by rw[List.length_take,<-au];omega),List.drop_eq_nil_of_le (by rw[List.length_take];omega),List.nil_append,<-Hc.out];rfl
        rw[e1]))
       have Al:Hid ((F.take (i+1-Aa)).foldl yP ([],0,false)=(d++[c],if p then e-1 else e,p)):=Hh (by rw[hN.out,yP,if_neg h46,if_pos hap])
       have Am:(0<D.size)\/(¬0<D.size/\(((s[i]'As).toNat:Int) != 48)=true):=by
        by_cases hd:d=[]
        ·rcases hap with h|h
         ·exact absurd hd h
         ·exact .inr ⟨by rw[<-HD.out,aX,hd];simp,by rw[Hc.out];exact JX h rfl⟩
        ·exact .inl (by rw[<-HD.out,aX];exact List.length_pos_iff.2 hd)
       have BP:D.size<=1048576:=by rw[<-HD.out,aX];omega
       have BX:(s.extract i (i+1)).size<=1:=by rw[ByteArray.size_extract];omega
       clear hN h46 hap;rcases Am with hz|⟨hz,d2⟩
       ·cases p with
        |true=>
         have Ac:Hid ((F.take (i+1-Aa)).foldl yP ([],0,false)=(d++[c],e-1,true)):=Hh Al.out;clear Al;go_wp2_with fail
         (go_region;go_wp2_with fail)
         go_roundw
         case rel=>exact⟨i+1,d++[c],e-1,true,by go_num,rfl,by omega,by omega,Ac.out,by omega,by omega,by first|omega|(simp;omega),(hx.setOther _ _ (by simp)).setOther _ _ (by simp),by rw[A6.out];exact (hy.set 2 (by simp) _).set 1 (by simp) _,by (with_reducible repeat' first|refine Below.setCell ?_ ?_ _|refine Below.alloc ?_ ?_ _|refine Below.drew ?_|refine ah ?_ _|assumption|exact Below.refl _ _|(simp only[World.size_alloc,World.size_setCell,World.size_drew];first|done|omega)|omega)⟩
         case measure=>simp[intOf];omega
        |false=>
         have Ac:Hid ((F.take (i+1-Aa)).foldl yP ([],0,false)=(d++[c],e,false)):=Hh Al.out;clear Al;go_wp2_with fail
         (go_region;go_wp2_with fail)
         go_roundw
         case rel=>exact⟨i+1,d++[c],e,false,by go_num,rfl,by omega,by omega,Ac.out,by omega,by omega,by first|omega|(simp;omega),hx.setOther _ _ (by simp),by rw[A6.out];exact hy.set 1 (by simp) _,by (with_reducible repeat' first|refine Below.setCell ?_ ?_ _|refine Below.alloc ?_ ?_ _|refine Below.drew ?_|refine ah ?_ _|assumption|exact Below.refl _ _|(simp only[World.size_alloc,World.size_setCell,World.size_drew];first|done|omega)|omega)⟩
         case measure=>simp[intOf];omega
       ·cases p with
        |true=>
         have Ac:Hid ((F.take (i+1-Aa)).foldl yP ([],0,false)=(d++[c],e-1,true)):=Hh Al.out;clear Al;go_wp2_with fail
         (go_region;go_wp2_with fail)
         go_roundw
         case rel=>exact⟨i+1,d++[c],e-1,true,by go_num,rfl,by omega,by omega,Ac.out,by omega,by omega,by first|omega|(simp;omega),(hx.setOther _ _ (by simp)).setOther _ _ (by simp),by rw[A6.out];exact (hy.set 2 (by simp) _).set 1 (by simp) _,by (with_reducible repeat' first|refine Below.setCell ?_ ?_ _|refine Below.alloc ?_ ?_ _|refine Below.drew ?_|refine ah ?_ _|assumption|exact Below.refl _ _|(simp only[World.size_alloc,World.size_setCell,World.size_drew];first|done|omega)|omega)⟩
         case measure=>simp[intOf];omega
        |false=>
         have Ac:Hid ((F.take (i+1-Aa)).foldl yP ([],0,false)=(d++[c],e,false)):=Hh Al.out;clear Al;go_wp2_with fail
         (go_region;go_wp2_with fail)
         go_roundw
         case rel=>exact⟨i+1,d++[c],e,false,by go_num,rfl,by omega,by omega,Ac.out,by omega,by omega,by first|omega|(simp;omega),hx.setOther _ _ (by simp),by rw[A6.out];exact hy.set 1 (by simp) _,by (with_reducible repeat' first|refine Below.setCell ?_ ?_ _|refine Below.alloc ?_ ?_ _|refine Below.drew ?_|refine ah ?_ _|assumption|exact Below.refl _ _|(simp only[World.size_alloc,World.size_setCell,World.size_drew];first|done|omega)|omega)⟩
         case measure=>simp[intOf];omega
      ·have Al:Hid ((F.take (i+1-Aa)).foldl yP ([],0,false)=(d,if p then e-1 else e,p)):=Hh (by rw[hN.out,yP,if_neg h46,if_neg hap])
       have Am:d=[]/\c=48:=by
        refine⟨?_,?_⟩
        ·by_cases hd:d=[]
         ·exact hd
         ·exact absurd (.inl hd) hap
        ·by_cases hd:c=48
         ·exact hd
         ·exact absurd (.inr hd) hap
       have hz:¬0<D.size:=by rw[<-HD.out,aX,Am.1];simp
       have d2:(((s[i]'As).toNat:Int) != 48)=false:=by rw[Hc.out,Am.2];rfl
       clear hN h46 hap Am
       cases p with
       |true=>
        have Ac:Hid ((F.take (i+1-Aa)).foldl yP ([],0,false)=(d,e-1,true)):=Hh Al.out;clear Al;go_wp2_with fail
        skip
        go_roundw
        case rel=>exact⟨i+1,d,e-1,true,by go_num,rfl,by omega,by omega,Ac.out,by omega,by omega,by first|omega|(simp;omega),hx.setOther _ _ (by simp),by rw[HD.out];exact hy.set 2 (by simp) _,by (with_reducible repeat' first|refine Below.setCell ?_ ?_ _|refine Below.alloc ?_ ?_ _|refine Below.drew ?_|refine ah ?_ _|assumption|exact Below.refl _ _|(simp only[World.size_alloc,World.size_setCell,World.size_drew];first|done|omega)|omega)⟩
        case measure=>simp[intOf];omega
       |false=>
        have Ac:Hid ((F.take (i+1-Aa)).foldl yP ([],0,false)=(d,e,false)):=Hh Al.out;clear Al;go_wp2_with fail
        skip
        go_roundw
        case rel=>exact⟨i+1,d,e,false,by go_num,rfl,by omega,by omega,Ac.out,by omega,by omega,by first|omega|(simp;omega),hx,by rw[HD.out];exact hy,by (with_reducible repeat' first|refine Below.setCell ?_ ?_ _|refine Below.alloc ?_ ?_ _|refine Below.drew ?_|refine ah ?_ _|assumption|exact Below.refl _ _|(simp only[World.size_alloc,World.size_setCell,World.size_drew];first|done|omega)|omega)⟩
        case measure=>simp[intOf];omega
    ·obtain rfl:i=q:=by omega
     have A2:Hid (d=iM ip fr/\e = -(fr.length:Int)):=Hh (by
      have h1:=Ab;rw[show i-Aa=F.length by have:=Hq.out;omega,List.take_length,B3.out] at h1
      exact⟨(congrArg (fun x=>x.1) h1).symm,(congrArg (fun x=>x.2.1) h1).symm⟩)
     clear Ab;clear hlt BC BE;go_wp2_with fail;clear Bm Bn;go_loop [5,7,8] (fun x5 x7 x8=>∃(k n:Nat) (p:Bool),x5=.int .i64 k/\x7=.int .i64 n/\x8=.bool p/\i+1<=k/\k<=i+1+R.length/\(R.take (k-(i+1))).foldl Gc (0,false)=(n,p)/\n<10000000000) (fun x5 _ _=>i+1+R.length-(intOf x5).toNat)
     case atStart=>exact⟨i+1,0,false,by go_num,rfl,rfl,Nat.le_refl _,by omega,by rw[Nat.sub_self];rfl,by omega⟩
     case round=>
      obtain⟨k,n,p,rfl,rfl,rfl,Bk,BF,Ab,AG⟩:=hrel;have hD:=fun W=>pm s k W (by omega)
      by_cases hks:k<s.size
      ·have BV:=Bd.out k hks Bk
       obtain⟨c,Bh⟩:∃c,R[k-(i+1)]'(by omega)=c:=⟨_,rfl⟩;have Au:s[k]'hks=c:=by rw[A0.out k hks Bk (by omega),Bh]
       have hN:Hid ((R.take (k+1-(i+1))).foldl Gc (0,false)=Gc (n,p) c):=Hh (by
        rw[show k+1-(i+1)=(k-(i+1))+1 by omega,lV Gc _ R (by omega),Ab,Bh])
       have AE:kJ s k=dg c:=by
        rw[kJ,qy hks,Au];cases dg c<;>simp
       rw[AE] at hD;clear Ab Bh AE
       by_cases h45:c=45
       ·have Ac:=Hh (show (R.take (k+1-(i+1))).foldl Gc (0,false)=(n,true) by rw[hN.out,Gc,h45];simp[show dg 45=false from rfl])
        rw[h45] at hD Au;have Ay:∀W,Calls Tryz.prog 116 #[.string s,.int .i64 k] W fun r w'=>r=.returned (.bool false)/\W=w':=hD;have d1:(((s[k]'hks).toNat:Int)==45)=true:=by rw[Au];rfl
        clear hN h45 hD Au;go_wp2_with ((with_reducible refine (Ay _).mono ?_);rintro _ _ ⟨rfl,rfl⟩)
        go_round
        case rel=>exact⟨k+1,n,true,by go_num,rfl,rfl,by omega,by omega,Ac.out,AG⟩
        case measure=>(simp[intOf]<;>omega)
       ·have d1:(((s[k]'hks).toNat:Int)==45)=false:=by rw[Au];exact eY h45 rfl
        cases hdc:dg c with
        |false=>
         have Ac:=Hh (show (R.take (k+1-(i+1))).foldl Gc (0,false)=(n,p) by rw[hN.out,Gc,hdc];simp[h45]);rw[hdc] at hD;clear hN h45 Au hdc;go_wp2_with ((with_reducible refine (hD _).mono ?_);rintro _ _ ⟨rfl,rfl⟩)
         go_round
         case rel=>exact⟨k+1,n,p,by go_num,rfl,rfl,by omega,by omega,Ac.out,AG⟩
         case measure=>simp[intOf]<;>omega
        |true=>
         have BS:48<=(s[k]'hks).toNat/\(s[k]'hks).toNat<=57:=by rw[Au];exact qQ hdc
         have Ac:=Hh (show (R.take (k+1-(i+1))).foldl Gc (0,false)=(qH n c,p) by rw[hN.out,Gc,hdc];simp[h45]);rw[hdc] at hD;have Bt:=Hh Au;clear hN h45 hdc Au d1;have d1:¬((s[k]'hks).toNat:Int)=45:=by omega
         by_cases hn9:n<1000000000
         ·have BK:n<=999999999:=by omega
          have hA:=Hh (show qH n c=n*10+(c.toNat-48) by rw[qH,if_pos hn9]);have Br:=Hh hn9;clear AG hn9;go_upto_region 22 with fail
          go_upto_if 82 with fail
          go_upto_region 24 with fail
          go_upto_if 89 with ((with_reducible refine (hD _).mono ?_);rintro _ _ ⟨rfl,rfl⟩)
          rw[show decide ((n:Int)<1000000000)=true from decide_eq_true (by omega)];go_wp2;go_round
          case rel=>exact⟨k+1,qH n c,p,by go_num,by rw[hA.out,<-Bt.out];congr 1;have:=Br.out;(try unfold wrap64);omega,rfl,by omega,by omega,Ac.out,by rw[hA.out,<-Bt.out];have:=Br.out;omega⟩
          case measure=>(simp[intOf]<;>omega)
         ·have BK:1000000000<=n:=by omega
          have hA:=Hh (show qH n c=n by rw[qH,if_neg hn9]);have B2:=Hh AG;clear hn9 AG;go_upto_region 22 with fail
          go_upto_if 82 with fail
          go_upto_region 24 with fail
          go_upto_if 89 with ((with_reducible refine (hD _).mono ?_);rintro _ _ ⟨rfl,rfl⟩)
          rw[show decide ((n:Int)<1000000000)=false from decide_eq_false (by omega)];go_wp2;go_round
          case rel=>exact⟨k+1,qH n c,p,by go_num,by rw[hA.out],rfl,by omega,by omega,Ac.out,by rw[hA.out];exact B2.out⟩
          case measure=>(simp[intOf]<;>omega)
      ·have BG:=Bc.out k hks Bk BF
       have An:n=pw.foldl qH 0/\p=decide (sg=[45]):=by
        have h1:=Ab;rw[show k-(i+1)=R.length by omega,List.take_length,B4.out] at h1;exact⟨(congrArg (fun x=>x.1) h1).symm,(congrArg (fun x=>x.2) h1).symm⟩
       have AS:vz sg pw=if p then -(n:Int) else n:=by
        rw[vz,NS,An.1,An.2]
        by_cases h:sg=[45]<;>simp[h]
       obtain⟨P,hP⟩:∃P,vz sg pw=P:=⟨_,rfl⟩;have HP:=Hh hP;rw[hP] at AS;have Bb:=Hh AS;have BR : -10000000000<=P/\P<=10000000000:=by rw[AS];split<;>omega
       clear Ab An AS hP BG hD;go_upto_if 98 with fail
       go_cut [7] (fun x wc=>x=.int .i64 P/\wr=wc)
       case first=>
        cases p with
        |false=>
         go_wp2;go_meet
         case rel=>exact⟨by rw[Bb.out];rfl,rfl⟩
        |true=>
         go_wp2;go_meet
         case rel=>exact⟨by rw[Bb.out];simp,rfl⟩
       case rest=>
        obtain⟨rfl,rfl⟩:=hcut;rw[A2.out.1,A2.out.2] at hy;clear A2 BA AX A8 Bb;obtain⟨Ag,Ai,Af,Aj,Ah,Ak⟩:=hy.n3 rfl;go_wp2_with fail;go_loopw [] (fun wr2=>∃(d:Bs) (e:Int),Lib.trimRightB d 48=gF ip fr/\e+d.length = -(fr.length:Int)+P+(iM ip fr).length/\d.length<=(iM ip fr).length/\ae wr2 w.heap.size #[.bool false,.string ⟨#[]⟩,.int .i64 0] 122/\ae wr2 (w.heap.size+1) #[.bool neg,.string (ay d),.int .i64 e] 122/\Below w.heap.size w wr2) (fun wr2=>match wr2.cell? ⟨w.heap.size+1,1,none⟩ with|some v=>Lib.strSize v|none=>0)
        case atStart=>exact⟨iM ip fr,-(fr.length:Int)+P,rfl,rfl,Nat.le_refl _,hx.setOther _ _ (by simp),hy.set 2 (by simp) _,by (with_reducible repeat' first|refine Below.setCell ?_ ?_ _|refine Below.alloc ?_ ?_ _|refine Below.drew ?_|refine ah ?_ _|assumption|exact Below.refl _ _|(simp only[World.size_alloc,World.size_setCell,World.size_drew];first|done|omega)|omega)⟩
        case round=>
         clear hx hy hb Ag Af Ah Ai Aj Ak;obtain⟨d,e,ht,he,A8,hx,hy,hb⟩:=hrel;have AF:(ay d).size=d.length:=aX d;have BT : -20000000000<=e/\e<=20000000000:=by omega
         rcases yg d with hd0|⟨d',c,hd0⟩
         ·subst hd0
          have hV:=Hh (show gq neg ip fr (vz sg pw)=((false,[],0),0) by
           rw[gq,if_pos (show gF ip fr=[] from ht.symm)])
          have hy:ae wr (w.heap.size+1) #[.bool neg,.string ⟨#[]⟩,.int .i64 e] 122:=hy;have hz:((⟨#[]⟩:ByteArray).size:Int)=0:=rfl;clear ht he A8 AF;obtain⟨Av,A3,Aw,A4,Ax,A5⟩:=hx.n3 rfl;obtain⟨Ag,Ai,Af,Aj,Ah,Ak⟩:=hy.n3 rfl;go_wp2;refine bodyPost_ret (v:=dL ((false,[],0),0)) (by simp[results,Tryz.results82,go_sem,dL,ay,Av,Aw,Ax]) rfl ⟨by rw[hV.out],?_⟩
          (with_reducible repeat' first|refine Below.setCell ?_ ?_ _|refine Below.alloc ?_ ?_ _|refine Below.drew ?_|refine ah ?_ _|assumption|exact Below.refl _ _|(simp only[World.size_alloc,World.size_setCell,World.size_drew];first|done|omega)|omega)
         ·subst hd0
          obtain⟨D,hD⟩:∃D,ay (d'++[c])=D:=⟨_,rfl⟩;rw[hD] at hy AF;have Bu:D.size=d'.length+1:=by rw[AF];simp
          have BO:0<D.size:=by omega
          have B6:D.size<=1048576:=by omega
          have Be:D.size-1<D.size:=by omega
          have BN:0<=(D.size:Int)-1/\(D.size:Int)-1<(D.size:Int):=by omega
          have AA:D[D.size-1]'Be=c:=by
           subst hD;rw[Mj];simp[aX]
          by_cases h48:c=48
          ·have d2:(((D[D.size-1]'Be).toNat:Int)==48)=true:=by rw[AA,h48];rfl
           have AI:D.extract 0 (D.size-1)=ay d':=by
            rw[<-hD,wG,aX];simp
           have B0:Lib.trimRightB d' 48=gF ip fr:=by rw[<-ht,wu,if_pos h48]
           have BH:d'.length<=(iM ip fr).length:=by simp at A8;omega
           have AX:e+1+d'.length = -(fr.length:Int)+P+(iM ip fr).length:=by rw[<-he];simp;omega
           have HT:=Hh B0;have HE:=Hh AX;have BI:d'.length<D.size:=by omega
           clear ht he A8 AF Bu AA h48 hD B0 AX;obtain⟨D2,Ay⟩:∃D2,ay d'=D2:=⟨_,rfl⟩;have Bp:=Hh (show D2.size=d'.length by rw[<-Ay,aX]);have A6:=Hh Ay;rw[Ay] at AI;clear Ay;obtain⟨Ag,Ai,Af,Aj,Ah,Ak⟩:=hy.n3 rfl;go_wp2;go_roundw
           case rel=>exact⟨d',e+1,HT.out,HE.out,BH,(hx.setOther _ _ (by simp)).setOther _ _ (by simp),by rw[A6.out];exact (hy.set 1 (by simp) _).set 2 (by simp) _,by (with_reducible repeat' first|refine Below.setCell ?_ ?_ _|refine Below.alloc ?_ ?_ _|refine Below.drew ?_|refine ah ?_ _|assumption|exact Below.refl _ _|(simp only[World.size_alloc,World.size_setCell,World.size_drew];first|done|omega)|omega)⟩
           case measure=>
            have m1:=((hy.set 1 (by simp) (.string D2)).set 2 (by simp) (.int .i64 (e+1))).cell 1 _ rfl;rw[m1,Af];show D2.size<D.size;rw[Bp.out];exact BI
          ·have d2:(((D[D.size-1]'Be).toNat:Int)==48)=false:=by rw[AA];exact eY h48 rfl
           have AH:d'++[c]=gF ip fr:=by rw[<-ht,wu,if_neg h48]
           have BQ:((D.size:Int)==0)=false:=by rw[beq_eq_false_iff_ne];omega
           have AT:=fun W=>yT neg D e W B6
           have hV:=Hh (show gq neg ip fr (vz sg pw)=if oM neg D e then ((neg,gF ip fr,e),0) else ((false,[],0),4) by
            have AV:gF ip fr≠[]:=by rw[<-AH];simp
            have B7:BZ ip fr (vz sg pw)=e:=by
             have h1:=HP.out;have h2:(gF ip fr).length<=(iM ip fr).length:=Cb _;rw[BZ,h1];rw[AH] at he;omega
            rw[gq,if_neg AV,B7,show (⟨(gF ip fr).toArray⟩:ByteArray)=D by rw[<-AH];exact hD])
           have HC:=Hh (show ay (gF ip fr)=D by rw[<-AH];exact hD);clear ht he A8 AF Bu AA h48 hD AH;obtain⟨Av,A3,Aw,A4,Ax,A5⟩:=hx.n3 rfl;obtain⟨Ag,Ai,Af,Aj,Ah,Ak⟩:=hy.n3 rfl
           cases hr:oM neg D e with
           |true=>
            have Bf:=Hh (show gq neg ip fr (vz sg pw)=((neg,gF ip fr,e),0) by rw[hV.out,if_pos hr]);rw[hr] at AT;clear hV hr;go_wp2_with fail;refine (AT _).mono ?_;rintro _ w2 ⟨rfl,hb2⟩;have AI:=hx.below hb2 hx.lt;have Bq:=hy.below hb2 hy.lt;have B8:=hb.trans (hb2.mono hb.size);clear hb2 Av Aw Ax A3 A4 A5 Ag Af Ah Ai Aj Ak;obtain⟨Ap,AJ,Aq,AK,Ar,AL⟩:=AI.n3 rfl;obtain⟨AM,AP,AN,AQ,AO,AR⟩:=Bq.n3 rfl;go_wp2;have B5:=HC.out;refine bodyPost_ret (v:=dL ((neg,gF ip fr,e),0)) (by simp[results,Tryz.results82,go_sem,dL,B5,Ap,Aq,Ar]) rfl ⟨by rw[Bf.out],?_⟩
            (with_reducible repeat' first|refine Below.setCell ?_ ?_ _|refine Below.alloc ?_ ?_ _|refine Below.drew ?_|refine ah ?_ _|assumption|exact Below.refl _ _|(simp only[World.size_alloc,World.size_setCell,World.size_drew];first|done|omega)|omega)
           |false=>
            have Bf:=Hh (show gq neg ip fr (vz sg pw)=((false,[],0),4) by rw[hV.out,if_neg (by rw[hr];decide)]);rw[hr] at AT;clear hV hr;go_wp2_with fail;refine (AT _).mono ?_;rintro _ w2 ⟨rfl,hb2⟩;have AI:=hx.below hb2 hx.lt;have Bq:=hy.below hb2 hy.lt;have B8:=hb.trans (hb2.mono hb.size);clear hb2 Av Aw Ax A3 A4 A5 Ag Af Ah Ai Aj Ak;obtain⟨Ap,AJ,Aq,AK,Ar,AL⟩:=AI.n3 rfl;obtain⟨AM,AP,AN,AQ,AO,AR⟩:=Bq.n3 rfl;go_wp2;refine bodyPost_ret (v:=dL ((false,[],0),4)) (by simp[results,Tryz.results82,go_sem,dL,ay,Ap,Aq,Ar]) rfl ⟨by rw[Bf.out],?_⟩
            (with_reducible repeat' first|refine Below.setCell ?_ ?_ _|refine Below.alloc ?_ ?_ _|refine Below.drew ?_|refine ah ?_ _|assumption|exact Below.refl _ _|(simp only[World.size_alloc,World.size_setCell,World.size_drew];first|done|omega)|omega)
theorem CJ(s:ByteArray)(w:World)(hs:s.size<=1048576) :
  Calls Tryz.prog 82 #[.string s] w fun e w'=>e=.returned (dL (decR s.data.toList))/\Below w.heap.size w w':=by
 by_cases h:cB s.data.toList=s.data.toList.length/\s.data.toList≠[]
 ·obtain⟨Aa,ip,fr,mk,sg,pw,hn⟩:=qN _ h.1 h.2
  rw[hn.decR];have h2:=CG s Aa ip fr mk sg pw w hs hn;rw[<-Dc Aa ip fr sg pw hn.dpw (by have:=hn.len.1;rw[<-au] at this;omega)] at h2;exact h2
 ·have h2:s.data.toList=[]\/cB s.data.toList≠s.size:=by
   rw[au]
   by_cases h3:s.data.toList=[]
   ·exact .inl h3
   ·exact .inr (fun e=>h ⟨e,h3⟩)
  rw[show decR s.data.toList=((false,[],0),3) by unfold decR;rw[if_neg h]];exact EW s w hs h2
def yK(w:World)(s:ByteArray)(k:Nat)(r:LR):Ending->World->Prop:=Au w (xF s k r).1 (xF s k r).2.1 (xF s k r).2.2
theorem jA{w w1 w2:World}{l:List ag}{a e:Int}{v:Value}(hb:Below w.heap.size w w1)(hbx:ae w1 w.heap.size #[.slice none 0 0,.int .i64 0,.int .i64 0] 38)(hl:w1.heap.size<=w2.heap.size)
  (hown:aO w1.heap.size w2 v l) (hb2:Below w1.heap.size w1 w2) :
  ae w2 w.heap.size #[.slice none 0 0,.int .i64 0,.int .i64 0] 38/\
  aO w.heap.size (ak w2 w.heap.size 0 [v,.int .i64 a,.int .i64 e]) v l/\Below w.heap.size w (ak w2 w.heap.size 0 [v,.int .i64 a,.int .i64 e])/\
  ae (ak w2 w.heap.size 0 [v,.int .i64 a,.int .i64 e]) w.heap.size #[v,.int .i64 a,.int .i64 e] 38:=by
 have hc:=hbx.below hb2 hbx.lt;refine⟨hc,?_,aS _ _ lz _ _ _ _ (hb.trans (hb2.mono hb.size)),?_⟩
 ·refine (hown.base_le hb.size).moved (fun k hk=>aL _ _ _ _ _ ?_)
  have h1:=(World.ownsRow.lt hown k hk).1;have h2:=hbx.lt;omega
 ·exact hc.put [v,.int .i64 a,.int .i64 e] 0
theorem Kz(s:ByteArray)(k:Nat)(w:World)(hs:s.size<=1048576)(hk:k<s.size)(h:s[k]'hk=10) :
  Calls Tryz.prog 46 #[.string s,.int .i64 (k:Nat)] w (yK w s k (.tok 5 1)):=by
 have Am:(s[k]'hk).toNat=10:=by rw[h];rfl
 clear h;have hb:Below w.heap.size w (w.alloc (.cells #[.slice none 0 0,.int .i64 0,.int .i64 0] 38)):=(Below.refl _ w).alloc lz _;have Ad:=ae.new w #[.slice none 0 0,.int .i64 0,.int .i64 0] 38;have hT:=lu s k 1 5 (w.alloc (.cells #[.slice none 0 0,.int .i64 0,.int .i64 0] 38)) (by omega) (by omega);have An:k+1<=s.size:=hk;go_enter Tryz.func46,Tryz.ntmps46;go_wp2_with fail;refine (hT).mono ?_;rintro _ w2 ⟨v,rfl,hown,hb2⟩;obtain⟨Ac,Aa,Ab,-⟩:=jA (a:=0) (e:=0) hb Ad hb2.size hown hb2;obtain⟨va,vc,Ak⟩:=hown.len;simp only[List.length_cons,List.length_nil,Nat.zero_add] at Ak;subst Ak;have Ao:=Ac.lt;have HX:=Jh Aa (And.intro Ab Ac);clear hown hb2 Aa Ab hb Ad;obtain⟨Ae,Ah,Af,Ai,Ag,Aj⟩:=Ac.n3 rfl;go_wp2;obtain⟨Aa,Ab,Al⟩:=HX.out;have hq:=((Al.setI 0 (.slice va 1 vc)).setI 1 (.int .i64 0)).setI 2 (.int .i64 0);obtain⟨hx,hy,hz⟩:=hq.m3 rfl;refine bodyPost_ret (v:=.agg #[.slice va 1 vc,.int .i64 0,.int .i64 0]) (by simp[results,Tryz.results46,go_sem,hx,hy,hz]) rfl ?_;exact⟨_,rfl,Aa,Ab⟩
theorem Kw(s:ByteArray)(k:Nat)(w:World)(hs:s.size<=1048576)(hk:k<s.size)(h10:s[k]'hk≠10)(h:jO (s[k]'hk)=true) :
  Calls Tryz.prog 46 #[.string s,.int .i64 (k:Nat)] w (yK w s k (.tok 1 (1+uf (s.data.toList.drop (k+1))))):=by
 have Av:=eY h10 (m:=10) rfl;have Aq:=iw (s[k]'hk);rw[h] at Aq;clear h h10;have hb:Below w.heap.size w (w.alloc (.cells #[.slice none 0 0,.int .i64 0,.int .i64 0] 38)):=(Below.refl _ w).alloc lz _;have Ac:=ae.new w #[.slice none 0 0,.int .i64 0,.int .i64 0] 38;obtain⟨q,hq⟩:∃q,uf (s.data.toList.drop (k+1))=q:=⟨_,rfl⟩;rw[hq];have Ax:q<=s.size-(k+1):=by rw[<-hq];have:=FH (s.data.toList.drop (k+1));rw[List.length_drop,<-au] at this;exact this
 have HQ:=Hh hq;clear hq;have hT:=lu s k (1+q) 1 (w.alloc (.cells #[.slice none 0 0,.int .i64 0,.int .i64 0] 38)) (by omega) (by omega);have HH:=Jh hb (And.intro Ac hT);clear hb Ac hT;go_enter Tryz.func46,Tryz.ntmps46;go_wp2_with fail;refine (Aq _).mono ?_;rintro _ _ ⟨rfl,hw1⟩;cases hw1
 go_wp2_with fail;go_loop [5] (fun n=>∃j:Nat,n=.int .i64 (j:Int)/\1<=j/\k+j<=s.size/\j+uf (s.data.toList.drop (k+j))=1+q) (fun n=>s.size-(k+(intOf n).toNat))
 case atStart=>exact⟨1,rfl,Nat.le_refl _,hk,by rw[HQ.out]⟩
 case round=>
  clear HQ;obtain⟨j,rfl,Aw,hj,hI⟩:=hrel
  by_cases hlt:k+j<s.size
  ·have As:=DC s.data.toList (k+j) (by rw[<-au];exact hlt)
   rw[As] at hI;have Ae:=iw (s[k+j]'hlt);rw[<-iU hlt,show M9 (s[k+j]'hlt)=(jO (s[k+j]'hlt) || dg (s[k+j]'hlt)) from rfl] at hI;clear As;have An:0<=(k:Int)+j/\(k:Int)+j<s.size:=by omega
   have Ar:0<=(k:Int)+j/\(k:Int)+j<(s.size:Int):=An
   cases hb:jO (s[k+j]'hlt) with
   |true=>
    rw[hb] at hI Ae;simp only[Bool.true_or,if_true] at hI;have HI:=Hh hI;clear hI hb;go_wp2_with fail;refine (Ae _).mono ?_;rintro _ _ ⟨rfl,hw1⟩;cases hw1
    go_wp2;go_round
    case rel=>exact⟨j+1,by go_num,by omega,by omega,by have:=HI.out;rw[show k+(j+1)=k+j+1 by omega];omega⟩
    case measure=>simp[intOf];omega
   |false=>
    rw[hb] at hI Ae
    cases hd:dg (s[k+j]'hlt) with
    |true=>
     rw[hd] at hI;have Am:=qQ hd;simp only[Bool.or_true,if_true] at hI;have HI:=Hh hI;clear hI hb hd;go_wp2_with fail;refine (Ae _).mono ?_;rintro _ _ ⟨rfl,hw1⟩;cases hw1
     go_wp2;go_round
     case rel=>exact⟨j+1,by go_num,by omega,by omega,by have:=HI.out;rw[show k+(j+1)=k+j+1 by omega];omega⟩
     case measure=>simp[intOf];omega
    |false=>
     rw[hd] at hI
     have Am:(s[k+j]'hlt).toNat<48\/(48<=(s[k+j]'hlt).toNat/\57<(s[k+j]'hlt).toNat):=by
      have:¬(48<=(s[k+j]'hlt).toNat/\(s[k+j]'hlt).toNat<=57):=by simpa [dg,Jm] using hd
      omega
     simp only[Bool.or_false,Bool.false_eq_true,if_false] at hI;have Ap:j=1+q:=by omega
     clear hI hb hd;subst Ap;rcases Am with Am|Am
     all_goals
      go_wp2_with fail;refine (Ae _).mono ?_;rintro _ _ ⟨rfl,hw1⟩;cases hw1
      go_wp2_with fail;obtain⟨hb,Ac,hT⟩:=HH.out;refine (hT).mono ?_;rintro _ w2 ⟨v,rfl,hown,hb2⟩;obtain⟨Ad,Aa,Ab,-⟩:=jA (a:=0) (e:=0) hb Ac hb2.size hown hb2;obtain⟨va,vc,Al⟩:=hown.len;simp only[List.length_cons,List.length_nil,Nat.zero_add] at Al;subst Al;have Au:=Ad.lt;have HX:=Jh Aa (And.intro Ab Ad);clear hown hb2 Aa Ab hb Ac;obtain⟨Af,Ai,Ag,Aj,Ah,Ak⟩:=Ad.n3 rfl;go_wp2;obtain⟨Aa,Ab,Ao⟩:=HX.out;have hq:=((Ao.setI 0 (.slice va 1 vc)).setI 1 (.int .i64 0)).setI 2 (.int .i64 0);obtain⟨hx,hy,hz⟩:=hq.m3 rfl;refine bodyPost_ret (v:=.agg #[.slice va 1 vc,.int .i64 0,.int .i64 0]) (by simp[results,Tryz.results46,go_sem,hx,hy,hz]) rfl ?_;exact⟨_,rfl,Aa,Ab⟩
  ·have At:k+j=s.size:=by omega
   have he:uf (s.data.toList.drop (k+j))=0:=by rw[At,au,List.drop_length];rfl
   rw[he] at hI;have Ap:j=1+q:=by omega
   clear hI he;subst Ap;go_wp2_with fail;obtain⟨hb,Ac,hT⟩:=HH.out;refine (hT).mono ?_;rintro _ w2 ⟨v,rfl,hown,hb2⟩;obtain⟨Ad,Aa,Ab,-⟩:=jA (a:=0) (e:=0) hb Ac hb2.size hown hb2;obtain⟨va,vc,Al⟩:=hown.len;simp only[List.length_cons,List.length_nil,Nat.zero_add] at Al;subst Al;have Au:=Ad.lt;have HX:=Jh Aa (And.intro Ab Ad);clear hown hb2 Aa Ab hb Ac;obtain⟨Af,Ai,Ag,Aj,Ah,Ak⟩:=Ad.n3 rfl;go_wp2;obtain⟨Aa,Ab,Ao⟩:=HX.out;have hq:=((Ao.setI 0 (.slice va 1 vc)).setI 1 (.int .i64 0)).setI 2 (.int .i64 0);obtain⟨hx,hy,hz⟩:=hq.m3 rfl;refine bodyPost_ret (v:=.agg #[.slice va 1 vc,.int .i64 0,.int .i64 0]) (by simp[results,Tryz.results46,go_sem,hx,hy,hz]) rfl ?_;exact⟨_,rfl,Aa,Ab⟩
theorem Ng(s:ByteArray)(k n:Nat):(s.extract k (k+n)).data.toList=(s.data.toList.drop k).take n:=by rw[eQ,List.drop_take];congr 1;omega
theorem Fg(s:ByteArray)(k:Nat)(w:World)(hs:s.size<=1048576)(hk:k<s.size)(hl:jO (s[k]'hk)=false)(h:dg (s[k]'hk)=true) :
  Calls Tryz.prog 46 #[.string s,.int .i64 (k:Nat)] w (yK w s k (l9 (s.data.toList.drop k))):=by
 have Aw:=eY (qP h (d:=10) rfl) (m:=10) rfl;have Ax:=qQ h;have Af:=iw (s[k]'hk);rw[hl] at Af;have hS:=fun W=>uz (s.extract k s.size) W (by rw[ByteArray.size_extract];omega);rw[tH] at hS;have Av:=o8 (s.data.toList.drop k);rw[List.length_drop,<-au] at Av;have hP:=fun W=>CJ (s.extract k (k+cB (s.data.toList.drop k))) W (by rw[ByteArray.size_extract];omega);rw[Ng] at hP;unfold l9 Jo;clear hl h;generalize cB (s.data.toList.drop k)=n at *;obtain⟨⟨⟨b,d,x⟩,z⟩,hR⟩:∃r,decR ((s.data.toList.drop k).take n)=r:=⟨_,rfl⟩;rw[hR] at hP ⊢;simp only[dL] at hP ⊢;clear hR;have hb:Below w.heap.size w (w.alloc (.cells #[.slice none 0 0,.int .i64 0,.int .i64 0] 38)):=(Below.refl _ w).alloc lz _;have Ac:=ae.new w #[.slice none 0 0,.int .i64 0,.int .i64 0] 38
 by_cases hz:z=0
 ·subst hz
  rw[if_pos rfl];go_enter Tryz.func46,Tryz.ntmps46;go_wp2_with fail;refine (Af _).mono ?_;rintro _ _ ⟨rfl,hw1⟩;cases hw1
  go_wp2_with fail;refine (hS _).mono ?_;rintro _ _ ⟨rfl,hw1⟩;cases hw1
  go_wp2_with fail;refine (hP _).mono ?_;rintro _ w1 ⟨rfl,hb1⟩;have Aa:=(Ac.below hb1 Ac.lt).alloc (.cells #[.bool b,.string (ay d),.int .i64 x] 122);have Ad:=(hb.trans (hb1.mono hb.size)).alloc (Nat.le_trans hb.size hb1.size) (.cells #[.bool b,.string (ay d),.int .i64 x] 122);clear hb Ac hb1 hP hS;have hb:=Ad;have Ac:=Aa;clear Ad Aa;go_wp2_with fail;refine (lu s k n 2 _ (by omega) (by omega)).mono ?_;rintro _ w2 ⟨v,rfl,hown,Ad⟩;obtain⟨Am,Ab,Ae,-⟩:=jA (a:=0) (e:=0) hb Ac Ad.size hown Ad;obtain⟨va,vc,At⟩:=hown.len
  (try simp only[List.length_cons,List.length_nil,Nat.zero_add] at At)
  subst At;have Az:=Am.lt;have HX:=Jh Ab (And.intro Ae Am);clear hown Ad Ab Ae hb Ac;obtain⟨An,Aq,Ao,Ar,Ap,As⟩:=Am.n3 rfl;go_wp2;obtain⟨Ab,Ae,Au⟩:=HX.out;have hq:=((Au.setI 0 (.slice va 1 vc)).setI 1 (.int .i64 0)).setI 2 (.int .i64 0);obtain⟨hx,hy,hz⟩:=hq.m3 rfl;refine bodyPost_ret (v:=.agg #[.slice va 1 vc,.int .i64 0,.int .i64 0]) (by simp[results,Tryz.results46,go_sem,hx,hy,hz]) rfl ?_;exact⟨_,rfl,Ab,Ae⟩
 ·have A0:(z != 0)=true:=by simpa using hz
  rw[if_neg hz];go_enter Tryz.func46,Tryz.ntmps46;go_wp2_with fail;refine (Af _).mono ?_;rintro _ _ ⟨rfl,hw1⟩;cases hw1
  go_wp2_with fail;refine (hS _).mono ?_;rintro _ _ ⟨rfl,hw1⟩;cases hw1
  go_wp2_with fail;refine (hP _).mono ?_;rintro _ w1 ⟨rfl,hb1⟩;have Aa:=Ac.below hb1 Ac.lt;have HB:=Hh (hb.trans (hb1.mono hb.size));have Ay:=Aa.lt;have HC:=Hh Aa;clear hb Ac hb1 hP hS;obtain⟨Ag,Aj,Ah,Ak,Ai,Al⟩:=Aa.n3 rfl;clear Aa;go_wp2;have hq:=((((HC.out).setI 0 (.slice none 0 0)).setI 1 (.int .i64 (k:Nat))).setI 2 (.int .i64 z)).alloc (.cells #[.bool b,.string (ay d),.int .i64 x] 122);obtain⟨hx,hy,hz⟩:=hq.m3 rfl;refine bodyPost_ret (v:=.agg #[.slice none 0 0,.int .i64 (k:Nat),.int .i64 z]) (by simp[results,Tryz.results46,go_sem,hx,hy,hz]) rfl ?_;exact⟨_,by simp[xF],aO.nil,(aS _ _ lz [.slice none 0 0,.int .i64 (k:Nat),.int .i64 z] 0 _ _ HB.out).alloc (by rw[aA];exact HB.out.size) _⟩
theorem Ff(s:ByteArray)(k:Nat)(w:World)(hs:s.size<=1048576)(hk:k<s.size)(h:s[k]'hk=34) :
  Calls Tryz.prog 46 #[.string s,.int .i64 (k:Nat)] w (yK w s k (nz (s.data.toList.drop k))):=by
 have Aw:(s[k]'hk).toNat=34:=by rw[h];rfl
 have Ag:=iw 34;rw[show jO 34=false from rfl] at Ag;have hQ:=fun W=>rE (s.extract k s.size) W (by rw[ByteArray.size_extract];omega);rw[show bs (s.extract k s.size)=nb (s.data.toList.drop k) by unfold bs nb;rw[tH]] at hQ;unfold nz;have Ae:=fun h=>(jd (gy (s.data.toList.drop k)) h).2;rw[j3,List.length_drop,<-au] at Ae;clear h;generalize aV (nb (s.data.toList.drop k))=q at *;obtain⟨qs,qn,qe⟩:=q;simp only[bQ] at hQ Ae ⊢;generalize bf (un qs)=qs at *;have hb:Below w.heap.size w (w.alloc (.cells #[.slice none 0 0,.int .i64 0,.int .i64 0] 38)):=(Below.refl _ w).alloc lz _;have Ac:=ae.new w #[.slice none 0 0,.int .i64 0,.int .i64 0] 38
 by_cases he:qe=0
 ·subst he
  have A0:=Ae rfl;rw[if_pos rfl];clear Ae;go_enter Tryz.func46,Tryz.ntmps46;go_wp2_with fail;refine (Ag _).mono ?_;rintro _ _ ⟨rfl,hw1⟩;cases hw1
  go_wp2_with fail;refine (hQ _).mono ?_;rintro _ w1 ⟨rfl,hb1⟩;have Aa:=(Ac.below hb1 Ac.lt).alloc (.cells #[.string qs,.int .i64 (qn:Int),.int .i64 ((0:Nat):Int)] 126);have Ad:=(hb.trans (hb1.mono hb.size)).alloc (Nat.le_trans hb.size hb1.size) (.cells #[.string qs,.int .i64 (qn:Int),.int .i64 ((0:Nat):Int)] 126);clear hb Ac hb1 hQ;have hb:=Ad;have Ac:=Aa;clear Ad Aa;go_wp2_with fail;refine (lu s k qn 3 _ (by omega) (by omega)).mono ?_;rintro _ w2 ⟨v,rfl,hown,Ad⟩;obtain⟨An,Ab,Af,-⟩:=jA (a:=0) (e:=0) hb Ac Ad.size hown Ad;obtain⟨va,vc,Au⟩:=hown.len
  (try simp only[List.length_cons,List.length_nil,Nat.zero_add] at Au)
  subst Au;have Az:=An.lt;have HX:=Jh Ab (And.intro Af An);clear hown Ad Ab Af hb Ac;obtain⟨Ao,Ar,Ap,As,Aq,At⟩:=An.n3 rfl;go_wp2;obtain⟨Ab,Af,Av⟩:=HX.out;have hq:=((Av.setI 0 (.slice va 1 vc)).setI 1 (.int .i64 0)).setI 2 (.int .i64 0);obtain⟨hx,hy,hz⟩:=hq.m3 rfl;refine bodyPost_ret (v:=.agg #[.slice va 1 vc,.int .i64 0,.int .i64 0]) (by simp[results,Tryz.results46,go_sem,hx,hy,hz]) rfl ?_;exact⟨_,rfl,Ab,Af⟩
 ·have Ax:((qe:Int) != 0)=true:=by rw[bne_iff_ne];omega
  rw[if_neg (by omega)];clear he Ae;go_enter Tryz.func46,Tryz.ntmps46;go_wp2_with fail;refine (Ag _).mono ?_;rintro _ _ ⟨rfl,hw1⟩;cases hw1
  go_wp2_with fail;refine (hQ _).mono ?_;rintro _ w1 ⟨rfl,hb1⟩;have Aa:=Ac.below hb1 Ac.lt;have HB:=Hh (hb.trans (hb1.mono hb.size));have Ay:=Aa.lt;have HC:=Hh Aa;clear hb Ac hb1 hQ;obtain⟨Ah,Ak,Ai,Al,Aj,Am⟩:=Aa.n3 rfl;clear Aa;go_wp2;have hq:=((((HC.out).setI 0 (.slice none 0 0)).setI 1 (.int .i64 (k:Nat))).setI 2 (.int .i64 (qe:Nat))).alloc (.cells #[.string qs,.int .i64 (qn:Int),.int .i64 (qe:Int)] 126);obtain⟨hx,hy,hz⟩:=hq.m3 rfl;refine bodyPost_ret (v:=.agg #[.slice none 0 0,.int .i64 (k:Nat),.int .i64 (qe:Nat)]) (by simp[results,Tryz.results46,go_sem,hx,hy,hz]) rfl ?_;exact⟨_,by simp[xF],aO.nil,(aS _ _ lz [.slice none 0 0,.int .i64 (k:Nat),.int .i64 (qe:Nat)] 0 _ _ HB.out).alloc (by rw[aA];exact HB.out.size) _⟩
theorem Et(a:Bs)(b:UInt8)(cs:Bs):Lib.trimRightS (a++[b]) cs=if cs.contains b then Lib.trimRightS a cs else a++[b]:=by
 unfold Lib.trimRightS;rw[List.reverse_append,List.reverse_singleton,List.singleton_append,List.dropWhile_cons]
 by_cases h:cs.contains b=true
 ·rw[if_pos h,if_pos h]
 ·rw[if_neg h,if_neg h];simp
theorem I4(l:Bs){c:UInt8}{r:Bs}(h:l=c::r)(hc:c≠10):1<=bR l:=by
 rw[h,bR,if_neg hc];omega
theorem Fe(s:ByteArray)(k:Nat)(w:World)(hs:s.size<=1048576)(hk:k<s.size)(hc:s[k]'hk=35\/(s[k]'hk=47/\(s.data.toList.drop (k+1)).head?=some 47)) :
  Calls Tryz.prog 46 #[.string s,.int .i64 (k:Nat)] w (yK w s k (fP (fQ (s.data.toList.drop k)) 6)):=by
 have hd:=eG hk;obtain⟨L,hL⟩:∃L,(s.data.toList.drop k).take (bR (s.data.toList.drop k))=L:=⟨_,rfl⟩;obtain⟨ln,Ac⟩:∃ln,bR (s.data.toList.drop k)=ln:=⟨_,rfl⟩;have A7:=pG (s.data.toList.drop k);rw[Ac,List.length_drop,<-au] at A7;have Ao:L.length=ln:=by rw[<-hL,Ac,List.length_take,List.length_drop,<-au];omega
 have Ay:fQ (s.data.toList.drop k)=Lib.trimRightS L iX:=by unfold fQ;rw[hL]
 have Ax:∀j,j<=ln->(s.data.toList.take (k+j)).drop k=L.take j:=by
  intro j hj;rw[<-hL,Ac,List.take_take,Nat.min_eq_left hj,List.drop_take];congr 1;omega
 have Af:∀j,j<ln->∃h2:k+j<s.size,L[j]?=some (s[k+j]'h2):=by
  intro j h1;have h2:k+j<s.size:=by omega
  have h3:(s.data.toList.drop k)[j]?=some (s[k+j]'h2):=by
   rw[List.getElem?_drop,iU,List.getElem?_eq_getElem]
  refine⟨h2,?_⟩;rw[<-h3,<-hL,List.getElem?_take,if_pos (by omega)]
 have h1:1<=ln:=by
  rw[<-Ac];refine I4 _ hd ?_;rcases hc with h|⟨h,-⟩<;>rw[h]<;>decide
 have Ap:bG (s[k]'hk)=false:=by rcases hc with h|⟨h,-⟩<;>rw[h]<;>rfl
 have hE:=fun W=>GQ s k W (by omega) (by omega);rw[Ac] at hE;rw[Ay];have Ai:=fun W=>rR s k ⟨#[47,47]⟩ W (by omega) (by omega) (by decide);rw[show (⟨#[47,47]⟩:ByteArray).data.toList.isPrefixOf (s.data.toList.drop k)=decide (s[k]'hk=47/\(s.data.toList.drop (k+1)).head?=some 47) by rw[hd];exact yV 47 47 _ _] at Ai;have An:=fun j W (hj:j<=ln)=>uY s k (k+j) 6 W hs (by omega) (by omega)
 have Ad:∀j W,j<=ln->Calls Tryz.prog 86 #[.string s,.int .i64 (k:Nat),.int .i64 ((k+j:Nat):Int),.int .i64 ((6:Nat):Int)] W (Au W (xF s k (fP (L.take j) 6)).1 (xF s k (fP (L.take j) 6)).2.1 (xF s k (fP (L.take j) 6)).2.2):=fun j W hj=>by
  have:=An j W hj;rw[Ax j hj] at this;exact this
 have A2:=Hh Ad;have HG:=Hh Af;have A1:=Hh Ap;have A3:=Hh Ao;clear An Ad Ax hL Ac hd Ay Af Ap Ao;have hb:Below w.heap.size w (w.alloc (.cells #[.slice none 0 0,.int .i64 0,.int .i64 0] 38)):=(Below.refl _ w).alloc lz _;have Ab:=ae.new w #[.slice none 0 0,.int .i64 0,.int .i64 0] 38;have HH:=Jh hb Ab;rcases hc with hc|⟨hc,hr⟩
 focus
  have A6:(s[k]'hk).toNat=35:=by rw[hc];rfl
  have Ae:=iw 35;rw[show jO 35=false from rfl] at Ae;clear hc Ai hb Ab;go_enter Tryz.func46,Tryz.ntmps46;go_wp2_with fail;refine (Ae _).mono ?_;rintro _ _ ⟨rfl,hw1⟩;cases hw1
 rotate_left
 focus
  have A6:(s[k]'hk).toNat=47:=by rw[hc];rfl
  have Ae:=iw 47;rw[show jO 47=false from rfl] at Ae;rw[decide_eq_true ⟨hc,hr⟩] at Ai;clear hc hr hb Ab;go_enter Tryz.func46,Tryz.ntmps46;go_wp2_with fail;refine (Ae _).mono ?_;rintro _ _ ⟨rfl,hw1⟩;cases hw1
  go_wp2_with fail;refine (Ai _).mono ?_;rintro _ _ ⟨rfl,hw1⟩;cases hw1
 all_goals
  go_wp2_with fail;refine (hE _).mono ?_;rintro _ _ ⟨rfl,hw1⟩;cases hw1
  go_wp2_with fail;go_loop [10] (fun n=>∃m:Nat,n=.int .i64 (((k+m:Nat):Int)+1)/\m<ln/\Lib.trimRightS (L.take (m+1)) iX=Lib.trimRightS L iX) (fun n=>(intOf n).toNat)
  case atStart=>exact⟨ln-1,by congr 1;omega,by omega,by rw[List.take_of_length_le (by rw[A3.out];omega)]⟩
  case round=>
   obtain⟨m,rfl,hm,hI⟩:=hrel;obtain⟨Ag,Am⟩:=HG.out m hm;have Aj:L.take (m+1)=L.take m++[s[k+m]'Ag]:=by rw[List.take_add_one,Am];rfl
   rw[Aj,Et,<-Aj] at hI;have Ah:=Az (s[k+m]'Ag)
   cases hbl:bG (s[k+m]'Ag) with
   |true=>
    rw[hbl] at Ah;rw[show iX.contains (s[k+m]'Ag)=true from hbl,if_pos rfl] at hI
    have A9:m≠0:=by
     rintro rfl;have:=A1.out;simp only[Nat.add_zero] at hbl;rw[hbl] at this;cases this
    have HI:=Hh hI;clear hI Aj Am hbl;go_wp2_with fail;refine (Ah _).mono ?_;rintro _ _ ⟨rfl,hw1⟩;cases hw1
    go_wp2;go_round
    case rel=>exact⟨m-1,by congr 1;omega,by omega,by rw[show m-1+1=m by omega];exact HI.out⟩
    case measure=>simp[intOf];omega
   |false=>
    rw[hbl] at Ah;rw[show iX.contains (s[k+m]'Ag)=false from hbl,if_neg (by simp)] at hI;have HI:=Hh hI;have hC:=A2.out (m+1) (w.alloc (.cells #[.slice none 0 0,.int .i64 0,.int .i64 0] 38)) hm;rw[show ((k+(m+1):Nat):Int)=((k+m:Nat):Int)+1 by omega] at hC;clear hI Aj Am hbl;obtain⟨⟨tl,ta,te⟩,hx⟩:∃x,xF s k (fP (L.take (m+1)) 6)=x:=⟨_,rfl⟩;rw[hx] at hC;have A4:=Hh hx;clear hx;simp only at hC;go_wp2_with fail;refine (Ah _).mono ?_;rintro _ _ ⟨rfl,hw1⟩;cases hw1
    go_wp2_with fail;obtain⟨hb,Ab⟩:=HH.out;refine (hC).mono ?_;rintro _ w2 ⟨v,rfl,hown,hb2⟩;obtain⟨Al,Aa,Ak,-⟩:=jA (a:=ta) (e:=te) hb Ab hb2.size hown hb2;obtain⟨va,vc,A0⟩:=hown.len
    (try simp only[List.length_cons,List.length_nil,Nat.zero_add] at A0)
    subst A0;have A8:=Al.lt;have HX:=Jh Aa (And.intro Ak Al);clear hown hb2 Aa Ak hb Ab;obtain⟨Aq,At,Ar,Av,As,Aw⟩:=Al.n3 rfl;go_wp2;obtain⟨Aa,Ak,A5⟩:=HX.out;have hq:=((A5.setI 0 (.slice va tl.length vc)).setI 1 (.int .i64 ta)).setI 2 (.int .i64 te);obtain⟨hx,hy,hz⟩:=hq.m3 rfl;refine bodyPost_ret (v:=.agg #[.slice va tl.length vc,.int .i64 ta,.int .i64 te]) (by simp[results,Tryz.results46,go_sem,hx,hy,hz]) rfl ?_;unfold yK;rw[<-HI.out,A4.out];exact⟨_,rfl,Aa,Ak⟩
end Go.Proofs.YtbcdaaobbebooaaGreatDoor
