import Derived.Test.YtbcdaaobbebooaaGreatDoorMgn
set_option linter.unusedSimpArgs false
set_option linter.unusedVariables false
set_option maxRecDepth 100000
set_option maxHeartbeats 20000000
namespace Go.Proofs.YtbcdaaobbebooaaGreatDoor
open Go.RowKit Go.Tab
theorem Ib(c d:Nat)(w:World)(hc:c<256)(h:nk c=some d):Calls Tryz.prog 202 #[.int .u8 (c:Int)] w fun e w'=>e=.returned (.int .i64 (d:Int))/\w=w':=by
 unfold nk at h
 by_cases h1:48<=c/\c<=57
 ·rw[if_pos h1] at h
  obtain rfl:d=c-48:=by cases h;rfl
  clear h;go_enter Tryz.func202,Tryz.ntmps202;go_wp2;go_ret;exact⟨dV (by omega),rfl⟩
 rw[if_neg h1] at h
 by_cases h2:97<=c/\c<=102
 ·rw[if_pos h2] at h
  obtain rfl:d=c-87:=by cases h;rfl
  clear h h1;go_enter Tryz.func202,Tryz.ntmps202;go_wp2;go_ret;exact⟨dV (by omega),rfl⟩
 rw[if_neg h2] at h
 by_cases h3:65<=c/\c<=70
 ·rw[if_pos h3] at h
  obtain rfl:d=c-55:=by cases h;rfl
  clear h h1 h2;go_enter Tryz.func202,Tryz.ntmps202;go_wp2;go_ret;exact⟨dV (by omega),rfl⟩
 ·rw[if_neg h3] at h;cases h
theorem Ic(c:Nat)(w:World)(hc:c<256)(h:nk c=none):Calls Tryz.prog 202 #[.int .u8 (c:Int)] w fun e w'=>e=.returned (.int .i64 (-1))/\w=w':=by
 have h4:c<48\/(58<=c/\c<=64)\/(71<=c/\c<=96)\/103<=c:=by
  unfold nk at h
  by_cases h1:48<=c/\c<=57
  ·rw[if_pos h1] at h;cases h
  rw[if_neg h1] at h
  by_cases h2:97<=c/\c<=102
  ·rw[if_pos h2] at h;cases h
  rw[if_neg h2] at h
  by_cases h3:65<=c/\c<=70
  ·rw[if_pos h3] at h;cases h
  omega
 clear h;rcases h4 with h4|h4|h4|h4
 all_goals
  go_enter Tryz.func202,Tryz.ntmps202;go_wp2;go_ret;exact⟨rfl,rfl⟩
theorem AO{a b:Int}{q:Nat×Nat}(h1:a=q.1)(h2:b=q.2):Ending.returned (.tuple #[.int .i64 a,.int .i64 b])=.returned (.tuple #[.int .i64 (q.1:Int),.int .i64 (q.2:Int)]):=by rw[h1,h2]
theorem mW{s:ByteArray}{k c:Nat}{r:List Nat}(h:(bs s).drop k=c::r):∃h':k<s.size,(s[k]'h').toNat=c:=by
 obtain⟨h1,h2⟩:=Ak h (j:=0) (by simp);exact⟨h1,h2⟩
theorem zB(s:ByteArray)(k:Nat)(w:World)(hk:k<=s.size)(hs:s.size<=1048576) :
  Calls Tryz.prog 174 #[.string s,.int .i64 (k:Int)] w fun e w'=>e=.returned (.tuple #[.int .i64 ((aJ ((bs s).drop k)).1:Int),.int .i64 ((aJ ((bs s).drop k)).2:Int)])/\w=w':=by
 go_enter Tryz.func174,Tryz.ntmps174;go_wp2_with fail;go_loop [6,7] (fun n i=>∃(j m:Nat),j<=4/\n=.int .i64 m/\i=.int .i64 j/\m<16 ^ j/\k+j<=s.size/\ig (4-j) m ((bs s).drop (k+j))=aJ ((bs s).drop k)) (fun _ i=>4-(intOf i).toNat)
 case atStart=>exact⟨0,0,by omega,rfl,rfl,by simp,hk,rfl⟩
 case round=>
  obtain⟨j,m,hj,rfl,rfl,hm,Ae,hu⟩:=hrel
  by_cases hj4:j<4
  ·obtain⟨Aj,Aa⟩:=OJ hj4 hm
   obtain⟨i,hi⟩:∃i,4-j=i+1:=⟨3-j,by omega⟩;rw[hi] at hu
   cases hr:(bs s).drop (k+j) with
   |nil=>
    rw[hr,ig] at hu;have HU:=Hh hu;have hz:=gK Ae hr;have Ak:s.size<=k+j:=by omega
    clear hu hr hi Aa hm hz;go_wp2;go_ret2
    exact⟨AO (by rw[<-HU.out];rfl) (by rw[<-HU.out];rfl),rfl⟩
   |cons c r=>
    obtain⟨Ac,Ad⟩:=gV hr;rw[ay] at Ad;have HR:=Hh (show (bs s).drop (k+(j+1))=r from Ac);have hc:c<256:=fK c (List.mem_of_mem_drop (by rw[hr];simp));obtain⟨Ai,Ah⟩:=mW hr;have Ag:(0:Int)<=(k:Int)+(j:Int)/\(k:Int)+(j:Int)<(s.size:Int):=by omega
    rw[hr] at hu;simp only[ig] at hu;clear Ac
    cases hx:nk c with
    |none=>
     rw[hx] at hu;have HU:=Hh hu;have hH:=fun W=>Ic c W hc hx;clear hu hr Aa hm hi hx;go_wp2_with fail;refine (hH _).mono ?_;rintro e w1 ⟨rfl,rfl⟩;go_wp2;go_ret2
     exact⟨AO (by rw[<-HU.out];rfl) (by rw[<-HU.out];rfl),rfl⟩
    |some d=>
     rw[hx] at hu;have HU:=Hh hu;have hH:=fun W=>Ib c d W hc hx
     have Ab:d<16:=by
      unfold nk at hx;repeat' (split at hx)
      all_goals first|(cases hx;omega)|cases hx
     have Af:=Hh (Aa d Ab);have HI:=Hh hi;clear hu hr Aa hm hi hx;go_wp2_with fail;refine (hH _).mono ?_;rintro e w1 ⟨rfl,rfl⟩;go_wp2;go_round
     case rel=>exact⟨j+1,m*16+d,by omega,by go_num,by go_num,Af.out,by omega,by rw[show 4-(j+1)=i by have:=HI.out;omega,HR.out];exact HU.out⟩
     case measure=>simp[intOf];omega
  ·obtain rfl:j=4:=by omega
   simp only[Nat.sub_self,ig] at hu;have HU:=Hh hu;clear hu hm;go_wp2;go_ret2
   exact⟨AO (by rw[<-HU.out]) (by rw[<-HU.out];rfl),rfl⟩
theorem IU{k n:Nat}(h:k+6<n)(hn:n<=1048576):IntKind.i64.wrap ((k:Int)+6)=(k:Int)+6/\(0<=(k:Int)+6/\(k:Int)+6<(n:Int))/\((k:Int)+6).toNat=k+6:=
 ⟨IntWalk.i64_in _ (by omega),by omega,by omega⟩
theorem MF{k n:Nat}(h:k+6+1<n)(hn:n<=1048576):IntKind.i64.wrap ((k:Int)+6+1)=(k:Int)+6+1/\(0<=(k:Int)+6+1/\(k:Int)+6+1<(n:Int))/\((k:Int)+6+1).toNat=k+6+1:=
 ⟨IntWalk.i64_in _ (by omega),by omega,by omega⟩
def bN(q:og):Value:=.agg #[.string (bg (un q.1)),.int .i64 (q.2.1:Int),.int .i64 (q.2.2:Int)]
theorem EA(s:ByteArray)(k:Nat)(w:World)(hk:k+2<=s.size)(hs:s.size<=1048576) :
  Calls Tryz.prog 148 #[.string s,.int .i64 (k:Int)] w fun e w'=>e=.returned (bN (aM ((bs s).drop (k+2))))/\Below w.heap.size w w':=by
 have h4:=fun W=>zB s (k+2) W hk (by omega);obtain⟨r,hr⟩:=exq ((bs s).drop (k+2));rw[<-hr] at h4 ⊢;simp only[Int.natCast_add,Int.cast_ofNat_Int] at h4
 by_cases hu:(aJ r).2=0
 ·obtain⟨Aj,Ar⟩:=jy hu
  obtain⟨n,hn⟩:=exq ((aJ r).1);have At:k+6<=s.size:=by rw[hr] at Aj;simp[ay] at Aj;omega
  rw[<-hn] at Ar h4;rw[hu] at h4;simp only[Int.cast_ofNat_Int] at h4
  by_cases h1:56320<=n/\n<=57343
  ·have HC:Hid (aM r=aG 3):=Hh (by unfold aM;rw[if_neg (by simp[hu]),if_pos (by rw[<-hn];exact h1)])
   have b1:decide ((56320:Int)<=(n:Int))=true:=by simp;omega
   have b2:decide ((n:Int)<=57343)=true:=by simp;omega
   clear hu hn hr Aj h1 Ar;go_enter Tryz.func148,Tryz.ntmps148;go_wp2_with fail;refine (h4 _).mono ?_;rintro e w1 ⟨rfl,rfl⟩;go_wp2;refine bodyPost_ret (v:=bN (aG 3)) (by simp[results,Tryz.results148,go_sem,bN,aG,un,bg]) rfl ⟨by rw[HC.out],?_⟩
   (with_reducible repeat' first|refine Below.setCell ?_ ?_ _|refine Below.alloc ?_ ?_ _|refine Below.drew ?_|refine ah ?_ _|assumption|exact Below.refl _ _|(simp only[World.size_alloc,World.size_setCell,World.size_drew];first|done|omega)|omega)
  ·by_cases h2:n<55296\/57343<n
   ·have HC:Hid (aM r=(fu n,6,0)):=Hh (by unfold aM;rw[if_neg (by simp[hu]),if_neg (by rw[<-hn];exact h1),if_pos (by rw[<-hn];exact h2),<-hn])
    have Ai:kL (n:Int)=true:=by rw[fD,bZ];omega
    have hP:=fun W=>xE (n:Int) W;unfold sJ at hP;rw[if_pos Ai,Int.toNat_natCast] at hP
    have A1:(decide ((56320:Int)<=(n:Int))=false/\decide ((n:Int)<55296)=true)\/(decide ((56320:Int)<=(n:Int))=true/\decide ((n:Int)<=57343)=false/\decide ((n:Int)<55296)=false/\decide ((57343:Int)<(n:Int))=true):=by
     rcases h2 with h2|h2
     ·exact .inl ⟨by simp;omega,by simp;omega⟩
     ·exact .inr ⟨by simp;omega,by simp;omega,by simp;omega,by simp;omega⟩
    clear hu hn hr Aj h2 Ar Ai h1;obtain⟨S,hS⟩:=exq (bg (gG n));rw[<-hS] at hP;have HS:=Hh hS;clear hS;rcases A1 with ⟨b1,b2⟩|⟨b1,b2,b3,b4⟩
    all_goals
     go_enter Tryz.func148,Tryz.ntmps148;go_wp2_with fail;refine (h4 _).mono ?_;rintro e w1 ⟨rfl,rfl⟩;go_wp2_with fail;refine (hP _).mono ?_;rintro e w2 ⟨rfl,hb2⟩;have Ax:=hb2.size;simp only[World.size_alloc] at Ax;have Aw:=(aa.new w #[.string ⟨#[]⟩,.int .i64 0,.int .i64 0] 126).below hb2 (by simp);obtain⟨Ak,An,Al,Ao,Am,Ap⟩:=Aw.n3 rfl;have A2:Below w.heap.size w w2:=((Below.refl _ w).alloc lz _).trans (hb2.mono (by simp));go_wp2;refine bodyPost_ret (v:=.agg #[.string S,.int .i64 6,.int .i64 0]) (by simp[results,Tryz.results148,go_sem, *]) rfl ⟨by rw[HC.out,HS.out];rfl,?_⟩
     (with_reducible repeat' first|refine Below.setCell ?_ ?_ _|refine Below.alloc ?_ ?_ _|refine Below.drew ?_|refine ah ?_ _|assumption|exact Below.refl _ _|(simp only[World.size_alloc,World.size_setCell,World.size_drew];first|done|omega)|omega)
   ·have Ag:Hid (aM r=jb n (r.drop 4)):=Hh (by unfold aM;rw[if_neg (by simp[hu]),if_neg (by rw[<-hn];exact h1),if_neg (by rw[<-hn];exact h2),<-hn])
    have Af:r.drop 4=(bs s).drop (k+6):=by rw[hr,List.drop_drop]
    have Aq:55296<=n/\n<=56319:=by omega
    have b1:decide ((56320:Int)<=(n:Int))=false:=by simp;omega
    have b2:decide ((n:Int)<55296)=false:=by simp;omega
    have b3:decide ((57343:Int)<(n:Int))=false:=by simp;omega
    have A0:=Hh Aq;have HR:=Hh hr;clear hu hn Aj h1 h2 Ar hr Aq
    cases hq:(bs s).drop (k+6) with
    |nil=>
     have HC:Hid (aM r=aG 2):=Hh (by rw[Ag.out,Af,hq];rfl);have hz:=gK At hq;have A9:s.size<=k+6:=by omega
     clear hq Af hz;go_enter Tryz.func148,Tryz.ntmps148;go_wp2_with fail;refine (h4 _).mono ?_;rintro e w1 ⟨rfl,rfl⟩;go_wp2_with fail;clear b1 b2 b3 h4;refine wp_loop_rounds 1 ?_;rw[rounds_succ];go_wp2;refine bodyPost_ret (v:=bN (aG 2)) (by simp[results,Tryz.results148,go_sem,bN,aG,un,bg]) rfl ⟨by rw[HC.out],?_⟩
     (with_reducible repeat' first|refine Below.setCell ?_ ?_ _|refine Below.alloc ?_ ?_ _|refine Below.drew ?_|refine ah ?_ _|assumption|exact Below.refl _ _|(simp only[World.size_alloc,World.size_setCell,World.size_drew];first|done|omega)|omega)
    |cons c t=>
     obtain⟨A7,AC⟩:=mW hq;have hc:c<256:=fK c (List.mem_of_mem_drop (by rw[hq];simp));have Aa:k+6<s.size:=A7
     by_cases hc92:c=92
     ·subst hc92
      obtain⟨hd,A5⟩:=gV hq;rw[ay] at A5;have Ad:r.drop 4=92::t:=by rw[Af,hq]
      cases ht:t with
      |nil=>
       have HC:Hid (aM r=aG 2):=Hh (by rw[Ag.out,Ad,ht];rfl);have hz:=gK (show k+6+1<=s.size by omega) (by rw[<-ht];exact hd);have A9:s.size<=k+6+1:=by omega
       clear hq Af Ad ht hd hz;go_enter Tryz.func148,Tryz.ntmps148;go_wp2_with fail;refine (h4 _).mono ?_;rintro e w1 ⟨rfl,rfl⟩;go_wp2_with fail;clear b1 b2 b3 h4;refine wp_loop_rounds 2 ?_;rw[rounds_succ];go_wp2_with fail;obtain⟨g1,g2,g3⟩:=IU Aa hs;go_region
       clear g1 g2 g3;go_wp2_with fail;rw[rounds_succ];go_wp2;refine bodyPost_ret (v:=bN (aG 2)) (by simp[results,Tryz.results148,go_sem,bN,aG,un,bg]) rfl ⟨by rw[HC.out],?_⟩
       (with_reducible repeat' first|refine Below.setCell ?_ ?_ _|refine Below.alloc ?_ ?_ _|refine Below.drew ?_|refine ah ?_ _|assumption|exact Below.refl _ _|(simp only[World.size_alloc,World.size_setCell,World.size_drew];first|done|omega)|omega)
      |cons d u=>
       subst ht;obtain⟨Au,A4⟩:=mW hd;have AD:d<256:=fK d (List.mem_of_mem_drop (by rw[hd];simp));obtain⟨he,A6⟩:=gV hd;rw[ay] at A6;have Ab:k+6+1<s.size:=Au
       by_cases hd117:d=117
       ·subst hd117
        have hF:=fun W=>zB s (k+8) W (by omega) (by omega);rw[show (bs s).drop (k+8)=u from he] at hF;simp only[Int.natCast_add,Int.cast_ofNat_Int] at hF;clear hq Af he hd;obtain⟨x,hx⟩:=exq (aJ u);rw[<-hx] at hF;obtain⟨m,x2⟩:=x;simp only at hF
        by_cases hm:x2=0
        ·subst hm
         have Ae:(aJ u).2=0:=by rw[<-hx]
         obtain⟨Ay,Av⟩:=jy Ae;have Ah:m=(aJ u).1:=by rw[<-hx]
         rw[<-Ah] at Av
         by_cases hlow:m<56320\/57343<m
         ·have HC:Hid (aM r=aG 3):=Hh (by rw[Ag.out,Ad];simp only[jb];rw[if_neg (by simp),if_neg (by simp),if_neg (by simp[Ae]),if_pos (by rw[<-Ah];exact hlow)])
          have Ac:(decide ((m:Int)<56320)=true)\/(decide ((m:Int)<56320)=false/\decide ((57343:Int)<(m:Int))=true):=by
           rcases hlow with hlow|hlow
           ·exact .inl (by simp;omega)
           ·exact .inr ⟨by simp;omega,by simp;omega⟩
          have As:=Hh Ac;clear Ad Ae Ah hlow Ac Av Ay hx;go_enter Tryz.func148,Tryz.ntmps148;go_wp2_with fail;refine (h4 _).mono ?_;rintro e w1 ⟨rfl,rfl⟩;go_wp2_with fail;clear b1 b2 b3 h4;refine wp_loop_rounds 3 ?_;rw[rounds_succ];go_wp2_with fail;obtain⟨g1,g2,g3⟩:=IU Aa hs;go_region
          clear g1 g2 g3;go_wp2_with fail;rw[rounds_succ];go_wp2_with fail;obtain⟨g1,g2,g3⟩:=MF Ab hs;go_region
          clear g1 g2 g3;go_wp2_with fail;rw[rounds_succ];go_wp2_with fail;refine (hF _).mono ?_;rintro e w2 ⟨rfl,rfl⟩;clear hF;rcases As.out with hlow|⟨hlow,Ac⟩
          all_goals
           go_wp2;refine bodyPost_ret (v:=bN (aG 3)) (by simp[results,Tryz.results148,go_sem,bN,aG,un,bg]) rfl ⟨by rw[HC.out],?_⟩
           (with_reducible repeat' first|refine Below.setCell ?_ ?_ _|refine Below.alloc ?_ ?_ _|refine Below.drew ?_|refine ah ?_ _|assumption|exact Below.refl _ _|(simp only[World.size_alloc,World.size_setCell,World.size_drew];first|done|omega)|omega)
         ·obtain⟨x,Az⟩:=exq (65536+(n-55296)*1024+(m-56320))
          have HC:Hid (aM r=(fu x,12,0)):=Hh (by rw[Ag.out,Ad];simp only[jb];rw[if_neg (by simp),if_neg (by simp),if_neg (by simp[Ae]),if_neg (by rw[<-Ah];exact hlow),Az,Ah]);have Aq:=A0.out;have Ai:kL (x:Int)=true:=by rw[fD,bZ];omega
          have hP:=fun W=>xE (x:Int) W;unfold sJ at hP;rw[if_pos Ai,Int.toNat_natCast] at hP;obtain⟨S,hS⟩:=exq (bg (gG x));rw[<-hS] at hP;have HS:=Hh hS;have E1:=Jh (show (0:Int)<=(n:Int)-55296/\(n:Int)-55296<=1023 by omega) (And.intro (show (0:Int)<=(m:Int)/\(m:Int)<=65535 by omega) (show (65536:Int)+((n:Int)-55296)*1024+(m:Int)-56320=(x:Int) by omega));have HD:=Jh (show decide ((m:Int)<56320)=false by simp;omega) (show decide ((57343:Int)<(m:Int))=false by simp;omega);clear Ad Ae Ah hlow Av Ay hx Az hS Ai Aq;go_enter Tryz.func148,Tryz.ntmps148;go_wp2_with fail;refine (h4 _).mono ?_;rintro e w1 ⟨rfl,rfl⟩;go_wp2_with fail;clear b1 b2 b3 h4;refine wp_loop_rounds 3 ?_;rw[rounds_succ];go_wp2_with fail;obtain⟨g1,g2,g3⟩:=IU Aa hs;go_region
          clear g1 g2 g3;go_wp2_with fail;rw[rounds_succ];go_wp2_with fail;obtain⟨g1,g2,g3⟩:=MF Ab hs;go_region
          clear g1 g2 g3;go_wp2_with fail;rw[rounds_succ];go_wp2_with fail;refine (hF _).mono ?_;rintro e w2 ⟨rfl,rfl⟩;clear hF;obtain⟨d1,d2⟩:=HD.out;obtain⟨e1,e2,A8⟩:=E1.out;go_wp2_with fail;refine (hP _).mono ?_;rintro e w2 ⟨rfl,hb2⟩;clear d1 d2 e1 e2 A8 hP;have Ax:=hb2.size;simp only[World.size_alloc,World.size_drew] at Ax;have Aw:=((((aa.new w #[.string ⟨#[]⟩,.int .i64 0,.int .i64 0] 126).alloc (.cells #[.int .u8 92,.int .u8 117] 5)).drew.alloc (.cells #[.int .u8 92,.int .u8 117] 5)).drew).below hb2 (by simp;omega);obtain⟨Ak,An,Al,Ao,Am,Ap⟩:=Aw.n3 rfl;have A2:Below w.heap.size w w2:=((((((Below.refl _ w).alloc lz _).alloc (by simp) _).drew).alloc (by simp;omega) _).drew).trans (hb2.mono (by simp;omega));go_wp2;refine bodyPost_ret (v:=.agg #[.string S,.int .i64 12,.int .i64 0]) (by simp[results,Tryz.results148,go_sem, *]) rfl ⟨by rw[HC.out,HS.out];rfl,?_⟩
          (with_reducible repeat' first|refine Below.setCell ?_ ?_ _|refine Below.alloc ?_ ?_ _|refine Below.drew ?_|refine ah ?_ _|assumption|exact Below.refl _ _|(simp only[World.size_alloc,World.size_setCell,World.size_drew];first|done|omega)|omega)
        ·have Ae:(aJ u).2≠0:=by rw[<-hx];exact hm
         have HC:Hid (aM r=aG x2):=Hh (by rw[Ag.out,Ad];simp only[jb];rw[if_neg (by simp),if_neg (by simp),if_pos Ae,<-hx]);have A3:((x2:Int) != 0)=true:=by rw[bne_iff_ne];omega
         clear Ad Ae hm hx;go_enter Tryz.func148,Tryz.ntmps148;go_wp2_with fail;refine (h4 _).mono ?_;rintro e w1 ⟨rfl,rfl⟩;go_wp2_with fail;clear b1 b2 b3 h4;refine wp_loop_rounds 3 ?_;rw[rounds_succ];go_wp2_with fail;obtain⟨g1,g2,g3⟩:=IU Aa hs;go_region
         clear g1 g2 g3;go_wp2_with fail;rw[rounds_succ];go_wp2_with fail;obtain⟨g1,g2,g3⟩:=MF Ab hs;go_region
         clear g1 g2 g3;go_wp2_with fail;rw[rounds_succ];go_wp2_with fail;refine (hF _).mono ?_;rintro e w2 ⟨rfl,rfl⟩;go_wp2;refine bodyPost_ret (v:=bN (aG x2)) (by simp[results,Tryz.results148,go_sem,bN,aG,un,bg]) rfl ⟨by rw[HC.out],?_⟩
         (with_reducible repeat' first|refine Below.setCell ?_ ?_ _|refine Below.alloc ?_ ?_ _|refine Below.drew ?_|refine ah ?_ _|assumption|exact Below.refl _ _|(simp only[World.size_alloc,World.size_setCell,World.size_drew];first|done|omega)|omega)
       ·have HC:Hid (aM r=aG 3):=Hh (by rw[Ag.out,Ad];simp only[jb];rw[if_neg (by simp),if_pos (by simpa using hd117)])
        have AB:((d:Int) != 117)=true:=by rw[bne_iff_ne];omega
        clear hq Af Ad hd he hd117;go_enter Tryz.func148,Tryz.ntmps148;go_wp2_with fail;refine (h4 _).mono ?_;rintro e w1 ⟨rfl,rfl⟩;go_wp2_with fail;clear b1 b2 b3 h4;refine wp_loop_rounds 2 ?_;rw[rounds_succ];go_wp2_with fail;obtain⟨g1,g2,g3⟩:=IU Aa hs;go_region
        clear g1 g2 g3;go_wp2_with fail;rw[rounds_succ];go_wp2_with fail;obtain⟨g1,g2,g3⟩:=MF Ab hs;go_region
        clear g1 g2 g3;go_wp2;refine bodyPost_ret (v:=bN (aG 3)) (by simp[results,Tryz.results148,go_sem,bN,aG,un,bg]) rfl ⟨by rw[HC.out],?_⟩
        (with_reducible repeat' first|refine Below.setCell ?_ ?_ _|refine Below.alloc ?_ ?_ _|refine Below.drew ?_|refine ah ?_ _|assumption|exact Below.refl _ _|(simp only[World.size_alloc,World.size_setCell,World.size_drew];first|done|omega)|omega)
     ·have HC:Hid (aM r=aG 3):=Hh (by rw[Ag.out,Af,hq];simp only[jb];rw[if_pos (by simpa using hc92)])
      have AA:((c:Int) != 92)=true:=by rw[bne_iff_ne];omega
      clear hq Af hc92;go_enter Tryz.func148,Tryz.ntmps148;go_wp2_with fail;refine (h4 _).mono ?_;rintro e w1 ⟨rfl,rfl⟩;go_wp2_with fail;clear b1 b2 b3 h4;refine wp_loop_rounds 1 ?_;rw[rounds_succ];go_wp2_with fail;obtain⟨g1,g2,g3⟩:=IU Aa hs;go_region
      clear g1 g2 g3;go_wp2;refine bodyPost_ret (v:=bN (aG 3)) (by simp[results,Tryz.results148,go_sem,bN,aG,un,bg]) rfl ⟨by rw[HC.out],?_⟩
      (with_reducible repeat' first|refine Below.setCell ?_ ?_ _|refine Below.alloc ?_ ?_ _|refine Below.drew ?_|refine ah ?_ _|assumption|exact Below.refl _ _|(simp only[World.size_alloc,World.size_setCell,World.size_drew];first|done|omega)|omega)
 ·have HC:Hid (aM r=aG (aJ r).2):=Hh (by unfold aM;rw[if_pos (by simpa using hu)])
  obtain⟨x,hx⟩:=exq (aJ r);rw[<-hx] at h4 hu HC;obtain⟨x1,x2⟩:=x;simp only at h4 hu HC;have A3:((x2:Int) != 0)=true:=by rw[bne_iff_ne];omega
  have HR:=Hh hr;clear hu hx hr;go_enter Tryz.func148,Tryz.ntmps148;go_wp2_with fail;refine (h4 _).mono ?_;rintro e w1 ⟨rfl,rfl⟩;go_wp2;refine bodyPost_ret (v:=bN (aG x2)) (by simp[results,Tryz.results148,go_sem,bN,aG,un,bg]) rfl ⟨by rw[HC.out],?_⟩
  (with_reducible repeat' first|refine Below.setCell ?_ ?_ _|refine Below.alloc ?_ ?_ _|refine Below.drew ?_|refine ah ?_ _|assumption|exact Below.refl _ _|(simp only[World.size_alloc,World.size_setCell,World.size_drew];first|done|omega)|omega)
theorem OP{l:List Nat}(h:vZ l):bs (bg (un l))=l:=by
 rw[yD];unfold un;rw[List.map_map]
 conv=>rhs;rw[<-List.map_id l]
 refine List.map_congr_left fun x hx=>?_;have:=h x hx;simp only[Function.comp,UInt8.toNat_ofNat',id];omega
theorem Gu(s:ByteArray)(a b:Nat):s.extract a b=bg (un (((bs s).drop a).take (b-a))):=by
 refine Fs ?_;rw[OP (fun x hx=>fK x (List.mem_of_mem_drop (List.mem_of_mem_take hx)))];rw[rX,List.drop_take]
theorem Hu(s:ByteArray)(k:Nat)(w:World)(hk:k<=s.size)(hs:s.size<=1048576) :
  Calls Tryz.prog 119 #[.string s,.int .i64 (k:Int)] w fun e w'=>e=.returned (bN (ax ((bs s).drop k)))/\Below w.heap.size w w':=by
 cases hq:(bs s).drop k with
 |nil=>
  have HC:Hid (ax []=aG 2):=Hh rfl;have hz:=gK hk hq;have Aw:s.size<=k:=by omega
  clear hq hz;go_enter Tryz.func119,Tryz.ntmps119;go_wp2;refine bodyPost_ret (v:=bN (aG 2)) (by simp[results,Tryz.results119,go_sem,bN,aG,un,bg]) rfl ⟨by rw[HC.out],?_⟩
  (with_reducible repeat' first|refine Below.setCell ?_ ?_ _|refine Below.alloc ?_ ?_ _|refine Below.drew ?_|refine ah ?_ _|assumption|exact Below.refl _ _|(simp only[World.size_alloc,World.size_setCell,World.size_drew];first|done|omega)|omega)
 |cons c r=>
  obtain⟨Au,Az⟩:=mW hq;have Av:k<s.size:=Au;have hc:c<256:=fK c (List.mem_of_mem_drop (by rw[hq];simp))
  by_cases h32:c<32
  ·have HC:Hid (ax (c::r)=aG 3):=Hh (by simp[ax,h32])
   clear hq;go_enter Tryz.func119,Tryz.ntmps119;go_wp2;refine bodyPost_ret (v:=bN (aG 3)) (by simp[results,Tryz.results119,go_sem,bN,aG,un,bg]) rfl ⟨by rw[HC.out],?_⟩
   (with_reducible repeat' first|refine Below.setCell ?_ ?_ _|refine Below.alloc ?_ ?_ _|refine Below.drew ?_|refine ah ?_ _|assumption|exact Below.refl _ _|(simp only[World.size_alloc,World.size_setCell,World.size_drew];first|done|omega)|omega)
  have Am:32<=c:=by omega
  by_cases h92:c=92
  ·subst h92
   obtain⟨Ah,At⟩:=gV hq;rw[ay] at At;clear h32 Am
   cases ht:r with
   |nil=>
    have HC:Hid (ax [92]=aG 2):=Hh rfl;have hz:=gK (show k+1<=s.size by omega) (by rw[<-ht];exact Ah);have Aw:s.size<=k+1:=by omega
    clear hq Ah hz ht;go_enter Tryz.func119,Tryz.ntmps119;go_wp2;refine bodyPost_ret (v:=bN (aG 2)) (by simp[results,Tryz.results119,go_sem,bN,aG,un,bg]) rfl ⟨by rw[HC.out],?_⟩
    (with_reducible repeat' first|refine Below.setCell ?_ ?_ _|refine Below.alloc ?_ ?_ _|refine Below.drew ?_|refine ah ?_ _|assumption|exact Below.refl _ _|(simp only[World.size_alloc,World.size_setCell,World.size_drew];first|done|omega)|omega)
   |cons d u=>
    subst ht;obtain⟨An,As⟩:=mW Ah;have Aq:k+1<s.size:=An;have A0:d<256:=fK d (List.mem_of_mem_drop (by rw[Ah];simp));have Ai:=fun W=>EA s k W (by omega) hs;rw[show (bs s).drop (k+2)=u from (gV Ah).1] at Ai;have Ax:(0:Int)<=(k:Int)+1/\(k:Int)+1<(s.size:Int):=by omega
    obtain⟨L,hL⟩:=exq (92::d::u);rw[<-hL];have hx:s.extract (k+1) (k+2)=bg (un [d]):=by rw[Gu,show k+2-(k+1)=1 by omega,Ah];rfl
    have HX:=Hh hx;clear hq Ah hx
    by_cases hc34:d=34
    ·subst hc34
     have HC:Hid (ax L=([34],2,0)):=Hh (by rw[hL];rfl);clear hL;go_enter Tryz.func119,Tryz.ntmps119;go_wp2;refine bodyPost_ret (v:=.agg #[.string (s.extract (k+1) (k+2)),.int .i64 2,.int .i64 0]) (by simp[results,Tryz.results119,go_sem]) rfl ⟨by rw[HC.out,HX.out];rfl,?_⟩
     (with_reducible repeat' first|refine Below.setCell ?_ ?_ _|refine Below.alloc ?_ ?_ _|refine Below.drew ?_|refine ah ?_ _|assumption|exact Below.refl _ _|(simp only[World.size_alloc,World.size_setCell,World.size_drew];first|done|omega)|omega)
    by_cases hc92:d=92
    ·subst hc92
     have HC:Hid (ax L=([92],2,0)):=Hh (by rw[hL];rfl);clear hL;go_enter Tryz.func119,Tryz.ntmps119;go_wp2;refine bodyPost_ret (v:=.agg #[.string (s.extract (k+1) (k+2)),.int .i64 2,.int .i64 0]) (by simp[results,Tryz.results119,go_sem]) rfl ⟨by rw[HC.out,HX.out];rfl,?_⟩
     (with_reducible repeat' first|refine Below.setCell ?_ ?_ _|refine Below.alloc ?_ ?_ _|refine Below.drew ?_|refine ah ?_ _|assumption|exact Below.refl _ _|(simp only[World.size_alloc,World.size_setCell,World.size_drew];first|done|omega)|omega)
    by_cases hc47:d=47
    ·subst hc47
     have HC:Hid (ax L=([47],2,0)):=Hh (by rw[hL];rfl);clear hL;go_enter Tryz.func119,Tryz.ntmps119;go_wp2;refine bodyPost_ret (v:=.agg #[.string (s.extract (k+1) (k+2)),.int .i64 2,.int .i64 0]) (by simp[results,Tryz.results119,go_sem]) rfl ⟨by rw[HC.out,HX.out];rfl,?_⟩
     (with_reducible repeat' first|refine Below.setCell ?_ ?_ _|refine Below.alloc ?_ ?_ _|refine Below.drew ?_|refine ah ?_ _|assumption|exact Below.refl _ _|(simp only[World.size_alloc,World.size_setCell,World.size_drew];first|done|omega)|omega)
    by_cases hc98:d=98
    ·subst hc98
     have HC:Hid (ax L=([8],2,0)):=Hh (by rw[hL];rfl);clear hL;go_enter Tryz.func119,Tryz.ntmps119;go_wp2;refine bodyPost_ret (v:=bN ([8],2,0)) (by simp[results,Tryz.results119,go_sem,bN,aG,un,bg]) rfl ⟨by rw[HC.out],?_⟩
     (with_reducible repeat' first|refine Below.setCell ?_ ?_ _|refine Below.alloc ?_ ?_ _|refine Below.drew ?_|refine ah ?_ _|assumption|exact Below.refl _ _|(simp only[World.size_alloc,World.size_setCell,World.size_drew];first|done|omega)|omega)
    by_cases hc102:d=102
    ·subst hc102
     have HC:Hid (ax L=([12],2,0)):=Hh (by rw[hL];rfl);clear hL;go_enter Tryz.func119,Tryz.ntmps119;go_wp2;refine bodyPost_ret (v:=bN ([12],2,0)) (by simp[results,Tryz.results119,go_sem,bN,aG,un,bg]) rfl ⟨by rw[HC.out],?_⟩
     (with_reducible repeat' first|refine Below.setCell ?_ ?_ _|refine Below.alloc ?_ ?_ _|refine Below.drew ?_|refine ah ?_ _|assumption|exact Below.refl _ _|(simp only[World.size_alloc,World.size_setCell,World.size_drew];first|done|omega)|omega)
    by_cases hc110:d=110
    ·subst hc110
     have HC:Hid (ax L=([10],2,0)):=Hh (by rw[hL];rfl);clear hL;go_enter Tryz.func119,Tryz.ntmps119;go_wp2;refine bodyPost_ret (v:=bN ([10],2,0)) (by simp[results,Tryz.results119,go_sem,bN,aG,un,bg]) rfl ⟨by rw[HC.out],?_⟩
     (with_reducible repeat' first|refine Below.setCell ?_ ?_ _|refine Below.alloc ?_ ?_ _|refine Below.drew ?_|refine ah ?_ _|assumption|exact Below.refl _ _|(simp only[World.size_alloc,World.size_setCell,World.size_drew];first|done|omega)|omega)
    by_cases hc114:d=114
    ·subst hc114
     have HC:Hid (ax L=([13],2,0)):=Hh (by rw[hL];rfl);clear hL;go_enter Tryz.func119,Tryz.ntmps119;go_wp2;refine bodyPost_ret (v:=bN ([13],2,0)) (by simp[results,Tryz.results119,go_sem,bN,aG,un,bg]) rfl ⟨by rw[HC.out],?_⟩
     (with_reducible repeat' first|refine Below.setCell ?_ ?_ _|refine Below.alloc ?_ ?_ _|refine Below.drew ?_|refine ah ?_ _|assumption|exact Below.refl _ _|(simp only[World.size_alloc,World.size_setCell,World.size_drew];first|done|omega)|omega)
    by_cases hc116:d=116
    ·subst hc116
     have HC:Hid (ax L=([9],2,0)):=Hh (by rw[hL];rfl);clear hL;go_enter Tryz.func119,Tryz.ntmps119;go_wp2;refine bodyPost_ret (v:=bN ([9],2,0)) (by simp[results,Tryz.results119,go_sem,bN,aG,un,bg]) rfl ⟨by rw[HC.out],?_⟩
     (with_reducible repeat' first|refine Below.setCell ?_ ?_ _|refine Below.alloc ?_ ?_ _|refine Below.drew ?_|refine ah ?_ _|assumption|exact Below.refl _ _|(simp only[World.size_alloc,World.size_setCell,World.size_drew];first|done|omega)|omega)
    have Ao:yx d=none:=by
     unfold yx;rw[if_neg (by omega),if_neg hc98,if_neg hc102,if_neg hc110,if_neg hc114,if_neg hc116]
    by_cases hc117:d=117
    ·subst hc117
     have HC:Hid (ax L=aM u):=Hh (by rw[hL];rfl);unfold bN at Ai;obtain⟨q,hq⟩:=exq (aM u);rw[<-hq] at Ai HC;obtain⟨o,z,e⟩:=q;simp only at Ai;obtain⟨S,hS⟩:=exq (bg (un o));rw[<-hS] at Ai;have HS:=Hh hS;clear hL Ao hS hq hc34 hc92 hc47 hc98 hc102 hc110 hc114 hc116;go_enter Tryz.func119,Tryz.ntmps119;go_wp2_with fail;refine (Ai _).mono ?_;rintro e2 w2 ⟨rfl,hb2⟩;have Ak:=hb2.size;simp only[World.size_alloc] at Ak;have Aj:=(aa.new w #[.string ⟨#[]⟩,.int .i64 0,.int .i64 0] 126).below hb2 (by simp);obtain⟨Ab,Ae,Ac,Af,Ad,Ag⟩:=Aj.n3 rfl;have Ap:Below w.heap.size w w2:=((Below.refl _ w).alloc lz _).trans (hb2.mono (by simp));go_wp2;refine bodyPost_ret (v:=.agg #[.string S,.int .i64 z,.int .i64 e]) (by simp[results,Tryz.results119,go_sem, *]) rfl ⟨by rw[HC.out,HS.out];rfl,?_⟩
     (with_reducible repeat' first|refine Below.setCell ?_ ?_ _|refine Below.alloc ?_ ?_ _|refine Below.drew ?_|refine ah ?_ _|assumption|exact Below.refl _ _|(simp only[World.size_alloc,World.size_setCell,World.size_drew];first|done|omega)|omega)
    ·have HC:Hid (ax L=aG 3):=Hh (by rw[hL];simp only[ax,mf,Ao,if_neg hc117];rfl)
     have b1:((d:Int)==34)=false:=by rw[beq_eq_false_iff_ne];omega
     have b2:((d:Int)==92)=false:=by rw[beq_eq_false_iff_ne];omega
     have b3:((d:Int)==47)=false:=by rw[beq_eq_false_iff_ne];omega
     have b4:((d:Int)==98)=false:=by rw[beq_eq_false_iff_ne];omega
     have b5:((d:Int)==102)=false:=by rw[beq_eq_false_iff_ne];omega
     have b6:((d:Int)==110)=false:=by rw[beq_eq_false_iff_ne];omega
     have b7:((d:Int)==114)=false:=by rw[beq_eq_false_iff_ne];omega
     have b8:((d:Int)==116)=false:=by rw[beq_eq_false_iff_ne];omega
     have b9:((d:Int)==117)=false:=by rw[beq_eq_false_iff_ne];omega
     clear hL Ao hc34 hc92 hc47 hc98 hc102 hc110 hc114 hc116 hc117;go_enter Tryz.func119,Tryz.ntmps119;go_wp2;refine bodyPost_ret (v:=bN (aG 3)) (by simp[results,Tryz.results119,go_sem,bN,aG,un,bg]) rfl ⟨by rw[HC.out],?_⟩
     (with_reducible repeat' first|refine Below.setCell ?_ ?_ _|refine Below.alloc ?_ ?_ _|refine Below.drew ?_|refine ah ?_ _|assumption|exact Below.refl _ _|(simp only[World.size_alloc,World.size_setCell,World.size_drew];first|done|omega)|omega)
  ·have hO:=fun W=>BF s k W (by omega) hk
   have Al:=jS ((bs s).drop k) (fun x hx=>fK x (List.mem_of_mem_drop hx));rw[List.length_drop,ay] at Al;have Ar:((c:Int) != 92)=true:=by rw[bne_iff_ne];omega
   have Aa:ax (c::r)=if (aD (c::r)).2=0 then aG 7 else ((c::r).take (aD (c::r)).2,(aD (c::r)).2,0):=by
    simp only[ax];rw[if_neg h32,if_neg h92]
   rw[<-hq] at Aa ⊢;obtain⟨L,hL⟩:=exq ((bs s).drop k);rw[<-hL] at Aa hO Al ⊢;obtain⟨o,ho⟩:=exq (aD L);rw[<-ho] at Aa hO Al;obtain⟨o1,n⟩:=o;simp only at Aa hO Al;have hx:s.extract k (k+n)=bg (un (L.take n)):=by rw[Gu,show k+n-k=n by omega,hL]
   have HX:=Hh hx
   by_cases hn:n=0
   ·subst hn
    have HC:Hid (ax L=aG 7):=Hh (by rw[Aa,if_pos rfl]);clear hq Aa hL ho hx h92 h32;go_enter Tryz.func119,Tryz.ntmps119;go_wp2_with fail;refine (hO _).mono ?_;rintro e2 w2 ⟨rfl,hb2⟩;have Ak:=hb2.size;simp only[World.size_alloc] at Ak;have Aj:=(aa.new w #[.string ⟨#[]⟩,.int .i64 0,.int .i64 0] 126).below hb2 (by simp);obtain⟨Ab,Ae,Ac,Af,Ad,Ag⟩:=Aj.n3 rfl;have Ap:Below w.heap.size w w2:=((Below.refl _ w).alloc lz _).trans (hb2.mono (by simp));go_wp2;refine bodyPost_ret (v:=bN (aG 7)) (by simp[results,Tryz.results119,go_sem,bN,aG,un,bg, *]) rfl ⟨by rw[HC.out],?_⟩
    (with_reducible repeat' first|refine Below.setCell ?_ ?_ _|refine Below.alloc ?_ ?_ _|refine Below.drew ?_|refine ah ?_ _|assumption|exact Below.refl _ _|(simp only[World.size_alloc,World.size_setCell,World.size_drew];first|done|omega)|omega)
   ·have HC:Hid (ax L=(L.take n,n,0)):=Hh (by rw[Aa,if_neg hn])
    have Ay:((n:Int)==0)=false:=by rw[beq_eq_false_iff_ne];omega
    clear hq Aa hL ho hx h92 h32 hn;go_enter Tryz.func119,Tryz.ntmps119;go_wp2_with fail;refine (hO _).mono ?_;rintro e2 w2 ⟨rfl,hb2⟩;have Ak:=hb2.size;simp only[World.size_alloc] at Ak;have Aj:=(aa.new w #[.string ⟨#[]⟩,.int .i64 0,.int .i64 0] 126).below hb2 (by simp);obtain⟨Ab,Ae,Ac,Af,Ad,Ag⟩:=Aj.n3 rfl;have Ap:Below w.heap.size w w2:=((Below.refl _ w).alloc lz _).trans (hb2.mono (by simp));go_wp2;refine bodyPost_ret (v:=.agg #[.string (s.extract k (k+n)),.int .i64 n,.int .i64 0]) (by simp[results,Tryz.results119,go_sem, *]) rfl ⟨by rw[HC.out,HX.out];rfl,?_⟩
    (with_reducible repeat' first|refine Below.setCell ?_ ?_ _|refine Below.alloc ?_ ?_ _|refine Below.drew ?_|refine ah ?_ _|assumption|exact Below.refl _ _|(simp only[World.size_alloc,World.size_setCell,World.size_drew];first|done|omega)|omega)
theorem Az(a b:List UInt8):bg a++bg b=bg (a++b):=by
 refine Fs ?_;simp[bs,bg]
theorem Ec(a b:List Nat):bg (un a)++bg (un b)=bg (un (a++b)):=by rw[Az];simp[un]
theorem Eb(l:List Nat):(un l).length=l.length:=by simp[un]
theorem rO(s:ByteArray)(w:World)(hs:s.size<=1048576) :
  Calls Tryz.prog 83 #[.string s] w fun e w'=>e=.returned (bN (aV (bs s)))/\Below w.heap.size w w':=by
 cases hq:bs s with
 |nil=>
  have HC:Hid (aV []=aG 2):=Hh rfl;have hz:s.size=0:=by rw[<-ay,hq];rfl
  have hb:((s.size:Int)==0)=true:=by rw[beq_iff_eq];omega
  clear hq hz;go_enter Tryz.func83,Tryz.ntmps83;go_wp2;refine bodyPost_ret (v:=bN (aG 2)) (by simp[results,Tryz.results83,go_sem,bN,aG,un,bg, *]) rfl ⟨by rw[HC.out],?_⟩
  (with_reducible repeat' first|refine Below.setCell ?_ ?_ _|refine Below.alloc ?_ ?_ _|refine Below.drew ?_|refine ah ?_ _|assumption|exact Below.refl _ _|(simp only[World.size_alloc,World.size_setCell,World.size_drew];first|done|omega)|omega)
 |cons c r=>
  obtain⟨Aw,AA⟩:=mW (s:=s) (k:=0) (by rw[List.drop_zero];exact hq);have Ax:0<s.size:=Aw;have hc:c<256:=fK c (by rw[hq];simp);have A7:((s.size:Int)==0)=false:=by rw[beq_eq_false_iff_ne];omega
  by_cases hc34:c=34
  ·subst hc34
   have HQ:Hid (aV (bs s)=gZ [] 1 (bU ((bs s).drop 1))):=Hh (by rw[hq];rfl);rw[<-hq];have Al:=aa.new w #[.string ⟨#[]⟩,.int .i64 0,.int .i64 0] 126;have Ai:Below w.heap.size w (w.alloc (.cells #[.string ⟨#[]⟩,.int .i64 0,.int .i64 0] 126)):=(Below.refl _ w).alloc lz _;clear hq;go_enter Tryz.func83,Tryz.ntmps83;go_wp2_with fail;go_loopw [3,4] (fun sv at' wr=>∃(k:Nat) (pre:List Nat) (S:ByteArray),sv=.string S/\Hid (S=bg (un pre))/\S.size<=4*k/\at'=.int .i64 (k:Int)/\k<=s.size/\gZ pre k (bU ((bs s).drop k))=aV (bs s)/\aa wr w.heap.size #[.string ⟨#[]⟩,.int .i64 0,.int .i64 0] 126/\Below w.heap.size w wr) (fun _ at' _=>s.size-(intOf at').toNat)
   case atStart=>exact⟨1,[],_,rfl,Hh rfl,by decide,rfl,by omega,HQ.out.symm,Al,Ai⟩
   case round=>
    clear Al Ai HQ;obtain⟨k,pre,S,rfl,HS,A6,rfl,hk,hj,hx,hb⟩:=hrel;have HJ:=Hh hj;have Ac:vZ ((bs s).drop k):=fun x hx=>fK x (List.mem_of_mem_drop hx);have hP:=fun W=>Hu s k W hk hs;have As:=hx.lt;clear hj
    by_cases hh:((bs s).drop k).head?=some 34
    ·have HC:Hid (aV (bs s)=(pre,k+1,0)):=Hh (by rw[<-HJ.out,zW Ac hh])
     obtain⟨t,ht⟩:∃t,(bs s).drop k=34::t:=by
      cases hd:(bs s).drop k with
      |nil=>rw[hd] at hh;simp at hh
      |cons a t=>rw[hd] at hh;simp at hh;subst hh;exact⟨t,rfl⟩
     obtain⟨Ab,Ad⟩:=mW ht;have Aj:k<s.size:=Ab;obtain⟨Ay,A1,Az,A2,A0,A3⟩:=hx.n3 rfl;clear hh ht Ac hP HJ;go_wp2;refine bodyPost_ret (v:=.agg #[.string S,.int .i64 ((k:Int)+1),.int .i64 0]) (by simp[results,Tryz.results83,go_sem,bN,aG,un,bg, *]) rfl ⟨by rw[HC.out,HS.out];rfl,?_⟩
     (with_reducible repeat' first|refine Below.setCell ?_ ?_ _|refine Below.alloc ?_ ?_ _|refine Below.drew ?_|refine ah ?_ _|assumption|exact Below.refl _ _|(simp only[World.size_alloc,World.size_setCell,World.size_drew];first|done|omega)|omega)
    ·have Aa:¬k<s.size\/(∃(h:k<s.size),(((s[k]'h).toNat:Int)==34)=false):=by
      cases hd:(bs s).drop k with
      |nil=>exact .inl (by have:=gK hk hd;omega)
      |cons a t=>
       obtain⟨Ab,Ad⟩:=mW hd;refine .inr ⟨Ab,?_⟩;rw[Ad,beq_eq_false_iff_ne];intro e;exact hh (by rw[hd];simp;omega)
     have HN:=Hh (fun (he:(ax ((bs s).drop k)).2.2=0)=>yh Ac hh he (pre:=pre) (k:=k));have HB:=Hh (fun (he:(ax ((bs s).drop k)).2.2≠0)=>zX Ac hh he (pre:=pre) (k:=k));have HO:=Hh (fun (he:(ax ((bs s).drop k)).2.2=0)=>kI Ac he);rw[List.length_drop,ay] at HO;rw[List.drop_drop] at HN;clear hh Ac;unfold bN at hP;generalize ax ((bs s).drop k)=q at *;obtain⟨o,z,e⟩:=q;simp only at hP HN HB HO;obtain⟨O,hO⟩:=exq (bg (un o));rw[<-hO] at hP;have Ag:=Hh hO;clear hO
     by_cases he:e=0
     ·subst he
      obtain⟨c0,-,Ak,AB,AC⟩:=HO.out rfl;have A5:O.size<=4:=by rw[Ag.out,lT,Eb,Ak,pI];exact (oh c0).2
      clear Ak;have At:Hid (gZ (pre++o) (k+z) (bU ((bs s).drop (k+z)))=aV (bs s)):=Hh (by rw[<-HJ.out,HN.out rfl]);have Au:Hid (S++O=bg (un (pre++o))):=Hh (by rw[HS.out,Ag.out,Ec]);clear HN HB HO HJ;rcases Aa with Aa|⟨Ab,Aa⟩
      ·omega
      ·go_wp2_with fail
       refine (hP _).mono ?_;rintro e2 w2 ⟨rfl,hb2⟩;have A4:=hb2.size;have Ae:=hx.below hb2 As;have Ah:=(hb.trans (hb2.mono hb.size)).alloc (by have:=hb.size;omega) (.cells #[.string O,.int .i64 z,.int .i64 0] 126);have Af:=Ae.alloc (.cells #[.string O,.int .i64 z,.int .i64 0] 126);clear hx hb hP;go_wp2;go_roundw
       case rel=>exact⟨k+z,pre++o,_,rfl,Au,by rw[ByteArray.size_append];omega,by go_num,by omega,At.out,Af,Ah⟩
       case measure=>simp[intOf];omega
     ·have HC:Hid (aV (bs s)=aG e):=Hh (by rw[<-HJ.out,HB.out he])
      have A9:((e:Int) != 0)=true:=by rw[bne_iff_ne];omega
      clear HN HB HO HJ he;rcases Aa with Aa|⟨Ab,Aa⟩
      all_goals
       go_wp2_with fail;refine (hP _).mono ?_;rintro e2 w2 ⟨rfl,hb2⟩;have A4:=hb2.size;have Ae:=hx.below hb2 As;have Ah:=(hb.trans (hb2.mono hb.size)).alloc (by have:=hb.size;omega) (.cells #[.string O,.int .i64 z,.int .i64 e] 126);have Af:=Ae.alloc (.cells #[.string O,.int .i64 z,.int .i64 e] 126);clear hx Ae;obtain⟨Am,Ap,An,Aq,Ao,Ar⟩:=Af.n3 rfl;have Av:=hb.trans (hb2.mono hb.size);clear hb hb2 hP;go_wp2;refine bodyPost_ret (v:=bN (aG e)) (by simp[results,Tryz.results83,go_sem,bN,aG,un,bg, *]) rfl ⟨by rw[HC.out],?_⟩
       (with_reducible repeat' first|refine Below.setCell ?_ ?_ _|refine Below.alloc ?_ ?_ _|refine Below.drew ?_|refine ah ?_ _|assumption|exact Below.refl _ _|(simp only[World.size_alloc,World.size_setCell,World.size_drew];first|done|omega)|omega)
  ·have HC:Hid (aV (c::r)=aG 3):=Hh (by simp only[aV];rw[if_pos hc34])
   have A8:((c:Int) != 34)=true:=by rw[bne_iff_ne];omega
   clear hq hc34;go_enter Tryz.func83,Tryz.ntmps83;go_wp2;refine bodyPost_ret (v:=bN (aG 3)) (by simp[results,Tryz.results83,go_sem,bN,aG,un,bg, *]) rfl ⟨by rw[HC.out],?_⟩
   (with_reducible repeat' first|refine Below.setCell ?_ ?_ _|refine Below.alloc ?_ ?_ _|refine Below.drew ?_|refine ah ?_ _|assumption|exact Below.refl _ _|(simp only[World.size_alloc,World.size_setCell,World.size_drew];first|done|omega)|omega)
def yM(w:World)(s:ByteArray)(k:Nat)(r:LR):Ending->World->Prop:=Aq w (xS s k r).1 (xS s k r).2.1 (xS s k r).2.2
theorem jJ{w w1 w2:World}{l:List ag}{a e:Int}{v:Value}(hb:Below w.heap.size w w1)(hbx:aa w1 w.heap.size #[.slice none 0 0,.int .i64 0,.int .i64 0] 38)(hl:w1.heap.size<=w2.heap.size)
  (hown:aI w1.heap.size w2 v l) (hb2:Below w1.heap.size w1 w2) :
  aa w2 w.heap.size #[.slice none 0 0,.int .i64 0,.int .i64 0] 38/\
  aI w.heap.size (ai w2 w.heap.size 0 [v,.int .i64 a,.int .i64 e]) v l/\Below w.heap.size w (ai w2 w.heap.size 0 [v,.int .i64 a,.int .i64 e])/\
  aa (ai w2 w.heap.size 0 [v,.int .i64 a,.int .i64 e]) w.heap.size #[v,.int .i64 a,.int .i64 e] 38:=by
 have hc:=hbx.below hb2 hbx.lt;refine⟨hc,?_,aL _ _ lz _ _ _ _ (hb.trans (hb2.mono hb.size)),?_⟩
 ·refine (hown.base_le hb.size).moved (fun k hk=>aK _ _ _ _ _ ?_)
  have h1:=(World.ownsRow.lt hown k hk).1;have h2:=hbx.lt;omega
 ·exact hc.put [v,.int .i64 a,.int .i64 e] 0
theorem Kq(s:ByteArray)(k:Nat)(w:World)(hs:s.size<=1048576)(hk:k<s.size)(h:s[k]'hk=10) :
  Calls Tryz.prog 46 #[.string s,.int .i64 (k:Nat)] w (yM w s k (.tok 5 1)):=by
 have Am:(s[k]'hk).toNat=10:=by rw[h];rfl
 clear h;have hb:Below w.heap.size w (w.alloc (.cells #[.slice none 0 0,.int .i64 0,.int .i64 0] 38)):=(Below.refl _ w).alloc lz _;have Ad:=aa.new w #[.slice none 0 0,.int .i64 0,.int .i64 0] 38;have hT:=lJ s k 1 5 (w.alloc (.cells #[.slice none 0 0,.int .i64 0,.int .i64 0] 38)) (by omega) (by omega);have An:k+1<=s.size:=hk;go_enter Tryz.func46,Tryz.ntmps46;go_wp2_with fail;refine (hT).mono ?_;rintro _ w2 ⟨v,rfl,hown,hb2⟩;obtain⟨Ac,Aa,Ab,-⟩:=jJ (a:=0) (e:=0) hb Ad hb2.size hown hb2;obtain⟨va,vc,Ak⟩:=hown.len;simp only[List.length_cons,List.length_nil,Nat.zero_add] at Ak;subst Ak;have Ao:=Ac.lt;have HX:=Jh Aa (And.intro Ab Ac);clear hown hb2 Aa Ab hb Ad;obtain⟨Ae,Ah,Af,Ai,Ag,Aj⟩:=Ac.n3 rfl;go_wp2;obtain⟨Aa,Ab,Al⟩:=HX.out;have hq:=((Al.setI 0 (.slice va 1 vc)).setI 1 (.int .i64 0)).setI 2 (.int .i64 0);obtain⟨hx,hy,hz⟩:=hq.m3 rfl;refine bodyPost_ret (v:=.agg #[.slice va 1 vc,.int .i64 0,.int .i64 0]) (by simp[results,Tryz.results46,go_sem,hx,hy,hz]) rfl ?_;exact⟨_,rfl,Aa,Ab⟩
theorem Kn(s:ByteArray)(k:Nat)(w:World)(hs:s.size<=1048576)(hk:k<s.size)(h10:s[k]'hk≠10)(h:lq (s[k]'hk)=true) :
  Calls Tryz.prog 46 #[.string s,.int .i64 (k:Nat)] w (yM w s k (.tok 1 (1+vW (s.data.toList.drop (k+1))))):=by
 have Av:=fA h10 (m:=10) rfl;have Aq:=iG (s[k]'hk);rw[h] at Aq;clear h h10;have hb:Below w.heap.size w (w.alloc (.cells #[.slice none 0 0,.int .i64 0,.int .i64 0] 38)):=(Below.refl _ w).alloc lz _;have Ac:=aa.new w #[.slice none 0 0,.int .i64 0,.int .i64 0] 38;obtain⟨q,hq⟩:∃q,vW (s.data.toList.drop (k+1))=q:=⟨_,rfl⟩;rw[hq];have Ax:q<=s.size-(k+1):=by rw[<-hq];have:=E8 (s.data.toList.drop (k+1));rw[List.length_drop,<-au] at this;exact this
 have HQ:=Hh hq;clear hq;have hT:=lJ s k (1+q) 1 (w.alloc (.cells #[.slice none 0 0,.int .i64 0,.int .i64 0] 38)) (by omega) (by omega);have HH:=Jh hb (And.intro Ac hT);clear hb Ac hT;go_enter Tryz.func46,Tryz.ntmps46;go_wp2_with fail;refine (Aq _).mono ?_;rintro _ _ ⟨rfl,hw1⟩;cases hw1
 go_wp2_with fail;go_loop [5] (fun n=>∃j:Nat,n=.int .i64 (j:Int)/\1<=j/\k+j<=s.size/\j+vW (s.data.toList.drop (k+j))=1+q) (fun n=>s.size-(k+(intOf n).toNat))
 case atStart=>exact⟨1,rfl,Nat.le_refl _,hk,by rw[HQ.out]⟩
 case round=>
  clear HQ;obtain⟨j,rfl,Aw,hj,hI⟩:=hrel
  by_cases hlt:k+j<s.size
  ·have As:=Dh s.data.toList (k+j) (by rw[<-au];exact hlt)
   rw[As] at hI;have Ae:=iG (s[k+j]'hlt);rw[<-jd hlt,show Nf (s[k+j]'hlt)=(lq (s[k+j]'hlt) || dg (s[k+j]'hlt)) from rfl] at hI;clear As;have An:0<=(k:Int)+j/\(k:Int)+j<s.size:=by omega
   have Ar:0<=(k:Int)+j/\(k:Int)+j<(s.size:Int):=An
   cases hb:lq (s[k+j]'hlt) with
   |true=>
    rw[hb] at hI Ae;simp only[Bool.true_or,if_true] at hI;have HI:=Hh hI;clear hI hb;go_wp2_with fail;refine (Ae _).mono ?_;rintro _ _ ⟨rfl,hw1⟩;cases hw1
    go_wp2;go_round
    case rel=>exact⟨j+1,by go_num,by omega,by omega,by have:=HI.out;rw[show k+(j+1)=k+j+1 by omega];omega⟩
    case measure=>simp[intOf];omega
   |false=>
    rw[hb] at hI Ae
    cases hd:dg (s[k+j]'hlt) with
    |true=>
     rw[hd] at hI;have Am:=qZ hd;simp only[Bool.or_true,if_true] at hI;have HI:=Hh hI;clear hI hb hd;go_wp2_with fail;refine (Ae _).mono ?_;rintro _ _ ⟨rfl,hw1⟩;cases hw1
     go_wp2;go_round
     case rel=>exact⟨j+1,by go_num,by omega,by omega,by have:=HI.out;rw[show k+(j+1)=k+j+1 by omega];omega⟩
     case measure=>simp[intOf];omega
    |false=>
     rw[hd] at hI
     have Am:(s[k+j]'hlt).toNat<48\/(48<=(s[k+j]'hlt).toNat/\57<(s[k+j]'hlt).toNat):=by
      have:¬(48<=(s[k+j]'hlt).toNat/\(s[k+j]'hlt).toNat<=57):=by simpa [dg,I9] using hd
      omega
     simp only[Bool.or_false,Bool.false_eq_true,if_false] at hI;have Ap:j=1+q:=by omega
     clear hI hb hd;subst Ap;rcases Am with Am|Am
     all_goals
      go_wp2_with fail;refine (Ae _).mono ?_;rintro _ _ ⟨rfl,hw1⟩;cases hw1
      go_wp2_with fail;obtain⟨hb,Ac,hT⟩:=HH.out;refine (hT).mono ?_;rintro _ w2 ⟨v,rfl,hown,hb2⟩;obtain⟨Ad,Aa,Ab,-⟩:=jJ (a:=0) (e:=0) hb Ac hb2.size hown hb2;obtain⟨va,vc,Al⟩:=hown.len;simp only[List.length_cons,List.length_nil,Nat.zero_add] at Al;subst Al;have Au:=Ad.lt;have HX:=Jh Aa (And.intro Ab Ad);clear hown hb2 Aa Ab hb Ac;obtain⟨Af,Ai,Ag,Aj,Ah,Ak⟩:=Ad.n3 rfl;go_wp2;obtain⟨Aa,Ab,Ao⟩:=HX.out;have hq:=((Ao.setI 0 (.slice va 1 vc)).setI 1 (.int .i64 0)).setI 2 (.int .i64 0);obtain⟨hx,hy,hz⟩:=hq.m3 rfl;refine bodyPost_ret (v:=.agg #[.slice va 1 vc,.int .i64 0,.int .i64 0]) (by simp[results,Tryz.results46,go_sem,hx,hy,hz]) rfl ?_;exact⟨_,rfl,Aa,Ab⟩
  ·have At:k+j=s.size:=by omega
   have he:vW (s.data.toList.drop (k+j))=0:=by rw[At,au,List.drop_length];rfl
   rw[he] at hI;have Ap:j=1+q:=by omega
   clear hI he;subst Ap;go_wp2_with fail;obtain⟨hb,Ac,hT⟩:=HH.out;refine (hT).mono ?_;rintro _ w2 ⟨v,rfl,hown,hb2⟩;obtain⟨Ad,Aa,Ab,-⟩:=jJ (a:=0) (e:=0) hb Ac hb2.size hown hb2;obtain⟨va,vc,Al⟩:=hown.len;simp only[List.length_cons,List.length_nil,Nat.zero_add] at Al;subst Al;have Au:=Ad.lt;have HX:=Jh Aa (And.intro Ab Ad);clear hown hb2 Aa Ab hb Ac;obtain⟨Af,Ai,Ag,Aj,Ah,Ak⟩:=Ad.n3 rfl;go_wp2;obtain⟨Aa,Ab,Ao⟩:=HX.out;have hq:=((Ao.setI 0 (.slice va 1 vc)).setI 1 (.int .i64 0)).setI 2 (.int .i64 0);obtain⟨hx,hy,hz⟩:=hq.m3 rfl;refine bodyPost_ret (v:=.agg #[.slice va 1 vc,.int .i64 0,.int .i64 0]) (by simp[results,Tryz.results46,go_sem,hx,hy,hz]) rfl ?_;exact⟨_,rfl,Aa,Ab⟩
theorem MQ(s:ByteArray)(k n:Nat):(s.extract k (k+n)).data.toList=(s.data.toList.drop k).take n:=by rw[fe,List.drop_take];congr 1;omega
theorem EM(s:ByteArray)(k:Nat)(w:World)(hs:s.size<=1048576)(hk:k<s.size)(hl:lq (s[k]'hk)=false)(h:dg (s[k]'hk)=true) :
  Calls Tryz.prog 46 #[.string s,.int .i64 (k:Nat)] w (yM w s k (pQ (s.data.toList.drop k))):=by
 have Aw:=fA (qY h (d:=10) rfl) (m:=10) rfl;have Ax:=qZ h;have Af:=iG (s[k]'hk);rw[hl] at Af;have hS:=fun W=>uM (s.extract k s.size) W (by rw[ByteArray.size_extract];omega);rw[uh] at hS;have Av:=pm (s.data.toList.drop k);rw[List.length_drop,<-au] at Av;have hP:=fun W=>Cr (s.extract k (k+df (s.data.toList.drop k))) W (by rw[ByteArray.size_extract];omega);rw[MQ] at hP;unfold pQ MS;clear hl h;generalize df (s.data.toList.drop k)=n at *;obtain⟨⟨⟨b,d,x⟩,z⟩,hR⟩:∃r,decR ((s.data.toList.drop k).take n)=r:=⟨_,rfl⟩;rw[hR] at hP ⊢;simp only[dJ] at hP ⊢;clear hR;have hb:Below w.heap.size w (w.alloc (.cells #[.slice none 0 0,.int .i64 0,.int .i64 0] 38)):=(Below.refl _ w).alloc lz _;have Ac:=aa.new w #[.slice none 0 0,.int .i64 0,.int .i64 0] 38
 by_cases hz:z=0
 ·subst hz
  rw[if_pos rfl];go_enter Tryz.func46,Tryz.ntmps46;go_wp2_with fail;refine (Af _).mono ?_;rintro _ _ ⟨rfl,hw1⟩;cases hw1
  go_wp2_with fail;refine (hS _).mono ?_;rintro _ _ ⟨rfl,hw1⟩;cases hw1
  go_wp2_with fail;refine (hP _).mono ?_;rintro _ w1 ⟨rfl,hb1⟩;have Aa:=(Ac.below hb1 Ac.lt).alloc (.cells #[.bool b,.string (av d),.int .i64 x] 122);have Ad:=(hb.trans (hb1.mono hb.size)).alloc (Nat.le_trans hb.size hb1.size) (.cells #[.bool b,.string (av d),.int .i64 x] 122);clear hb Ac hb1 hP hS;have hb:=Ad;have Ac:=Aa;clear Ad Aa;go_wp2_with fail;refine (lJ s k n 2 _ (by omega) (by omega)).mono ?_;rintro _ w2 ⟨v,rfl,hown,Ad⟩;obtain⟨Am,Ab,Ae,-⟩:=jJ (a:=0) (e:=0) hb Ac Ad.size hown Ad;obtain⟨va,vc,At⟩:=hown.len
  (try simp only[List.length_cons,List.length_nil,Nat.zero_add] at At)
  subst At;have Az:=Am.lt;have HX:=Jh Ab (And.intro Ae Am);clear hown Ad Ab Ae hb Ac;obtain⟨An,Aq,Ao,Ar,Ap,As⟩:=Am.n3 rfl;go_wp2;obtain⟨Ab,Ae,Au⟩:=HX.out;have hq:=((Au.setI 0 (.slice va 1 vc)).setI 1 (.int .i64 0)).setI 2 (.int .i64 0);obtain⟨hx,hy,hz⟩:=hq.m3 rfl;refine bodyPost_ret (v:=.agg #[.slice va 1 vc,.int .i64 0,.int .i64 0]) (by simp[results,Tryz.results46,go_sem,hx,hy,hz]) rfl ?_;exact⟨_,rfl,Ab,Ae⟩
 ·have A0:(z != 0)=true:=by simpa using hz
  rw[if_neg hz];go_enter Tryz.func46,Tryz.ntmps46;go_wp2_with fail;refine (Af _).mono ?_;rintro _ _ ⟨rfl,hw1⟩;cases hw1
  go_wp2_with fail;refine (hS _).mono ?_;rintro _ _ ⟨rfl,hw1⟩;cases hw1
  go_wp2_with fail;refine (hP _).mono ?_;rintro _ w1 ⟨rfl,hb1⟩;have Aa:=Ac.below hb1 Ac.lt;have HB:=Hh (hb.trans (hb1.mono hb.size));have Ay:=Aa.lt;have HC:=Hh Aa;clear hb Ac hb1 hP hS;obtain⟨Ag,Aj,Ah,Ak,Ai,Al⟩:=Aa.n3 rfl;clear Aa;go_wp2;have hq:=((((HC.out).setI 0 (.slice none 0 0)).setI 1 (.int .i64 (k:Nat))).setI 2 (.int .i64 z)).alloc (.cells #[.bool b,.string (av d),.int .i64 x] 122);obtain⟨hx,hy,hz⟩:=hq.m3 rfl;refine bodyPost_ret (v:=.agg #[.slice none 0 0,.int .i64 (k:Nat),.int .i64 z]) (by simp[results,Tryz.results46,go_sem,hx,hy,hz]) rfl ?_;exact⟨_,by simp[xS],aI.nil,(aL _ _ lz [.slice none 0 0,.int .i64 (k:Nat),.int .i64 z] 0 _ _ HB.out).alloc (by rw[aB];exact HB.out.size) _⟩
theorem EL(s:ByteArray)(k:Nat)(w:World)(hs:s.size<=1048576)(hk:k<s.size)(h:s[k]'hk=34) :
  Calls Tryz.prog 46 #[.string s,.int .i64 (k:Nat)] w (yM w s k (pG (s.data.toList.drop k))):=by
 have Aw:(s[k]'hk).toNat=34:=by rw[h];rfl
 have Ag:=iG 34;rw[show lq 34=false from rfl] at Ag;have hQ:=fun W=>rO (s.extract k s.size) W (by rw[ByteArray.size_extract];omega);rw[show bs (s.extract k s.size)=nb (s.data.toList.drop k) by unfold bs nb;rw[uh]] at hQ;unfold pG;have Ae:=fun h=>(ko (iB (s.data.toList.drop k)) h).2;rw[ky,List.length_drop,<-au] at Ae;clear h;generalize aV (nb (s.data.toList.drop k))=q at *;obtain⟨qs,qn,qe⟩:=q;simp only[bN] at hQ Ae ⊢;generalize bg (un qs)=qs at *;have hb:Below w.heap.size w (w.alloc (.cells #[.slice none 0 0,.int .i64 0,.int .i64 0] 38)):=(Below.refl _ w).alloc lz _;have Ac:=aa.new w #[.slice none 0 0,.int .i64 0,.int .i64 0] 38
 by_cases he:qe=0
 ·subst he
  have A0:=Ae rfl;rw[if_pos rfl];clear Ae;go_enter Tryz.func46,Tryz.ntmps46;go_wp2_with fail;refine (Ag _).mono ?_;rintro _ _ ⟨rfl,hw1⟩;cases hw1
  go_wp2_with fail;refine (hQ _).mono ?_;rintro _ w1 ⟨rfl,hb1⟩;have Aa:=(Ac.below hb1 Ac.lt).alloc (.cells #[.string qs,.int .i64 (qn:Int),.int .i64 ((0:Nat):Int)] 126);have Ad:=(hb.trans (hb1.mono hb.size)).alloc (Nat.le_trans hb.size hb1.size) (.cells #[.string qs,.int .i64 (qn:Int),.int .i64 ((0:Nat):Int)] 126);clear hb Ac hb1 hQ;have hb:=Ad;have Ac:=Aa;clear Ad Aa;go_wp2_with fail;refine (lJ s k qn 3 _ (by omega) (by omega)).mono ?_;rintro _ w2 ⟨v,rfl,hown,Ad⟩;obtain⟨An,Ab,Af,-⟩:=jJ (a:=0) (e:=0) hb Ac Ad.size hown Ad;obtain⟨va,vc,Au⟩:=hown.len
  (try simp only[List.length_cons,List.length_nil,Nat.zero_add] at Au)
  subst Au;have Az:=An.lt;have HX:=Jh Ab (And.intro Af An);clear hown Ad Ab Af hb Ac;obtain⟨Ao,Ar,Ap,As,Aq,At⟩:=An.n3 rfl;go_wp2;obtain⟨Ab,Af,Av⟩:=HX.out;have hq:=((Av.setI 0 (.slice va 1 vc)).setI 1 (.int .i64 0)).setI 2 (.int .i64 0);obtain⟨hx,hy,hz⟩:=hq.m3 rfl;refine bodyPost_ret (v:=.agg #[.slice va 1 vc,.int .i64 0,.int .i64 0]) (by simp[results,Tryz.results46,go_sem,hx,hy,hz]) rfl ?_;exact⟨_,rfl,Ab,Af⟩
 ·have Ax:((qe:Int) != 0)=true:=by rw[bne_iff_ne];omega
  rw[if_neg (by omega)];clear he Ae;go_enter Tryz.func46,Tryz.ntmps46;go_wp2_with fail;refine (Ag _).mono ?_;rintro _ _ ⟨rfl,hw1⟩;cases hw1
  go_wp2_with fail;refine (hQ _).mono ?_;rintro _ w1 ⟨rfl,hb1⟩;have Aa:=Ac.below hb1 Ac.lt;have HB:=Hh (hb.trans (hb1.mono hb.size));have Ay:=Aa.lt;have HC:=Hh Aa;clear hb Ac hb1 hQ;obtain⟨Ah,Ak,Ai,Al,Aj,Am⟩:=Aa.n3 rfl;clear Aa;go_wp2;have hq:=((((HC.out).setI 0 (.slice none 0 0)).setI 1 (.int .i64 (k:Nat))).setI 2 (.int .i64 (qe:Nat))).alloc (.cells #[.string qs,.int .i64 (qn:Int),.int .i64 (qe:Int)] 126);obtain⟨hx,hy,hz⟩:=hq.m3 rfl;refine bodyPost_ret (v:=.agg #[.slice none 0 0,.int .i64 (k:Nat),.int .i64 (qe:Nat)]) (by simp[results,Tryz.results46,go_sem,hx,hy,hz]) rfl ?_;exact⟨_,by simp[xS],aI.nil,(aL _ _ lz [.slice none 0 0,.int .i64 (k:Nat),.int .i64 (qe:Nat)] 0 _ _ HB.out).alloc (by rw[aB];exact HB.out.size) _⟩
theorem Ee(a:Bs)(b:UInt8)(cs:Bs):Lib.trimRightS (a++[b]) cs=if cs.contains b then Lib.trimRightS a cs else a++[b]:=by
 unfold Lib.trimRightS;rw[List.reverse_append,List.reverse_singleton,List.singleton_append,List.dropWhile_cons]
 by_cases h:cs.contains b=true
 ·rw[if_pos h,if_pos h]
 ·rw[if_neg h,if_neg h];simp
theorem IQ(l:Bs){c:UInt8}{r:Bs}(h:l=c::r)(hc:c≠10):1<=dz l:=by
 rw[h,dz,if_neg hc];omega
theorem EK(s:ByteArray)(k:Nat)(w:World)(hs:s.size<=1048576)(hk:k<s.size)(hc:s[k]'hk=35\/(s[k]'hk=47/\(s.data.toList.drop (k+1)).head?=some 47)) :
  Calls Tryz.prog 46 #[.string s,.int .i64 (k:Nat)] w (yM w s k (iX (iA (s.data.toList.drop k)) 6)):=by
 have hd:=eT hk;obtain⟨L,hL⟩:∃L,(s.data.toList.drop k).take (dz (s.data.toList.drop k))=L:=⟨_,rfl⟩;obtain⟨ln,Ac⟩:∃ln,dz (s.data.toList.drop k)=ln:=⟨_,rfl⟩;have A7:=pR (s.data.toList.drop k);rw[Ac,List.length_drop,<-au] at A7;have Ao:L.length=ln:=by rw[<-hL,Ac,List.length_take,List.length_drop,<-au];omega
 have Az:iA (s.data.toList.drop k)=Lib.trimRightS L kG:=by unfold iA;rw[hL]
 have Ay:∀j,j<=ln->(s.data.toList.take (k+j)).drop k=L.take j:=by
  intro j hj;rw[<-hL,Ac,List.take_take,Nat.min_eq_left hj,List.drop_take];congr 1;omega
 have Af:∀j,j<ln->∃h2:k+j<s.size,L[j]?=some (s[k+j]'h2):=by
  intro j h1;have h2:k+j<s.size:=by omega
  have h3:(s.data.toList.drop k)[j]?=some (s[k+j]'h2):=by
   rw[List.getElem?_drop,jd,List.getElem?_eq_getElem]
  refine⟨h2,?_⟩;rw[<-h3,<-hL,List.getElem?_take,if_pos (by omega)]
 have h1:1<=ln:=by
  rw[<-Ac];refine IQ _ hd ?_;rcases hc with h|⟨h,-⟩<;>rw[h]<;>decide
 have Ap:cz (s[k]'hk)=false:=by rcases hc with h|⟨h,-⟩<;>rw[h]<;>rfl
 have hE:=fun W=>Gz s k W (by omega) (by omega);rw[Ac] at hE;rw[Az];have Ai:=fun W=>rU s k ⟨#[47,47]⟩ W (by omega) (by omega) (by decide);rw[show (⟨#[47,47]⟩:ByteArray).data.toList.isPrefixOf (s.data.toList.drop k)=decide (s[k]'hk=47/\(s.data.toList.drop (k+1)).head?=some 47) by rw[hd];exact AQ 47 47 _ _] at Ai;have An:=fun j W (hj:j<=ln)=>vO s k (k+j) 6 W hs (by omega) (by omega)
 have Ad:∀j W,j<=ln->Calls Tryz.prog 86 #[.string s,.int .i64 (k:Nat),.int .i64 ((k+j:Nat):Int),.int .i64 ((6:Nat):Int)] W (Aq W (xS s k (iX (L.take j) 6)).1 (xS s k (iX (L.take j) 6)).2.1 (xS s k (iX (L.take j) 6)).2.2):=fun j W hj=>by
  have:=An j W hj;rw[Ay j hj] at this;exact this
 have A2:=Hh Ad;have HG:=Hh Af;have A1:=Hh Ap;have A3:=Hh Ao;clear An Ad Ay hL Ac hd Az Af Ap Ao;have hb:Below w.heap.size w (w.alloc (.cells #[.slice none 0 0,.int .i64 0,.int .i64 0] 38)):=(Below.refl _ w).alloc lz _;have Ab:=aa.new w #[.slice none 0 0,.int .i64 0,.int .i64 0] 38;have HH:=Jh hb Ab;rcases hc with hc|⟨hc,hr⟩
 focus
  have A6:(s[k]'hk).toNat=35:=by rw[hc];rfl
  have Ae:=iG 35;rw[show lq 35=false from rfl] at Ae;clear hc Ai hb Ab;go_enter Tryz.func46,Tryz.ntmps46;go_wp2_with fail;refine (Ae _).mono ?_;rintro _ _ ⟨rfl,hw1⟩;cases hw1
 rotate_left
 focus
  have A6:(s[k]'hk).toNat=47:=by rw[hc];rfl
  have Ae:=iG 47;rw[show lq 47=false from rfl] at Ae;rw[decide_eq_true ⟨hc,hr⟩] at Ai;clear hc hr hb Ab;go_enter Tryz.func46,Tryz.ntmps46;go_wp2_with fail;refine (Ae _).mono ?_;rintro _ _ ⟨rfl,hw1⟩;cases hw1
  go_wp2_with fail;refine (Ai _).mono ?_;rintro _ _ ⟨rfl,hw1⟩;cases hw1
 all_goals
  go_wp2_with fail;refine (hE _).mono ?_;rintro _ _ ⟨rfl,hw1⟩;cases hw1
  go_wp2_with fail;go_loop [10] (fun n=>∃m:Nat,n=.int .i64 (((k+m:Nat):Int)+1)/\m<ln/\Lib.trimRightS (L.take (m+1)) kG=Lib.trimRightS L kG) (fun n=>(intOf n).toNat)
  case atStart=>exact⟨ln-1,by congr 1;omega,by omega,by rw[List.take_of_length_le (by rw[A3.out];omega)]⟩
  case round=>
   obtain⟨m,rfl,hm,hI⟩:=hrel;obtain⟨Ag,Am⟩:=HG.out m hm;have Aj:L.take (m+1)=L.take m++[s[k+m]'Ag]:=by rw[List.take_add_one,Am];rfl
   rw[Aj,Ee,<-Aj] at hI;have Ah:=Av (s[k+m]'Ag)
   cases hbl:cz (s[k+m]'Ag) with
   |true=>
    rw[hbl] at Ah;rw[show kG.contains (s[k+m]'Ag)=true from hbl,if_pos rfl] at hI
    have A9:m≠0:=by
     rintro rfl;have:=A1.out;simp only[Nat.add_zero] at hbl;rw[hbl] at this;cases this
    have HI:=Hh hI;clear hI Aj Am hbl;go_wp2_with fail;refine (Ah _).mono ?_;rintro _ _ ⟨rfl,hw1⟩;cases hw1
    go_wp2;go_round
    case rel=>exact⟨m-1,by congr 1;omega,by omega,by rw[show m-1+1=m by omega];exact HI.out⟩
    case measure=>simp[intOf];omega
   |false=>
    rw[hbl] at Ah;rw[show kG.contains (s[k+m]'Ag)=false from hbl,if_neg (by simp)] at hI;have HI:=Hh hI;have hC:=A2.out (m+1) (w.alloc (.cells #[.slice none 0 0,.int .i64 0,.int .i64 0] 38)) hm;rw[show ((k+(m+1):Nat):Int)=((k+m:Nat):Int)+1 by omega] at hC;clear hI Aj Am hbl;obtain⟨⟨tl,ta,te⟩,hx⟩:∃x,xS s k (iX (L.take (m+1)) 6)=x:=⟨_,rfl⟩;rw[hx] at hC;have A4:=Hh hx;clear hx;simp only at hC;go_wp2_with fail;refine (Ah _).mono ?_;rintro _ _ ⟨rfl,hw1⟩;cases hw1
    go_wp2_with fail;obtain⟨hb,Ab⟩:=HH.out;refine (hC).mono ?_;rintro _ w2 ⟨v,rfl,hown,hb2⟩;obtain⟨Al,Aa,Ak,-⟩:=jJ (a:=ta) (e:=te) hb Ab hb2.size hown hb2;obtain⟨va,vc,A0⟩:=hown.len
    (try simp only[List.length_cons,List.length_nil,Nat.zero_add] at A0)
    subst A0;have A8:=Al.lt;have HX:=Jh Aa (And.intro Ak Al);clear hown hb2 Aa Ak hb Ab;obtain⟨Ar,Au,As,Aw,At,Ax⟩:=Al.n3 rfl;go_wp2;obtain⟨Aa,Ak,A5⟩:=HX.out;have hq:=((A5.setI 0 (.slice va tl.length vc)).setI 1 (.int .i64 ta)).setI 2 (.int .i64 te);obtain⟨hx,hy,hz⟩:=hq.m3 rfl;refine bodyPost_ret (v:=.agg #[.slice va tl.length vc,.int .i64 ta,.int .i64 te]) (by simp[results,Tryz.results46,go_sem,hx,hy,hz]) rfl ?_;unfold yM;rw[<-HI.out,A4.out];exact⟨_,rfl,Aa,Ak⟩
end Go.Proofs.YtbcdaaobbebooaaGreatDoor
