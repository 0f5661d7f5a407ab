import Derived.Test.YtbcdaaobbebooaaGreatDoorMgq
set_option linter.unusedSimpArgs false
set_option linter.unusedVariables false
set_option maxRecDepth 100000
set_option maxHeartbeats 20000000
namespace Go.Proofs.YtbcdaaobbebooaaGreatDoor
open Go.RowKit Go.Tab
theorem Ij(l:List aO)(n k:Nat)(d:Int)(pv:Option Bool)(hk:k<l.length):ni l (n+1) k d pv=Bl l[k] pv++(qJ (jX l k) (dR d l[k].toks) l[k]++ni l n (k+1) (dD d l[k].toks) (some (iK l[k].toks))):=by
 rw[ni,List.getElem?_eq_getElem hk]
def NN:List aO->Int->Prop
 |[],_=>True
 |f::r,d=>(0<=dR d f.toks/\dR d f.toks<=64)/\NN r (dD d f.toks)
theorem FR(a b:Nat):kY a++kY b=kY (a+b):=by unfold kY;rw[List.replicate_append_replicate]
theorem JB{l:List aO}{M:Nat}(h:∀f∈l,dG (aR f)<=M)(k:Nat):jX l k<=M:=by
 unfold jX
 have hw:∀(r:List aO),(∀f∈r,dG (aR f)<=M)->gX r<=M:=by
  intro r
  induction r with
  |nil=>intro _;exact Nat.zero_le _
  |cons f r ih=>
   intro hr;rw[uD];have:=hr f (by simp);have:=ih fun g hg=>hr g (by simp[hg]);omega
 refine hw _ fun f hf=>h f ?_
 have:∀(r:List aO),f∈lh r->f∈r:=by
  intro r hm
  cases r with
  |nil=>cases hm
  |cons g r=>
   rw[lh] at hm;split at hm
   ·rcases List.mem_cons.1 hm with rfl|hm
    ·simp
    ·exact List.mem_cons_of_mem _ ((List.takeWhile_sublist _).subset hm)
   ·cases hm
 exact List.mem_of_mem_drop (this _ hf)
structure O6(B:Nat)(w wr:World)(F:List aO)(T:Bs)(lv:Value)(D:List (eB×aO))(i:Nat)(d:Int)(S:ByteArray)(pv:Option Bool):Prop where
 b:Below w.heap.size w wr
 t:T=S.data.toList++ni F (F.length-i) i d pv
 s:S.size<=400000000
 o:NN (F.drop i) d
 p:(i=0/\pv=none)\/∃(h:i-1<F.length),0<i/\pv=some (iK F[i-1].toks)
theorem Ku{F:List aO}{i:Nat}{d:Int}(hi:i<F.length)(h:NN (F.drop i) d):(0<=dR d F[i].toks/\dR d F[i].toks<=64)/\NN (F.drop (i+1)) (dD d F[i].toks):=by
 rw[List.drop_eq_getElem_cons hi] at h;exact h
theorem oI{T A C:Bs}{S:ByteArray}(h:T=S.data.toList++(A++C))(hT:T.length<=400000000):S.size+A.length<=400000000:=by
 rw[h,List.length_append,List.length_append,eX] at hT;omega
theorem kS{T A C:Bs}{S:ByteArray}(x:ByteArray)(h:T=S.data.toList++(A++C))(hx:x.data.toList=A):T=(S++x).data.toList++C:=by
 rw[h,kT,hx,List.append_assoc]
theorem Nz{n j:Nat}(h:j<n):kY (2*n-2*j)=[32,32]++kY (2*n-2*(j+1)):=by
 rw[show 2*n-2*j=2+(2*n-2*(j+1)) by omega,<-FR];rfl
theorem NA{n j:Nat}(h:j<=n):kY (n+1-j)=[32]++kY (n+1-(j+1)):=by
 rw[show n+1-j=1+(n+1-(j+1)) by omega,<-FR];rfl
theorem Iq{row:List ag}{fr en M:Nat}(h:fr<=en)(hM:(eP row 0 en).length<=M):(eP row fr en).length<=M:=by
 rcases Nat.eq_zero_or_pos fr with rfl|h0
 ·exact hM
 ·by_cases hlt:fr<en
  ·have e:eP row 0 en=vC (row[0]?.getD ⟨0,⟨#[]⟩,0⟩)++aW row 0 1 en:=by unfold eP;rw[if_pos (by omega)]
   rw[e,List.length_append] at hM;unfold eP;rw[if_pos hlt]
   have h1:(vC (row[fr]?.getD ⟨0,⟨#[]⟩,0⟩)++aW row 0 (fr+1) en).length<=(aW row 0 1 en).length:=by
    have hd:aW row 0 1 en=zi ((((rP row 0).take en).drop 1).take (fr-1))++aW row 0 fr en:=by
     unfold aW;rw[<-uq]
     congr 1
     have:=List.take_append_drop (fr-1) (((rP row 0).take en).drop 1);rw[List.drop_drop,show 1+(fr-1)=fr by omega] at this;exact this.symm
    have h2:(vC (row[fr]?.getD ⟨0,⟨#[]⟩,0⟩)++aW row 0 (fr+1) en).length<=(aW row 0 fr en).length:=by
     by_cases hr:fr<row.length
     ·have hp:fr<((rP row 0).take en).length:=by rw[List.length_take,tF];omega
      have:aW row 0 fr en=Ot (((rP row 0).take en)[fr])++aW row 0 (fr+1) en:=by
       unfold aW;rw[List.drop_eq_getElem_cons hp];rfl
      rw[this,List.length_append,List.length_append,List.getElem_take,F9 hr,List.getElem?_eq_getElem hr];simp only[Ot,List.length_append,Option.getD_some];omega
     ·rw[List.getElem?_eq_none (by omega)]
      have:aW row 0 (fr+1) en=[]:=by
       unfold aW;rw[List.drop_eq_nil_of_le (by rw[List.length_take,tF];omega)];rfl
      rw[this];exact Nat.zero_le _
    exact Nat.le_trans h2 (by rw[hd,List.length_append];omega)
   exact Nat.le_trans h1 (by omega)
  ·unfold eP
   rw[if_neg hlt];exact Nat.zero_le _
theorem Cu(s:ByteArray)(w:World)(F:List aO)(hrows:Calls Tryz.prog 72 #[.string s] w fun e w'=>∃v D,e=.returned v/\yR w.heap.size w.heap.size w' v D/\D.map (·.2)=F/\Below w.heap.size w w')(hn:F.length<=1000000)(hF:∀f∈F,Oq f/\DY f.toks)(hok:NN F 0)(hT:(ni F F.length 0 0 none).length<=400000000) :
  Calls Tryz.prog 44 #[.string s] w fun e w'=>e=.returned (.string (av (ni F F.length 0 0 none)))/\Below w.heap.size w w':=by
 obtain⟨T,Ai⟩:=exq (ni F F.length 0 0 none);rw[<-Ai] at hT ⊢;go_enter Tryz.func44,Tryz.ntmps44;go_wp2_with fail;refine hrows.mono ?_;clear hrows;rintro _ w1 ⟨v,D,rfl,hS,hD,hb1⟩;subst hD;rw[List.length_map] at hn;obtain⟨la,lc,rfl,BY,BQ⟩:=hS.len;unfold maxLen at BQ;have A6:=Hh hS;have A5:=Hh hF;have Al:=Hh hT;have Bm:=Hh hb1;have HA:Hid (O6 0 w1 w1 (D.map (·.2)) T (.slice la D.length lc) D 0 0 ⟨#[]⟩ none):=Hh ⟨Below.refl _ _,by rw[Ai];rfl,by decide,hok,.inl ⟨rfl,rfl⟩⟩;clear hS hF hT hb1 Ai hok;go_wp2_with fail;go_loopw [4,5,6] (fun o dp i wr=>∃(k:Nat) (d:Int) (S:ByteArray) (pv:Option Bool),k<=D.length/\i=.int .i64 (k:Int)/\dp=.int .i64 d/\o=.string S/\(0<=d/\d<=65)/\Hid (O6 0 w1 wr (D.map (·.2)) T (.slice la D.length lc) D k d S pv)) (fun _ _ i _=>D.length-(intOf i).toNat)
 case atStart=>exact⟨0,0,⟨#[]⟩,none,Nat.zero_le _,rfl,rfl,rfl,by omega,HA⟩
 case round=>
  clear HA;obtain⟨k,d,S,pv,hk,rfl,rfl,rfl,hd,HI⟩:=hrel;have Ah:=Hh HI.out.b;have By:=HI.out.s
  by_cases hkl:k<D.length
  ·obtain⟨g,he,-,Bh,o0,o1,-⟩:=A6.out.get hkl
   cases he
   have Ao:k<(D.map (·.2)).length:=by rw[List.length_map];exact hkl
   have A9:(D.map (·.2))[k]=D[k].2:=List.getElem_map ..;have Av:=A6.out.fin D[k] (List.getElem_mem hkl);obtain⟨Ab,AM⟩:=A5.out D[k].2 (List.mem_map_of_mem (List.getElem_mem hkl));have Ad:=HI.out.t;rw[show (D.map (·.2)).length-k=((D.map (·.2)).length-(k+1))+1 by omega,Ij _ _ _ _ _ Ao,A9] at Ad;have Az:=Ku Ao HI.out.o;rw[A9] at Az;have BI:Hid (∀W,Below w1.heap.size w1 W->Calls Tryz.prog 78 #[.slice (some ⟨g,0,none⟩) D.length lc,.int .i64 (k:Nat)] W fun e w'=>e=.returned (.int .i64 (jX (D.map (·.2)) k:Nat))/\Below W.heap.size W w'):=Hh (fun W hW=>Ct W _ D k (A6.out.below hW) hkl hn (fun f hf=>(A5.out f hf).1))
   have BJ:Hid (jX (D.map (·.2)) k<=1000000):=Hh (JB (fun f hf=>by
    by_cases ha:lw f=true
    ·have h1:=FB (A5.out f hf).1.fine ha
     have h2:=oH (aR f);have h3:=sV (row:=f.toks) (fr:=0) (k:=f.eq) (en:=f.toks.length) (by have:=(mV ha).2.2;omega);have h4:=(A5.out f hf).1.sz;rw[h1] at h2 ⊢;omega
    ·have h1:f.eq=0:=by
      unfold aO.eq
      have:oG f.toks=none:=by
       unfold lw at ha
       simpa using ha
      rw[this];rfl
     unfold aR;rw[h1,lQ]
     exact Nat.zero_le _) k)
   obtain⟨dt,B1⟩:=exq D[k].2;obtain⟨ds,B0⟩:=exq D[k].1;rw[<-B1] at o1 Av Ab AM Ad Az A9;rw[<-B0] at o0 Av;obtain⟨da,dn,dc⟩:=ds;obtain⟨a',c',e'⟩:=Av.len;simp only[bQ,Value.slice.injEq] at e';obtain⟨rfl,rfl,rfl⟩:=e';simp only[bQ] at o0 Av;have Bq:Hid (∀h:k<(D.map (·.2)).length,(D.map (·.2))[k]=dt):=Hh (fun _=>A9);have AF:=Hh Av.toks;have Bt:Hid (∀W,Below w1.heap.size w1 W->Calls Tryz.prog 73 #[.slice da dt.toks.length dc] W fun e w'=>e=.returned (.bool (iK dt.toks))/\Below W.heap.size W w'):=Hh (fun W hW=>sU W _ dt.toks (AF.out.below hW lz) AM Ab.len);have Bo:Hid (∀W,Below w1.heap.size w1 W->Calls Tryz.prog 74 #[.slice da dt.toks.length dc] W fun e w'=>e=.returned (.bool (kZ dt.toks))/\Below W.heap.size W w'):=Hh (fun W hW=>yZ W _ dt.toks (AF.out.below hW lz) AM Ab.len);have B9:Hid (∀W,Below w1.heap.size w1 W->Calls Tryz.prog 75 #[.slice da dt.toks.length dc] W fun e w'=>e=.returned (.int .i64 (sM (oG dt.toks)))/\Below W.heap.size W w'):=Hh (fun W hW=>qp W _ dt.toks (AF.out.below hW lz) Ab.len);have AV:Hid (∀W fr en,Below w1.heap.size w1 W->fr<=en->en<=dt.toks.length->(eP dt.toks fr en).length<=1000000->Calls Tryz.prog 76 #[.slice da dt.toks.length dc,.int .i64 (fr:Nat),.int .i64 (en:Nat)] W fun e w'=>e=.returned (.string (av (eP dt.toks fr en)))/\Below W.heap.size W w'):=Hh (fun W fr en hW h1 h2 h3=>vH W _ dt.toks fr en (AF.out.below hW lz) h1 h2 Ab.len h3)
   have AC:Hid (∀X,Below w1.heap.size w1 X->X.cell? ⟨g,k*2,none⟩=some (.slice da dt.toks.length dc)/\X.cell? ⟨g,k*2+1,none⟩=some (.bool dt.after)/\g<X.heap.size):=Hh (fun X hX=>⟨(hX.cell (p:=⟨g,k*2,none⟩) Bh).trans o0,(hX.cell (p:=⟨g,k*2+1,none⟩) Bh).trans o1,Nat.lt_of_lt_of_le Bh hX.size⟩);have Bu:=Hh HI.out.p;have Aa:=Hh Ab;have Ak:=Hh Ad;have Bs:=Hh Az.2;obtain⟨dd,Bz⟩:∃dd:Nat,dR d dt.toks=(dd:Int):=⟨(dR d dt.toks).toNat,by have:=Az.1;omega⟩;have Ca:dd<=64:=by have:=Az.1;omega
   have AD:=Hh Bz;have BP:=Ab.len;clear Ad Az Bz Ab AM Av o0 o1 A9 Ao B0 B1 HI;obtain⟨z0,z1,zl⟩:=AC.out wr Ah.out;obtain⟨gb,B3⟩:∃b,(dt.after&&(pv.isSome&&(!kZ dt.toks&&pv != some true)))=b:=⟨_,rfl⟩;have At:=Hh B3;clear B3;go_upto_region 7 with fail
   go_cut [47] (fun x wc=>x=.bool gb/\Below w1.heap.size w1 wc)
   case first=>
    cases haf:dt.after with
    |false=>
     rw[haf] at z1;have hg:gb=false:=by rw[<-At.out,haf];rfl
     subst hg;clear haf;go_wp2_with fail;go_meet
     case rel=>exact⟨rfl,Ah.out⟩
    |true=>
     rw[haf] at z1;rcases Nat.eq_zero_or_pos k with hk0|hk0
     ·have hg:gb=false:=by
       rcases Bu.out with ⟨-,e⟩|⟨_,h,-⟩
       ·rw[<-At.out,haf,e];rfl
       ·omega
      have Cd:¬0<k:=by omega
      subst hg;clear haf hk0;go_wp2_with fail;go_meet
      case rel=>exact⟨rfl,Ah.out⟩
     ·obtain⟨p,hp⟩:∃p,k=p+1:=⟨k-1,by omega⟩
      have Bj:p<D.length:=by omega
      obtain⟨g1,he,-,-,y0,-,-⟩:=(A6.out.below Ah.out).get Bj;cases he
      have AI:=(A6.out.below Ah.out).fin D[p] (List.getElem_mem Bj);obtain⟨Bg,Bi⟩:=A5.out D[p].2 (List.mem_map_of_mem (List.getElem_mem Bj))
      have AN:pv=some (iK D[p].2.toks):=by
       rcases Bu.out with ⟨e,-⟩|⟨h,-,e⟩
       ·omega
       ·rw[e]
        have:(D.map (·.2))[k-1]=D[p].2:=by rw[List.getElem_map];simp only[hp,Nat.add_sub_cancel]
        rw[this]
      generalize D[p]=dj at *;obtain⟨⟨ja,jn,jc⟩,jt⟩:=dj;obtain⟨a',c',e'⟩:=AI.len;simp only[bQ,Value.slice.injEq] at e';obtain⟨rfl,rfl,rfl⟩:=e';simp only[bQ] at y0 AI Bg Bi AN;have hO:=sU wr _ jt.toks AI.toks Bi Bg.len;obtain⟨b1,hb1⟩:∃b,iK jt.toks=b:=⟨_,rfl⟩;rw[hb1] at hO AN;obtain⟨jn,B4⟩:=exq jt.toks.length;rw[<-B4] at y0 hO;have iw:IntKind.i64.wrap ((k:Int)-1)=(p:Int):=by rw[IntWalk.i64_in _ (by omega)];omega
      have i1:(0:Int)<=(p:Int):=by omega
      have i2:(p:Int)<(D.length:Int):=by omega
      have i3:(k:Int)<(D.length:Int):=by omega
      have Br:Hid (gb=(!kZ dt.toks&&!b1)):=Hh (by rw[<-At.out,haf,AN];cases b1<;>cases kZ dt.toks<;>rfl);clear haf hp AI Bg Bi AN hb1 B4;go_wp2_with fail;refine hO.mono ?_;clear hO;rintro _ w3 ⟨rfl,hb3⟩;have Aj:=Hh (Ah.out.trans (hb3.mono Ah.out.size));obtain⟨x0,x1,xl⟩:=AC.out w3 Aj.out;clear hb3 y0 z0 z1
      cases b1 with
      |true=>
       have hg:gb=false:=by rw[Br.out];cases kZ dt.toks<;>rfl
       subst hg;go_wp2_with fail;go_meet
       case rel=>exact⟨rfl,Aj.out⟩
      |false=>
       have hC:=Bo.out w3 Aj.out;obtain⟨b2,Bf⟩:∃b,kZ dt.toks=b:=⟨_,rfl⟩;rw[Bf] at hC;have BA:Hid (gb=!b2):=Hh (by rw[Br.out,Bf];cases b2<;>rfl);obtain⟨n0,Ay⟩:=exq dt.toks.length;rw[<-Ay] at x0 hC;clear Bf Ay;go_wp2_with fail;refine hC.mono ?_;clear hC;rintro _ w4 ⟨rfl,hb4⟩;have Ag:=Hh (Aj.out.trans (hb4.mono Aj.out.size));clear hb4 x0 x1;cases b2
       all_goals
        have hg:=BA.out;subst hg;go_wp2_with fail;go_meet
       case rel=>exact⟨rfl,Ag.out⟩
       case rel=>exact⟨rfl,Ag.out⟩
   case rest=>
    obtain⟨rfl,Aw⟩:=hcut;have AB:=Hh Aw;clear z0 z1 Aw;go_upto_if 47 with fail
    go_cut [4] (fun o wx=>∃S2:ByteArray,o=.string S2/\S2.size<=400000000/\Hid (T=S2.data.toList++(qJ (jX (D.map (·.2)) k) (dR d dt.toks) dt++ni (D.map (·.2)) ((D.map (·.2)).length-(k+1)) (k+1) (dD d dt.toks) (some (iK dt.toks))))/\wx=wc)
    case first=>
     cases gb with
     |false=>
      have Au:Hid (T=S.data.toList++(qJ (jX (D.map (·.2)) k) (dR d dt.toks) dt++ni (D.map (·.2)) ((D.map (·.2)).length-(k+1)) (k+1) (dD d dt.toks) (some (iK dt.toks)))):=Hh (by rw[Ak.out];unfold Bl;rw[if_neg (by rw[At.out];decide)];rfl);go_wp2_with fail;go_meet
      case rel=>exact⟨S,rfl,By,Au,rfl⟩
     |true=>
      have hq:T=S.data.toList++([10]++(qJ (jX (D.map (·.2)) k) (dR d dt.toks) dt++ni (D.map (·.2)) ((D.map (·.2)).length-(k+1)) (k+1) (dD d dt.toks) (some (iK dt.toks)))):=by rw[Ak.out];unfold Bl;rw[if_pos At.out]
      have Au:=Hh (kS ⟨#[10]⟩ hq rfl);have AH:=oI hq Al.out;simp only[List.length_singleton] at AH;have BC:Hid ((S++⟨#[10]⟩).size<=400000000):=Hh (by rw[ByteArray.size_append];exact AH);clear hq;go_wp2_with fail;go_meet
      case rel=>exact⟨_,rfl,BC.out,Au,rfl⟩
    case rest=>
     obtain⟨S2,rfl,AH,Au,rfl⟩:=hcut;have Bc:=Bo.out _ AB.out;obtain⟨x0,x1,xl⟩:=AC.out _ AB.out;obtain⟨n0,Ay⟩:=exq dt.toks.length;have Ac:=Hh Ay;rw[<-Ay] at x0 Bc;have i2:(k:Int)<(D.length:Int):=by omega
     clear Ay At Ak By;go_wp2_with fail;refine Bc.mono ?_;clear Bc;rintro _ w3 ⟨rfl,hb3⟩;have Aj:=Hh (AB.out.trans (hb3.mono AB.out.size));clear hb3 x0 x1;obtain⟨bc,Aw⟩:∃b,kZ dt.toks=b:=⟨_,rfl⟩;have AS:=Hh Aw;rw[Aw];clear Aw;go_upto_if 55 with fail
     go_cut [5] (fun dv wq=>dv=.int .i64 (dd:Int)/\wq=w3)
     case first=>
      have B2:(dd:Int)=if bc then d-1 else d:=by rw[<-AD.out,<-AS.out];unfold dR;rfl
      have Ce:IntKind.i64.wrap (d-1)=d-1:=IntWalk.i64_in _ (by omega);have Bp:=Hh B2;clear B2;cases bc
      all_goals
       go_wp2_with fail;go_meet
      case rel=>exact⟨by rw[Bp.out];rfl,rfl⟩
      case rel=>exact⟨by rw[Bp.out];rfl,rfl⟩
     case rest=>
      obtain⟨rfl,rfl⟩:=hcut
      have Ai:T=S2.data.toList++(kY (2*dd-2*0)++((if lw dt then aR dt++(kY (jX (D.map (·.2)) k+1-dG (aR dt))++(eP dt.toks dt.eq dt.toks.length++[10])) else eP dt.toks 0 dt.toks.length++[10])++ni (D.map (·.2)) ((D.map (·.2)).length-(k+1)) (k+1) (dD d dt.toks) (some (iK dt.toks)))):=by
       have q:=Au.out;unfold qJ at q;rw[AD.out,show (2*(dd:Int)).toNat=2*dd-2*0 by omega] at q;simp only[List.append_assoc] at q ⊢;exact q
      obtain⟨BD,Bb⟩:=exq ((if lw dt then aR dt++(kY (jX (D.map (·.2)) k+1-dG (aR dt))++(eP dt.toks dt.eq dt.toks.length++[10])) else eP dt.toks 0 dt.toks.length++[10]));rw[<-Bb] at Ai;obtain⟨RS,Bd⟩:=exq (ni (D.map (·.2)) ((D.map (·.2)).length-(k+1)) (k+1) (dD d dt.toks) (some (iK dt.toks)));rw[<-Bd] at Ai;have BG:=Hh Ai;have Bn:=Hh Bb;have Bv:=Hh Bd;have BH:=Hh Aj.out;clear Ai Bb Bd Au;go_wp2_with fail;go_loopw [4,7] (fun o kv wq=>∃(j:Nat) (S3:ByteArray),j<=dd/\kv=.int .i64 (j:Int)/\o=.string S3/\S3.size<=400000000/\Hid (T=S3.data.toList++(kY (2*dd-2*j)++(BD++RS)))/\Hid (Below w1.heap.size w1 wq)) (fun _ kv _=>dd-(intOf kv).toNat)
      case atStart=>exact⟨0,S2,Nat.zero_le _,rfl,rfl,AH,BG,BH⟩
      case round=>
       obtain⟨j,S3,hj,rfl,rfl,BW,AX,Ag⟩:=hrel
       by_cases hjd:j<dd
       ·have hq:=AX.out
        rw[Nz hjd,List.append_assoc] at hq;have AE:=Hh (kS ⟨#[32,32]⟩ hq rfl);have Be:=oI hq Al.out;simp only[List.length_cons,List.length_nil] at Be;have BE:Hid ((S3++⟨#[32,32]⟩).size<=400000000):=Hh (by rw[ByteArray.size_append];exact Be);clear hq;go_wp2_with fail;go_roundw
        case rel=>exact⟨j+1,_,hjd,by go_num,rfl,BE.out,AE,Ag⟩
        case measure=>simp[intOf]<;>omega
       ·obtain rfl:dd=j:=by omega
        have AE:Hid (T=S3.data.toList++(BD++RS)):=Hh (by have q:=AX.out;rw[Nat.sub_self] at q;exact q);clear AX;have hE:=B9.out _ Ag.out;obtain⟨x0,x1,xl⟩:=AC.out _ Ag.out;obtain⟨rv,A0⟩:=exq (sM (oG dt.toks));rw[<-A0] at hE;have Bw:=Hh A0;have AK:=Fw dt;rw[<-A0] at AK;obtain⟨BM,Am⟩:∃b,lw dt=b:=⟨_,rfl⟩;rw[Am] at AK;have AP:=Hh AK;have Ar:=Hh Am;have BV:=Hh (List.length_pos_iff.2 Aa.out.fine.ne);have BR:n0<=1000000:=by rw[Ac.out];exact BP
        rw[<-Ac.out] at x0 hE;clear A0 AK Am hj;go_wp2_with fail;refine hE.mono ?_;clear hE;rintro _ w4 ⟨rfl,hb4⟩;have As:=Hh (Ag.out.trans (hb4.mono Ag.out.size));clear hb4 x0 x1
        cases BM with
        |false=>
         have A0:¬(0:Int)<=rv:=by have:=AP.out;simpa using this
         have hP:=AV.out w4 0 dt.toks.length As.out (Nat.zero_le _) lz Aa.out.sz;rw[<-Ac.out] at hP;simp only[show ((0:Nat):Int)=0 from rfl] at hP;obtain⟨A,hA⟩:=exq (av (eP dt.toks 0 n0));rw[<-hA] at hP;have BO:A.size<=1000000:=by rw[hA,Ac.out];exact Aa.out.sz
         have HA:=Hh hA;have hq:T=S3.data.toList++(eP dt.toks 0 n0++([10]++RS)):=by rw[AE.out,Bn.out,if_neg (by rw[Ar.out];decide),Ac.out,List.append_assoc]
         have Ap:=kS A hq (by rw[hA];rfl);have AW:=Hh (kS ⟨#[10]⟩ Ap rfl);have AA:=oI hq Al.out;have Aq:=oI Ap Al.out;rw[ByteArray.size_append] at Aq;simp only[List.length_singleton] at Aq;have Ba:=Hh Aq;clear hA hq Ap AA;go_wp2_with fail;refine hP.mono ?_;clear hP;rintro _ w5 ⟨rfl,hb5⟩;have A3:=Hh (As.out.trans (hb5.mono As.out.size));clear hb5;go_upto_region 26 with fail
         have hO:=Bt.out _ (A3.out);rw[<-Ac.out] at hO;have A7:Hid (T=(S3++A++⟨#[10]⟩).data.toList++ni (D.map (·.2)) ((D.map (·.2)).length-(k+1)) (k+1) (dD d dt.toks) (some (iK dt.toks))/\(S3++A++⟨#[10]⟩).size<=400000000):=Hh ⟨by rw[<-Bv.out];exact AW.out,by rw[ByteArray.size_append,ByteArray.size_append];exact Ba.out⟩;have A4:=Hh (A3.out);go_wp2_with fail;refine hO.mono ?_;clear hO;rintro _ w9 ⟨rfl,hb9⟩;have AR:=Hh (A4.out.trans (hb9.mono A4.out.size));clear hb9;obtain⟨bo,An⟩:∃b,iK dt.toks=b:=⟨_,rfl⟩;have AT:=Hh An;rw[An];clear An;cases bo
         all_goals
          have Af:dD d dt.toks=(dd:Int)+(if iK dt.toks then 1 else 0):=by unfold dD;rw[AD.out];split<;>simp
          rw[AT.out] at Af;simp only[Bool.false_eq_true,if_false,if_true,Int.add_zero] at Af;have AU:=Hh Af;clear Af;have HN:Hid (O6 0 w1 w9 (D.map (·.2)) T (.slice (some ⟨g,0,none⟩) D.length lc) D (k+1) (dD d dt.toks) (S3++A++⟨#[10]⟩) (some (iK dt.toks))):=Hh ⟨AR.out,A7.out.1,A7.out.2,Bs.out,.inr ⟨by rw[List.length_map];omega,by omega,by have q:=Bq.out (by rw[List.length_map];exact hkl);simp only[Nat.add_sub_cancel,q]⟩⟩;rw[AU.out] at HN;go_wp2_with fail;go_roundw
         all_goals first
          |exact⟨k+1,_,_,_,hkl,by go_num,rfl,rfl,by omega,HN⟩
          |(simp[intOf]<;>omega)
        |true=>
         have A0:(0:Int)<=rv:=by have:=AP.out;simpa using this
         obtain⟨e0,Ax⟩:=exq dt.eq;have BS:=(mV Ar.out).2;rw[<-Ax,<-Ac.out] at BS;have BT:rv=(e0:Int):=by rw[Bw.out,Ax];exact Gw Ar.out
         have AO:=sV (row:=dt.toks) (fr:=0) (k:=e0) (en:=dt.toks.length) (by rw[<-Ac.out];omega);have hP:=AV.out w4 0 e0 As.out (Nat.zero_le _) (by rw[<-Ac.out];omega) (Nat.le_trans AO Aa.out.sz);have B5:eP dt.toks 0 e0=aR dt:=by rw[Ax];exact (FB Aa.out.fine Ar.out).symm
         rw[B5] at hP AO;rw[<-Ac.out] at hP;simp only[show ((0:Nat):Int)=0 from rfl] at hP;obtain⟨A,hA⟩:=exq (av (aR dt));rw[<-hA] at hP;have BO:A.size<=1000000:=by rw[hA];exact Nat.le_trans AO Aa.out.sz
         have A8:=fun W=>xH W A (by omega) (by rw[hA,bi];exact Aa.out.fine.tx Ar.out);obtain⟨cc,AL⟩:=exq (dG (aR dt));have BZ:cc<=1000000:=by rw[AL];have:=oH (aR dt);have:=Aa.out.sz;omega
         rw[show dG A.data.toList=cc by rw[hA,AL,bi]] at A8;obtain⟨WD,AJ⟩:=exq (jX (D.map (·.2)) k);have BX:WD<=1000000:=by rw[AJ];exact BJ.out
         have hq:T=S3.data.toList++(aR dt++(kY (WD+1-cc)++((eP dt.toks e0 n0++[10])++RS))):=by rw[AE.out,Bn.out,if_pos Ar.out,Ac.out,Ax,AL,AJ];simp only[List.append_assoc]
         have BB:=Hh (kS A hq (by rw[hA];rfl));have AA:=oI hq Al.out;have AA:S3.size+A.size<=400000000:=by rw[hA];exact AA
         have BL:Hid ((S3++A).size<=400000000):=Hh (by rw[ByteArray.size_append];exact AA);have BK:Hid (∀W,Below w1.heap.size w1 W->Calls Tryz.prog 78 #[.slice (some ⟨g,0,none⟩) D.length lc,.int .i64 (k:Nat)] W fun e w'=>e=.returned (.int .i64 (WD:Nat))/\Below W.heap.size W w'):=Hh (by rw[AJ];exact BI.out);have BU:=Hh Ax;have HA:=Hh hA;subst BT;clear hA hq AO B5 Ax AL AJ AP Bw;go_wp2_with fail;refine hP.mono ?_;clear hP;rintro _ w5 ⟨rfl,hb5⟩;have A3:=Hh (As.out.trans (hb5.mono As.out.size));clear hb5;have A8:=A8 w5;go_wp2_with fail;refine A8.mono ?_;clear A8;rintro _ w6 ⟨rfl,hb6⟩;have B6:=Hh (A3.out.trans (hb6.mono A3.out.size));clear hb6;go_wp2_with fail;go_loopw [4,11] (fun o kv wq=>∃(j:Nat) (S4:ByteArray),cc<=j/\j<=WD+cc+1/\kv=.int .i64 (j:Int)/\o=.string S4/\S4.size<=400000000/\Hid (T=S4.data.toList++(kY (WD+1-j)++((eP dt.toks e0 n0++[10])++RS)))/\Hid (Below w1.heap.size w1 wq)) (fun _ kv _=>WD+cc+1-(intOf kv).toNat)
         case atStart=>exact⟨cc,S3++A,Nat.le_refl _,by omega,rfl,rfl,BL.out,BB,B6⟩
         case round=>
          obtain⟨j,S4,Cb,Cc,rfl,rfl,Be,AY,AQ⟩:=hrel;have hW:=BK.out _ AQ.out;go_wp2_with fail;refine hW.mono ?_;clear hW;rintro _ w7 ⟨rfl,hb7⟩;have Ae:=Hh (AQ.out.trans (hb7.mono AQ.out.size));clear hb7
          by_cases hjw:j<=WD
          ·have hq:=AY.out
           rw[NA hjw,List.append_assoc] at hq;have AZ:=Hh (kS ⟨#[32]⟩ hq rfl);have Bx:=oI hq Al.out;simp only[List.length_singleton] at Bx;have BF:Hid ((S4++⟨#[32]⟩).size<=400000000):=Hh (by rw[ByteArray.size_append];exact Bx);clear hq;go_wp2_with fail;go_roundw
           case rel=>exact⟨j+1,_,by omega,by omega,by go_num,rfl,BF.out,AZ,Ae⟩
           case measure=>simp[intOf]<;>omega
          ·have AZ:Hid (T=S4.data.toList++(eP dt.toks e0 n0++([10]++RS))):=Hh (by
            have q:=AY.out;rw[show WD+1-j=0 by omega] at q;simp only[kY,List.replicate_zero,List.nil_append,List.append_assoc] at q ⊢
            exact q)
           have Bk:(eP dt.toks e0 n0).length<=1000000:=Iq (by omega) (by rw[Ac.out];exact Aa.out.sz);have hP:=AV.out w7 e0 dt.toks.length Ae.out (by rw[<-Ac.out];omega) lz (by rw[<-Ac.out];exact Bk);rw[<-Ac.out] at hP;obtain⟨A2,AG⟩:=exq (av (eP dt.toks e0 n0));rw[<-AG] at hP;have BN:A2.size<=1000000:=by rw[AG];exact Bk
           have Ap:=kS A2 AZ.out (by rw[AG];rfl);have AW:=Hh (kS ⟨#[10]⟩ Ap rfl);have Aq:=oI Ap Al.out;rw[ByteArray.size_append] at Aq;simp only[List.length_singleton] at Aq;have Ba:=Hh Aq;clear AG Ap Bk AY;go_wp2_with fail;refine hP.mono ?_;clear hP;rintro _ w8 ⟨rfl,hb8⟩;have A1:=Hh (Ae.out.trans (hb8.mono Ae.out.size));clear hb8;go_upto_region 26 with fail
           have hO:=Bt.out _ (A1.out);rw[<-Ac.out] at hO;have A7:Hid (T=(S4++A2++⟨#[10]⟩).data.toList++ni (D.map (·.2)) ((D.map (·.2)).length-(k+1)) (k+1) (dD d dt.toks) (some (iK dt.toks))/\(S4++A2++⟨#[10]⟩).size<=400000000):=Hh ⟨by rw[<-Bv.out];exact AW.out,by rw[ByteArray.size_append,ByteArray.size_append];exact Ba.out⟩;have A4:=Hh (A1.out);go_wp2_with fail;refine hO.mono ?_;clear hO;rintro _ w9 ⟨rfl,hb9⟩;have AR:=Hh (A4.out.trans (hb9.mono A4.out.size));clear hb9;obtain⟨bo,An⟩:∃b,iK dt.toks=b:=⟨_,rfl⟩;have AT:=Hh An;rw[An];clear An;cases bo
           all_goals
            have Af:dD d dt.toks=(dd:Int)+(if iK dt.toks then 1 else 0):=by unfold dD;rw[AD.out];split<;>simp
            rw[AT.out] at Af;simp only[Bool.false_eq_true,if_false,if_true,Int.add_zero] at Af;have AU:=Hh Af;clear Af;have HN:Hid (O6 0 w1 w9 (D.map (·.2)) T (.slice (some ⟨g,0,none⟩) D.length lc) D (k+1) (dD d dt.toks) (S4++A2++⟨#[10]⟩) (some (iK dt.toks))):=Hh ⟨AR.out,A7.out.1,A7.out.2,Bs.out,.inr ⟨by rw[List.length_map];omega,by omega,by have q:=Bq.out (by rw[List.length_map];exact hkl);simp only[Nat.add_sub_cancel,q]⟩⟩;rw[AU.out] at HN;go_wp2_with fail;go_roundw
           all_goals first
            |exact⟨k+1,_,_,_,hkl,by go_num,rfl,rfl,by omega,HN⟩
            |(simp[intOf]<;>omega)
  ·obtain rfl:k=D.length:=by omega
   have B8:Hid (S=av T):=Hh (ji (by
    have q:=HI.out.t;rw[List.length_map,Nat.sub_self,ni,List.append_nil] at q
    rw[bi,q]))
   have B7:=Hh (Bm.out.trans (Ah.out.mono Bm.out.size));clear HI;go_wp2_with fail;go_ret;exact⟨by rw[B8.out];rfl,B7.out⟩
end Go.Proofs.YtbcdaaobbebooaaGreatDoor
namespace Go.Proofs.YtbcdaaobbebooaaGreatDoor
structure fO where
 toks:List ag
 stop:Int
 last:Bool
def dW(size:Int):List ag->List ag->List fO
 |[],cur=>[⟨cur,size,true⟩]
 |t::r,cur=>if t.kind=6\/t.kind=7 then dW size r cur else if t.kind=5 then ⟨cur,t.pos,false⟩::dW size r [] else dW size r (cur++[t])
def rH(size:Int):List fO->List bP->List bP×Int×Int
 |[],st=>if 1<st.length then ([],size,2) else ((st.head?.getD bY).items,-1,0)
 |r::l,st=>if (bB st r.toks r.stop r.last).2.2≠0 then ([],(bB st r.toks r.stop r.last).2) else rH size l (bB st r.toks r.stop r.last).1
theorem qx(size:Int):∀(toks:List ag) (st:List bP) (row:List ag),bK size toks st row=rH size (dW size toks row) st
 | [],st,row=>by
  simp only[bK,dW,rH]
 | t::r,st,row=>by
  rw[bK,dW]
  by_cases h6:t.kind=6\/t.kind=7
  ·rw[if_pos h6,if_pos h6];exact qx size r st row
  ·rw[if_neg h6,if_neg h6]
   by_cases h5:t.kind=5
   ·rw[if_pos h5,if_pos h5,rH]
    simp only[qx size r]
   ·rw[if_neg h5,if_neg h5];exact qx size r st (row++[t])
structure FJ where
 l:List bP
 n:Nat
 at_:Int
 e:Int
def bG(size:Int):Nat->List fO->Nat->List bP->Nat->FJ
 |0,_,_,_,_=>⟨[],0,0,-1⟩
 |_+1,[],d,out,n=>if 0<d then ⟨[],0,size,2⟩ else ⟨out,n,0,0⟩
 | f+1,r::l,d,out,n=>match bn (d+1) r.toks r.stop r.last with
  |.wrong a e=>⟨[],0,a,e⟩
  |.empty=>bG size f l d out (n+1)
  |.attr x=>bG size f l d (out++[x]) (n+1)
  |.bare x=>bG size f l d (out++[x]) (n+1)
  |.fin=>⟨out,n+1,0,0⟩
  |.begins x=>
   let g:=bG size f l (d+1) [] 0
   if g.e≠0 then ⟨[],0,g.at_,g.e⟩ else bG size f (l.drop g.n) d (out++[.mk x.block x.name x.value x.labels g.l]) (n+(g.n+1))
def bP.addAll:bP->List bP->bP
 |.mk b n v l i,o=>.mk b n v l (i++o)
theorem yI(t:bP):t.addAll []=t:=by cases t;simp[bP.addAll]
theorem si(t x:bP)(o:List bP):(t.addAll o).add x=t.addAll (o++[x]):=by cases t;simp[bP.addAll,bP.add]
theorem Jl(x:bP)(l:List bP)(h:x.items=[]):x.addAll l=.mk x.block x.name x.value x.labels l:=by cases x;simp only[bP.items] at h;subst h;rfl
theorem Bv{n:Nat}{row:List ag}{stop:Int}{last:Bool}{x:bP}(h:bn n row stop last=.begins x):x.items=[]:=by
 unfold bn at h
 cases row with
 |nil=>cases h
 |cons t r=>
  simp only at h;split at h
  ·split at h
   ·unfold eU at h;simp only[List.getElem?_cons_zero] at h;cases h
   ·split at h
    ·unfold eU at h;split at h;(· cases h);split at h<;>cases h
    ·cases h
  ·split at h
   ·unfold eU at h;simp only[List.getElem?_cons_zero] at h;cases h
   ·split at h
    ·unfold j3 eU at h
     repeat' split at h
     all_goals cases h
    ·unfold gL eU at h
     simp only at h;repeat' split at h
     all_goals first|(cases h;done)|(cases h;rfl)
theorem sI{size:Int}{r:fO}{l:List fO}{st:List bP}{k:oW}(h:bn st.length r.toks r.stop r.last=k)(h0:(fQ st k).2.2=0):rH size (r::l) st=rH size l (fQ st k).1:=by
 rw[rH,jO,h,if_neg (fun q=>q h0)]
theorem JW{size:Int}{r:fO}{l:List fO}{st:List bP}{a e:Int}(h:bn st.length r.toks r.stop r.last=.wrong a e)(h0:e≠0):rH size (r::l) st=([],a,e):=by
 rw[rH,jO,h,if_pos (by exact h0)];rfl
theorem mR(size:Int)(f:Nat)(r:fO)(l:List fO)(d:Nat)(out:List bP)(n:Nat):bG size (f+1) (r::l) d out n=(match bn (d+1) r.toks r.stop r.last with
  |.wrong a e=>⟨[],0,a,e⟩
  |.empty=>bG size f l d out (n+1)
  |.attr x=>bG size f l d (out++[x]) (n+1)
  |.bare x=>bG size f l d (out++[x]) (n+1)
  |.fin=>⟨out,n+1,0,0⟩
  |.begins x=>if (bG size f l (d+1) [] 0).e≠0 then ⟨[],0,(bG size f l (d+1) [] 0).at_,(bG size f l (d+1) [] 0).e⟩ else bG size f (l.drop (bG size f l (d+1) [] 0).n) d (out++[.mk x.block x.name x.value x.labels (bG size f l (d+1) [] 0).l]) (n+((bG size f l (d+1) [] 0).n+1))):=by rw[bG]
theorem jv(size:Int):∀(f:Nat) (l:List fO) (d:Nat) (out:List bP) (n:Nat) (st:List bP) (top:bP),l.length<f->st.length=d->
  ((bG size f l d out n).e≠0->rH size l (st++[top.addAll out])=([],(bG size f l d out n).at_,(bG size f l d out n).e))/\
  ((bG size f l d out n).e=0->n<=(bG size f l d out n).n/\(bG size f l d out n).n<=n+l.length/\
   (0<d->rH size l (st++[top.addAll out])=rH size (l.drop ((bG size f l d out n).n-n)) (iQ st (top.addAll (bG size f l d out n).l)))/\
   (d=0->rH size l (st++[top.addAll out])=((top.addAll (bG size f l d out n).l).items,-1,0)))
 |0,l,d,out,n,st,top,hf,_=>by omega
 | f+1,[],d,out,n,st,top,hf,hs=>by
  rw[bG]
  by_cases hd:0<d
  ·rw[if_pos hd]
   refine⟨fun _=>?_,fun h=>by cases h⟩;rw[rH,if_pos (by simp;omega)]
  ·obtain rfl:d=0:=by omega
   obtain rfl:=List.eq_nil_of_length_eq_zero hs;rw[if_neg hd];refine⟨fun h=>absurd rfl h,fun _=>⟨Nat.le_refl _,by simp,fun h=>absurd h hd,fun _=>?_⟩⟩;simp[rH]
 | f+1,r::l,d,out,n,st,top,hf,hs=>by
  simp only[List.length_cons] at hf;have hlen:(st++[top.addAll out]).length=d+1:=by simp[hs]
  rw[mR]
  cases hk:bn (d+1) r.toks r.stop r.last with
  |wrong a e=>
   have he:e≠0:=by
    rcases wo (d+1) r.toks r.stop r.last with ⟨a2,e2,h1,h2⟩|h
    ·rw[hk] at h2;cases h2;exact h1
    ·rw[hk] at h
     revert h
     generalize r.toks=p;intro h;cases h
   rw[JW (by rw[hlen];exact hk) he];exact⟨fun _=>rfl,fun h=>absurd h he⟩
  |empty=>
   rw[sI (k:=oW.empty) (by rw[hlen];exact hk) rfl];simp only[fQ];obtain⟨h1,h2⟩:=jv size f l d out (n+1) st top (by omega) hs;refine⟨h1,fun h=>?_⟩;obtain⟨q1,q2,q3,q4⟩:=h2 h;refine⟨by omega,by simp only[List.length_cons];omega,fun hd=>?_,q4⟩;rw[q3 hd];obtain⟨m,hm⟩:∃m,(bG size f l d out (n+1)).n=n+1+m:=⟨_,(Nat.add_sub_cancel' q1).symm⟩;rw[hm,show n+1+m-(n+1)=m by omega,show n+1+m-n=m+1 by omega,List.drop_succ_cons]
  |attr x=>
   rw[sI (k:=(oW.attr x)) (by rw[hlen];exact hk) rfl];simp only[fQ];rw[jG,si];obtain⟨h1,h2⟩:=jv size f l d (out++[x]) (n+1) st top (by omega) hs;refine⟨h1,fun h=>?_⟩;obtain⟨q1,q2,q3,q4⟩:=h2 h;refine⟨by omega,by simp only[List.length_cons];omega,fun hd=>?_,q4⟩;rw[q3 hd];obtain⟨m,hm⟩:∃m,(bG size f l d (out++[x]) (n+1)).n=n+1+m:=⟨_,(Nat.add_sub_cancel' q1).symm⟩;rw[hm,show n+1+m-(n+1)=m by omega,show n+1+m-n=m+1 by omega,List.drop_succ_cons]
  |bare x=>
   rw[sI (k:=(oW.bare x)) (by rw[hlen];exact hk) rfl];simp only[fQ];rw[jG,si];obtain⟨h1,h2⟩:=jv size f l d (out++[x]) (n+1) st top (by omega) hs;refine⟨h1,fun h=>?_⟩;obtain⟨q1,q2,q3,q4⟩:=h2 h;refine⟨by omega,by simp only[List.length_cons];omega,fun hd=>?_,q4⟩;rw[q3 hd];obtain⟨m,hm⟩:∃m,(bG size f l d (out++[x]) (n+1)).n=n+1+m:=⟨_,(Nat.add_sub_cancel' q1).symm⟩;rw[hm,show n+1+m-(n+1)=m by omega,show n+1+m-n=m+1 by omega,List.drop_succ_cons]
  |fin=>
   have hd:d≠0:=by have:=qz hk;omega
   rw[sI (k:=oW.fin) (by rw[hlen];exact hk) rfl];simp only[fQ];refine⟨fun h=>absurd rfl h,fun _=>⟨by omega,by simp only[List.length_cons];omega,fun _=>?_,fun h=>absurd h hd⟩⟩;rw[show n+1-n=0+1 by omega,List.drop_succ_cons,List.drop_zero];simp
  |begins x=>
   rw[sI (k:=(oW.begins x)) (by rw[hlen];exact hk) rfl];simp only[fQ];have hx:=Bv hk;obtain⟨h1,h2⟩:=jv size f l (d+1) [] 0 (st++[top.addAll out]) x (by omega) hlen;rw[yI] at h1 h2;generalize hg:bG size f l (d+1) [] 0=g at *
   by_cases he:g.e=0
   ·rw[if_neg (fun q=>q he)]
    obtain⟨q1,q2,q3,-⟩:=h2 he;rw[q3 (by omega),jG,Nat.sub_zero,Jl x g.l hx,si];obtain⟨h3,h4⟩:=jv size f (l.drop g.n) d (out++[.mk x.block x.name x.value x.labels g.l]) (n+(g.n+1)) st top (by rw[List.length_drop];omega) hs;refine⟨h3,fun h=>?_⟩;obtain⟨p1,p2,p3,p4⟩:=h4 h;rw[List.length_drop] at p2;refine⟨by omega,by simp only[List.length_cons];omega,fun hd=>?_,p4⟩;rw[p3 hd];obtain⟨m,hm⟩:∃m,(bG size f (l.drop g.n) d (out++[.mk x.block x.name x.value x.labels g.l]) (n+(g.n+1))).n=n+(g.n+1)+m:=⟨_,(Nat.add_sub_cancel' p1).symm⟩;rw[hm,show n+(g.n+1)+m-(n+(g.n+1))=m by omega,show n+(g.n+1)+m-n=g.n+m+1 by omega,List.drop_succ_cons,List.drop_drop]
   ·rw[if_pos he]
    exact⟨fun _=>h1 he,fun h=>absurd h he⟩
theorem Bc(size:Int)(toks:List ag):bK size toks [bY] [] =
  (if (bG size ((dW size toks []).length+1) (dW size toks []) 0 [] 0).e≠0 then ([],(bG size ((dW size toks []).length+1) (dW size toks []) 0 [] 0).at_,(bG size ((dW size toks []).length+1) (dW size toks []) 0 [] 0).e)
   else ((bG size ((dW size toks []).length+1) (dW size toks []) 0 [] 0).l,-1,0)):=by
 rw[qx];obtain⟨h1,h2⟩:=jv size ((dW size toks []).length+1) (dW size toks []) 0 [] 0 [] bY (by omega) rfl;rw[yI,List.nil_append] at h1 h2;generalize bG size ((dW size toks []).length+1) (dW size toks []) 0 [] 0=g at *
 by_cases he:g.e=0
 ·rw[if_neg (fun q=>q he),(h2 he).2.2.2 rfl]
  rfl
 ·rw[if_pos he,h1 he]
end Go.Proofs.YtbcdaaobbebooaaGreatDoor
namespace Go.Proofs.YtbcdaaobbebooaaGreatDoor
open Go.RowKit Go.Tab
def Ba(d:eB×fO):List Value:=[bQ d.1,.int .i64 d.2.stop,.bool d.2.last]
theorem Tryz.infoLn:(Tryz.prog.info? 137).map (fun i=>(i.zero,i.size,i.bytes))=some (some (.agg #[.slice none 0 0,.int .i64 0,.bool false]),3,40):=by kernel_rfl
def DZ(B:Nat)(w:World)(v:Value)(R:List fO):Prop:=
 ∃D:List (eB×fO),D.map (·.2)=R/\w.ownsRow B 137 3 v D.length (D.flatMap Ba)/\∀d∈D,aI B w (bQ d.1) d.2.toks
theorem DZ.below{B:Nat}{w w':World}{v:Value}{R:List fO}(h:DZ B w v R)(hb:Below w.heap.size w w'):DZ B w' v R:=by
 obtain⟨D,h1,h2,h3⟩:=h;exact⟨D,h1,bJ h2 (fun k e=>hb.block k (World.ownsRow.lt h2 k e).2),fun d hd=>(h3 d hd).below hb lz⟩
theorem DZ.len{B:Nat}{w:World}{v:Value}{R:List fO}(h:DZ B w v R):∃a cap,v=.slice a R.length cap/\R.length<=cap/\cap<=maxLen:=by
 obtain⟨D,rfl,Aa,-⟩:=h;obtain⟨h1,h2⟩:=Aa;rcases h2 with ⟨rfl,h3⟩|⟨g,cap,cur,rfl,hb,hg,h3,h4,-⟩
 ·rw[List.length_map,h3];exact⟨none,0,rfl,Nat.le_refl _,Nat.zero_le _⟩
 ·rw[List.length_map];exact⟨_,cap,rfl,h3,h4⟩
theorem Dr:∀(D:List (eB×fO)) (j:Nat) (h:j<D.length),(D.flatMap Ba)[j*3]?=some (bQ D[j].1)/\(D.flatMap Ba)[j*3+1]?=some (.int .i64 D[j].2.stop)/\(D.flatMap Ba)[j*3+2]?=some (.bool D[j].2.last)
 |p::l,0,_=>by simp[Ba]
 | p::l,j+1,h=>by
  have ih:=Dr l j (by simpa using h);have e1:(j+1)*3=j*3+3:=by omega
  rw[e1]
  simpa [Ba] using ih
theorem DZ.get{B:Nat}{w:World}{a:Option Addr}{n c:Nat}{R:List fO}(h:DZ B w (.slice a n c) R){j:Nat}(hj:j<R.length) :
  ∃b,∃s:eB,a=some ⟨b,0,none⟩/\b<w.heap.size/\aI B w (bQ s) R[j].toks/\w.cell? ⟨b,j*3,none⟩=some (bQ s)/\w.cell? ⟨b,j*3+1,none⟩=some (.int .i64 R[j].stop)/\w.cell? ⟨b,j*3+2,none⟩=some (.bool R[j].last):=by
 obtain⟨D,rfl,Aa,hD⟩:=h;rw[List.length_map] at hj;have Ab:=World.ownsRow.lt Aa;obtain⟨h1,h2⟩:=Aa;rcases h2 with ⟨h2,h3⟩|⟨g,cap,cur,h2,hb,hg,h3,h4,h5,h6⟩
 ·omega
 ·cases h2
  obtain⟨f1,f2,f3⟩:=Dr D j hj;rw[<-h6,List.getElem?_take,if_pos (by omega)] at f1 f2 f3;rw[List.getElem_map];refine⟨g,D[j].1,rfl,(Ab g rfl).2,hD D[j] (List.getElem_mem hj),?_,?_,?_⟩
  all_goals rw[cell_of_row w g _ cur 137 (0,0) hg]
  ·simpa using f1
  ·simpa using f2
  ·simpa using f3
theorem AV{base n sz:Nat}{E:TypeId}{w:World}{v:Value}{xs:List Value}(h:w.ownsRow base E sz v n xs):∃a c,v=.slice a n c:=by
 rcases h.2 with ⟨rfl,rfl⟩|⟨g,cap,cur,rfl,-⟩
 ·exact⟨none,0,rfl⟩
 ·exact⟨_,_,rfl⟩
structure FI(B:Nat)(w:World)(lv:Value)(D:List (eB×fO))(nv:eB)(cur:List ag):Prop where
 own:w.ownsRow B 137 3 lv D.length (D.flatMap Ba)
 tk:aI B w (bQ nv) cur
 fin:∀d∈D,aI B w (bQ d.1) d.2.toks/\∀k,(bQ d.1).ownBlock=some k->(bQ nv).ownBlock≠some k
section
variable {B:Nat} {w w':World} {lv v':Value} {D:List (eB×fO)} {nv:eB} {cur:List ag}
theorem FI.below(h:FI B w lv D nv cur)(hb:Below w.heap.size w w'):FI B w' lv D nv cur:=
 ⟨bJ h.own (fun k e=>hb.block k (World.ownsRow.lt h.own k e).2),h.tk.below hb lz,fun d hd=>⟨(h.fin d hd).1.below hb lz,(h.fin d hd).2⟩⟩
theorem FI.push(h:FI B w lv D nv cur){st:Int}{la:Bool}(hg:w.grownBy w' lv.ownBlock)(hown:w'.ownsRow B 137 3 v' (D.length+1) (D.flatMap Ba++Ba (nv,⟨cur,st,la⟩))) :
  FI B w' v' (D++[(nv,⟨cur,st,la⟩)]) (none,0,0) []:=by
 have hT:∀v l,aI B w v l->aI B w' v l:=fun v l hv=>hv.moved fun k e=>hg.block k (World.ownsRow.lt hv k e).2 (fun q=>jR hv h.own (by decide) k e q.symm);refine⟨?_,aI.nil,fun d hd=>?_⟩
 ·have e:(D++[(nv,(⟨cur,st,la⟩:fO))]).flatMap Ba=D.flatMap Ba++Ba (nv,⟨cur,st,la⟩):=by simp
  rw[e,List.length_append,List.length_singleton];exact hown
 ·rcases List.mem_append.1 hd with hd|hd
  ·exact⟨hT _ _ (h.fin d hd).1,fun k _ e=>by cases e⟩
  ·rw[List.mem_singleton.1 hd]
   exact⟨hT _ _ h.tk,fun k _ e=>by cases e⟩
theorem FI.tok(h:FI B w lv D nv cur){t:ag}{gb cap:Nat}(hg:w.grownBy w' (bQ nv).ownBlock)(hown:aI B w' (.slice (some ⟨gb,0,none⟩) (cur.length+1) cap) (cur++[t]))(hat:(bQ nv).ownBlock=some gb\/w.heap.size<=gb) :
  FI B w' lv D (some ⟨gb,0,none⟩,cur.length+1,cap) (cur++[t]):=by
 refine⟨bJ h.own (fun k e=>hg.block k (World.ownsRow.lt h.own k e).2 (fun q=>jR h.tk h.own (by decide) k q.symm e)),hown,fun d hd=>?_⟩;obtain⟨f1,f2⟩:=h.fin d hd;refine⟨f1.moved fun k e=>hg.block k (World.ownsRow.lt f1 k e).2 (fun q=>f2 k e q.symm),fun k e q=>?_⟩;have q:gb=k:=by simpa [bQ,Value.ownBlock] using q
 subst q;rcases hat with hat|hat
 ·exact f2 _ e hat
 ·have:=(World.ownsRow.lt f1 _ e).2;omega
theorem FI.done(h:FI B w lv D nv cur):DZ B w lv (D.map (·.2)):=⟨D,rfl,h.own,fun d hd=>(h.fin d hd).1⟩
end
theorem nG{w:World}{ops:Array Oper}{rest:List Oper}{p:Oper}{a:Act}{Q:Exit->Act->World->Prop}(hgd:p.guard=none)(s x:Operand)
  (hop:p.op=.call { callee:=.builtin .append,args:=#[s,x],argTypes:=#[90,90] }) (B:Nat) (lv:Value) (D:List (eB×fO)) (d:eB×fO) (hs:a.eval s=lv)
  (hown:w.ownsRow B 137 3 lv D.length (D.flatMap Ba)) (g:Nat) (hx:a.eval x=.slice (some ⟨g,0,none⟩) 1 1) (hc:aa w g #[bQ d.1,.int .i64 d.2.stop,.bool d.2.last] 137)
  (hD:D.length<=1000000) (hbase:B<=w.heap.size)
  (hK:∀g2 c2 w',w'.ownsRow B 137 3 (.slice (some ⟨g2,0,none⟩) (D.length+1) c2) (D.length+1) (D.flatMap Ba++Ba d)->w.grownBy w' lv.ownBlock->
   wpList Tryz.prog ops Q rest (a.put p.dst (.slice (some ⟨g2,0,none⟩) (D.length+1) c2)) w'):wpList Tryz.prog ops Q (p::rest) a w:=by
 obtain⟨i,Aa,Ab,Ac,Ad⟩:=info_parts Tryz.infoLn;refine wpList_append_lies w hgd s x 90 hop B 137 i _ 3 40 Tryz.underlying90 Aa Ab Ac Ad rfl (by decide) lv D.length (D.flatMap Ba) hs hown ⟨g,0,none⟩ 1 1 (Ba d) hx rfl ?_ ?_ (by omega) (by unfold maxLen;omega) (by omega) hbase _ rfl (fun g2 c2 w' h1 h2 _ _=>hK g2 c2 w' h1 h2)
 ·intro j u hu
  rw[Addr.add_lit,Nat.zero_add];exact hc.cell _ _ (by simpa [Ba] using hu)
 ·intro u hu
  simp only[Ba,List.mem_cons,List.not_mem_nil,or_false] at hu;rcases hu with rfl|rfl|rfl<;>rfl
theorem Ey(w:World)(tv:Value)(toks:List ag)(size:Int)(h:aH w tv toks)(hk7:∀t∈toks,t.kind<5\/t.kind=5\/t.kind=6\/t.kind=7)(hn:toks.length<=1000000) :
  Calls Tryz.prog 53 #[tv,.int .i64 size] w fun e w'=>∃v,e=.returned v/\DZ w.heap.size w' v (dW size toks [])/\Below w.heap.size w w':=by
 obtain⟨a,cp,rfl,An,Aj,-⟩:=h.len;unfold maxLen at Aj;have HT:=Hh h;obtain⟨R,hR⟩:=exq (dW size toks []);rw[<-hR];have HR:=Hh hR;clear h hR;go_enter Tryz.func53,Tryz.ntmps53;go_wp2_with fail;go_loopw [5,6,7] (fun lv nv i wr=>∃(k:Nat) (D:List (eB×fO)) (s:eB) (cur:List ag),k<=toks.length/\i=.int .i64 (k:Int)/\nv=bQ s/\Hid (FI w.heap.size wr lv D s cur/\R=D.map (·.2)++dW size (toks.drop k) cur/\D.length<=k/\cur.length<=k/\Below w.heap.size w wr)) (fun _ _ i _=>toks.length-(intOf i).toNat)
 case atStart=>exact⟨0,[],(none,0,0),[],Nat.zero_le _,rfl,rfl,Hh ⟨⟨World.ownsRow_nil _ _ _ _,aI.nil,fun d hd=>by cases hd⟩,by rw[HR.out];rfl,Nat.le_refl _,Nat.le_refl _,Below.refl _ _⟩⟩
 case round=>
  obtain⟨k,D,s,cur,hk,rfl,rfl,HS⟩:=hrel;obtain⟨na,nn,nc⟩:=s;obtain⟨a',c',e'⟩:=HS.out.1.tk.len;simp only[bQ,Value.slice.injEq] at e';obtain⟨rfl,rfl,rfl⟩:=e';obtain⟨la,lc,rfl⟩:=AV HS.out.1.own;simp only[bQ];have Ap:=HS.out.2.2.2.2.size
  by_cases hkl:k<toks.length
  ·obtain⟨b,Ai,rfl,Ao,c0,c1,c2⟩:=(HT.out.below HS.out.2.2.2.2 lz).get hkl
   have Ah:b<w.heap.size:=by
    obtain⟨b2,Ak,e2,h2,-⟩:=HT.out.get hkl;cases e2;exact h2
   have Ae:=HS.out.2.1;rw[List.drop_eq_getElem_cons hkl] at Ae;have Af:=hk7 _ (List.getElem_mem hkl);generalize toks[k]=t at *;obtain⟨kd,tx,ps⟩:=t;simp only at c0 c1 c2 Af;rw[dW] at Ae;have Ac:=Hh Ae;clear Ae
   by_cases h5:kd=5
   ·subst h5
    have Ad:Hid (R=D.map (·.2)++⟨cur,ps,false⟩::dW size (toks.drop (k+1)) []):=Hh (by rw[Ac.out,if_neg (by simp),if_pos rfl]);clear Ac Af;go_wp2_with (with_reducible first|refine aA ?_)
    refine Stop.out ?_;have hA:=(Below.refl _ wr).alloc lz (.cells #[.slice na cur.length nc,.int .i64 ps,.bool false] 137);refine nG rfl _ _ rfl w.heap.size (.slice la D.length lc) D ((na,cur.length,nc),⟨cur,ps,false⟩) rfl (by exact (HS.out.1.below hA).own) wr.heap.size rfl (aa.new wr _ _) (by have:=HS.out.2.2.1;omega) (by simp;omega) ?_;intro g3 c3 w3 hown3 hg3;have Ab:=(HS.out.1.below hA).push hg3 hown3;have Aa:=(HS.out.2.2.2.2.alloc HS.out.2.2.2.2.size (.cells #[.slice na cur.length nc,.int .i64 ps,.bool false] 137)).grown hg3 (by simp;omega) (fun k e=>(World.ownsRow.lt HS.out.1.own k e).1);have Al:=(Aa.cell (p:=⟨b,Ai+k*3,none⟩) Ah).trans ((HS.out.2.2.2.2.cell (p:=⟨b,Ai+k*3,none⟩) Ah).symm.trans c0);have HN:Hid (FI w.heap.size w3 (.slice (some ⟨g3,0,none⟩) (D.length+1) c3) (D++[((na,cur.length,nc),⟨cur,ps,false⟩)]) (none,0,0) []/\R=(D++[((na,cur.length,nc),(⟨cur,ps,false⟩:fO))]).map (·.2)++dW size (toks.drop (k+1)) []/\(D++[((na,cur.length,nc),(⟨cur,ps,false⟩:fO))]).length<=k+1/\([]:List ag).length<=k+1/\Below w.heap.size w w3):=Hh ⟨Ab,by rw[Ad.out];simp,by simp;have:=HS.out.2.2.1;omega,Nat.zero_le _,Aa⟩;have Am:=Aa.size;clear Ab Aa hown3 hg3 hA c0 c1 c2;have Ag:b<w3.heap.size:=by omega
    go_wp2_with fail;go_roundw
    case rel=>exact⟨k+1,_,_,_,hkl,by go_num,rfl,HN⟩
    case measure=>simp[intOf];omega
   ·have e5:(kd==5)=false:=by simpa using h5
    by_cases h6:kd=6\/kd=7
    ·have e6:decide (kd<5)=false:=by rw[decide_eq_false_iff_not];omega
     have HN:Hid (FI w.heap.size wr (.slice la D.length lc) D (na,cur.length,nc) cur/\R=D.map (·.2)++dW size (toks.drop (k+1)) cur/\D.length<=k+1/\cur.length<=k+1/\Below w.heap.size w wr):=Hh ⟨HS.out.1,by rw[Ac.out,if_pos h6],by have:=HS.out.2.2.1;omega,by have:=HS.out.2.2.2.1;omega,HS.out.2.2.2.2⟩;clear h5 h6 Af HS Ac;go_wp2_with fail;go_roundw
     case rel=>exact⟨k+1,_,_,_,hkl,by go_num,rfl,HN⟩
     case measure=>simp[intOf];omega
    ·have e6:decide (kd<5)=true:=by rw[decide_eq_true_iff];omega
     have Ad:Hid (R=D.map (·.2)++dW size (toks.drop (k+1)) (cur++[⟨kd,tx,ps⟩])):=Hh (by rw[Ac.out,if_neg h6,if_neg h5]);clear h5 h6 Af Ac;go_wp2_with (with_reducible first|refine aA ?_)
     refine Stop.out ?_;have hA:=(Below.refl _ wr).alloc lz (.cells #[.int .i64 kd,.string tx,.int .i64 ps] 63);refine gB rfl _ _ rfl w.heap.size cur ⟨kd,tx,ps⟩ (by exact (HS.out.1.below hA).tk) wr.heap.size rfl (aa.new wr _ _) (by have:=HS.out.2.2.2.1;omega) (by simp;omega) _ rfl ?_;intro g3 c3 w3 hown3 hg3 hat3 Ag;have Ab:=(HS.out.1.below hA).tok hg3 hown3 (hat3.imp id (fun q=>Nat.le_of_eq q.symm));have Aa:=(HS.out.2.2.2.2.alloc HS.out.2.2.2.2.size (.cells #[.int .i64 kd,.string tx,.int .i64 ps] 63)).grown hg3 (by simp;omega) (fun k e=>(World.ownsRow.lt HS.out.1.tk k e).1);have HN:Hid (FI w.heap.size w3 (.slice la D.length lc) D (some ⟨g3,0,none⟩,cur.length+1,c3) (cur++[⟨kd,tx,ps⟩])/\R=D.map (·.2)++dW size (toks.drop (k+1)) (cur++[⟨kd,tx,ps⟩])/\D.length<=k+1/\(cur++[(⟨kd,tx,ps⟩:ag)]).length<=k+1/\Below w.heap.size w w3):=Hh ⟨Ab,Ad.out,by have:=HS.out.2.2.1;omega,by simp;have:=HS.out.2.2.2.1;omega,Aa⟩;clear Ab Aa hown3 hg3 hA c0 c1 c2;go_wp2_with fail;go_roundw
     case rel=>exact⟨k+1,_,_,_,hkl,by go_num,rfl,HN⟩
     case measure=>simp[intOf];omega
  ·obtain rfl:k=toks.length:=by omega
   have Ad:Hid (R=D.map (·.2)++[⟨cur,size,true⟩]):=Hh (by rw[HS.out.2.1,List.drop_length];rfl);go_wp2_with (with_reducible first|refine aA ?_)
   refine Stop.out ?_;have hA:=(Below.refl _ wr).alloc lz (.cells #[.slice na cur.length nc,.int .i64 size,.bool true] 137);refine nG rfl _ _ rfl w.heap.size (.slice la D.length lc) D ((na,cur.length,nc),⟨cur,size,true⟩) rfl (by exact (HS.out.1.below hA).own) wr.heap.size rfl (aa.new wr _ _) (by have:=HS.out.2.2.1;omega) (by simp;omega) ?_;intro g3 c3 w3 hown3 hg3;have Ab:=(HS.out.1.below hA).push hg3 hown3;have Aa:=(HS.out.2.2.2.2.alloc HS.out.2.2.2.2.size (.cells #[.slice na cur.length nc,.int .i64 size,.bool true] 137)).grown hg3 (by simp;omega) (fun k e=>(World.ownsRow.lt HS.out.1.own k e).1);have HN:Hid (DZ w.heap.size w3 (.slice (some ⟨g3,0,none⟩) (D.length+1) c3) R/\Below w.heap.size w w3):=Hh ⟨by rw[Ad.out];have q:=Ab.done;rw[List.map_append] at q;exact q,Aa⟩;clear Ab Aa hown3 hg3 hA;go_wp2_with fail;go_ret;exact⟨_,rfl,HN.out⟩
abbrev aT(o t:ByteArray)(kv:Value)(a e:Int):Array Value:=#[.string o,.string t,kv,.int .i64 a,.int .i64 e]
abbrev nz:Array Value:=#[.string ⟨#[]⟩,.string ⟨#[]⟩,.slice none 0 0,.int .i64 0,.int .i64 0]
structure Ls(w:World)(lv:Value)(l:List ag):Prop where
 toks:aH w lv l
 few:l.length<=1000
 short:∀t∈l,t.text.size<=1048576
 quo:∀t∈l,t.kind=3->jP t.text≠none
theorem Ls.below{w w':World}{lv:Value}{l:List ag}(h:Ls w lv l)(hb:Below w.heap.size w w'):Ls w' lv l:=⟨h.toks.below hb lz,h.few,h.short,h.quo⟩
theorem Ls.sl{w:World}{lv:Value}{l:List ag}(h:Ls w lv l):∃a c,lv=.slice a l.length c/\l.length<=c/\c<=maxLen:=by
 obtain⟨a,c,rfl,h1,h2,-⟩:=h.toks.len;exact⟨a,c,rfl,h1,h2⟩
def GP(k:Nat)(r:fw)(w:World)(e:Ending)(w':World):Prop:=
 Below w.heap.size w w'/\∃o t a n c,e=.returned (.agg (aT o t (.slice a n c) ((k+r.2.1:Nat):Int) r.2.2))/\(r.2.2=0->ae (fun b=>w.heap.size<=b) w' r.1 (dQ o t (.slice a n c)))
def CC(m:Nat):Prop:=∀(w:World) (lv:Value) (l:List ag) (k d:Nat),Ls w lv l->k<=l.length->d<=64->(aj m .choice (l.drop k) d).2.2≠-1->
 Calls Tryz.prog 164 #[lv,.int .i64 (k:Nat),.int .i64 (d:Nat)] w (GP k (aj m .choice (l.drop k) d) w)
def TC(m:Nat):Prop:=∀(w:World) (lv:Value) (l:List ag) (k d n:Nat),Ls w lv l->k<=l.length->d<=64->1<=n->n<=7->(aj m (.term n) (l.drop k) d).2.2≠-1->
 Calls Tryz.prog 193 #[lv,.int .i64 (k:Nat),.int .i64 (d:Nat),.int .i64 (n:Nat)] w (GP k (aj m (.term n) (l.drop k) d) w)
def XC(m:Nat):Prop:=∀(w:World) (lv:Value) (l:List ag) (k d:Nat),Ls w lv l->k<=l.length->d<=64->(aj m .tight (l.drop k) d).2.2≠-1->
 Calls Tryz.prog 222 #[lv,.int .i64 (k:Nat),.int .i64 (d:Nat)] w (GP k (aj m .tight (l.drop k) d) w)
def PC(m:Nat):Prop:=∀(w:World) (lv:Value) (l:List ag) (k d:Nat),Ls w lv l->k<=l.length->d<=64->(aj m .post (l.drop k) d).2.2≠-1->
 Calls Tryz.prog 234 #[lv,.int .i64 (k:Nat),.int .i64 (d:Nat)] w (GP k (aj m .post (l.drop k) d) w)
def QC(m:Nat):Prop:=∀(w:World) (lv:Value) (l:List ag) (k d:Nat),Ls w lv l->k<=l.length->d<=64->(aj m .prime (l.drop k) d).2.2≠-1->
 Calls Tryz.prog 237 #[lv,.int .i64 (k:Nat),.int .i64 (d:Nat)] w (GP k (aj m .prime (l.drop k) d) w)
def MC(m:Nat):Prop:=∀(w:World) (lv:Value) (l:List ag) (k d:Nat) (s:ByteArray),Ls w lv l->k<l.length->d<=64->s=ql\/s=pq->(aj m (.many s) (l.drop k) d).2.2≠-1->
 Calls Tryz.prog 239 #[lv,.int .i64 (k:Nat),.int .i64 (d:Nat),.string s] w (GP k (aj m (.many s) (l.drop k) d) w)
theorem zA(a b:ByteArray):(a.toList==b.toList)=decide (a=b):=by
 by_cases h:a=b
 ·subst h;simp
 ·rw[decide_eq_false h];exact wV h
theorem fM(w:World)(lv:Value)(l:List ag)(k:Nat)(s:ByteArray)(h:aH w lv l)(hl:l.length<=1000)(hk:k<=l.length+1):Calls Tryz.prog 194 #[lv,.int .i64 (k:Nat),.string s] w fun e w'=>e=.returned (.bool (bO (l.drop k) s))/\w=w':=by
 obtain⟨a,c,rfl,h1,h2,-⟩:=h.len;unfold maxLen at h2
 by_cases hkl:k<l.length
 ·obtain⟨b,Ab,rfl,Aa,q0,q1,q2⟩:=h.get hkl
  have HD:Hid (bO (l.drop k) s=(decide (l[k].kind=4)&&decide (l[k].text=s))):=Hh (by rw[List.drop_eq_getElem_cons hkl];rfl);generalize l[k]=t at *;obtain⟨kd,tx,ps⟩:=t;simp only at q0 q1 HD;clear h q2
  have ek:(kd==4)=decide (kd=4):=by
   by_cases h:kd=4
   ·subst h;simp
   ·rw[decide_eq_false h];simpa using h
  have et:=zA tx s;generalize decide (kd=4)=bk at *;generalize decide (tx=s)=bt at *;go_enter Tryz.func194,Tryz.ntmps194;cases bk<;>cases bt
  all_goals
   go_wp2;go_ret;exact⟨by rw[HD.out];rfl,rfl⟩
 ·have HD:Hid (bO (l.drop k) s=false):=Hh (by rw[List.drop_eq_nil_of_le (by omega)];rfl)
  clear h;go_enter Tryz.func194,Tryz.ntmps194;go_wp2;go_ret;exact⟨by rw[HD.out];rfl,rfl⟩
theorem Lt(l:List ag)(k:Nat)(hk:k<=l.length):cO (l.drop k) 0=(aQ,0,if k=l.length then 2 else 3):=by
 unfold cO
 by_cases h:k=l.length
 ·rw[if_pos (by rw[List.drop_eq_nil_iff];omega),if_pos h]
 ·rw[if_neg (by rw[List.drop_eq_nil_iff];omega),if_neg h]
theorem lM(w:World)(lv:Value)(l:List ag)(k:Nat)(h:aH w lv l)(hl:l.length<=1000)(hk:k<=l.length) :
  Calls Tryz.prog 195 #[lv,.int .i64 (k:Nat)] w fun e w'=>e=.returned (.agg (aT ⟨#[]⟩ ⟨#[]⟩ (.slice none 0 0) (k:Int) (cO (l.drop k) 0).2.2))/\Below w.heap.size w w':=by
 obtain⟨a,c,rfl,h1,h2,-⟩:=h.len;unfold maxLen at h2;rw[Lt l k hk];clear h
 by_cases hkl:k=l.length
 ·subst hkl
  rw[if_pos rfl];go_enter Tryz.func195,Tryz.ntmps195;go_wp2;have hq:=aa.new w (aT ⟨#[]⟩ ⟨#[]⟩ (.slice none 0 0) (l.length:Nat) 2) 163;obtain⟨Aa,Ab,Ac,Ad,Ae⟩:=hq.m5 rfl;refine bodyPost_ret (v:=.agg (aT ⟨#[]⟩ ⟨#[]⟩ (.slice none 0 0) (l.length:Nat) 2)) (by simp[results,Tryz.results195,go_sem,Aa,Ab,Ac,Ad,Ae]) rfl ?_;exact⟨rfl,(Below.refl _ w).alloc lz _⟩
 ·rw[if_neg hkl]
  have Af:k<l.length:=by omega
  go_enter Tryz.func195,Tryz.ntmps195;go_wp2;have hq:=aa.new w (aT ⟨#[]⟩ ⟨#[]⟩ (.slice none 0 0) (k:Nat) 3) 163;obtain⟨Aa,Ab,Ac,Ad,Ae⟩:=hq.m5 rfl;refine bodyPost_ret (v:=.agg (aT ⟨#[]⟩ ⟨#[]⟩ (.slice none 0 0) (k:Nat) 3)) (by simp[results,Tryz.results195,go_sem,Aa,Ab,Ac,Ad,Ae]) rfl ?_;exact⟨rfl,(Below.refl _ w).alloc lz _⟩
theorem NV{w W:World}{k:Nat}{r:fw}{o t:ByteArray}{a:Option Addr}{n c:Nat}{pa pe:Int}(h1:pa=((k+r.2.1:Nat):Int))(h2:pe=r.2.2)(hb:Below w.heap.size w W)(hX:r.2.2=0->ae (fun b=>w.heap.size+1<=b) W r.1 (dQ o t (.slice a n c))) :
  GP k r w (.returned (.agg (aT o t (.slice a n c) pa pe))) (ai W w.heap.size 0 [.string o,.string t,.slice a n c,.int .i64 pa,.int .i64 pe]):=by
 subst h1 h2;refine⟨aL w.heap.size w.heap.size lz _ 0 _ _ hb,o,t,a,n,c,rfl,fun he=>?_⟩;refine ae.move (by rw[aB];exact Nat.le_refl _) (fun b hb' _=>aK _ _ _ _ _ (by omega)) (fun b hb' _=>by omega) _ _ (hX he)
theorem gT{g:fw}{f:gu->Nat->fw}(h:(iE g f).2.2≠-1):g.2.2≠-1:=fun e=>by
 rw[bf (by rw[e];decide)] at h;exact h e
theorem Gj{r:List ag}{s s2:ByteArray}(h:bO r s=true)(hs:s≠s2):bO r s2=false:=by
 cases r with
 |nil=>rfl
 |cons t r=>
  simp only[bO,Bool.and_eq_true,decide_eq_true_eq] at h;simp only[bO,h.2,decide_eq_false hs,Bool.and_false]
theorem Ls.alloc{w:World}{lv:Value}{l:List ag}(h:Ls w lv l)(o:Obj):Ls (w.alloc o) lv l:=h.below ((Below.refl _ w).alloc lz _)
theorem cK{w W:World}{k:Nat}{r:fw}{o t:ByteArray}{a:Option Addr}{n c:Nat}{pa pe:Int}(h1:pa=((k+r.2.1:Nat):Int))(h2:pe=r.2.2)(hb:Below w.heap.size w W)(hX:r.2.2=0->ae (fun b=>w.heap.size+1<=b) W r.1 (dQ o t (.slice a n c))) :
  GP k r w (.returned (.agg (aT o t (.slice a n c) pa pe))) W:=by
 subst h1 h2;exact⟨hb,o,t,a,n,c,rfl,fun he=>ae.move lz (fun _ _ _=>rfl) (fun b hb' _=>by omega) _ _ (hX he)⟩
section
variable {w w4:World} {vs:List Value}
theorem fJ(hb:Below w.heap.size w w4)(A:Obj):Below w.heap.size w ((ai w4 w.heap.size 0 vs).alloc A):=(aL w.heap.size w.heap.size lz vs 0 _ _ hb).alloc (by rw[aB];exact hb.size) _
theorem Bq(hb:Below w.heap.size w w4)(A B:Obj):Below w.heap.size w (((ai w4 w.heap.size 0 vs).alloc A).alloc B):=(fJ hb A).alloc (by simp only[World.size_alloc,aB];have:=hb.size;omega) _
theorem MN{x:gu}{cs:List Value}(hX:ae (fun b=>w.heap.size+1<=b) w4 x cs)(A B:Obj):ae (fun b=>w.heap.size+1<=b) (((ai w4 w.heap.size 0 vs).alloc A).alloc B) x cs:=
 ae.move (by simp only[World.size_alloc,aB];omega) (fun b hb hl=>by
  rw[Below.heap_alloc _ _ _ (by simp only[World.size_alloc,aB];omega),Below.heap_alloc _ _ _ (by rw[aB];omega),aK _ _ _ _ _ (by omega)]) (fun b hb _=>hb) _ _ hX
theorem yt(hl:w.heap.size<w4.heap.size)(A:Obj){op text:ByteArray}(kids:List (gu×List Value))(hk:∀s∈kids,ae (fun b=>w.heap.size+1<=b) w4 s.1 s.2)(hm:kids.length<=maxLen) :
  ae (fun b=>w.heap.size+1<=b) (((ai w4 w.heap.size 0 vs).alloc A).alloc (.cells (kids.flatMap (·.2)).toArray 52)) (.mk op text (kids.map (·.1))) [.string op,.string text,.slice (some ⟨w4.heap.size+1,0,none⟩) kids.length kids.length]:=by
 have hc:=aa.new ((ai w4 w.heap.size 0 vs).alloc A) (kids.flatMap (·.2)).toArray 52;rw[World.size_alloc,aB] at hc;exact qw kids hc (by show w.heap.size+1<=w4.heap.size+1;omega) (fun s hs=>MN (hk s hs) _ _) hm
end
theorem yV(m:Nat)(hP:PC m)(hX:XC m):XC (m+1):=by
 intro w lv l k d h hk hd hne;obtain⟨a,c,rfl,A5,A4⟩:=h.sl;have A1:=h.few;unfold maxLen at A4;rw[aj] at hne ⊢;have h0:=h.alloc (.cells nz 163);have Ax:Below w.heap.size w (w.alloc (.cells nz 163)):=(Below.refl _ w).alloc lz _;have Az:=aa.new w nz 163;have Av:=fun s=>fM (w.alloc (.cells nz 163)) (.slice a l.length c) l k s h0.toks A1 (by omega)
 by_cases hb:bO (l.drop k) dE=false/\bO (l.drop k) jL=false
 ·rw[if_pos hb] at hne ⊢
  have hC:=hP _ _ l k d h0 hk hd hne;obtain⟨Ai,Aj⟩:=hb;generalize aj m .post (l.drop k) d=R at *;obtain⟨rx,rn,re⟩:=R;have HB:=Jh Ax Az;clear h h0 Ax Az hne;go_enter Tryz.func222,Tryz.ntmps222;go_wp2_with (go_at_call 194;refine (Av _).mono ?_;rintro _ _ ⟨rfl,rfl⟩;simp only[Ai,Aj])
  refine hC.mono ?_;clear hC Av;rintro _ w4 ⟨hb4,o,t,a4,n4,c4,rfl,hX4⟩;have Ab:=HB.out.2.below hb4 HB.out.2.lt;have A0:=Ab.lt;have Aa:=Jh (HB.out.1.trans (hb4.mono HB.out.1.size)) (And.intro Ab hX4);clear hb4 hX4;obtain⟨Ak,Ap,Al,Aq,Am,Ar,An,As,Ao,At⟩:=Ab.n5 rfl;clear Ab;go_wp2_with fail;have hq:=((((Aa.out.2.1.setI 0 (.string o)).setI 1 (.string t)).setI 2 (.slice a4 n4 c4)).setI 3 (.int .i64 ((k:Int)+(rn:Int)))).setI 4 (.int .i64 re);obtain⟨Ac,Ad,Ae,Af,Ag⟩:=hq.m5 rfl;refine bodyPost_ret (v:=.agg (#[.string o,.string t,.slice a4 n4 c4,.int .i64 ((k:Int)+(rn:Int)),.int .i64 re])) (by simp[results,Tryz.results222,go_sem,Ac,Ad,Ae,Af,Ag]) rfl ?_;show GP k _ w _ (ai w4 w.heap.size 0 [.string o,.string t,.slice a4 n4 c4,.int .i64 ((k:Int)+(rn:Int)),.int .i64 re]);exact NV (by simp) rfl Aa.out.1 (fun he=>by have:=Aa.out.2.2 he;simpa using this)
 ·rw[if_neg hb] at hne ⊢
  have A2:k<l.length:=by
   by_cases A2:k<l.length
   ·exact A2
   ·exfalso;apply hb;rw[List.drop_eq_nil_of_le (by omega)];exact⟨rfl,rfl⟩
  obtain⟨op,A3,Ay⟩:∃op,op=(if bO (l.drop k) dE then dE else pO)/\((bO (l.drop k) dE=true/\bO (l.drop k) jL=false/\op=dE)\/(bO (l.drop k) dE=false/\bO (l.drop k) jL=true/\op=pO)):=by
   refine⟨_,rfl,?_⟩
   by_cases h1:bO (l.drop k) dE=true
   ·exact .inl ⟨h1,Gj h1 (by decide),by rw[if_pos h1]⟩
   ·have h1:bO (l.drop k) dE=false:=by simpa using h1
    refine .inr ⟨h1,?_,by rw[if_neg (by rw[h1];decide)]⟩
    by_cases h2:bO (l.drop k) jL=true
    ·exact h2
    ·exact absurd ⟨h1,by simpa using h2⟩ hb
  rw[<-A3] at hne ⊢;clear A3 hb
  by_cases hd64:64<=d
  ·rw[if_pos hd64]
   clear h h0 Ax Az hne;go_enter Tryz.func222,Tryz.ntmps222;rcases Ay with ⟨Ai,Aj,rfl⟩|⟨Ai,Aj,rfl⟩
   all_goals
    go_wp2_with (go_at_call 194;refine (Av _).mono ?_;rintro _ _ ⟨rfl,rfl⟩;simp only[Ai,Aj])
    have hq:=aa.new w (aT ⟨#[]⟩ ⟨#[]⟩ (.slice none 0 0) (k:Nat) 5) 163;obtain⟨Ac,Ad,Ae,Af,Ag⟩:=hq.m5 rfl;refine bodyPost_ret (v:=.agg (aT ⟨#[]⟩ ⟨#[]⟩ (.slice none 0 0) (k:Nat) 5)) (by simp[results,Tryz.results222,go_sem,Ac,Ad,Ae,Af,Ag]) rfl ?_;exact⟨(Below.refl _ w).alloc lz _,_,_,_,_,_,rfl,fun he=>by cases he⟩
  ·rw[if_neg hd64] at hne ⊢
   have Ah:=gT hne;simp only[dL] at Ah;rw[List.drop_drop,show k+1=k+1 from rfl] at hne Ah ⊢;have hC:=hX _ _ l (k+1) (d+1) h0 (by omega) (by omega) Ah;rw[show ((k+1:Nat):Int)=(k:Int)+1 by omega,show ((d+1:Nat):Int)=(d:Int)+1 by omega] at hC;generalize aj m .tight (l.drop (k+1)) (d+1)=R at *;obtain⟨rx,rn,re⟩:=R;have HB:=Jh Ax Az;clear h h0 Ax Az hne Ah;go_enter Tryz.func222,Tryz.ntmps222;rcases Ay with ⟨Ai,Aj,rfl⟩|⟨Ai,Aj,rfl⟩
   ·skip
    go_wp2_with (go_at_call 194;refine (Av _).mono ?_;rintro _ _ ⟨rfl,rfl⟩;simp only[Ai,Aj])
    refine hC.mono ?_;clear hC Av;rintro _ w4 ⟨hb4,o,t,a4,n4,c4,rfl,hX4⟩;have Ab:=HB.out.2.below hb4 HB.out.2.lt;have A0:=Ab.lt;have Aa:=Jh (HB.out.1.trans (hb4.mono HB.out.1.size)) (And.intro Ab hX4);clear hb4 hX4;obtain⟨Ak,Ap,Al,Aq,Am,Ar,An,As,Ao,At⟩:=Ab.n5 rfl;clear Ab
    by_cases he:re=0
    ·subst he
     go_wp2_with fail;have Aw:=Aa.out.2.2 (by first|trivial|rfl);rw[World.size_alloc] at Aw;have hq:=((((((Aa.out.2.1.setI 0 (.string dE)).setI 1 (.string ⟨#[]⟩)).setI 2 (.slice (some ⟨w4.heap.size+1,0,none⟩) 1 1)).setI 3 (.int .i64 ((k:Int)+1+(rn:Int)))).setI 4 (.int .i64 0)).alloc (.cells (aT o t (.slice a4 n4 c4) ((k:Int)+1+(rn:Int)) 0) 163)).alloc (.cells #[.string o,.string t,.slice a4 n4 c4] 52)
     have hn:ae (fun b=>w.heap.size+1<=b) (((ai w4 w.heap.size 0 [.string dE,.string ⟨#[]⟩,.slice (some ⟨w4.heap.size+1,0,none⟩) 1 1,.int .i64 ((k:Int)+1+(rn:Int)),.int .i64 0]).alloc (.cells (aT o t (.slice a4 n4 c4) ((k:Int)+1+(rn:Int)) 0) 163)).alloc (.cells #[.string o,.string t,.slice a4 n4 c4] 52)) (.mk dE iU [rx]) [.string dE,.string iU,.slice (some ⟨w4.heap.size+1,0,none⟩) 1 1]:=
      yt A0 _ [(rx,dQ o t (.slice a4 n4 c4))] (fun s hs=>by simp at hs;subst hs;exact Aw) (by simp[maxLen])
     have Au:=Bq (vs:=[.string dE,.string ⟨#[]⟩,.slice (some ⟨w4.heap.size+1,0,none⟩) 1 1,.int .i64 ((k:Int)+1+(rn:Int)),.int .i64 0]) Aa.out.1 (.cells (aT o t (.slice a4 n4 c4) ((k:Int)+1+(rn:Int)) 0) 163) (.cells #[.string o,.string t,.slice a4 n4 c4] 52);obtain⟨Ac,Ad,Ae,Af,Ag⟩:=hq.m5 rfl;refine bodyPost_ret (v:=.agg (#[.string dE,.string ⟨#[]⟩,.slice (some ⟨w4.heap.size+1,0,none⟩) 1 1,.int .i64 ((k:Int)+1+(rn:Int)),.int .i64 0])) (by simp[results,Tryz.results222,go_sem,Ac,Ad,Ae,Af,Ag]) rfl ?_;rw[bL (by rfl)];exact cK (r:=(.mk dE iU [rx],1+rn,0)) (by simp only;omega) rfl Au (fun _=>hn)
    ·have e0:(re != 0)=true:=by simpa using he
     go_wp2_with fail;have hq:=(((((Aa.out.2.1.setI 0 (.string o)).setI 1 (.string t)).setI 2 (.slice a4 n4 c4)).setI 3 (.int .i64 ((k:Int)+1+(rn:Int)))).setI 4 (.int .i64 re)).alloc (.cells (aT o t (.slice a4 n4 c4) ((k:Int)+1+(rn:Int)) re) 163);have Au:=fJ (vs:=[.string o,.string t,.slice a4 n4 c4,.int .i64 ((k:Int)+1+(rn:Int)),.int .i64 re]) Aa.out.1 (.cells (aT o t (.slice a4 n4 c4) ((k:Int)+1+(rn:Int)) re) 163);obtain⟨Ac,Ad,Ae,Af,Ag⟩:=hq.m5 rfl;refine bodyPost_ret (v:=.agg (#[.string o,.string t,.slice a4 n4 c4,.int .i64 ((k:Int)+1+(rn:Int)),.int .i64 re])) (by simp[results,Tryz.results222,go_sem,Ac,Ad,Ae,Af,Ag]) rfl ?_;rw[bf (by exact he)];exact cK (r:=(aQ,1+rn,re)) (by simp only;omega) rfl Au (fun h=>absurd h he)
   ·skip
    go_wp2_with (go_at_call 194;refine (Av _).mono ?_;rintro _ _ ⟨rfl,rfl⟩;simp only[Ai,Aj])
    refine hC.mono ?_;clear hC Av;rintro _ w4 ⟨hb4,o,t,a4,n4,c4,rfl,hX4⟩;have Ab:=HB.out.2.below hb4 HB.out.2.lt;have A0:=Ab.lt;have Aa:=Jh (HB.out.1.trans (hb4.mono HB.out.1.size)) (And.intro Ab hX4);clear hb4 hX4;obtain⟨Ak,Ap,Al,Aq,Am,Ar,An,As,Ao,At⟩:=Ab.n5 rfl;clear Ab
    by_cases he:re=0
    ·subst he
     go_wp2_with fail;have Aw:=Aa.out.2.2 (by first|trivial|rfl);rw[World.size_alloc] at Aw;have hq:=((((((Aa.out.2.1.setI 0 (.string pO)).setI 1 (.string ⟨#[]⟩)).setI 2 (.slice (some ⟨w4.heap.size+1,0,none⟩) 1 1)).setI 3 (.int .i64 ((k:Int)+1+(rn:Int)))).setI 4 (.int .i64 0)).alloc (.cells (aT o t (.slice a4 n4 c4) ((k:Int)+1+(rn:Int)) 0) 163)).alloc (.cells #[.string o,.string t,.slice a4 n4 c4] 52)
     have hn:ae (fun b=>w.heap.size+1<=b) (((ai w4 w.heap.size 0 [.string pO,.string ⟨#[]⟩,.slice (some ⟨w4.heap.size+1,0,none⟩) 1 1,.int .i64 ((k:Int)+1+(rn:Int)),.int .i64 0]).alloc (.cells (aT o t (.slice a4 n4 c4) ((k:Int)+1+(rn:Int)) 0) 163)).alloc (.cells #[.string o,.string t,.slice a4 n4 c4] 52)) (.mk pO iU [rx]) [.string pO,.string iU,.slice (some ⟨w4.heap.size+1,0,none⟩) 1 1]:=
      yt A0 _ [(rx,dQ o t (.slice a4 n4 c4))] (fun s hs=>by simp at hs;subst hs;exact Aw) (by simp[maxLen])
     have Au:=Bq (vs:=[.string pO,.string ⟨#[]⟩,.slice (some ⟨w4.heap.size+1,0,none⟩) 1 1,.int .i64 ((k:Int)+1+(rn:Int)),.int .i64 0]) Aa.out.1 (.cells (aT o t (.slice a4 n4 c4) ((k:Int)+1+(rn:Int)) 0) 163) (.cells #[.string o,.string t,.slice a4 n4 c4] 52);obtain⟨Ac,Ad,Ae,Af,Ag⟩:=hq.m5 rfl;refine bodyPost_ret (v:=.agg (#[.string pO,.string ⟨#[]⟩,.slice (some ⟨w4.heap.size+1,0,none⟩) 1 1,.int .i64 ((k:Int)+1+(rn:Int)),.int .i64 0])) (by simp[results,Tryz.results222,go_sem,Ac,Ad,Ae,Af,Ag]) rfl ?_;rw[bL (by rfl)];exact cK (r:=(.mk pO iU [rx],1+rn,0)) (by simp only;omega) rfl Au (fun _=>hn)
    ·have e0:(re != 0)=true:=by simpa using he
     go_wp2_with fail;have hq:=(((((Aa.out.2.1.setI 0 (.string o)).setI 1 (.string t)).setI 2 (.slice a4 n4 c4)).setI 3 (.int .i64 ((k:Int)+1+(rn:Int)))).setI 4 (.int .i64 re)).alloc (.cells (aT o t (.slice a4 n4 c4) ((k:Int)+1+(rn:Int)) re) 163);have Au:=fJ (vs:=[.string o,.string t,.slice a4 n4 c4,.int .i64 ((k:Int)+1+(rn:Int)),.int .i64 re]) Aa.out.1 (.cells (aT o t (.slice a4 n4 c4) ((k:Int)+1+(rn:Int)) re) 163);obtain⟨Ac,Ad,Ae,Af,Ag⟩:=hq.m5 rfl;refine bodyPost_ret (v:=.agg (#[.string o,.string t,.slice a4 n4 c4,.int .i64 ((k:Int)+1+(rn:Int)),.int .i64 re])) (by simp[results,Tryz.results222,go_sem,Ac,Ad,Ae,Af,Ag]) rfl ?_;rw[bf (by exact he)];exact cK (r:=(aQ,1+rn,re)) (by simp only;omega) rfl Au (fun h=>absurd h he)
end Go.Proofs.YtbcdaaobbebooaaGreatDoor
