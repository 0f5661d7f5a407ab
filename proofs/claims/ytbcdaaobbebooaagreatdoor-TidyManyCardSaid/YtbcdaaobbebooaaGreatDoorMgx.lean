import Derived.Test.YtbcdaaobbebooaaGreatDoorMgu
import Derived.Shelf.Vars
set_option linter.unusedSimpArgs false
set_option linter.unusedVariables false
set_option maxRecDepth 100000
set_option maxHeartbeats 20000000
namespace Go.Proofs.YtbcdaaobbebooaaGreatDoor
open Go.RowKit Go.Tab
def Jr:List (List ag)->Nat->Option Nat
 |[],_=>none
 |[]::r,i=>Jr r (i+1)
 |(_::_)::_,i=>some i
theorem CU(L:List (List ag)):∀(m k:Nat),L.length<=k+m->match Jr (L.drop k) k with
  |some j=>∃h:j<L.length,k<=j/\L[j]≠[]/\dZ (L.drop k)=L[j]::L.drop (j+1)
  |none=>dZ (L.drop k)=[]
 |0,k,h=>by rw[List.drop_eq_nil_of_le (by omega)];rfl
 | m+1,k,h=>by
  by_cases hk:k<L.length
  ·rw[List.drop_eq_getElem_cons hk]
   cases hr:L[k] with
   |nil=>
    have ih:=CU L m (k+1) (by omega);simp only[Jr,dZ];split at ih
    ·obtain⟨h1,h2,h3⟩:=ih
     exact⟨h1,by omega,h3⟩
    ·exact ih
   |cons t q=>
    simp only[Jr,dZ];refine⟨hk,Nat.le_refl _,by rw[hr];simp,by rw[hr]⟩
  ·rw[List.drop_eq_nil_of_le (by omega)];rfl
def uu(L:List (List ag))(i:Nat):Nat:=
 if gY (L[i]?.getD []) then (match Jr (L.drop (i+1)) (i+1) with
  |some j=>if l9 (L[j]?.getD []) then j else 0
  |none=>0) else 0
theorem MH{L:List (List ag)}{i:Nat}(h:i<L.length) :
  (uu L i=0/\pV L[i] (L.drop (i+1))=(L[i],L.drop (i+1)))\/∃j,∃h2:j<L.length,uu L i=j/\i<j/\L[j]≠[]/\pV L[i] (L.drop (i+1))=(L[i]++L[j],L.drop (j+1)):=by
 unfold uu pV;rw[List.getElem?_eq_getElem h,Option.getD_some]
 by_cases hl:gY L[i]=true
 ·rw[if_pos hl,if_pos hl]
  have hn:=CU L L.length (i+1) (by omega);split at hn
  ·next j hj=>
   obtain⟨h1,h2,h3,h4⟩:=hn;simp only[hj,List.getElem?_eq_getElem h1,Option.getD_some,h4]
   by_cases hh:l9 L[j]=true
   ·exact .inr ⟨j,h1,by rw[if_pos hh],by omega,h3,by rw[if_pos hh]⟩
   ·exact .inl ⟨by rw[if_neg hh],by rw[if_neg hh]⟩
  ·next hj=>
   simp only[hj,hn];exact .inl ⟨by trivial,by trivial⟩
 ·rw[if_neg hl,if_neg hl]
  exact .inl ⟨rfl,rfl⟩
theorem IV{r:List ag}{m:Nat}(h:r.length=m+1):gY r=bT (r[m]'(by omega)) rF:=by
 unfold gY;have e:r.length-1=m:=by omega
 rw[List.getLast?_eq_getElem?];simp only[e];rw[List.getElem?_eq_getElem (by omega)]
theorem I1{r:List ag}(h:0<r.length):l9 r=bT r[0] ng:=by
 cases r with
 |nil=>simp at h
 |cons t r=>rfl
theorem NP{L:List (List ag)}{k:Nat}(h:k<L.length)(h0:L[k].length=0):Jr (L.drop k) k=Jr (L.drop (k+1)) (k+1):=by
 rw[List.drop_eq_getElem_cons h,List.eq_nil_of_length_eq_zero h0,Jr]
theorem Mq{L:List (List ag)}{k:Nat}(h:k<L.length)(h0:L[k].length≠0):Jr (L.drop k) k=some k:=by
 rw[List.drop_eq_getElem_cons h]
 cases hr:L[k] with
 |nil=>rw[hr] at h0;exact absurd rfl h0
 |cons t q=>rfl
theorem Lr{B:Nat}(w:World)(v:Value)(L:List (List ag))(h:mG B w v L)(i:Nat)(hi:i<L.length)(hne:L[i]≠[])(hn:L.length<=1000000)(hl:∀r∈L,r.length<=1000000) :
  Calls Tryz.prog 68 #[v,.int .i64 (i:Nat)] w fun e w'=>e=.returned (.int .i64 (uu L i:Nat))/\Below w.heap.size w w':=by
 obtain⟨va,vc,rfl,Ay,Ao,-⟩:=h.len;unfold maxLen at Ao;obtain⟨b,A1,s,rfl,Ax,Ab,q0⟩:=h.get hi;obtain⟨sa,sn,sc⟩:=s;obtain⟨m,hm⟩:∃m,L[i].length=m+1:=⟨L[i].length-1,by have:=List.length_pos_iff.2 hne;omega⟩;have Ap:=hl L[i] (List.getElem_mem hi)
 have Ak:sn=L[i].length:=by
  obtain⟨a',c',e'⟩:=Ab.len;simp only[bQ,Value.slice.injEq] at e';exact e'.2.1
 rw[hm] at Ak;subst Ak;obtain⟨tb,Av,rfl,Aq,r0,r1,r2⟩:=Ab.toks.get (j:=m) (by omega);have Ai:=IV hm
 have Af:uu L i=if gY L[i] then (match Jr (L.drop (i+1)) (i+1) with
  |some j=>if l9 (L[j]?.getD []) then j else 0
  |none=>0) else 0:=by unfold uu;rw[List.getElem?_eq_getElem hi,Option.getD_some]
 rw[Ai] at Af;have Ad:=Hh Af;have hS:=nJ L[i][m] rF w;have HT:=Hh h;have Am:=Hh hl;have kq:IntKind.i64.wrap ((m:Int)+1-1)=(m:Int):=by rw[IntWalk.i64_in _ (by omega)];omega
 have A0:wrap64 (m:Int)=(m:Int):=IntWalk.wrap64_in _ (by omega);simp only[bQ] at q0;clear Ai Af h Ab hl hne;generalize L[i][m]=t at *;obtain⟨kd,tx,ps⟩:=t;simp only[eO] at hS r0 r1 r2 Ad;generalize bT ⟨kd,tx,ps⟩ rF=lb at *;clear hm Ap
 cases lb with
 |false=>
  go_enter Tryz.func68,Tryz.ntmps68;go_wp2_with fail;refine hS.mono ?_;rintro _ _ ⟨rfl,rfl⟩;clear hS;go_wp2_with fail;go_ret;rw[Ad.out];exact⟨rfl,(Below.refl _ w).alloc lz _⟩
 |true=>
  go_enter Tryz.func68,Tryz.ntmps68;go_wp2_with fail;refine hS.mono ?_;rintro _ _ ⟨rfl,rfl⟩;clear hS;have Ag:=Hh (dM w ⟨kd,tx,ps⟩);go_wp2_with fail;go_loopw [6] (fun x wr=>∃k:Nat,i+1<=k/\k<=L.length/\x=.int .i64 (k:Int)/\Hid (Jr (L.drop k) k=Jr (L.drop (i+1)) (i+1))/\Below w.heap.size w wr) (fun x _=>L.length-(intOf x).toNat)
  case atStart=>exact⟨i+1,Nat.le_refl _,hi,by go_num,Hh rfl,Ag.out⟩
  case round=>
   clear Ag q0 r0 r1 r2 Aq;obtain⟨k,Az,hk,rfl,HA,hb⟩:=hrel;have HB:=Hh hb
   by_cases hkl:k<L.length
   ·obtain⟨b2,At,s2,e2,An,Aa,p0⟩:=(HT.out.below hb).get hkl
    cases e2
    obtain⟨ta,tn,tc⟩:=s2
    have Ac:tn=L[k].length:=by
     obtain⟨a',c',e'⟩:=Aa.len;simp only[bQ,Value.slice.injEq] at e';exact e'.2.1
    simp only[bQ] at p0;have Aj:=Am.out L[k] (List.getElem_mem hkl)
    by_cases h0:tn=0
    ·subst h0
     have HG:=Hh (NP hkl Ac.symm);clear hb Aa Ac Aj;go_wp2_with fail;go_roundw
     case rel=>exact⟨k+1,by omega,hkl,by go_num,Hh (by rw[<-HA.out,HG.out]),HB.out⟩
     case measure=>simp[intOf]<;>omega
    ·obtain⟨n,rfl⟩:∃n,tn=n+1:=⟨tn-1,by omega⟩
     have e0:(((n+1:Nat):Int)==0)=false:=by simp;omega
     have HG:=Hh (Mq hkl (by omega));obtain⟨A2,Al,rfl,Ar,r0,r1,r2⟩:=Aa.toks.get (j:=0) (by omega);have Ah:=I1 (r:=L[k]) (by omega)
     have Ae:Hid (uu L i=if bT (L[k][0]'(by omega)) ng then k else 0):=Hh (by
      rw[Ad.out,if_pos (by trivial),<-HA.out,HG.out]
      simp only[List.getElem?_eq_getElem hkl,Option.getD_some,Ah])
     have hS:=nJ (L[k][0]'(by omega)) ng wr;generalize (L[k][0]'(by omega))=t2 at *;obtain⟨As,Aw,Au⟩:=t2;simp only[eO,Nat.zero_mul,Nat.add_zero] at hS r0 r1 r2;generalize bT ⟨As,Aw,Au⟩ ng=rb at *;clear hb Aa Ac Aj Ah h0;go_wp2_with fail;refine hS.mono ?_;rintro _ _ ⟨rfl,rfl⟩;clear hS;cases rb
     all_goals
      go_wp2_with fail;go_ret;rw[Ae.out];exact⟨rfl,HB.out.alloc HB.out.size _⟩
   ·obtain rfl:k=L.length:=by omega
    have HE:Hid (uu L i=0):=Hh (by rw[Ad.out,if_pos (by trivial),<-HA.out,List.drop_length];rfl);clear hb;go_wp2_with fail;go_ret;rw[HE.out];exact⟨rfl,HB.out⟩
def LQ(Q:List aS):Option Bool:=Q.getLast?.map (fun r=>iK r.toks)
def wK(L:List (List ag))(i:Nat)(gap:Bool)(d:Int)(Q:List aS):Prop:=∃f,(L.drop i).length<=f/\il L=Q++mE (fU f gap (L.drop i)) d (LQ Q)
theorem wK.start(L:List (List ag)):wK L 0 false 0 []:=⟨L.length,by simp,rfl⟩
theorem wK.empty{L:List (List ag)}{i:Nat}{gap:Bool}{d:Int}{Q:List aS}(h:wK L i gap d Q)(hi:i<L.length)(h0:L[i]=[]):wK L (i+1) true d Q:=by
 obtain⟨f,h1,h2⟩:=h;rw[List.length_drop] at h1;obtain⟨g,rfl⟩:∃g,f=g+1:=⟨f-1,by omega⟩;refine⟨g,by rw[List.length_drop];omega,?_⟩;rw[h2,List.drop_eq_getElem_cons hi,h0,fU]
def oM(gap:Bool)(pv:Option Bool)(T:List ag):List aS:=if gap&&(pv.isSome&&(!kZ T&&pv != some true)) then [⟨[],0⟩] else []
theorem wK.row{L:List (List ag)}{i i2:Nat}{gap:Bool}{d:Int}{Q:List aS}(h:wK L i gap d Q)(hi:i<L.length)(h0:L[i]≠[]){T:List ag}(hj:pV L[i] (L.drop (i+1))=(T,L.drop i2))(hi2:i<i2) :
  wK L i2 false (dD d T) (Q++oM gap (LQ Q) T++[⟨T,dR d T⟩]):=by
 obtain⟨f,h1,h2⟩:=h;rw[List.length_drop] at h1;obtain⟨g,rfl⟩:∃g,f=g+1:=⟨f-1,by omega⟩;refine⟨g,by rw[List.length_drop];omega,?_⟩;rw[h2,List.drop_eq_getElem_cons hi]
 cases hr:L[i] with
 |nil=>exact absurd hr h0
 |cons t q=>
  rw[hr] at hj;rw[fU,hj,mE];have e:LQ (Q++oM gap (LQ Q) T++[⟨T,dR d T⟩])=some (iK T):=by unfold LQ;rw[List.getLast?_concat];rfl
  rw[e];unfold oM;simp only[List.append_assoc];rfl
theorem wK.end{L:List (List ag)}{gap:Bool}{d:Int}{Q:List aS}(h:wK L L.length gap d Q):il L=Q:=by
 obtain⟨f,h1,h2⟩:=h;rw[h2,List.drop_length];cases f<;>simp[fU,mE]
theorem iJ.shape{B1 B:Nat}{w:World}{v:Value}{R:List aS}(h:iJ B1 B w v R):∃a c,v=.slice a R.length c:=by
 obtain⟨D,rfl,h2,-⟩:=h;obtain⟨a,c,e⟩:=pJ h2;exact⟨a,c,by rw[e,List.length_map]⟩
theorem zz{w:World}{b off c:Nat}{l:List ag}(h:aH w (.slice (some ⟨b,off,none⟩) l.length c) l):∀j u,(l.flatMap gN)[j]?=some u->w.cell? ((⟨b,off,none⟩:Addr).add j)=some u:=by
 intro j u hu
 have Aa:(l.flatMap gN).length=l.length*3:=by
  clear h hu
  induction l with
  |nil=>rfl
  |cons t l ih=>rw[List.flatMap_cons,List.length_append,ih];simp[gN];omega
 have hj:j<l.length*3:=by rw[<-Aa];exact (List.getElem?_eq_some_iff.1 hu).1
 obtain⟨q,r,hr,rfl⟩:∃q r,r<3/\j=q*3+r:=⟨j / 3,j % 3,Nat.mod_lt _ (by omega),by omega⟩;have hq:q<l.length:=by omega
 obtain⟨f1,f2,f3⟩:=uf l q hq;obtain⟨b',o',e',-,g1,g2,g3⟩:=h.get hq;cases e'
 rw[Addr.add_lit,<-Nat.add_assoc]
 match r,hr with
 |0,_=>rw[Nat.add_zero] at hu ⊢;rw[f1] at hu;cases hu;exact g1
 |1,_=>rw[f2] at hu;cases hu;exact g2
 |2,_=>rw[f3] at hu;cases hu;exact g3
theorem BO(l:List ag):∀u∈l.flatMap gN,u.oneCell'=true:=by
 intro u hu;obtain⟨t,-,ht⟩:=List.mem_flatMap.1 hu;exact sF t u ht
theorem BP(l:List ag):(l.flatMap gN).length=l.length*3:=by
 induction l with
 |nil=>rfl
 |cons t l ih=>rw[List.flatMap_cons,List.length_append,ih];simp[gN];omega
theorem CL{base:Nat}{w:World}{a:Option Addr}{n c:Nat}{l:List ag}(h:aI base w (.slice a n c) l)(hl:l≠[]):n=l.length/\∃g,a=some ⟨g,0,none⟩/\g<w.heap.size:=by
 obtain⟨h1,h2⟩:=h;rcases h2 with ⟨-,h3⟩|⟨g,cap',cur,he,hb,hg,h3,h4,h5,h6⟩
 ·exact absurd (List.eq_nil_of_length_eq_zero h3) hl
 ·cases he
  exact⟨rfl,g,rfl,(Array.getElem?_eq_some_iff.1 hg).1⟩
theorem iJ.moved{B1 B:Nat}{w w':World}{v:Value}{R:List aS}(h:iJ B1 B w v R)(h1:∀k,v.ownBlock=some k->w'.heap[k]?=w.heap[k]?)(h2:∀{u:Value} {l:List ag},aI B w u l->aI B w' u l):iJ B1 B w' v R:=by
 obtain⟨D,q1,q2,q3⟩:=h;exact⟨D,q1,bJ q2 h1,fun d hd=>h2 (q3 d hd)⟩
theorem iJ.lt{B1 B:Nat}{w:World}{v:Value}{R:List aS}(h:iJ B1 B w v R):∀k,v.ownBlock=some k->B1<=k/\k<w.heap.size:=by
 obtain⟨D,-,q2,-⟩:=h;exact fun k e=>World.ownsRow.lt q2 k e
theorem kU{B x:Nat}{w w1 w2:World}{cs:Array Value}{t:TypeId}{u v:Value}{T:List ag}{Q:List aS}(h:aa w1 x cs t/\aI B w1 u T/\iJ w.heap.size B w1 v Q/\Below w.heap.size w w1)(hb:Below w1.heap.size w1 w2) :
  aa w2 x cs t/\aI B w2 u T/\iJ w.heap.size B w2 v Q/\Below w.heap.size w w2:=
 ⟨h.1.below hb h.1.lt,h.2.1.below hb lz,h.2.2.1.moved (fun k e=>hb.block k (h.2.2.1.lt k e).2) (fun h=>h.below hb lz),fo h.2.2.2 hb⟩
theorem iJ.push{B1 B:Nat}{w w':World}{v nv:Value}{Q:List aS}{D:List (eB×aS)}{d:eB×aS}(hD:D.map (·.2)=Q)(h0:w.ownsRow B1 103 2 v D.length (D.flatMap mD))(hDt:∀d∈D,aI B w (bQ d.1) d.2.toks)(hd:aI B w (bQ d.1) d.2.toks)
  (hg:w.grownBy w' v.ownBlock) (hown:w'.ownsRow B1 103 2 nv (D.length+1) (D.flatMap mD++mD d)):iJ B1 B w' nv (Q++[d.2]):=by
 have hT:∀{u:Value} {l:List ag},aI B w u l->aI B w' u l:=fun hu=>bJ hu fun k e=>hg.block k (World.ownsRow.lt hu k e).2 (fun q=>jR hu h0 (by decide) k e q.symm);refine⟨D++[d],by rw[List.map_append,hD];rfl,?_,?_⟩
 ·rw[List.flatMap_append,List.length_append]
  simpa using hown
 ·intro x hx
  rcases List.mem_append.1 hx with hx|hx
  ·exact hT (hDt x hx)
  ·rw[List.mem_singleton.1 hx];exact hT hd
theorem IJ{B:Nat}(w:World)(v:Value)(L:List (List ag))(h:mG B w v L)(hB:B<=w.heap.size)(hn:L.length<=1000000)(hl:∀r∈L,r.length<=400000) :
  Calls Tryz.prog 41 #[v] w fun e w'=>∃v',e=.returned v'/\iJ w.heap.size B w' v' (il L)/\Below w.heap.size w w':=by
 obtain⟨va,vc,rfl,Bs,Bi,-⟩:=h.len;unfold maxLen at Bi;have HT:=Hh h;have HL:=Hh hl;clear h hl;go_enter Tryz.func41,Tryz.ntmps41;go_wp2_with fail;go_loopw [3,4,5,6] (fun ov gv dv iv wr=>∃(k:Nat) (gap:Bool) (d:Int) (Q:List aS),k<=L.length/\iv=.int .i64 (k:Int)/\gv=.bool gap/\dv=.int .i64 d/\(-(k:Int)<=d/\d<=k)/\iJ w.heap.size B wr ov Q/\(Q.length<=k/\(gap=true->Q.length+1<=k))/\Hid (wK L k gap d Q/\∀r∈Q,r.toks.length<=900000)/\Below w.heap.size w wr) (fun _ _ _ iv _=>L.length-(intOf iv).toNat)
 case atStart=>exact⟨0,false,0,[],Nat.zero_le _,rfl,rfl,rfl,by omega,iJ.nil _ _ _,⟨Nat.le_refl _,fun h=>by cases h⟩,Hh ⟨wK.start L,fun r h=>by cases h⟩,Below.refl _ _⟩
 case round=>
  obtain⟨k,gap,d,Q,hk,rfl,rfl,rfl,hd,hQ,Ap,HM,hb⟩:=hrel
  by_cases hkl:k<L.length
  ·obtain⟨b,Bd,s,rfl,Bg,Av,q0⟩:=(HT.out.below hb).get hkl
   obtain⟨sa,sn,sc⟩:=s
   have A9:sn=L[k].length:=by
    obtain⟨a',c',e'⟩:=Av.len;simp only[bQ,Value.slice.injEq] at e';exact e'.2.1
   have AL:=HL.out L[k] (List.getElem_mem hkl);have A3:=Hh A9;have AA:=hb.size;simp only[bQ] at q0;obtain⟨oa,oc,rfl⟩:=hQ.shape;have HS:=Jh hQ (And.intro hb Av);have AS:Below wr.heap.size wr (wr.alloc (.cells #[.slice sa sn sc,.int .i64 0] 103)):=(Below.refl _ wr).alloc lz _;have HA:=Hh AS;clear hQ hb Av A9 AS
   by_cases h0:sn=0
   ·subst h0
    have HE:Hid (wK L (k+1) true d Q/\∀r∈Q,r.toks.length<=900000):=Hh ⟨HM.out.1.empty hkl (List.eq_nil_of_length_eq_zero A3.out.symm),HM.out.2⟩;go_wp2_with fail;go_roundw
    case rel=>exact⟨k+1,true,d,Q,hkl,by go_num,rfl,rfl,by omega,(by obtain⟨D,h1,h2,h3⟩:=HS.out.1;exact⟨D,h1,World.ownsRow.alloc h2 _,fun x hx=>(h3 x hx).alloc _⟩),⟨by omega,fun _=>by omega⟩,HE,HS.out.2.1.alloc AA _⟩
    case measure=>simp[intOf];omega
   ·have e0:((sn:Int)==0)=false:=by simpa using h0
    have AM:L[k]≠[]:=fun e=>h0 (by rw[A3.out,e];rfl);have AG:=Lr _ _ L ((HT.out.below HS.out.2.1).below HA.out) k hkl AM hn (fun r hr=>by have:=HL.out r hr;omega);have AV:=MH hkl;obtain⟨nx,AW⟩:=exq (uu L k);rw[<-AW] at AG AV;clear AW;go_wp2_with fail;refine AG.mono ?_;rintro _ w4 ⟨rfl,hb4⟩;have Ay:=Hh AM;clear AG AM;have AZ:w.heap.size<=w4.heap.size:=by have:=hb4.size;simp at this;omega
    have Ai:Hid (aa w4 wr.heap.size #[.slice sa sn sc,.int .i64 0] 103/\aI B w4 (bQ (sa,sn,sc)) L[k]/\iJ w.heap.size B w4 (.slice oa Q.length oc) Q/\Below w.heap.size w w4/\mG B w4 (.slice (some ⟨b,Bd,none⟩) L.length vc) L):=Hh (by
     have Ar:Below wr.heap.size wr w4:=HA.out.trans (hb4.mono (by simp));refine⟨(aa.new wr #[.slice sa sn sc,.int .i64 0] 103).below hb4 (by simp),HS.out.2.2.below Ar lz,?_,fo HS.out.2.1 Ar,(HT.out.below HS.out.2.1).below Ar⟩;obtain⟨D,h1,h2,h3⟩:=HS.out.1
     exact⟨D,h1,bJ h2 (fun x e=>Ar.block x (World.ownsRow.lt h2 x e).2),fun x hx=>(h3 x hx).below Ar lz⟩)
    have Ax:Hid (∀k,(Value.slice oa Q.length oc).ownBlock=some k->k≠wr.heap.size):=Hh (fun k e=>by have:=(HS.out.1.lt k e).2;omega);have AF:Hid (w4.cell? ⟨b,Bd+k,none⟩=some (.slice sa sn sc)):=Hh ((((HA.out.trans (hb4.mono (by simp)))).cell Bg).trans q0);clear hb4 HS HA q0 e0 h0;rcases AV with ⟨hn0,hj⟩|⟨j,hjl,hnj,hkj,hjne,hj⟩
    focus (
     have e1:decide ((k:Int)<(nx:Int))=false:=by rw[decide_eq_false_iff_not];omega
     go_upto_region 13 with fail
     obtain⟨i1,An⟩:∃x:Nat,k=x:=⟨k,rfl⟩;have Bj:k<=i1/\i1<L.length:=by omega
     have Ae:Hid (wK L (i1+1) false (dD d L[k]) (Q++oM gap (LQ Q) L[k]++[⟨L[k],dR d L[k]⟩])/\L[k].length<=900000/\∀r∈Q,r.toks.length<=900000):=Hh ⟨by rw[<-An];exact HM.out.1.row hkl Ay.out hj (by omega),by omega,HM.out.2⟩;rw[An];have A0:Hid (aa w4 wr.heap.size #[.slice sa sn sc,.int .i64 0] 103/\aI B w4 (bQ (sa,sn,sc)) L[k]/\iJ w.heap.size B w4 (.slice oa Q.length oc) Q/\Below w.heap.size w w4):=Hh ⟨Ai.out.1,Ai.out.2.1,Ai.out.2.2.1,Ai.out.2.2.2.1⟩;clear Ai An hn0 hj e1 HM Ay AF;have A9:=A3.out;clear A3 AL;subst A9;generalize L[k]=T at *;generalize w4=wc at *
     )
    rotate_left
    focus (
     have e1:decide ((k:Int)<(nx:Int))=true:=by rw[decide_eq_true_iff];omega
     obtain⟨i0,An,Ba,Bb,Bc⟩:=info_parts Tryz.infoTok;obtain⟨b2,Bo,s2,e2,Bh,Al,q2⟩:=Ai.out.2.2.2.2.get hjl;cases e2
     obtain⟨ta,tn,tc⟩:=s2;simp only[bQ] at q2;obtain⟨rfl,g2,rfl,Bu⟩:=CL Al hjne;have Ak:=Ai.out.2.1;obtain⟨rfl,g1,rfl,Bt⟩:=CL Ak Ay.out;have hc:=Ai.out.1;have q1:=AF.out;have lc:=hc.lt;have AU:=HL.out L[j] (List.getElem_mem hjl);have Bw:(0:Int)<=(k:Int):=by omega
     have Bx:(k:Int)<(L.length:Int):=by omega
     have Bv:(0:Int)<=(j:Int):=by omega
     have Bk:(j:Int)<(L.length:Int):=by omega
     have AN:=Hh Ak;have AC:=Hh Al;have HC:=Hh hc;have AX:0<L[k].length:=List.length_pos_iff.2 Ay.out;have AY:0<L[j].length:=List.length_pos_iff.2 hjne;have HP:=Jh AX AY;have Aw:=Jh AL AU;clear Ak Al hc AX AY AL AU;go_upto_region 11 with fail
     go_cut [] (fun wc=>∃g5 c5,aa wc wr.heap.size #[.slice (some ⟨g5,0,none⟩) (L[k]++L[j]).length c5,.int .i64 0] 103/\aI B wc (bQ (some ⟨g5,0,none⟩,(L[k]++L[j]).length,c5)) (L[k]++L[j])/\iJ w.heap.size B wc (.slice oa Q.length oc) Q/\Below w.heap.size w wc)
     case first=>
      generalize L[k]=T1 at *;generalize L[j]=T2 at *
      go_region_law (first
       |(refine step_append_lies _ rfl _ _ 22 rfl B 63 i0 _ 3 32 Tryz.underlying22 An Ba Bb Bc rfl (by decide) (.slice none 0 0) 0 [] (by rfl) (World.ownsRow_nil _ _ _ _) ⟨g1,0,none⟩ T1.length sc (T1.flatMap gN) (by rfl) (BP _) (by exact zz (show aI B w4.drew _ _ from AN.out).toks) (BO _) (by exact HP.out.1) (by have:=Aw.out.1;unfold maxLen;omega) (by have:=Aw.out.1;omega) (by show B<=w4.heap.size;omega) _ rfl ?_;intro g3 cap3 w5 hown3 hgrow3 hat3 hlt3;have G1:w4.grownBy w5 none:=⟨hgrow3.os,hgrow3.tape,hgrow3.output,hgrow3.size,hgrow3.block⟩;have AQ:aI B w5 (.slice (some ⟨g2,0,none⟩) T2.length tc) T2:=AC.out.moved (fun k e=>G1.block k (World.ownsRow.lt AC.out k e).2 (by simp));have p1:=G1.cell q1 (by simp);have p2:=G1.cell q2 (by simp);have x5:=HC.out.kept G1 (by simp);have AR:Hid (g3=w4.heap.size):=Hh (hat3.elim (fun h=>by cases h) (fun h=>h));have hown3:w5.ownsRow B 63 3 (.slice (some ⟨g3,0,none⟩) T1.length cap3) T1.length (T1.flatMap gN):=(by rw[Nat.zero_add,List.nil_append] at hown3;exact hown3);have A1:=Jh hown3 (And.intro G1 (And.intro hlt3 (And.intro AQ x5)));clear hown3 hgrow3 hat3 hlt3 AQ x5 G1)
       |(refine step_append_lies _ rfl _ _ 22 rfl B 63 i0 _ 3 32 Tryz.underlying22 An Ba Bb Bc rfl (by decide) (.slice (some ⟨g3,0,none⟩) T1.length cap3) T1.length (T1.flatMap gN) (by rfl) (by exact A1.out.1) ⟨g2,0,none⟩ T2.length tc (T2.flatMap gN) (by rfl) (BP _) (by exact zz A1.out.2.2.2.1.toks) (BO _) (by exact HP.out.2) (by have:=Aw.out;unfold maxLen;omega) (by have:=Aw.out;omega) (by have:=A1.out.2.1.size;omega) _ rfl ?_;intro g5 cap5 w6 hown5 hgrow5 hat5 hlt5;have G2:w5.grownBy w6 (some g3):=hgrow5;have x6:=A1.out.2.2.2.2.kept G2 (by rw[AR.out];intro e;have:=Option.some.inj e;omega);obtain⟨b0,Bp,b1,Bq⟩:=x6.n2 rfl;have By:=x6.lt;have AB:=Jh hown5 (And.intro G2 x6);clear hown5 hgrow5 hat5 hlt5 G2 x6))
      all_goals go_wp2_with fail
      all_goals go_meet
      all_goals
       have G1:=A1.out.2.1;have G2:=AB.out.2.1;have x6:=AB.out.2.2;have s5:=G1.size;have e3:=AR.out;refine⟨g5,cap5,?_,?_,?_,?_⟩
       ·have h:=x6.set 0 (by simp) (Value.slice (some ⟨g5,0,none⟩) (T1.length+T2.length) cap5)
        rw[List.length_append];exact h
       ·have h:=AB.out.1
        unfold aI;rw[List.flatMap_append,List.length_append];exact dx h x6 (by decide) 0 _
       ·refine Ai.out.2.2.1.moved (fun q e=>?_) (fun {u l} h=>?_)
        ·have hq:=Ax.out q e
         have Ap:=(Ai.out.2.2.1.lt q e).2;exact ((Below.heap_setCell _ _ _ _ (by show q≠wr.heap.size;omega)).trans (G2.block q (by omega) (fun e=>by have:=Option.some.inj e;omega))).trans (G1.block q (by omega) (by simp))
        ·exact dx (bJ h (fun q e=>by
          have hq:=(World.ownsRow.lt h q e).2
          exact (G2.block q (by omega) (fun e=>by have:=Option.some.inj e;omega)).trans (G1.block q (by omega) (by simp)))) x6 (by decide) 0 _
       ·exact ((Ai.out.2.2.2.1.grown G1 AZ (by simp)).grown G2 (by omega) (fun q e=>by have:=Option.some.inj e;omega)).setCell AA _
     obtain⟨g5,c5,y1,y2,y3,y4⟩:=hcut;go_upto_region 13 with fail
     have A0:=Jh y1 (And.intro y2 (And.intro y3 y4));obtain⟨i1,An⟩:∃x:Nat,j=x:=⟨j,rfl⟩;have Bj:k<=i1/\i1<L.length:=by omega
     have Ae:Hid (wK L (i1+1) false (dD d (L[k]++L[j])) (Q++oM gap (LQ Q) (L[k]++L[j])++[⟨L[k]++L[j],dR d (L[k]++L[j])⟩])/\(L[k]++L[j]).length<=900000/\∀r∈Q,r.toks.length<=900000):=Hh ⟨by rw[<-An];exact HM.out.1.row hkl Ay.out hj (by omega),by rw[List.length_append];have:=Aw.out;omega,HM.out.2⟩;clear y1 y2 y3 y4;generalize L[k]++L[j]=T at *;generalize (some ⟨g5,0,none⟩:Option Addr)=sa at A0;generalize c5=sc at *;rw[An]
     clear An hj Ai HM Ay AF A3 AN AC HC HP Aw AZ q1 q2)
    all_goals
     have hc:=A0.out.1;have lc:=hc.lt;have A5:=BS wc (.slice sa T.length sc) T 0 0 A0.out.2.1.toks (by have:=Ae.out.2.1;omega) (by omega);have A6:=fun W=>nJ (JK T (mr T 0 0)) ng W;obtain⟨cb,AI⟩:∃x,kZ T=x:=⟨_,rfl⟩;have AJ:=Hh ((MV T).trans AI);have Aq:=Hh AI;clear AI;generalize JK T (mr T 0 0)=t at A5 A6 AJ;obtain⟨kd,tx,ps⟩:=t;simp only[eO,Cc] at A5 A6;obtain⟨Aa,Ac,Ab,Ad⟩:=hc.n2 rfl;clear hc;go_wp2_with fail;refine A5.mono ?_;rintro _ w5 ⟨rfl,Ar⟩;have AO:=Hh (kU A0.out Ar);clear A5 Ar A0 Aa Ab Ac Ad;go_wp2_with fail;refine (A6 _).mono ?_;rintro _ _ ⟨rfl,rfl⟩;rw[AJ.out];have Ag:=Hh (kU AO.out (dM w5 ⟨kd,tx,ps⟩));clear A6 AO AJ;generalize w5.alloc (kg ⟨kd,tx,ps⟩)=wz at Ag ⊢;have Bf:Q.length<=k:=Ap.1;have B0:IntKind.i64.wrap (d-1)=d-1:=IntWalk.i64_in _ (by omega);have B1:IntKind.i64.wrap (d+1)=d+1:=IntWalk.i64_in _ (by omega);have B2:IntKind.i64.wrap (d-1+1)=d-1+1:=IntWalk.i64_in _ (by omega);cases cb
     focus (
      cases gap
      focus (
       go_upto_region 16 with fail
       have Am:Hid (wK L (i1+1) false (dD d T) (Q++[⟨T,dR d T⟩])/\T.length<=900000/\∀r∈Q,r.toks.length<=900000):=Hh ⟨by have h:=Ae.out.1;have As:=Aq.out;simpa [oM] using h,Ae.out.2⟩
       clear Ae Ap)
      rotate_left
      by_cases h0:Q.length=0
      case' pos=>
       obtain⟨qn,Af⟩:∃x:Nat,x=Q.length:=⟨_,rfl⟩;have e0:decide ((0:Int)<(qn:Int))=false:=by simp;omega
       have e1:decide (0<qn)=false:=by simp;omega
       have e2:(0<qn)=False:=by simp;omega
       have AT:Hid (Q=[]):=Hh (List.eq_nil_of_length_eq_zero h0);rw[<-Af];have HQ:=Hh Af;clear h0 Af;go_upto_region 16 with fail
       have Af:=HQ.out;clear HQ e0 e1 e2;subst Af;have Am:Hid (wK L (i1+1) false (dD d T) (Q++[⟨T,dR d T⟩])/\T.length<=900000/\∀r∈Q,r.toks.length<=900000):=Hh ⟨by have h:=Ae.out.1;have As:=Aq.out;have hq:=AT.out;simpa [oM,LQ,hq] using h,Ae.out.2⟩;clear Ae Ap AT
      case' neg=>
       obtain⟨m,hm⟩:∃m,Q.length=m+1:=⟨Q.length-1,by omega⟩;have A7:m<Q.length:=by omega
       obtain⟨b3,s3,e3,Br,AH,c0,c1⟩:=(Ag.out.2.2.1.tr hB).get A7;obtain⟨a3,n3,p3⟩:=s3;simp only[bQ] at c0 AH;cases e3
       have A8:Q.length+1<=k:=Ap.2 rfl;have Ah:=o8 wz (.slice a3 n3 p3) Q[m].toks Q[m].dep AH.toks (by have:=Ae.out.2.2 Q[m] (List.getElem_mem A7);omega)
       have A2:Hid (LQ Q=some (iK Q[m].toks)):=Hh (by
        unfold LQ;have e:Q.length-1=m:=by omega
        rw[List.getLast?_eq_getElem?,e,List.getElem?_eq_getElem A7];rfl)
       simp only[Cc] at Ah;generalize iK Q[m].toks=ob at Ah A2;generalize Q[m].dep=dp3 at Ah c1;obtain⟨qn,Af⟩:∃x:Nat,x=Q.length:=⟨_,rfl⟩;have e0:decide ((0:Int)<(qn:Int))=true:=by simp;omega
       have e1:decide (0<qn)=true:=by simp;omega
       have e2:(0<qn)=True:=by simp;omega
       have kq:IntKind.i64.wrap ((qn:Int)-1)=(m:Int):=by rw[IntWalk.i64_in _ (by omega)];omega
       have Bl:(0:Int)<=(m:Int):=by omega
       have Bm:(m:Int)<(qn:Int):=by omega
       have Bn:m<qn:=by omega
       rw[<-Af];have HQ:=Hh Af;have AE:=Hh A8;have Be:Hid (1<=Q.length):=Hh (by omega);clear h0 Af AH hm A7 A8 Ap;go_wp2_with fail;refine Ah.mono ?_;rintro _ w7 ⟨rfl,hb7⟩;have AP:=Hh (kU Ag.out hb7);clear Ah hb7 Ag c0 c1 e0 e1 e2 kq Bl Bm Bn;have Ag:=AP;clear AP;generalize w7=wz at *;cases ob
       focus (
        go_wp2_with (with_reducible first|refine aA ?_)
        refine Stop.out ?_;have Af:=HQ.out;subst Af;obtain⟨x1,x2,x3,x4⟩:=kU Ag.out ((Below.refl _ wz).alloc lz (.cells #[.slice none 0 0,.int .i64 0] 103));obtain⟨D,d1,d2,d3⟩:=x3;have Az:D.length=Q.length:=by rw[<-d1,List.length_map]
        have A8:=AE.out;refine gD rfl _ _ rfl w.heap.size (.slice (some ⟨b3,0,none⟩) Q.length oc) D ((none,0,0),⟨[],0⟩) rfl (by exact d2) wz.heap.size rfl (by exact aa.new wz #[.slice none 0 0,.int .i64 0] 103) (by omega) (by exact x4.size) ?_;intro nv w9 ho9 hg9;obtain⟨na,nc,rfl⟩:=pJ ho9;have xc:=x1.kept hg9 (fun e=>Ax.out _ e.symm rfl)
        have At:∀q,(Value.slice na (D.length+1) nc).ownBlock=some q->q≠wr.heap.size:=by
         intro q e hqe;rw[hqe] at e;rcases ho9.2 with ⟨-,h3⟩|⟨g,cap,cur,he,hgb,hgc,h3,h4,h5,h6⟩
         ·omega
         ·cases he
          have e':g=wr.heap.size:=Option.some.inj e;rw[e',show w9.heap[wr.heap.size]?=_ from xc] at hgc;simp only[Option.some.injEq,Obj.cells.injEq] at hgc;have hz:=congrArg Array.size hgc.1;rw[h5] at hz;simp at hz
          have Bz:=Be.out;omega
        have AK:D.length+1=(Q++[(⟨[],0⟩:aS)]).length:=by simp[Az]
        have xt:aI B w9 (bQ (sa,T.length,sc)) T:=bJ x2 fun q e=>hg9.block q (World.ownsRow.lt x2 q e).2 (fun q2=>jR x2 d2 (by decide) q e q2.symm);have xr:=iJ.push d1 d2 d3 aI.nil hg9 ho9;have xb:=x4.grown hg9 (by exact x4.size) (fun q e=>(World.ownsRow.lt d2 q e).1);rw[AK] at At xr ⊢
        have Am:Hid (wK L (i1+1) false (dD d T) (Q++[⟨[],0⟩]++[⟨T,dR d T⟩])/\T.length<=900000/\∀r∈Q++[(⟨[],0⟩:aS)],r.toks.length<=900000):=Hh ⟨by
         have h:=Ae.out.1;have As:=Aq.out;rw[A2.out] at h
         simpa [oM,As] using h,Ae.out.2.1,fun r hr=>by
         rcases List.mem_append.1 hr with hr|hr
         ·exact Ae.out.2.2 r hr
         ·rw[List.mem_singleton.1 hr];exact Nat.zero_le _⟩
        have Bf:(Q++[(⟨[],0⟩:aS)]).length<=k:=by rw[<-AK];omega
        have Ag:=Jh xc (And.intro xt (And.intro xr xb));have Ax:=Hh At;clear xc xt xr xb At AK d1 d2 d3 ho9 hg9 x1 x2 x4 Az HQ AE A8 A2 Ae;generalize Q++[(⟨[],0⟩:aS)]=Q at *;generalize w9=wz at *;generalize na=oa at *;generalize nc=oc at *
        go_upto_region 16 with fail)
       rotate_left
       case' true=>
        go_upto_region 16 with fail
        have Af:=HQ.out;subst Af;generalize (some ⟨b3,0,none⟩:Option Addr)=oa at Ag Ax ⊢
        have Am:Hid (wK L (i1+1) false (dD d T) (Q++[⟨T,dR d T⟩])/\T.length<=900000/\∀r∈Q,r.toks.length<=900000):=Hh ⟨by
         have h:=Ae.out.1;rw[A2.out] at h
         simpa [oM] using h,Ae.out.2⟩
        clear Ae HQ AE A2
      all_goals
       have hc:=Ag.out.1;have lc:=hc.lt;obtain⟨Aa,Ac,Ab,Ad⟩:=hc.n2 rfl;have Ao:Hid (wK L (i1+1) false (if iK T then d+1 else d) (Q++[⟨T,d⟩])/\T.length<=900000/\∀r∈Q,r.toks.length<=900000):=Hh (by have h:=Am.out;unfold dD dR at h;rw[Aq.out] at h;exact h);clear hc Am;go_upto_region 20 with fail
       have Aj:Hid (aa (wz.setCell ⟨wr.heap.size,1,none⟩ (.int .i64 d)) wr.heap.size #[.slice sa T.length sc,.int .i64 d] 103/\aI B (wz.setCell ⟨wr.heap.size,1,none⟩ (.int .i64 d)) (bQ (sa,T.length,sc)) T/\iJ w.heap.size B (wz.setCell ⟨wr.heap.size,1,none⟩ (.int .i64 d)) (.slice oa Q.length oc) Q/\Below w.heap.size w (wz.setCell ⟨wr.heap.size,1,none⟩ (.int .i64 d))):=
        Hh ⟨Ag.out.1.set 1 (by simp) _,dx Ag.out.2.1 Ag.out.1 (by decide) 1 _,Ag.out.2.2.1.moved (fun q e=>Below.heap_setCell _ _ _ _ (by exact Ax.out q e)) (fun h=>dx h Ag.out.1 (by decide) 1 _),Ag.out.2.2.2.setCell (by exact AA) _⟩
       generalize wz.setCell ⟨wr.heap.size,1,none⟩ (.int .i64 d)=wy at Aj ⊢;clear Ag Aa Ac Ab Ad lc;have hc:=Aj.out.1;have lc:=hc.lt;obtain⟨Aa,Ac,Ab,Ad⟩:=hc.n2 rfl;have Ah:=o8 wy (.slice sa T.length sc) T (d) Aj.out.2.1.toks (by have:=Ao.out.2.1;omega);simp only[Cc] at Ah;obtain⟨ob,Au⟩:∃x,iK T=x:=⟨_,rfl⟩;rw[Au] at Ah;have AD:=Hh Au;clear Au hc;go_wp2_with fail;refine Ah.mono ?_;rintro _ w8 ⟨rfl,hb8⟩;have A4:=Hh (kU Aj.out hb8);clear Ah hb8 Aj Aa Ac Ab Ad lc;have hc:=A4.out.1;have lc:=hc.lt;obtain⟨Aa,Ac,Ab,Ad⟩:=hc.n2 rfl;clear hc;cases ob
       all_goals
        go_wp2_with (with_reducible first|refine aA ?_)
        refine Stop.out ?_;obtain⟨x1,x2,x3,x4⟩:=kU A4.out ((Below.refl _ w8).alloc lz (.cells #[.slice sa T.length sc,.int .i64 (d)] 103));obtain⟨D,d1,d2,d3⟩:=x3;have Az:D.length=Q.length:=by rw[<-d1,List.length_map]
        refine gD rfl _ _ rfl w.heap.size (.slice oa Q.length oc) D ((sa,T.length,sc),⟨T,d⟩) rfl (by exact d2) w8.heap.size rfl (by exact aa.new w8 #[.slice sa T.length sc,.int .i64 (d)] 103) (by omega) (by exact x4.size) ?_;intro nv w9 ho9 hg9;obtain⟨na,nc,rfl⟩:=pJ ho9;have HF:=Jh (iJ.push d1 d2 d3 x2 hg9 ho9) (x4.grown hg9 (by exact x4.size) (fun q e=>(World.ownsRow.lt d2 q e).1));clear x1 x2 x4 d1 d2 d3 ho9 hg9 Az Aa Ac Ab Ad lc;go_wp2_with fail;go_roundw
        case rel=>exact⟨i1+1,false,_,Q++[⟨T,d⟩],by omega,by go_num,rfl,rfl,by omega,HF.out.1,⟨by simp;omega,fun h=>by cases h⟩,Hh ⟨by have h:=Ao.out.1;rw[AD.out] at h;first|exact h|(rw[if_pos rfl,Int.sub_add_cancel] at h;exact h),fun r hr=>by
         rcases List.mem_append.1 hr with hr|hr
         ·exact Ao.out.2.2 r hr
         ·rw[List.mem_singleton.1 hr];exact Ao.out.2.1⟩,HF.out.2⟩
        case measure=>simp[intOf]<;>omega
      )
     focus (
      cases gap
      focus (
       go_upto_region 16 with fail
       have Am:Hid (wK L (i1+1) false (dD d T) (Q++[⟨T,dR d T⟩])/\T.length<=900000/\∀r∈Q,r.toks.length<=900000):=Hh ⟨by have h:=Ae.out.1;have As:=Aq.out;simpa [oM] using h,Ae.out.2⟩
       clear Ae Ap)
      rotate_left
      by_cases h0:Q.length=0
      case' pos=>
       obtain⟨qn,Af⟩:∃x:Nat,x=Q.length:=⟨_,rfl⟩;have e0:decide ((0:Int)<(qn:Int))=false:=by simp;omega
       have e1:decide (0<qn)=false:=by simp;omega
       have e2:(0<qn)=False:=by simp;omega
       rw[<-Af];have HQ:=Hh Af;clear h0 Af;go_upto_region 16 with fail
       have Af:=HQ.out;clear HQ e0 e1 e2;subst Af;have Am:Hid (wK L (i1+1) false (dD d T) (Q++[⟨T,dR d T⟩])/\T.length<=900000/\∀r∈Q,r.toks.length<=900000):=Hh ⟨by have h:=Ae.out.1;have As:=Aq.out;simpa [oM,As] using h,Ae.out.2⟩;clear Ae Ap
      case' neg=>
       obtain⟨qn,Af⟩:∃x:Nat,x=Q.length:=⟨_,rfl⟩;have e0:decide ((0:Int)<(qn:Int))=true:=by simp;omega
       have e1:decide (0<qn)=true:=by simp;omega
       have e2:(0<qn)=True:=by simp;omega
       rw[<-Af];have HQ:=Hh Af;clear h0 Af;go_upto_region 16 with fail
       have Af:=HQ.out;clear HQ e0 e1 e2;subst Af;have Am:Hid (wK L (i1+1) false (dD d T) (Q++[⟨T,dR d T⟩])/\T.length<=900000/\∀r∈Q,r.toks.length<=900000):=Hh ⟨by have h:=Ae.out.1;have As:=Aq.out;simpa [oM,As] using h,Ae.out.2⟩;clear Ae Ap
      all_goals
       have hc:=Ag.out.1;have lc:=hc.lt;obtain⟨Aa,Ac,Ab,Ad⟩:=hc.n2 rfl;have Ao:Hid (wK L (i1+1) false (if iK T then (d-1)+1 else (d-1)) (Q++[⟨T,(d-1)⟩])/\T.length<=900000/\∀r∈Q,r.toks.length<=900000):=Hh (by have h:=Am.out;unfold dD dR at h;rw[Aq.out] at h;exact h);clear hc Am;go_upto_region 20 with fail
       have Aj:Hid (aa (wz.setCell ⟨wr.heap.size,1,none⟩ (.int .i64 (d-1))) wr.heap.size #[.slice sa T.length sc,.int .i64 (d-1)] 103/\aI B (wz.setCell ⟨wr.heap.size,1,none⟩ (.int .i64 (d-1))) (bQ (sa,T.length,sc)) T/\iJ w.heap.size B (wz.setCell ⟨wr.heap.size,1,none⟩ (.int .i64 (d-1))) (.slice oa Q.length oc) Q/\Below w.heap.size w (wz.setCell ⟨wr.heap.size,1,none⟩ (.int .i64 (d-1)))):=
        Hh ⟨Ag.out.1.set 1 (by simp) _,dx Ag.out.2.1 Ag.out.1 (by decide) 1 _,Ag.out.2.2.1.moved (fun q e=>Below.heap_setCell _ _ _ _ (by exact Ax.out q e)) (fun h=>dx h Ag.out.1 (by decide) 1 _),Ag.out.2.2.2.setCell (by exact AA) _⟩
       generalize wz.setCell ⟨wr.heap.size,1,none⟩ (.int .i64 (d-1))=wy at Aj ⊢;clear Ag Aa Ac Ab Ad lc;have hc:=Aj.out.1;have lc:=hc.lt;obtain⟨Aa,Ac,Ab,Ad⟩:=hc.n2 rfl;have Ah:=o8 wy (.slice sa T.length sc) T ((d-1)) Aj.out.2.1.toks (by have:=Ao.out.2.1;omega);simp only[Cc] at Ah;obtain⟨ob,Au⟩:∃x,iK T=x:=⟨_,rfl⟩;rw[Au] at Ah;have AD:=Hh Au;clear Au hc;go_wp2_with fail;refine Ah.mono ?_;rintro _ w8 ⟨rfl,hb8⟩;have A4:=Hh (kU Aj.out hb8);clear Ah hb8 Aj Aa Ac Ab Ad lc;have hc:=A4.out.1;have lc:=hc.lt;obtain⟨Aa,Ac,Ab,Ad⟩:=hc.n2 rfl;clear hc;cases ob
       all_goals
        go_wp2_with (with_reducible first|refine aA ?_)
        refine Stop.out ?_;obtain⟨x1,x2,x3,x4⟩:=kU A4.out ((Below.refl _ w8).alloc lz (.cells #[.slice sa T.length sc,.int .i64 ((d-1))] 103));obtain⟨D,d1,d2,d3⟩:=x3;have Az:D.length=Q.length:=by rw[<-d1,List.length_map]
        refine gD rfl _ _ rfl w.heap.size (.slice oa Q.length oc) D ((sa,T.length,sc),⟨T,(d-1)⟩) rfl (by exact d2) w8.heap.size rfl (by exact aa.new w8 #[.slice sa T.length sc,.int .i64 ((d-1))] 103) (by omega) (by exact x4.size) ?_;intro nv w9 ho9 hg9;obtain⟨na,nc,rfl⟩:=pJ ho9;have HF:=Jh (iJ.push d1 d2 d3 x2 hg9 ho9) (x4.grown hg9 (by exact x4.size) (fun q e=>(World.ownsRow.lt d2 q e).1));clear x1 x2 x4 d1 d2 d3 ho9 hg9 Az Aa Ac Ab Ad lc;go_wp2_with fail;go_roundw
        case rel=>exact⟨i1+1,false,_,Q++[⟨T,(d-1)⟩],by omega,by go_num,rfl,rfl,by omega,HF.out.1,⟨by simp;omega,fun h=>by cases h⟩,Hh ⟨by have h:=Ao.out.1;rw[AD.out] at h;first|exact h|(rw[if_pos rfl,Int.sub_add_cancel] at h;exact h),fun r hr=>by
         rcases List.mem_append.1 hr with hr|hr
         ·exact Ao.out.2.2 r hr
         ·rw[List.mem_singleton.1 hr];exact Ao.out.2.1⟩,HF.out.2⟩
        case measure=>simp[intOf]<;>omega
      )
  ·obtain rfl:k=L.length:=by omega
   have hE:=HM.out.1.end;obtain⟨oa,oc,rfl⟩:=hQ.shape;have HS:=Jh hQ hb;clear hQ hb hkl;go_wp2_with fail;go_ret;rw[hE];exact⟨_,rfl,HS.out⟩
theorem iJ.low{B1 B B0:Nat}{w:World}{v:Value}{R:List aS}(h:iJ B1 B w v R)(h1:B0<=B1)(h2:B0<=B):D7 B0 w v R:=by
 obtain⟨D,q1,q2,q3⟩:=h;exact⟨D,q1,pK q2 h1,fun d hd=>pK (q3 d hd) h2⟩
theorem Ei(s:ByteArray)(w:World)(hT:jf w)(hTb:zt w.heap.size w)(hs:s.size<=400000)(hn:(bR s.data.toList).length<=1000000)(hl:∀r∈bR s.data.toList,r.toks.length<=400000)
  (hF:(dK s.data.toList).2.2=0->(∀r∈il ((bR s.data.toList).map (·.toks)),zw r)/\(lD ((bR s.data.toList).map (·.toks))).length<=400000000/\(il ((bR s.data.toList).map (·.toks))).length<=1000000) :
  Calls Tryz.prog 13 #[.string s] w fun e w'=>e=.returned (.tuple #[.string ⟨(iq s.data.toList).1.toArray⟩,.int .i64 (iq s.data.toList).2.1,.int .i64 (iq s.data.toList).2.2])/\Below w.heap.size w w':=by
 have hP:=zk s w hT (by omega);obtain⟨X,hX⟩:=exq (dK s.data.toList);have Ad:iq s.data.toList=if X.2.2=0 then (lD ((bR s.data.toList).map (·.toks)),-1,0) else ([],X.2):=by rw[hX];rfl
 rw[Ad];rw[<-hX] at hF hP;clear Ad hX;obtain⟨X1,Aj,er⟩:=X;go_enter Tryz.func13,Tryz.ntmps13;go_wp2_with fail;refine hP.mono ?_;rintro _ w1 ⟨⟨v1,rfl,-⟩,hb1⟩
 by_cases h0:er=0
 ·subst h0
  simp only at hF;obtain⟨Ae,Af⟩:=hF (by trivial);have HF:=Jh Ae Af;clear hF Ae Af;go_wp2_with fail;have Ac:w.heap.size<=w1.heap.size:=hb1.size;have Ab:Below w.heap.size w (w1.alloc (.cells #[.pointer none,.slice none 0 0] 69)):=hb1.alloc Ac _;have hR:=ER s _ (hT.below Ab) (by omega) hn;have HW:=Hh (BW.start w1 w1.heap.size lz);have Ai:=Hh Ab;clear hb1 Ab;generalize hw2:w1.alloc (.cells #[.pointer none,.slice none 0 0] 69)=w2 at *;have Am:w2.heap.size=w1.heap.size+1:=by rw[<-hw2];simp
  clear hw2;refine hR.mono ?_;rintro _ w3 ⟨v3,rfl,hK,hb3⟩;have hM:=IJ w3 v3 _ hK hb3.size (by simpa using hn) (by simpa using hl);clear hR;go_wp2_with fail;refine hM.mono ?_;rintro _ w4 ⟨v4,rfl,hO,hb4⟩;have Al:=hb3.size;have Ag:=(HW.out.below hb3).below hb4;have Aa:Below w.heap.size w w4:=(Ai.out.trans (hb3.mono (by omega))).trans (hb4.mono (by omega));have Ah:=GU _ v4 Ag (hO.low (by omega) (by omega)) HF.out.1 HF.out.2.2 (by have:=HF.out.2.1;simpa [lD] using this) (fun W q=>hTb W (Aa.trans (q.mono Ac)));have HS:=Jh Aa Ac;clear hM hO hK Ag Aa;go_wp2_with fail;refine Ah.mono ?_;rintro _ w5 ⟨rfl,hW5,hb5⟩;have Ak:=sj w5 (by exact hW5.2.choose_spec.2) (by have:=hb3.size;have:=hb4.size;have:=hb5.size;omega) (by have:=HF.out.2.1;simpa [lD] using Nat.le_trans this (by decide));have HZ:=Jh hb3 (And.intro hb4 hb5);clear Ah hW5 hb3 hb4 hb5;go_wp2_with fail;refine Ak.mono ?_;rintro _ w6 ⟨rfl,hb6,-⟩;go_wp2_with fail;refine bodyPost_ret (v:=.tuple #[.string ⟨([]++dP (il ((bR s.data.toList).map kD.toks)) []).toArray⟩,.int .i64 (-1),.int .i64 0]) (by simp[results,Tryz.results13,go_sem]) rfl ?_;refine⟨by trivial,HS.out.1.trans ((HZ.out.2.2.trans hb6).mono HS.out.2)⟩
 ·have h1:(er != 0)=true:=by simpa using h0
  have HB:=Hh hb1;clear hb1 hF;go_wp2_with fail;refine bodyPost_ret (v:=.tuple #[.string ⟨#[]⟩,.int .i64 Aj,.int .i64 er]) (by simp[results,Tryz.results13,go_sem]) rfl ?_;simp only[if_neg h0];exact⟨by trivial,HB.out⟩
theorem jf.tabB{w:World}(h:jf w):zt w.heap.size w:=fun _ hW=>(h.below hW).utf
theorem BQ{l:Bs}(h:(dK l).2.2=0)(hl:l.length<=4500):(lD ((bR l).map (·.toks))).length<=400000000:=by
 have:=Ha h;have h2:(2*(l.length+1))*(4*(128+2*l.length)+2)<=(2*(4500+1))*(4*(128+2*4500)+2):=Nat.mul_le_mul (by omega) (by omega);omega
theorem wS(s:ByteArray)(w:World)(hT:jf w)(hs:s.size<=4500) :
  Calls Tryz.prog 13 #[.string s] w fun e w'=>e=.returned (.tuple #[.string (av (iq s.data.toList).1),.int .i64 (iq s.data.toList).2.1,.int .i64 (iq s.data.toList).2.2])/\Below w.heap.size w w':=by
 have hl:s.data.toList.length=s.size:=eX s;have h1:=sK s.data.toList;refine Ei s w hT hT.tabB (by omega) (by omega) (fun r hr=>by have:=h1.2.2 r hr;omega) (fun h=>⟨JX h (by omega),BQ h (by omega),?_⟩);have:=(wT ((bR s.data.toList).map (·.toks))).2;rw[List.length_map] at this;omega
abbrev N7:Bs:=[97,61,49,10,98,32,32,123,10,125,10]
theorem G7:iq N7=([97,32,61,32,49,10,98,32,123,125,10],-1,0):=by kernel_rfl
theorem vB(w:World)(hT:jf w):Calls Tryz.prog 12 #[] w fun e w'=>e=.returned (.bool true)/\Below w.heap.size w w':=by
 have hA:=wS (av N7) w hT (by decide);rw[bi,G7] at hA;have e1:av [97,32,61,32,49,10,98,32,123,125,10]=⟨#[97,32,61,32,49,10,98,32,123,125,10]⟩:=rfl;have e2:av N7=⟨#[97,61,49,10,98,32,32,123,10,125,10]⟩:=rfl;rw[e2] at hA;simp only[e1] at hA;clear e1 e2;go_enter Tryz.func12,Tryz.ntmps12;go_wp2_with fail;refine hA.mono ?_;clear hA;rintro _ w2 ⟨rfl,hb2⟩;have HB:=Hh hb2;clear hb2;go_wp2;go_ret;exact⟨rfl,HB.out⟩
theorem xA(size:Int):∀(toks cur:List ag) (fr o:Int),DY cur->∀r∈eD size toks cur fr o,DY r.toks
 | [],cur,fr,o,hc=>by
  rw[eD];split
  ·intro r hr
   rw[List.mem_singleton.1 hr];exact hc
  ·intro r hr;cases hr
 | t::toks,cur,fr,o,hc=>by
  rw[eD];split
  ·intro r hr
   rcases List.mem_cons.1 hr with rfl|hr
   ·exact hc
   ·exact xA size toks [] _ _ (fun u hu=>by cases hu) r hr
  ·next h5=>
   exact xA size toks (cur++[t]) _ _ (fun u hu=>by
    rcases List.mem_append.1 hu with hu|hu
    ·exact hc u hu
    ·rw[List.mem_singleton.1 hu];exact h5)
theorem JY(l:Bs):∀r∈(bR l).map (·.toks),DY r:=by
 intro r hr;obtain⟨d,hd,rfl⟩:=List.mem_map.1 hr;unfold bR at hd;split at hd
 ·exact xA _ _ [] _ _ (fun u hu=>by cases hu) d hd
 ·cases hd
theorem Kv:∀(l:List aO) (d:Int) (pv:Option Bool),(∀q∈mE l d pv,0<=q.dep/\q.dep<=64)->NN l d
 |[],_,_,_=>trivial
 | f::l,d,pv,h=>by
  rw[mE] at h;exact⟨h ⟨f.toks,dR d f.toks⟩ (List.mem_append_right _ (by simp)),Kv l _ (some (iK f.toks)) fun q hq=>h q (List.mem_append_right _ (List.mem_cons_of_mem _ hq))⟩
theorem Eh{l:Bs}(h:(dK l).2.2=0)(hl:l.length<=4500) :
  (gm l).length<=900000/\(∀r∈gm l,r.length<=400000)/\qI (gm l)<=800000/\(iM (gm l) false []).length<=1000000/\(∀f∈iM (gm l) false [],Oq f/\DY f.toks)/\NN (iM (gm l) false []) 0/\sP (gm l)=lD (gm l)/\(sP (gm l)).length<=400000000:=by
 have hw:=sK l;have Aa:=Bp h;have Ae:=JY l;have Ac:=xu h;have Ad:=BQ h hl;have Ab:=G9 h;rw[FV]
 have Ag:∀r∈(bR l).map (·.toks),r.length<=400000:=fun r hr=>by
  obtain⟨d,hd,rfl⟩:=List.mem_map.1 hr;have:=hw.2.2 d hd;omega
 have Af:((bR l).map (·.toks)).length<=900000:=by rw[List.length_map];omega
 generalize (bR l).map (·.toks)=L at *
 have e:iM L false []=fU L.length false L:=by
  rw[uj L.length L false [] lz Aa.1 (by rintro⟨o,x,q,h,-⟩;cases h),List.nil_append]
 have Ah:=wI L.length false L;refine⟨Af,Ag,by omega,by rw[e];omega,?_,?_,Ab.symm,by rw[<-Ab];exact Ad⟩
 ·rw[e]
  intro f hf;have h1:=Aa.2 f hf;have h2:=Ah.1 f hf;refine⟨⟨h1,by have:=su f.toks;omega,?_⟩,?_⟩
  ·rw[<-uN f.toks.length h1.ne h1.len]
   have:=ou f.toks 0;omega
  ·obtain⟨-,h3⟩:=uk _ _ _ f hf
   rcases h3 with h3|⟨r,x,h3,h4,h5,-,-⟩
   ·exact Ae _ h3
   ·rw[h3]
    intro t ht;rcases List.mem_append.1 ht with ht|ht
    ·exact Ae _ h4 t ht
    ·exact Ae _ h5 t ht
 ·rw[e]
  exact Kv _ _ none Ac
theorem sS(s:ByteArray)(w:World)(hs:s.size<=4500) :
  Calls Tryz.prog 14 #[.string s] w fun e w'=>e=.returned (.agg #[.string (av (iq s.data.toList).1),.int .i64 (iq s.data.toList).2.1,.int .i64 (iq s.data.toList).2.2])/\Below w.heap.size w w':=by
 have A2:s.data.toList.length=s.size:=eX s;have At:=aa.new w #[.string ⟨#[]⟩,.int .i64 0,.int .i64 0] 30;have As:=(Below.refl _ w).alloc lz (.cells #[.string ⟨#[]⟩,.int .i64 0,.int .i64 0] 30);have hP:=Cn s (w.alloc (.cells #[.string ⟨#[]⟩,.int .i64 0,.int .i64 0] 30)) (by omega);have hX:iq s.data.toList=if (dK s.data.toList).2.2=0 then (lD (gm s.data.toList),-1,0) else ([],(dK s.data.toList).2):=by unfold iq;rw[FV]
 have Al:=fun h=>Eh (l:=s.data.toList) h (by omega);obtain⟨X,Ar⟩:=exq (iq s.data.toList);rw[<-Ar] at hX ⊢;generalize dK s.data.toList=Y at *;obtain⟨L,Aa,er⟩:=Y;simp only at hX Al hP;have HX:=Hh hX;have Aw:=Hh Al;have Ao:=Hh At;have Am:=Hh As;clear hX Al At As Ar;go_enter Tryz.func14,Tryz.ntmps14;go_wp2_with fail;refine hP.mono ?_;clear hP;rintro _ w1 ⟨hb1,ia,ic,rfl,-⟩;have An:=Hh (Am.out.trans (hb1.mono Am.out.size));have Ap:=Hh (Ao.out.below hb1 Ao.out.lt);clear hb1;go_upto_region 2 with fail
 have Ae:Below w1.heap.size w1 (w1.alloc (.cells (gotY (.slice ia L.length ic) 0 Aa er) 56)):=(Below.refl _ w1).alloc lz _;have hx:=aa.new w1 (gotY (.slice ia L.length ic) 0 Aa er) 56;have Ac:=Hh (An.out.trans (Ae.mono An.out.size));have Ab:=Hh (Ap.out.below Ae Ap.out.lt);generalize w1.alloc (.cells (gotY (.slice ia L.length ic) 0 Aa er) 56)=w2 at *;have A3:=hx.lt;have Ay:=hx.cell 2 (.int .i64 Aa) rfl;have Az:=hx.cell 3 (.int .i64 er) rfl;clear hx Ae;have hc:=Ab.out;have A0:=hc.lt
 by_cases he:er=0
 ·subst he
  obtain⟨r1,r2,r3,r4,r5,r6,r7,r8⟩:=Aw.out (by first|trivial|rfl);have hT:=Cu s w2 (iM (gm s.data.toList) false []) (Cv s w2 (by omega) r1 r2 r3) r4 r5 r6 r8;have Aq:ni (iM (gm s.data.toList) false []) (iM (gm s.data.toList) false []).length 0 0 none=lD (gm s.data.toList):=r7;rw[Aq] at hT;have Ad:Hid (X=(lD (gm s.data.toList),-1,0)):=Hh (by rw[HX.out,if_pos (by first|trivial|rfl)]);generalize lD (gm s.data.toList)=TB at *;clear r1 r2 r3 r4 r5 r6 r7 r8 Aq hc;go_wp2_with fail;refine hT.mono ?_;clear hT;rintro _ w3 ⟨rfl,hb3⟩;have Au:=Hh (Ac.out.trans (hb3.mono Ac.out.size));have hc:=Ab.out.below hb3 Ab.out.lt;have Av:=Hh hc;have Ax:=hc.lt;clear hb3 Ay Az;obtain⟨Af,Ai,Ag,Aj,Ah,Ak⟩:=hc.n3 rfl;clear hc;go_wp2_with fail;have hq:=Av.out.put [.string (av TB),.int .i64 (-1),.int .i64 0] 0;have z0:=hq.cell 0 (.string (av TB)) rfl;have z1:=hq.cell 1 (.int .i64 (-1)) rfl;have z2:=hq.cell 2 (.int .i64 0) rfl;simp only[ai] at z0 z1 z2;refine bodyPost_ret (v:=.agg #[.string (av TB),.int .i64 (-1),.int .i64 0]) (by simp[results,Tryz.results14,go_sem,z0,z1,z2]) rfl ?_;refine⟨by rw[Ad.out],?_⟩;show Below w.heap.size w (ai w3 w.heap.size 0 [.string (av TB),.int .i64 (-1),.int .i64 0])
  exact aL _ _ lz _ _ _ _ Au.out
 ·have A1:(er != 0)=true:=by simpa using he
  have Ad:Hid (X=([],Aa,er)):=Hh (by rw[HX.out,if_neg he]);clear he;obtain⟨Af,Ai,Ag,Aj,Ah,Ak⟩:=hc.n3 rfl;clear hc;go_wp2_with fail;have hq:=Ab.out.put [.string ⟨#[]⟩,.int .i64 Aa,.int .i64 er] 0;have z0:=hq.cell 0 (.string ⟨#[]⟩) rfl;have z1:=hq.cell 1 (.int .i64 Aa) rfl;have z2:=hq.cell 2 (.int .i64 er) rfl;simp only[ai] at z0 z1 z2;refine bodyPost_ret (v:=.agg #[.string ⟨#[]⟩,.int .i64 Aa,.int .i64 er]) (by simp[results,Tryz.results14,go_sem,z0,z1,z2]) rfl ?_;refine⟨by rw[Ad.out];rfl,?_⟩;show Below w.heap.size w (ai w2 w.heap.size 0 [.string ⟨#[]⟩,.int .i64 Aa,.int .i64 er]);exact aL _ _ lz _ _ _ _ Ac.out
def qP(s:ByteArray):ByteArray:=if (iq s.data.toList).2.2=0 then av (iq s.data.toList).1 else s
theorem LJ(a0:Value)(l0:List ByteArray)(w:World)(h:RowOf Value.string w a0 l0)(hT:jf w)(hn:l0.length<=1000)(hs:∀s∈l0,s.size<=4500) :
  Calls Tryz.prog 15 #[a0] w fun e w'=>∃v,e=.returned v/\RowOf Value.string w' v (l0.map qP)/\Below w.heap.size w w':=by
 obtain⟨a,c,rfl,Ao,Al,-⟩:=h.len;unfold maxLen at Al;have H:=Hh h;have HT:=Hh hT;have HS:=Hh hs;clear h hT hs;go_enter Tryz.func15,Tryz.ntmps15;go_wp2_with fail;go_loopw [3,11] (fun lv i wr=>∃(k:Nat) (P:List ByteArray),k<=l0.length/\i=.int .i64 (k:Int)/\aX Value.string 9 w.heap.size wr lv P/\Below w.heap.size w wr/\P.length<=k/\Hid (P=(l0.take k).map qP)) (fun _ i _=>l0.length-(intOf i).toNat)
 case atStart=>exact⟨0,[],Nat.zero_le _,rfl,aX.nil,Below.refl _ _,Nat.le_refl _,Hh rfl⟩
 case round=>
  obtain⟨k,P,hk,rfl,Ab,hb,Am,Af⟩:=hrel;obtain⟨oa,oc,rfl,-⟩:=Ab.row.len;have HO:=Hh Ab;have HB:=Hh hb;have An:=hb.size
  by_cases hkl:k<l0.length
  ·obtain⟨b,Ar,rfl,Ap,Ad⟩:=(H.out.below hb lz).at hkl
   have Aj:=Ad k hkl;have hA:=wS l0[k] wr (HT.out.below hb) (HS.out _ (List.getElem_mem hkl));have Ac:Hid (qP l0[k]=if (iq l0[k].data.toList).2.2=0 then av (iq l0[k].data.toList).1 else l0[k]):=Hh rfl;obtain⟨X,hX⟩:=exq (iq l0[k].data.toList);rw[<-hX] at hA Ac;obtain⟨X1,X2,X3⟩:=X;simp only at hA Ac;obtain⟨s,hs⟩:=exq l0[k];rw[<-hs] at Aj hA;have Ak:=Hh hs;clear Ab hb Ad hX hs;go_wp2_with fail;refine hA.mono ?_;clear hA;rintro _ w2 ⟨rfl,hb2⟩;have Ae:=Hh (HB.out.trans (hb2.mono HB.out.size));have HO:=Hh (HO.out.below hb2 lz);clear hb2 Aj
   by_cases he:X3=0
   ·subst he
    have Ai:Hid (qP l0[k]=av X1):=Hh (by rw[Ac.out,if_pos (by first|trivial|rfl)]);clear Ac;have Ac:=Ai;clear Ai;generalize av X1=S1 at *;go_wp2_with (with_reducible first|refine aA ?_)
    refine Stop.out ?_;have Aa:=aX.lit (f:=Value.string) (E:=9) (base:=w2.heap.size) (w:=w2) [S1] lz (by simp[maxLen]);refine fG rfl _ _ _ rfl w.heap.size 9 16 (.string ⟨#[]⟩) Tryz.underlying34 Tryz.infoStr rfl (fun _=>rfl) P [S1] (by exact HO.out.alloc _) Aa.row (by simp;unfold maxLen;omega) (by simp;omega) (by have:=Ae.out.size;simp;omega) (w2.alloc (.cells #[.string S1] 9)) (Below.refl _ _) ?_;intro v3 w3 hown3 hb3 hg3;obtain⟨Ag,Ah,rfl,-⟩:=hown3.row.len;have HN:Hid (aX Value.string 9 w.heap.size w3 (.slice Ag (P++[S1]).length Ah) (P++[S1])/\Below w.heap.size w w3/\P++[S1]=(l0.take (k+1)).map qP):=Hh ⟨hown3,(Ae.out.alloc Ae.out.size _).trans hb3,by rw[List.take_succ_eq_append_getElem hkl,List.map_append,<-Af.out,List.map_cons,List.map_nil,Ac.out]⟩;clear Aa hown3 hb3 hg3;go_wp2_with fail;go_roundw
    case rel=>exact⟨k+1,P++[S1],hkl,by go_num,by have q:=HN.out.1;rw[List.length_append] at q;exact q,HN.out.2.1,by simp;omega,Hh HN.out.2.2⟩
    case measure=>simp[intOf]<;>omega
   ·have Aq:(X3 != 0)=true:=by simpa using he
    have Ac:Hid (qP l0[k]=s):=Hh (by rw[Ac.out,if_neg he,Ak.out]);clear he;go_wp2_with (with_reducible first|refine aA ?_)
    refine Stop.out ?_;have Aa:=aX.lit (f:=Value.string) (E:=9) (base:=w2.heap.size) (w:=w2) [s] lz (by simp[maxLen]);refine fG rfl _ _ _ rfl w.heap.size 9 16 (.string ⟨#[]⟩) Tryz.underlying34 Tryz.infoStr rfl (fun _=>rfl) P [s] (by exact HO.out.alloc _) Aa.row (by simp;unfold maxLen;omega) (by simp;omega) (by have:=Ae.out.size;simp;omega) (w2.alloc (.cells #[.string s] 9)) (Below.refl _ _) ?_;intro v3 w3 hown3 hb3 hg3;obtain⟨Ag,Ah,rfl,-⟩:=hown3.row.len;have HN:Hid (aX Value.string 9 w.heap.size w3 (.slice Ag (P++[s]).length Ah) (P++[s])/\Below w.heap.size w w3/\P++[s]=(l0.take (k+1)).map qP):=Hh ⟨hown3,(Ae.out.alloc Ae.out.size _).trans hb3,by rw[List.take_succ_eq_append_getElem hkl,List.map_append,<-Af.out,List.map_cons,List.map_nil,Ac.out]⟩;clear Aa hown3 hb3 hg3;go_wp2_with fail;go_roundw
    case rel=>exact⟨k+1,P++[s],hkl,by go_num,by have q:=HN.out.1;rw[List.length_append] at q;exact q,HN.out.2.1,by simp;omega,Hh HN.out.2.2⟩
    case measure=>simp[intOf]<;>omega
  ·obtain rfl:k=l0.length:=by omega
   have HR:Hid (RowOf Value.string wr (.slice oa P.length oc) (l0.map qP)):=Hh (by have q:=Af.out;rw[List.take_length] at q;rw[<-q];exact Ab.row);clear Ab hb;go_wp2_with fail;go_ret;exact⟨_,rfl,HR.out,HB.out⟩
theorem TidyMany_walk(a0:Value)(l0:List ByteArray)(w:World)(w0:RowOf Value.string w a0 l0)(hT:jf w) :
  Calls Tryz.prog 6 #[a0] w fun e w'=>e=.returned (.bool true)/\Below w.heap.size w w':=by
 have hW:=vB w hT;obtain⟨a,c,rfl,Aw,Ao,-⟩:=w0.len;unfold maxLen at Ao;have H:=Hh w0;clear w0;go_enter Tryz.func6,Tryz.ntmps6;go_wp2_with fail;refine hW.mono ?_;clear hW;rintro _ v1 ⟨rfl,hb1⟩;have An:=Hh (hT.below hb1);have Ag:=Hh hb1;have H1:=Hh (H.out.below hb1 lz);clear hb1 hT H
 by_cases h8:8<l0.length
 ·go_wp2
  go_ret;exact⟨rfl,Ag.out⟩
 go_wp2_with fail;go_loopw [16] (fun i wr=>∃k:Nat,k<=l0.length/\i=.int .i64 (k:Int)/\Hid (∀j (h:j<l0.length),j<k->l0[j].size<=500)/\wr=v1) (fun i _=>l0.length-(intOf i).toNat)
 case atStart=>exact⟨0,Nat.zero_le _,rfl,Hh (fun j _ h=>by omega),rfl⟩
 case round=>
  obtain⟨k,hk,rfl,HA,rfl⟩:=hrel
  by_cases hkl:k<l0.length
  ·obtain⟨b,Av,rfl,Ap,Aa⟩:=H1.out.at hkl
   have Ak:=Aa k hkl;obtain⟨z,hz⟩:=exq l0[k].size;have HZ:=Hh hz
   by_cases h5:500<l0[k].size
   ·generalize l0[k]=s at *
    clear Aa;go_wp2_with fail;go_ret;exact⟨rfl,Ag.out⟩
   ·have Al:Hid (∀j (h:j<l0.length),j<k+1->l0[j].size<=500):=Hh (fun j h hj=>by
     by_cases e:j=k
     ·subst e;omega
     ·exact HA.out j h (by omega))
    clear HZ hz;generalize l0[k]=s at *;clear Aa HA;go_wp2_with fail;go_roundw
    case rel=>exact⟨k+1,hkl,by go_num,Al,by first|trivial|rfl⟩
    case measure=>simp[intOf]<;>omega
  ·obtain rfl:k=l0.length:=by omega
   have hM:=LJ _ l0 wr H1.out An.out (by omega) (fun s hs=>by
    obtain⟨j,hj,rfl⟩:=List.mem_iff_getElem.1 hs;have:=HA.out j hj hj
    omega)
   go_wp2_with fail;refine hM.mono ?_;clear hM;rintro _ v2 ⟨ov,rfl,hR,hb2⟩;obtain⟨oa,oc,rfl,As,At,-⟩:=hR.len;rw[List.length_map] at As;simp only[List.length_map] at hR ⊢;have Aj:=Hh (Ag.out.trans (hb2.mono Ag.out.size));have HR:=Hh hR;have H2:=Hh (H1.out.below hb2 lz);unfold maxLen at At;clear hR hb2;go_wp2_with fail;go_loopw [33] (fun i wq=>∃k:Nat,k<=l0.length/\i=.int .i64 (k:Int)/\Hid (Below v2.heap.size v2 wq)) (fun i _=>l0.length-(intOf i).toNat)
   case atStart=>exact⟨0,Nat.zero_le _,rfl,Hh (Below.refl _ _)⟩
   case round=>
    obtain⟨k,hk,rfl,HQ⟩:=hrel
    by_cases hkl:k<l0.length
    ·obtain⟨b,Av,rfl,Ap,Aa⟩:=(H2.out.below HQ.out lz).at hkl
     have Ak:=Aa k hkl;obtain⟨b2,Af,rfl,Ad,Ab⟩:=(HR.out.below HQ.out lz).at (j:=k) (by rw[List.length_map];exact hkl);have Ai:=Ab k (by rw[List.length_map];exact hkl);rw[List.getElem_map] at Ai;have Au:=HA.out k hkl hkl;have hP:=sS l0[k] wr (by omega);have Ah:Hid (qP l0[k]=if (iq l0[k].data.toList).2.2=0 then av (iq l0[k].data.toList).1 else l0[k]):=Hh rfl;obtain⟨O,hO⟩:=exq (qP l0[k]);rw[<-hO] at Ai Ah;generalize iq l0[k].data.toList=X at *;obtain⟨X1,X2,X3⟩:=X;simp only at hP Ah;generalize l0[k]=s at *;generalize av X1=S1 at *;have Ae:∀W,Below wr.heap.size wr W->W.cell? ⟨b2,Af+k,none⟩=some (.string O)/\b2<W.heap.size:=fun W hW=>⟨(hW.cell (p:=⟨b2,Af+k,none⟩) Ad).trans Ai,Nat.lt_of_lt_of_le Ad hW.size⟩;have Am:=Hh Ae;clear Aa Ab Ai Ae hO Au;go_wp2_with fail;refine hP.mono ?_;clear hP;rintro _ w3 ⟨rfl,hb3⟩;have Ac:=Hh (HQ.out.trans (hb3.mono HQ.out.size));obtain⟨y1,y2⟩:=Am.out w3 hb3;clear hb3 Ak;have Ay:(k:Int)<(l0.length:Int):=by omega
     have Ax:(0:Int)<=(k:Int):=by omega
     have Aq:¬b2=w3.heap.size:=by omega
     have Ar:¬w3.heap.size=b2:=by omega
     have HE:Hid (∀o:Obj,∀v:Value,Below v2.heap.size v2 ((w3.alloc o).setCell ⟨w3.heap.size,0,none⟩ v)):=Hh (fun o v=>(Ac.out.alloc Ac.out.size o).setCell (by exact Ac.out.size) v)
     by_cases he:X3=0
     ·subst he
      have ho:O=S1:=by rw[Ah.out,if_pos (by first|trivial|rfl)]
      subst ho;go_wp2_with fail;go_quiet (fail)
      go_wp2_with fail;go_roundw
      case rel=>
       refine⟨k+1,hkl,by go_num,Hh ?_⟩;exact ah (Ac.out.alloc Ac.out.size _) _
      case measure=>simp[intOf]<;>omega
     ·have Az:(X3 != 0)=true:=by simpa using he
      have ho:O=s:=by rw[Ah.out,if_neg he]
      subst ho;clear he;go_wp2_with fail;go_quiet (fail)
      go_wp2_with fail;go_roundw
      case rel=>
       refine⟨k+1,hkl,by go_num,Hh ?_⟩;exact ah (Ac.out.alloc Ac.out.size _) _
      case measure=>simp[intOf]<;>omega
    ·obtain rfl:k=l0.length:=by omega
     go_wp2_with fail;go_ret;exact⟨rfl,Aj.out.trans (HQ.out.mono Aj.out.size)⟩
end Go.Proofs.YtbcdaaobbebooaaGreatDoor
namespace Go.Tab
open Go.Lib
def qd(P:Program)(W:World)(n:String)(d:DataW Unit):Prop:=
 ∃g t cs fuel p,P.globalNamed n=some g/\(P.globals[g]?).map (·.type)=some t/\W.var? P n=some cs/\DataW.trod (fun _=>()) P W 0 (fun _=>true) false fuel t cs.toList=some (d,p)
theorem zS{P:Program}{W:World}:∀{L:List (String×DataW Unit)} {ps:List MemPlace},DataW.LaidVars P W L ps->∀n d,(n,d)∈L->qd P W n d
 |[],_,_,_,_,h=>by cases h
 | (n',d')::L,_,h0,n,d,h=>by
  obtain⟨g,t,cs,fuel,p,q,h1,h2,h3,h4,h5,_⟩:=h0;rcases List.mem_cons.1 h with h|h
  ·cases h;exact⟨g,t,cs,fuel,p,h1,h2,h3,h4⟩
  ·exact zS h5 n d h
theorem pU{P:Program}{W:World}{L:List (String×DataW Unit)}(h:laidMet P L W){n:String}{d:DataW Unit}(hm:(n,d)∈L):qd P W n d:=by
 obtain⟨ps,h1,_⟩:=h;exact zS h1 n d hm
theorem qd.tab{P:Program}{W:World}{name:String}{k:IntKind}{zs:List Int}{g:Nat}{t e:TypeId}{n:Nat}
  (hg:P.globalNamed name=some g) (hty:(P.globals[g]?).map (·.type)=some t) (ht:P.underlying t=some (.array n e)) (he:P.underlying e=some (.int k)) (hce:P.cellsOf e=1) (hct:P.cellsOf t=n)
  (h:qd P W name (tabData k zs)):TabIs P W name k zs:=by
 obtain⟨g',t',cs,Ab,p,Ac,Ad,Aa,hd⟩:=h;obtain rfl:=Option.some.inj (hg.symm.trans Ac);obtain rfl:=Option.some.inj (hty.symm.trans Ad);unfold TabIs;rw[Aa,<-cells_of_tab ht he hce hct hd]
theorem zf{H:Type}{enc:TypeId×Value->H}{P:Program}{w:World}{base:Nat}{sp:Nat->Bool}{held:Bool}{fuel:Nat}{t e i:TypeId}{n m:Nat}{k:IntKind}{cs:List Value}{zss:List (List Int)}{p:List MemPlace}
  (ht:P.underlying t=some (.array n e)) (he:P.underlying e=some (.array m i)) (hi:P.underlying i=some (.int k)) (hci:P.cellsOf i=1) (hce:P.cellsOf e=m) (hct:P.cellsOf t=n*m)
  (h:DataW.trod enc P w base sp held fuel t cs=some (.agg (zss.map fun zs=>tabData k zs),p)):∀a (ha:a<zss.length),((cs.drop (a*m)).take m)=zss[a].map fun z=>Value.int k z:=by
 cases fuel with
 |zero=>simp[DataW.trod] at h
 |succ fuel=>
  simp only[DataW.trod,ht,hce] at h;split at h
  ·rename_i hl
   obtain⟨xs,hm,hx⟩:=Option.map_eq_some_iff.1 h
   have Aa:xs.map (·.1)=zss.map fun zs=>(tabData k zs:DataW H):=by
    have:=congrArg Prod.fst hx
    simpa using this
   have Ac:xs.length=n:=by simpa using mapM_length hm
   have Ab:zss.length=n:=by
    have:=congrArg List.length Aa;simp at this
    omega
   intro a ha;obtain⟨b,hb,hf⟩:=mapM_at hm a a (by simp[Ab ▸ ha]);have h2:(xs.map (·.1))[a]?=some b.1:=by simp[hb]
   rw[Aa] at h2;simp only[List.getElem?_map] at h2;rw[List.getElem?_eq_getElem ha] at h2;have h3:b.1=tabData k zss[a]:=(Option.some.inj h2).symm;have h4:DataW.trod enc P w base sp held fuel e ((cs.drop (a*m)).take m)=some (tabData k zss[a],b.2):=by rw[hf,<-h3]
   exact cells_of_tab he hi hci hce h4
  ·cases h
theorem qd.tabs{P:Program}{W:World}{name:String}{k:IntKind}{zss:List (List Int)}{g:Nat}{t e i:TypeId}{n m:Nat}
  (hg:P.globalNamed name=some g) (hty:(P.globals[g]?).map (·.type)=some t) (ht:P.underlying t=some (.array n e)) (he:P.underlying e=some (.array m i)) (hi:P.underlying i=some (.int k)) (hci:P.cellsOf i=1) (hce:P.cellsOf e=m) (hct:P.cellsOf t=n*m)
  (h:qd P W name (.agg (zss.map fun zs=>tabData k zs))) (a b:Nat) (ha:a<zss.length) (hb:b<zss[a].length) (hbm:b<m):W.cell? ⟨g,a*m+b,none⟩=some (.int k zss[a][b]):=by
 obtain⟨g',t',cs,Ab,p,Ac,Ad,Aa,hd⟩:=h;obtain rfl:=Option.some.inj (hg.symm.trans Ac);obtain rfl:=Option.some.inj (hty.symm.trans Ad);have h1:=zf ht he hi hci hce hct hd a ha
 have h2:cs[a*m+b]?=some (.int k zss[a][b]):=by
  have:=congrArg (·[b]?) h1;simp only[List.getElem?_take,List.getElem?_drop,List.getElem?_map] at this;rw[if_pos hbm,List.getElem?_eq_getElem hb] at this
  simpa using this
 have h3:=World.var?_cell hg Aa (a*m+b);rw[h3,h2]
end Go.Tab
namespace Go.Tab
theorem NQ{P:Program}{L:List (String×DataW Unit)}{W:World}(h:laidMetH P L W)(hf:(L.filter fun x=>x.2.handleName?.isSome)=[]):laidMet P L W:=by
 unfold laidMetH at h;rw[hf] at h;exact h
end Go.Tab
namespace Go.Tab
open Go.Lib
theorem zh{H:Type}{enc:TypeId×Value->H}{P:Program}{w:World}{base:Nat}{sp:Nat->Bool}{held:Bool}{fuel:Nat}{t e:TypeId}{n:Nat}{cs:List Value}{zs:List (List UInt8)}{p:List MemPlace}
  (ht:P.underlying t=some (.array n e)) (he:P.underlying e=some .string) (hce:P.cellsOf e=1) (hct:P.cellsOf t=n)
  (h:DataW.trod enc P w base sp held fuel t cs=some (.agg (zs.map fun z=>(.lit (.string z):DataW H)),p)):∀i (hi:i<zs.length),cs[i]?=some (Value.string ⟨zs[i].toArray⟩):=by
 cases fuel with
 |zero=>simp[DataW.trod] at h
 |succ fuel=>
  simp only[DataW.trod,ht,hce,hct,Nat.mul_one] at h;split at h
  ·rename_i hl
   obtain⟨xs,hm,hx⟩:=Option.map_eq_some_iff.1 h
   have Aa:xs.map (·.1)=zs.map fun z=>(DataW.lit (.string z):DataW H):=by
    have:=congrArg Prod.fst hx
    simpa using this
   have Ac:xs.length=n:=by simpa using mapM_length hm
   have Ab:zs.length=n:=by
    have:=congrArg List.length Aa;simp at this
    omega
   intro i hi;obtain⟨b,hb,hf⟩:=mapM_at hm i i (by simp[Ab ▸ hi]);obtain⟨s,hc,rfl,_⟩:=DataW.trod_string he hf
   have h1:cs[i]?=some (.string s):=by
    have:=congrArg (·[0]?) hc
    simpa [List.getElem?_take,List.getElem?_drop] using this
   have h2:(xs.map (·.1))[i]?=some (DataW.lit (.string s.data.toList):DataW H):=by simp[hb]
   rw[Aa] at h2;simp only[List.getElem?_map,List.getElem?_eq_getElem hi,Option.map_some,Option.some.injEq,DataW.lit.injEq,Lit.string.injEq] at h2;rw[h1,h2]
  ·cases h
theorem qd.strs{P:Program}{W:World}{name:String}{zs:List (List UInt8)}{g:Nat}{t e:TypeId}{n:Nat}
  (hg:P.globalNamed name=some g) (hty:(P.globals[g]?).map (·.type)=some t) (ht:P.underlying t=some (.array n e)) (he:P.underlying e=some .string) (hce:P.cellsOf e=1) (hct:P.cellsOf t=n)
  (h:qd P W name (.agg (zs.map fun z=>.lit (.string z)))) (i:Nat) (hi:i<zs.length):W.cell? ⟨g,i,none⟩=some (.string ⟨zs[i].toArray⟩):=by
 obtain⟨g',t',cs,Ab,p,Ac,Ad,Aa,hd⟩:=h;obtain rfl:=Option.some.inj (hg.symm.trans Ac);obtain rfl:=Option.some.inj (hty.symm.trans Ad);have h2:=zh ht he hce hct hd i hi;have h3:=World.var?_cell hg Aa i;rw[h3]
 simpa using h2
def Ng:Nat->DataW Unit->List Value
 |0,_=>[]
 |_+1,.lit (.int k z)=>[.int k z]
 |_+1,.lit (.string s)=>[.string ⟨s.toArray⟩]
 |n+1,.agg xs=>xs.flatMap (Ng n)
 |_,_=>[]
def ME(P:Program)(h:Array Obj)(nd:String×DataW Unit):Array Obj:=
 match P.globalNamed nd.1,Ng 4 nd.2 with
 | some g,v::vs=>h.modify g fun o=>match o with
  |.cells _ t f=>.cells (v::vs).toArray t f
  |o=>o
 |_,_=>h
def layAllS(P:Program)(L:List (String×DataW Unit))(h:Array Obj):Array Obj:=L.foldl (ME P) h
end Go.Tab
namespace Go.Proofs.YtbcdaaobbebooaaGreatDoor
open Go.RowKit Go.Tab
def rC:List (List Int):=[[1,9,2,3,9,9,9],[9,9,2,3,9,9,9],[9,9,9,9,4,6,9],[9,9,3,3,4,6,9],[9,9,5,5,9,9,9],[9,9,5,5,9,6,9],[7,7,8,8,9,9,9],[9,9,8,8,9,9,9],[9,9,8,8,9,9,9]]
theorem Hf:∀j:Fin 63,((rC.getD (j.val / 7) []).getD (j.val % 7) 0)=((aP.getD j.val 9:Nat):Int):=by decide +kernel
theorem NY:Tryz.prog.globalNamed "tabularium/num.steps"=some 3:=by kernel_rfl
theorem Ny:(Tryz.prog.globals[3]?).map (·.type)=some 203:=by kernel_rfl
theorem c1:Tryz.prog.cellsOf 3=1:=by kernel_rfl
theorem c7:Tryz.prog.cellsOf 202=7:=by kernel_rfl
theorem PN:Tryz.prog.cellsOf 203=9*7:=by kernel_rfl
theorem N9:(Rows.laid_tabularium_num_steps:DataW Unit)=.agg (rC.map fun zs=>Lib.tabData .i64 zs):=by kernel_rfl
theorem OA:∀a:Fin 9,(rC.getD a.val []).length=7:=by decide +kernel
theorem OL:Tryz.prog.globalNamed "tabularium/utf.sizes"=some 1:=by kernel_rfl
theorem KZ:(Tryz.prog.globals[1]?).map (·.type)=some 192:=by kernel_rfl
theorem Lp:Tryz.prog.cellsOf 192=32:=by kernel_rfl
def AB:List Int:=[1,1,1,1,1,1,1,1,1,1,1,1,1,1,1,1,0,0,0,0,0,0,0,0,2,2,2,2,3,3,4,0]
theorem Hl:∀j:Fin 32,AB.getD j.val 0=((dU (8*j.val):Nat):Int):=by decide +kernel
theorem Oa:(Rows.laid_tabularium_utf_sizes:DataW Unit)=Lib.tabData .i64 AB:=by kernel_rfl
theorem Pg:Tryz.prog.globalNamed "tabularium/lex.doubles"=some 0:=by kernel_rfl
theorem O8:(Tryz.prog.globals[0]?).map (·.type)=some 186:=by kernel_rfl
theorem OO:Tryz.prog.cellsOf 9=1:=by kernel_rfl
theorem c6:Tryz.prog.cellsOf 186=6:=by kernel_rfl
theorem Ph:(Rows.laid_tabularium_lex_doubles:DataW Unit)=.agg (mi.map fun z=>.lit (.string z)):=by kernel_rfl
theorem OM:mi.length=6:=by decide +kernel
theorem Gh{L:List (String×DataW Unit)}{W:World}(hL:laidMetH Tryz.prog L W)(hf:(L.filter fun x=>x.2.handleName?.isSome)=[])(hsh:W.ShapedOpen Tryz.prog)
  (h1:("tabularium/utf.sizes",Rows.laid_tabularium_utf_sizes)∈L) (h2:("tabularium/num.steps",Rows.laid_tabularium_num_steps)∈L) (h3:("tabularium/lex.doubles",Rows.laid_tabularium_lex_doubles)∈L):jf W:=by
 have met:=NQ hL hf;have l1:=pU met h1;have l2:=pU met h2;have l3:=pU met h3;rw[Oa] at l1;rw[N9] at l2;rw[Ph] at l3;refine⟨fun j hj=>?_,fun j hj=>?_,fun j hj=>?_,?_⟩
 ·have t:=l1.tab OL KZ Tryz.underlying192 Tryz.underlying3 c1 Lp
  have hc:=t.cell OL j (by simpa [AB] using hj);rw[hc,show AB.getD j 0=_ from Hl ⟨j,hj⟩]
 ·have ha:j / 7<rC.length:=by show j / 7<9;omega
  have hg:rC.getD (j / 7) []=rC[j / 7]:=by rw[List.getD_eq_getElem?_getD,List.getElem?_eq_getElem ha];rfl
  have hr:=OA ⟨j / 7,ha⟩;simp only[hg] at hr;have hb:j % 7<(rC[j / 7]).length:=by rw[hr];omega
  have h3:=l2.tabs NY Ny Tryz.underlying203 Tryz.underlying202 Tryz.underlying3 c1 c7 PN (j / 7) (j % 7) ha hb (by omega);rw[show j / 7*7+j % 7=j by omega] at h3;rw[h3];have h4:=Hf ⟨j,hj⟩;simp only[hg] at h4;rw[List.getD_eq_getElem?_getD,List.getElem?_eq_getElem hb] at h4;rw[<-h4];rfl
 ·have h:=l3.strs Pg O8 Tryz.underlying186 Tryz.underlying9 OO c6 j (by rw[OM];exact hj)
  rw[h,List.getD_eq_getElem?_getD,List.getElem?_eq_getElem (by rw[OM];exact hj)];rfl
 ·exact cell_of_shapedOpen_int (t:=3) (zero:=#[.int .i64 0]) hsh (by decide +kernel) (by kernel_rfl) rfl (by kernel_rfl) (by kernel_rfl) Tryz.underlying3
theorem tab_of_TidyMany{W:World}(hL:laidMetH Tryz.prog Rows.tidyManyRow.laid W)(hsh:W.ShapedOpen Tryz.prog):jf W:=Gh hL (by kernel_rfl) hsh (.tail _ (.head _)) (.tail _ (.tail _ (.head _))) (.tail _ (.tail _ (.tail _ (.head _))))
end Go.Proofs.YtbcdaaobbebooaaGreatDoor
