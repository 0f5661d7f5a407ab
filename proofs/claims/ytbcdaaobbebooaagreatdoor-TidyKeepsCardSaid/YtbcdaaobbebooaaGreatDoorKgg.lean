import Derived.Test.YtbcdaaobbebooaaGreatDoorKgf
import Derived.Laws.EntriesVeiled
import Derived.Deep.AppendLies
set_option linter.unusedSimpArgs false
set_option linter.unusedVariables false
set_option maxRecDepth 100000
set_option maxHeartbeats 20000000
namespace Go.Proofs.YtbcdaaobbebooaaGreatDoor
open Go.RowKit Go.Tab
def sM(w:World)(g:Nat):Nat:=match w.cell? ⟨g,1,none⟩ with
 |some (.int _ n)=>n.toNat
 |_=>0
theorem iZ.pos{w:World}{g:Nat}{lv:Value}{k:Nat}{e:Int}(h:iZ w g lv (k:Nat) e):sM w g=k:=by
 unfold sM;rw[ae.cell h 1 (.int .i64 (k:Nat)) rfl];simp
def TL(w0:World)(q q2 g bp bd bt:Nat)(lv:Value)(l:List ag)(k d n m:Nat)(R:eX)(wr:World):Prop:=
  Rs w0 q g wr/\FW wr g bp bd bt d/\∃o t a nn c,ae wr q2 #[.string o,.string t,.slice a nn c] 52/\
    ((∃j x k',j<=m/\oP wr g lv l k'/\k<=k'/\R=dO (k'-k) (ai j (.tloop n x) (l.drop k') d)/\af (fun b=>w0.heap.size<=b/\b≠q/\b≠q2) wr x (dQ o t (.slice a nn c)))\/
     (∃(k':Nat) (e:Int),iZ wr g lv (k':Nat) e/\e≠0/\k<=k'/\R=(aU,k'-k,e)))
theorem mg(a b:Nat)(g:eX):dO a (dO b g)=dO (a+b) g:=by unfold dO;simp only[Nat.add_assoc]
theorem qb{P:Nat->Prop}{b:Nat}{W:World}{op text:ByteArray}(kids:List (dR×List Value))(hc:ae W b (kids.flatMap (·.2)).toArray 52)(hP:P b)(hk:∀s∈kids,af P W s.1 s.2)(hm:kids.length<=maxLen) :
  af P W (.mk op text (kids.map (·.1))) [.string op,.string text,.slice (some ⟨b,0,none⟩) kids.length kids.length]:=by
 have Aa:(kids.map (·.1)).length=kids.length:=List.length_map ..;have h3:∀s∈kids,s.2.length=3:=fun s hs=>(hk s hs).len3;simp only[af];refine⟨some ⟨b,0,none⟩,kids.length,by rw[Aa],by rw[Aa];exact Nat.le_refl _,hm,(fun h=>by cases h),fun x hx _=>?_⟩;cases hx
 refine⟨rfl,⟨hc.lt,hP,fun off=>hc.frozen off⟩,fe.make _ 0 (fun k hkl=>?_)⟩;rw[Aa] at hkl;refine⟨kids[k].2,fun j u hu=>?_,?_⟩
 ·rw[Nat.zero_add]
  refine hc.cell _ _ ?_;have hj:j<3:=by have:=(List.getElem?_eq_some_iff.1 hu).1;rw[h3 _ (List.getElem_mem hkl)] at this;exact this
  simp only[List.getElem?_toArray];rw[qo kids h3 k hkl j hj];exact hu
 ·rw[List.getElem_map]
  exact hk _ (List.getElem_mem hkl)
theorem aB.setAllNew{w w':World}{g q:Nat}(h:aB g w w')(hq:w.heap.size<=q)(vals:List Value):aB g w (ak w' q 0 vals):=
 ⟨aS q 0 (Nat.zero_le _) vals 0 _ _ h.1,fun k hk hn=>(aL q vals 0 w' k (by omega)).trans (h.2 k hk hn)⟩
theorem Hw(m:Nat)(hT:BM m)(hTm:∀j,j<=m->Eh j):Eh (m+1):=by
 intro w g lv l k d n bp bd bt h hB hd hn1 hn7 hne;obtain⟨a0,n0,c0,rfl⟩:=h.sl;have hR:=Rs.start h;have h1:=h.step ((Below.refl _ w).alloc lz (.cells fH 52));have Am:=hB.save ((aB.refl g w).alloc (.cells fH 52));have BC:=h.le;have BO:=h.small;have BB:=h.box.lt;have H0:=Jh h hB;rw[ai] at hne ⊢;have B0:=Am.p.lt;have Bx:=Am.d.lt;have B7:=Am.t.lt;have A0:=Am.p.cell 0 _ rfl;have Az:=Am.d.cell 0 _ rfl;have A1:=Am.t.cell 0 _ rfl
 by_cases h7:n=7
 ·subst h7
  rw[if_pos (by omega)] at hne ⊢;have An:=fun w3 h3=>hT w3 g (.slice a0 n0 c0) l k d h3 hd hne;clear hne;generalize ai m .tight (l.drop k) d=r1 at *;obtain⟨x1,n1,e1⟩:=r1;go_enter Tryz.func216,Tryz.ntmps216;go_wp2_with fail;refine (An _ h1).mono ?_;rintro _ w4 ⟨hs4,hc9,o,t,a,n,c,rfl,hX⟩;have Aa:=hR.step hs4;have B5:w.heap.size<(w.alloc (.cells fH 52)).heap.size:=by simp
  have B8:w.heap.size<=(w.alloc (.cells fH 52)).heap.size:=by simp
  have HX:=Hh hX;clear hX hs4 hR h1 h An hB Am A0 Az A1;simp only at hc9;have Bq:=Aa.res.lt;have HR:=Jh Aa hc9;have Ad:=Aa.res;clear Aa hc9;obtain⟨Ag,Aj,Ah,Ak,Ai,Al⟩:=Ad.n3 rfl;clear Ad;go_wp2;obtain⟨Aa,hc9⟩:=HR.out;have hq:=((Aa.res.setI 0 (.string o)).setI 1 (.string t)).setI 2 (.slice a n c);obtain⟨hx,hy,hz⟩:=hq.m3 rfl;refine bodyPost_ret (v:=.agg #[.string o,.string t,.slice a n c]) (by simp[results,Tryz.results216,go_sem,hx,hy,hz]) rfl ?_;have A7:=Aa.fin [.string o,.string t,.slice a n c];have A5:=Aa.prc hc9 [.string o,.string t,.slice a n c];show XP g (.slice a0 n0 c0) k _ w _ (ak w4 w.heap.size 0 [.string o,.string t,.slice a n c]);exact⟨A7,A5,_,_,_,_,_,rfl,fun he=>af.keep B8 B5 (HX.out he)⟩
 ·have BF:n<7:=by omega
  have BG:((n:Int)==7)=false:=by rw[beq_eq_false_iff_ne];omega
  rw[if_neg (by omega)] at hne ⊢;have AS:=iC hne;have A9:(ai m (.term (n+1)) (l.drop k) d).2.1<=(l.drop k).length:=(eT m (.term (n+1)) (l.drop k) d (by simp only[Nt.okX];omega) AS).1;have An:=fun w3 h3 hb3=>hTm m lz w3 g (.slice a0 n0 c0) l k d (n+1) bp bd bt h3 hb3 hd (by omega) (by omega) AS;rw[show ((n+1:Nat):Int)=(n:Int)+1 by omega] at An;obtain⟨R,AL⟩:∃R,(il (ai m (.term (n+1)) (l.drop k) d) fun a k2=>dO k2 (ai m (.tloop n a) ((l.drop k).drop k2) d))=R:=⟨_,rfl⟩;rw[AL] at hne ⊢;have AI:=Hh AL;clear AL AS h7;generalize ai m (.term (n+1)) (l.drop k) d=r1 at *;obtain⟨x1,n1,e1⟩:=r1;go_enter Tryz.func216,Tryz.ntmps216;go_wp2_with fail;refine (An _ h1 Am).mono ?_;rintro _ w4 ⟨hs4,hc4,o,t,a,nn,c,rfl,hX⟩;simp only at hc4;have AY:=hR.step hs4;have AX:=Am.save hs4;have B9:=hs4.size;simp only[World.size_alloc] at B9;have Af:=AY.below ((Below.refl _ w4).alloc lz (.cells #[.string o,.string t,.slice a nn c] 52));have Ac:=AX.save ((aB.refl g w4).alloc (.cells #[.string o,.string t,.slice a nn c] 52));have A2:=hc4.alloc (.cells #[.string o,.string t,.slice a nn c] 52);have Ao:=ae.new w4 #[.string o,.string t,.slice a nn c] 52
  have Ba:TL w w.heap.size w4.heap.size g bp bd bt (.slice a0 n0 c0) l k d n m R (w4.alloc (.cells #[.string o,.string t,.slice a nn c] 52)):=by
   refine⟨Af,Ac,o,t,a,nn,c,Ao,?_⟩
   by_cases he:e1=0
   ·subst he
    left
    have Bc:=A9
    (try simp only at Bc)
    rw[List.length_drop] at Bc;refine⟨m,x1,k+n1,Nat.le_refl _,(h1.go hs4 hc4 (by omega)).step ((Below.refl _ w4).alloc lz _),by omega,?_,?_⟩
    ·rw[<-AI.out,bP (by rfl)]
     simp only[List.drop_drop];rw[show k+n1-k=n1 by omega]
    ·refine af.move (by simp) (fun b _ hlt=>Below.heap_alloc _ _ _ hlt) (fun b hb hlt=>?_) _ _ (hX rfl)
     simp only[World.size_alloc] at hb;exact⟨by omega,by omega,by omega⟩
   ·right
    exact⟨k+n1,e1,A2,he,by omega,by rw[<-AI.out,aZ (by exact he),show k+n1-k=n1 by omega]⟩
  have AV:=Hh Ba;clear Ba hX Ao A2 Ac Af AX AY hc4 hs4 Am hR h1 h An hB A0 Az A1 A9 AI;have BL:w.heap.size<w4.heap.size:=by omega
  go_wp2_with fail;go_loopw [7,8] (fun _ _ wr=>TL w w.heap.size w4.heap.size g bp bd bt (.slice a0 n0 c0) l k d n m R wr) (fun _ _ wr=>l.length+1-sM wr g)
  case atStart=>exact AV.out
  case round=>
   clear AV;obtain⟨Af,Ac,o5,t5,a5,Ab,c5,Ao,B4⟩:=hrel;have B0:=Ac.p.lt;have Bx:=Ac.d.lt;have B7:=Ac.t.lt;have A0:=Ac.p.cell 0 _ rfl;have Az:=Ac.d.cell 0 _ rfl;have A1:=Ac.t.cell 0 _ rfl;have BN:=Ao.lt;rcases B4 with ⟨j,x,k',hj,h5,hkk,hRe,hX⟩|⟨k',e,A2,he,hkk,hRe⟩
   ·cases hil:GG (l.drop k') n with
    |none=>
     have B2:((Ms (l.drop k'):Int)==(n:Int))=false:=by
      rw[beq_eq_false_iff_ne];intro e;obtain⟨o,ho⟩:=(Gj hn1 (by omega)).1 e;rw[hil] at ho;cases ho
     have Ax:=Gm wr g _ l k' h5
     have Bw:R=(x,k'-k,0):=by
      rw[hRe]
      cases j with
      |zero=>rw[hRe] at hne;exact absurd rfl hne
      |succ j=>rw[ai,hil];rfl
     generalize Ms (l.drop k')=rk at *;go_wp2_with fail;refine Ax.mono ?_;rintro _ _ ⟨rfl,nd,rfl⟩;have Aa:=Af.step ((aB.refl g wr).drewN nd);have hc9:=h5.box.drewN nd;have AR:=Ao.drewN nd;have HX:=Hh hX;clear Af Ac h5 A0 Az A1 Ao hX hRe Ax;have Bq:=Aa.res.lt;have HR:=Jh Aa hc9;have Ad:=Aa.res;clear Aa hc9;obtain⟨Ag,Aj,Ah,Ak,Ai,Al⟩:=Ad.n3 rfl;clear Ad;obtain⟨AB,AE,AC,AF,AD,AG⟩:=AR.n3 rfl;go_wp2;obtain⟨Aa,hc9⟩:=HR.out;have hq:=((Aa.res.setI 0 (.string o5)).setI 1 (.string t5)).setI 2 (.slice a5 Ab c5);obtain⟨hx,hy,hz⟩:=hq.m3 rfl;refine bodyPost_ret (v:=.agg #[.string o5,.string t5,.slice a5 Ab c5]) (by simp[results,Tryz.results216,go_sem,hx,hy,hz]) rfl ?_;have A7:=Aa.fin [.string o5,.string t5,.slice a5 Ab c5];have A5:=Aa.prc hc9 [.string o5,.string t5,.slice a5 Ab c5];show XP g (.slice a0 n0 c0) k _ w _ (ak (wr.drewN nd) w.heap.size 0 [.string o5,.string t5,.slice a5 Ab c5]);rw[Bw];have AP:k+(k'-k)=k':=by omega
     exact⟨A7,by show iZ _ g _ ((k+(k'-k):Nat)) 0;rw[AP];exact A5,_,_,_,_,_,rfl,fun _=>af.move (P:=fun b=>w.heap.size<=b/\b≠w.heap.size/\b≠w4.heap.size) (by rw[aA];exact Nat.le_refl _) (fun b hb _=>aL _ _ 0 _ b hb.2.1) (fun b hb _=>hb.1) x _ (af.below (bL _ _ _) x _ HX.out)⟩
    |some op=>
     have B2:((Ms (l.drop k'):Int)==(n:Int))=true:=by
      rw[beq_iff_eq];exact (Gj hn1 (by omega)).2 ⟨op,hil⟩
     have Ax:=Gm wr g _ l k' h5;have AN:k'<l.length:=by have:=xV hil;rw[List.length_drop] at this;omega
     obtain⟨tk,tq,Br,Bz⟩:=K8 hil
     have AT:l[k']=tk:=by
      rw[List.drop_eq_getElem_cons AN] at Br;exact (List.cons.inj Br).1
     obtain⟨tb,AU,B6,BP,Bu,AW,Bv⟩:=aH.get h5.toks AN;rw[AT,Bz] at AW;subst B6
     cases j with
     |zero=>rw[hRe] at hne;exact absurd rfl hne
     |succ j=>
     rw[ai,hil] at hRe;simp only at hRe;rw[List.drop_drop] at hRe
     have Bd:(il (dO 1 (ai j (.term (n+1)) (l.drop (k'+1)) d)) fun b k2=>dO k2 (ai j (.tloop n (.mk op iL [x,b])) ((l.drop k').drop k2) d)).2.2≠-1:=by
      rw[hRe] at hne;exact hne
     have Bn:(ai j (.term (n+1)) (l.drop (k'+1)) d).2.2≠-1:=iC (g:=dO 1 (ai j (.term (n+1)) (l.drop (k'+1)) d)) Bd;clear Bd;have AQ:(ai j (.term (n+1)) (l.drop (k'+1)) d).2.1<=(l.drop (k'+1)).length:=(eT j (.term (n+1)) (l.drop (k'+1)) d (by simp only[Nt.okX];omega) Bn).1;rw[List.length_drop] at AQ;have An:=fun w3 h3 hb3=>hTm j (by omega) w3 g (.slice (some ⟨tb,AU,none⟩) n0 c0) l (k'+1) d (n+1) bp bd bt h3 hb3 hd (by omega) (by omega) Bn;rw[show ((n+1:Nat):Int)=(n:Int)+1 by omega] at An;generalize ai j (.term (n+1)) (l.drop (k'+1)) d=r2 at *;obtain⟨x2,n2,e2⟩:=r2;have Bt:=Hh hRe;clear hRe;generalize Ms (l.drop k')=rk at *;go_wp2_with fail;refine Ax.mono ?_;rintro _ _ ⟨rfl,nd,rfl⟩;have BA:=h5.box.lt;have Bs:=Hh h5.box.pos;have A8:=h5.box
     have BD:((n0:Nat):Int)=(l.length:Int):=by
      obtain⟨a9,c9,By,-⟩:=h5.toks.len;cases By;rfl
     have BI:=Ac.np;have BH:=Ac.nd;have BJ:=Ac.nt;have B1:=Af.qg;have BK:=Af.res.lt;obtain⟨Aq,At,Ar,Au,As,Av⟩:=A8.n3 rfl;have HX:=Hh hX;clear hX;go_wp2_with fail;go_quiet (fail)
     go_wp2_with fail;have A3:aB g wr ((wr.drewN (nd+nq)).setCell ⟨g,1,none⟩ (.int .i64 ((k':Int)+1))):=((aB.refl g wr).drewN _).set 1 _;have AM:iZ ((wr.drewN (nd+nq)).setCell ⟨g,1,none⟩ (.int .i64 ((k':Int)+1))) g (.slice (some ⟨tb,AU,none⟩) n0 c0) ((k'+1:Nat)) 0:=(h5.box.drewN (nd+nq)).setI 1 (.int .i64 ((k':Int)+1));generalize (wr.drewN (nd+nq)).setCell ⟨g,1,none⟩ (.int .i64 ((k':Int)+1))=w6 at A3 AM ⊢;refine (An w6 (h5.go A3 AM AN) (Ac.save A3)).mono ?_;rintro _ w7 ⟨hs7,hc7,o2,t2,a2,m2,c2,rfl,hX2⟩;simp only at hc7 hX2;have Ae:=A3.trans hs7;have A6:=Af.step Ae;have AJ:=Ac.save Ae;have Be:=Ae.cells Ao (by omega);have BR:=A3.size;have BS:=hs7.size
     have AK:e2=0->oP w7 g (.slice (some ⟨tb,AU,none⟩) n0 c0) l (k'+1+n2):=fun he=>by
      subst he;exact h5.go Ae hc7 (by omega)
     have AH:af (fun b=>w.heap.size<=b/\b≠w.heap.size/\b≠w4.heap.size) w7 x (dQ o5 t5 (.slice a5 Ab c5)):=
      af.move Ae.size (fun b hb hlt=>Ae.2 b hlt (by omega)) (fun b hb _=>hb) x _ HX.out
     have H7:=Jh A6 (And.intro AJ (And.intro hc7 (And.intro AK (And.intro AH hX2))));clear Af Ac Ae A3 hs7 AM hc7 AK AH hX2 HX A8 Aq Ar As At Au Av Ao An Ax Bu AW Bv A0 Az A1 A6 AJ h5;have BQ:w4.heap.size<w7.heap.size:=by omega
     obtain⟨Bf,Bi,Bg,Bj,Bh,Bk⟩:=Be.n3 rfl;go_wp2_with fail;obtain⟨A6,AJ,hc7,AK,AH,hX2⟩:=H7.out;obtain⟨h,hB⟩:=H0.out;have AZ:=(A6.save.setAllNew (q:=w4.heap.size) (by omega) [.string op,.string ⟨#[]⟩,.slice (some ⟨w7.heap.size+1,0,none⟩) 2 2]);have Bb:iZ (ak w7 w4.heap.size 0 [.string op,.string ⟨#[]⟩,.slice (some ⟨w7.heap.size+1,0,none⟩) 2 2]) g _ _ _:=hc7.setAllOther (by omega);have Bl:ae (ak w7 w4.heap.size 0 [.string op,.string ⟨#[]⟩,.slice (some ⟨w7.heap.size+1,0,none⟩) 2 2]) w4.heap.size _ _:=Be.put [.string op,.string ⟨#[]⟩,.slice (some ⟨w7.heap.size+1,0,none⟩) 2 2] 0;have Bo:ae (ak w7 w4.heap.size 0 [.string op,.string ⟨#[]⟩,.slice (some ⟨w7.heap.size+1,0,none⟩) 2 2]) w.heap.size _ _:=A6.res.setAllOther (by omega);have Ay:=aA w4.heap.size [.string op,.string ⟨#[]⟩,.slice (some ⟨w7.heap.size+1,0,none⟩) 2 2] 0 w7;have AA:=fun b (hb:b≠w4.heap.size)=>aL w4.heap.size [.string op,.string ⟨#[]⟩,.slice (some ⟨w7.heap.size+1,0,none⟩) 2 2] 0 w7 b hb
     show TL w w.heap.size w4.heap.size g bp bd bt _ l k d n m R (((ak w7 w4.heap.size 0 [.string op,.string ⟨#[]⟩,.slice (some ⟨w7.heap.size+1,0,none⟩) 2 2]).alloc (.cells #[.string o2,.string t2,.slice a2 m2 c2] 52)).alloc (.cells #[.string o5,.string t5,.slice a5 Ab c5,.string o2,.string t2,.slice a2 m2 c2] 52))/\
      l.length+1-sM (((ak w7 w4.heap.size 0 [.string op,.string ⟨#[]⟩,.slice (some ⟨w7.heap.size+1,0,none⟩) 2 2]).alloc (.cells #[.string o2,.string t2,.slice a2 m2 c2] 52)).alloc (.cells #[.string o5,.string t5,.slice a5 Ab c5,.string o2,.string t2,.slice a2 m2 c2] 52)) g<l.length+1-sM wr g
     generalize ak w7 w4.heap.size 0 [.string op,.string ⟨#[]⟩,.slice (some ⟨w7.heap.size+1,0,none⟩) 2 2]=w8 at AZ Bb Bl Bo Ay AA ⊢;have Ap:=(AZ.alloc (.cells #[.string o2,.string t2,.slice a2 m2 c2] 52)).alloc (.cells #[.string o5,.string t5,.slice a5 Ab c5,.string o2,.string t2,.slice a2 m2 c2] 52);have hc9:=(Bb.alloc (.cells #[.string o2,.string t2,.slice a2 m2 c2] 52)).alloc (.cells #[.string o5,.string t5,.slice a5 Ab c5,.string o2,.string t2,.slice a2 m2 c2] 52);have Bm:=(Bl.alloc (.cells #[.string o2,.string t2,.slice a2 m2 c2] 52)).alloc (.cells #[.string o5,.string t5,.slice a5 Ab c5,.string o2,.string t2,.slice a2 m2 c2] 52);have Bp:=(Bo.alloc (.cells #[.string o2,.string t2,.slice a2 m2 c2] 52)).alloc (.cells #[.string o5,.string t5,.slice a5 Ab c5,.string o2,.string t2,.slice a2 m2 c2] 52);have AO:=ae.new (w8.alloc (.cells #[.string o2,.string t2,.slice a2 m2 c2] 52)) #[.string o5,.string t5,.slice a5 Ab c5,.string o2,.string t2,.slice a2 m2 c2] 52;rw[World.size_alloc,Ay] at AO
     have Aw:∀b,b≠w4.heap.size->b<w7.heap.size->((w8.alloc (.cells #[.string o2,.string t2,.slice a2 m2 c2] 52)).alloc (.cells #[.string o5,.string t5,.slice a5 Ab c5,.string o2,.string t2,.slice a2 m2 c2] 52)).heap[b]?=w7.heap[b]?:=fun b hb hlt=>by
      rw[Below.heap_alloc _ _ _ (by rw[World.size_alloc];omega),Below.heap_alloc _ _ _ (by omega),AA b hb]
     have B3:((w8.alloc (.cells #[.string o2,.string t2,.slice a2 m2 c2] 52)).alloc (.cells #[.string o5,.string t5,.slice a5 Ab c5,.string o2,.string t2,.slice a2 m2 c2] 52)).heap.size=w7.heap.size+2:=by
      rw[World.size_alloc,World.size_alloc,Ay]
     generalize (w8.alloc (.cells #[.string o2,.string t2,.slice a2 m2 c2] 52)).alloc (.cells #[.string o5,.string t5,.slice a5 Ab c5,.string o2,.string t2,.slice a2 m2 c2] 52)=w9 at Ap hc9 Bm Bp AO Aw B3 ⊢;have A4:=Bt.out;constructor
     ·refine⟨⟨Ap,Bp,B1,Nat.le_refl _⟩,hB.save Ap,op,⟨#[]⟩,_,_,_,Bm,?_⟩
      by_cases he:e2=0
      ·subst he
       left
       refine⟨j,.mk op iL [x,x2],k'+1+n2,by omega,h.go Ap hc9 (by omega),by omega,?_,?_⟩
       ·rw[A4,bP (by rfl)]
        simp only[mg,dO,List.drop_drop];rw[show k'+(1+n2)=k'+1+n2 by omega];exact Prod.ext rfl (Prod.ext (by simp only;omega) rfl)
       ·refine qb (P:=fun b=>w.heap.size<=b/\b≠w.heap.size/\b≠w4.heap.size) [(x,dQ o5 t5 (.slice a5 Ab c5)),(x2,dQ o2 t2 (.slice a2 m2 c2))] AO ⟨by omega,by omega,by omega⟩ (fun s hs=>?_) (by unfold maxLen;simp)
        simp at hs
        rcases hs with rfl|rfl
        ·exact af.move (by omega) (fun b hb hlt=>Aw b hb.2.2 hlt) (fun b hb _=>hb) x _ AH
        ·exact af.move (by omega) (fun b hb hlt=>Aw b (by omega) hlt) (fun b hb _=>⟨by omega,by omega,by omega⟩) x2 _ (hX2 rfl)
      ·right
       refine⟨k'+1+n2,e2,hc9,he,by omega,?_⟩;rw[A4,aZ (by exact he)];simp only[dO];rw[show k'-k+(1+n2)=k'+1+n2-k by omega]
     ·rw[iZ.pos hc9,Bs.out]
      omega
   ·have Ax:=Mt wr g _ _ e A2 he ⟨_,_,_,rfl⟩
    have BE:((0:Int)==(n:Int))=false:=by rw[beq_eq_false_iff_ne];omega
    go_wp2_with fail;refine Ax.mono ?_;rintro _ _ ⟨rfl,nd,rfl⟩;have Aa:=Af.step ((aB.refl g wr).drewN nd);have hc9:=A2.drewN nd;have AR:=Ao.drewN nd;clear Af Ac A2 A0 Az A1 Ao;have Bq:=Aa.res.lt;have HR:=Jh Aa hc9;have Ad:=Aa.res;clear Aa hc9;obtain⟨Ag,Aj,Ah,Ak,Ai,Al⟩:=Ad.n3 rfl;clear Ad;obtain⟨AB,AE,AC,AF,AD,AG⟩:=AR.n3 rfl;go_wp2;obtain⟨Aa,hc9⟩:=HR.out;have hq:=((Aa.res.setI 0 (.string o5)).setI 1 (.string t5)).setI 2 (.slice a5 Ab c5);obtain⟨hx,hy,hz⟩:=hq.m3 rfl;refine bodyPost_ret (v:=.agg #[.string o5,.string t5,.slice a5 Ab c5]) (by simp[results,Tryz.results216,go_sem,hx,hy,hz]) rfl ?_;have A7:=Aa.fin [.string o5,.string t5,.slice a5 Ab c5];have A5:=Aa.prc hc9 [.string o5,.string t5,.slice a5 Ab c5];show XP g (.slice a0 n0 c0) k _ w _ (ak (wr.drewN nd) w.heap.size 0 [.string o5,.string t5,.slice a5 Ab c5]);rw[hRe];have AP:k+(k'-k)=k':=by omega
    exact⟨A7,by show iZ _ g _ ((k+(k'-k):Nat)) e;rw[AP];exact A5,_,_,_,_,_,rfl,fun h=>absurd h he⟩
structure Ch(w0:World)(q q6 g bp bd bt d:Nat)(cs:Array Value)(w:World):Prop where
 rs:Rs w0 q g w
 tb:FW w g bp bd bt d
 first:ae w q6 cs 52
 q6g:q6≠g
 q60:w0.heap.size<=q6
 q6q:q6≠q
theorem Ch.step{w0 w w':World}{q q6 g bp bd bt d:Nat}{cs:Array Value}(h:Ch w0 q q6 g bp bd bt d cs w)(hs:aB g w w'):Ch w0 q q6 g bp bd bt d cs w':=
 ⟨h.rs.step hs,h.tb.save hs,hs.cells h.first h.q6g,h.q6g,h.q60,h.q6q⟩
theorem Ea(m:Nat)(hT:Eh m)(hC:oz m):oz (m+1):=by
 intro w g lv l k d h hd hne;obtain⟨a0,n0,c0,rfl⟩:=h.sl;have BJ:=h.le;have BK:=h.small;have BI:=h.box.lt;obtain⟨R,AQ⟩:=exq (ai (m+1) .choice (l.drop k) d);rw[<-AQ] at hne ⊢;rw[ai] at AQ;have Bd:(ai m (.term 1) (l.drop k) d).2.2≠-1:=by rw[AQ] at hne;exact iC hne
 have AR:(ai m (.term 1) (l.drop k) d).2.1<=(l.drop k).length:=(eT m (.term 1) (l.drop k) d (by simp only[Nt.okX];omega) Bd).1;rw[List.length_drop] at AR;have Bm:=fun w3 h3 bp bd bt hb3=>hT w3 g (.slice a0 n0 c0) l k d 1 bp bd bt h3 hb3 hd (by omega) (by omega) Bd;rw[show ((1:Nat):Int)=1 from rfl] at Bm;generalize ai m (.term 1) (l.drop k) d=r1 at *;obtain⟨x1,n1,e1⟩:=r1;simp only at AR Bd;have AV:=Hh AQ;have Bq:=Hh hne;clear AQ hne Bd;go_enter Tryz.func192,Tryz.ntmps192;go_wp2_with fail
 have Ba:Below w.heap.size w ((((w.alloc (.cells #[.pointer (some ⟨g,0,none⟩)] 218)).alloc (.cells #[.int .i64 (d:Nat)] 3)).alloc (.cells fH 52)).alloc (.cells #[.func (.func 216) #[] #[.pointer (some ⟨w.heap.size,0,none⟩),.pointer (some ⟨w.heap.size+1,0,none⟩),.pointer (some ⟨w.heap.size+1+1+1,0,none⟩)]] 221)):=
  ((((Below.refl _ w).alloc lz _).alloc (by simp) _).alloc (by simp only[World.size_alloc];omega) _).alloc (by simp only[World.size_alloc];omega) _
 have Bn:=(((ae.new w #[.pointer (some ⟨g,0,none⟩)] 218).alloc (.cells #[.int .i64 (d:Nat)] 3)).alloc (.cells fH 52)).alloc (.cells #[.func (.func 216) #[] #[.pointer (some ⟨w.heap.size,0,none⟩),.pointer (some ⟨w.heap.size+1,0,none⟩),.pointer (some ⟨w.heap.size+1+1+1,0,none⟩)]] 221);have Bb:=((ae.new (w.alloc (.cells #[.pointer (some ⟨g,0,none⟩)] 218)) #[.int .i64 (d:Nat)] 3).alloc (.cells fH 52)).alloc (.cells #[.func (.func 216) #[] #[.pointer (some ⟨w.heap.size,0,none⟩),.pointer (some ⟨w.heap.size+1,0,none⟩),.pointer (some ⟨w.heap.size+1+1+1,0,none⟩)]] 221);have Bc:=(ae.new ((w.alloc (.cells #[.pointer (some ⟨g,0,none⟩)] 218)).alloc (.cells #[.int .i64 (d:Nat)] 3)) fH 52).alloc (.cells #[.func (.func 216) #[] #[.pointer (some ⟨w.heap.size,0,none⟩),.pointer (some ⟨w.heap.size+1,0,none⟩),.pointer (some ⟨w.heap.size+1+1+1,0,none⟩)]] 221);have Bg:=ae.new (((w.alloc (.cells #[.pointer (some ⟨g,0,none⟩)] 218)).alloc (.cells #[.int .i64 (d:Nat)] 3)).alloc (.cells fH 52)) #[.func (.func 216) #[] #[.pointer (some ⟨w.heap.size,0,none⟩),.pointer (some ⟨w.heap.size+1,0,none⟩),.pointer (some ⟨w.heap.size+1+1+1,0,none⟩)]] 221;simp only[World.size_alloc] at Bb Bc Bg;have BH:((((w.alloc (.cells #[.pointer (some ⟨g,0,none⟩)] 218)).alloc (.cells #[.int .i64 (d:Nat)] 3)).alloc (.cells fH 52)).alloc (.cells #[.func (.func 216) #[] #[.pointer (some ⟨w.heap.size,0,none⟩),.pointer (some ⟨w.heap.size+1,0,none⟩),.pointer (some ⟨w.heap.size+1+1+1,0,none⟩)]] 221)).heap.size=w.heap.size+4:=by simp only[World.size_alloc]
 generalize ((((w.alloc (.cells #[.pointer (some ⟨g,0,none⟩)] 218)).alloc (.cells #[.int .i64 (d:Nat)] 3)).alloc (.cells fH 52)).alloc (.cells #[.func (.func 216) #[] #[.pointer (some ⟨w.heap.size,0,none⟩),.pointer (some ⟨w.heap.size+1,0,none⟩),.pointer (some ⟨w.heap.size+1+1+1,0,none⟩)]] 221))=wA at Ba Bn Bb Bc Bg BH ⊢;have AD:=h.step Ba;have AZ:FW wA g w.heap.size (w.heap.size+1) (w.heap.size+1+1+1) d:=⟨Bn,Bb,Bg,by omega,by omega,by omega⟩;have Bx:Rs w (w.heap.size+1+1) g wA:=⟨aB.of Ba,Bc,by omega,by omega⟩;clear Ba Bn Bb Bc Bg;refine (Bm wA AD _ _ _ AZ).mono ?_;rintro _ w2 ⟨hs2,hc2,o1,t1,a1,m1,c1,rfl,hX1⟩;simp only at hc2 hX1;have BL:=hs2.size;have AN:aB g w2 (w2.alloc (.cells #[.string o1,.string t1,.slice a1 m1 c1] 52)):=(aB.refl g w2).alloc _
 have A1:Ch w (w.heap.size+1+1) w2.heap.size g w.heap.size (w.heap.size+1) (w.heap.size+1+1+1) d #[.string o1,.string t1,.slice a1 m1 c1] (w2.alloc (.cells #[.string o1,.string t1,.slice a1 m1 c1] 52)):=
  ⟨(Bx.step hs2).step AN,(AZ.save hs2).save AN,ae.new _ _ _,by omega,by omega,by omega⟩
 have Ax:=hc2.alloc (.cells #[.string o1,.string t1,.slice a1 m1 c1] 52);have AH:=hs2.trans AN
 have A3:e1=0->af (fun b=>w.heap.size<=b/\b≠w.heap.size+1+1/\b≠w2.heap.size) (w2.alloc (.cells #[.string o1,.string t1,.slice a1 m1 c1] 52)) x1 (dQ o1 t1 (.slice a1 m1 c1)):=fun he=>
  af.move AN.size (fun b hb hlt=>AN.2 b hlt (by omega)) (fun b hb hlt=>⟨by omega,by omega,by omega⟩) x1 _ (hX1 he)
 have Bh:w2.heap.size<(w2.alloc (.cells #[.string o1,.string t1,.slice a1 m1 c1] 52)).heap.size:=by simp
 have Bl:=AZ.save hs2;have Az:=Bl.p.cell 0 _ rfl;have A0:=Bl.p.lt;have H3:=Hh Bh;have Bp:=Jh A1 (And.intro Ax (And.intro AH (And.intro A3 AD)));clear AN hc2 hs2 hX1 Bx AZ Bm Bl A1 Ax AH A3 AD Bh;go_wp2_with fail;obtain⟨A1,Ax,AH,A3,AD⟩:=Bp.out;have Bh:=H3.out;clear Bp H3 Az A0;generalize w2.alloc (.cells #[.string o1,.string t1,.slice a1 m1 c1] 52)=w3 at A1 Ax AH A3 Bh ⊢
 by_cases he1:e1=0
 focus
  subst he1;have AP:=AD.go AH Ax (by omega);clear AD AH;have A3:=A3 rfl;have Aj:=AV.out;rw[bP (by rfl)] at Aj;simp only[List.drop_drop] at Aj;clear AV
  by_cases s1:bK (l.drop (k+n1)) sQ=false
  focus
   rw[if_pos s1] at Aj;have hI:=mE _ g _ l (k+n1) sQ AP;rw[s1] at hI;have HX:=Hh A3;have A4:=Hh Aj;clear A3 Aj AP;refine hI.mono ?_;rintro _ w4 ⟨rfl,hb4⟩;have Aa:=A1.step (aB.of hb4);have Ab:=Ax.below hb4 Ax.lt;have HX:=Hh (af.below hb4 x1 _ HX.out);clear A1 Ax hb4 hI
  rotate_left
  focus
   have B7:bK (l.drop (k+n1)) sQ=true:=by simpa using s1
   rw[if_neg s1] at Aj;have BA:k+n1+1<=l.length:=by have:=bI B7;rw[List.length_drop] at this;omega
   have hI:=mE _ g _ l (k+n1) sQ AP;rw[B7] at hI;have Bi:=Hh AP;clear AP;have HX:=Hh A3;clear A3
   by_cases hd6:64<=d
   focus
    rw[if_pos hd6] at Aj;have A4:=Hh Aj;clear Aj;refine hI.mono ?_;rintro _ w4 ⟨rfl,hb4⟩;have Aa:=A1.step (aB.of hb4);have Ab:=Ax.below hb4 Ax.lt;clear A1 Ax hb4 hI HX Bi;have hN:=qm w4 g _ (k+n1) d Ab hd6;have Az:=Aa.tb.p.cell 0 _ rfl;have A6:=Aa.tb.d.cell 0 _ rfl;have A0:=Aa.tb.p.lt;have A7:=Aa.tb.d.lt;have Ac:=Aa.rs.res;have AB:=Ac.lt;have Aw:=Aa.first
    have A8:=Aw.lt;have A9:=Ab.lt;have HR:=Jh Aa Ab;obtain⟨Ad,Ag,Ae,Ah,Af,Ai⟩:=Ac.n3 rfl;obtain⟨Aq,At,Ar,Au,As,Av⟩:=Aw.n3 rfl;obtain⟨Ak,An,Al,Ao,Am,Ap⟩:=Ab.n3 rfl;clear Aa Ab Ac Aw;go_wp2_with fail;refine hN.mono ?_;rintro _ w5 ⟨rfl,hc5,hs5⟩;obtain⟨Aa,Ab⟩:=HR.out;clear HR Az A6 A0 A7 AB A8 A9 Ad Ae Af Ag Ah Ai Aq Ar As At Au Av Ak Al Am An Ao Ap;clear Ab
    replace Aa:=Aa.step hs5
    have Ab:=hc5;clear hs5 hc5 hN
   rotate_left
   focus
    rw[if_neg hd6] at Aj;have hne:=Bq.out;rw[Aj] at hne;have Be:(ai m .choice (l.drop (k+(n1+1))) (d+1)).2.2≠-1:=iC (g:=dO (n1+1) (ai m .choice (l.drop (k+(n1+1))) (d+1))) hne;have AS:=(eT m .choice (l.drop (k+(n1+1))) (d+1) (by simp only[Nt.okX]) Be).1;rw[List.length_drop] at AS;have A2:=fun w3 h3=>hC w3 g (.slice a0 n0 c0) l (k+(n1+1)) (d+1) h3 (by omega) Be;rw[show ((d+1:Nat):Int)=(d:Int)+1 by omega] at A2;clear hne;generalize ai m .choice (l.drop (k+(n1+1))) (d+1)=r2 at *;obtain⟨x2,n2,e2⟩:=r2;simp only at AS Be;have A4:=Hh Aj;clear Aj Be;refine hI.mono ?_;rintro _ w4 ⟨rfl,hb4⟩;have Aa:=A1.step (aB.of hb4);have Ab:=Ax.below hb4 Ax.lt;have Br:=Hh (Bi.out.step hb4);have Bs:=Hh (af.below hb4 x1 _ HX.out);clear A1 Ax hb4 hI HX Bi;have hN:=nJ w4 g _ (k+n1) d Ab (by omega) (by omega);have Az:=Aa.tb.p.cell 0 _ rfl;have A6:=Aa.tb.d.cell 0 _ rfl;have A0:=Aa.tb.p.lt;have A7:=Aa.tb.d.lt;have Ac:=Aa.rs.res;have AB:=Ac.lt;have Aw:=Aa.first
    have A8:=Aw.lt;have A9:=Ab.lt;have HR:=Jh Aa Ab;obtain⟨Ad,Ag,Ae,Ah,Af,Ai⟩:=Ac.n3 rfl;obtain⟨Aq,At,Ar,Au,As,Av⟩:=Aw.n3 rfl;obtain⟨Ak,An,Al,Ao,Am,Ap⟩:=Ab.n3 rfl;clear Aa Ab Ac Aw;go_wp2_with fail;refine hN.mono ?_;rintro _ w5 ⟨rfl,hc5,hs5⟩;obtain⟨Aa,Ab⟩:=HR.out;clear HR Az A6 A0 A7 AB A8 A9 Ad Ae Af Ag Ah Ai Aq Ar As At Au Av Ak Al Am An Ao Ap;clear Ab;have Bk:oP w5 g (.slice a0 n0 c0) l (k+(n1+1)):=Br.out.go hs5 hc5 BA
    replace Aa:=Aa.step hs5
    have Ab:=hc5;have Bt:=Hh (af.move hs5.size (fun b hb hlt=>hs5.2 b hlt (by omega)) (fun b hb _=>hb) x1 _ Bs.out);clear hs5 hc5 hN Br Bs;have A2:=A2 w5 Bk;have Az:=Aa.tb.p.cell 0 _ rfl;have A6:=Aa.tb.d.cell 0 _ rfl;have A0:=Aa.tb.p.lt;have A7:=Aa.tb.d.lt;have Ac:=Aa.rs.res;have AB:=Ac.lt;have Aw:=Aa.first
    have A8:=Aw.lt;have A9:=Ab.lt;have HR:=Jh Aa Ab;obtain⟨Ad,Ag,Ae,Ah,Af,Ai⟩:=Ac.n3 rfl;obtain⟨Aq,At,Ar,Au,As,Av⟩:=Aw.n3 rfl;obtain⟨Ak,An,Al,Ao,Am,Ap⟩:=Ab.n3 rfl;clear Aa Ab Ac Aw;go_wp2_with fail;refine A2.mono ?_;rintro _ w6 ⟨hs6,hc6,o2,t2,a2,m2,c2,rfl,hX6⟩;simp only at hc6 hX6;obtain⟨Aa,Ab⟩:=HR.out;clear HR Az A6 A0 A7 AB A8 A9 Ad Ae Af Ag Ah Ai Aq Ar As At Au Av Ak Al Am An Ao Ap;have BF:=Aa.first.lt
    have BD:=Aa.rs.res.lt;have Ay:=Aa.step hs6;have BM:=hs6.size;have hc6:iZ w6 g (.slice a0 n0 c0) ((k+(n1+1+n2):Nat)) e2:=by rw[Nat.add_assoc] at hc6;exact hc6
    have Bv:e2=0->oP w6 g (.slice a0 n0 c0) l (k+(n1+1+n2)):=fun he=>by
     subst he;exact Bk.go hs6 hc6 (by omega)
    have AJ:af (fun b=>w.heap.size<=b/\b≠w.heap.size+1+1/\b≠w2.heap.size) w6 x1 (dQ o1 t1 (.slice a1 m1 c1)):=
     af.move hs6.size (fun b hb hlt=>hs6.2 b hlt (by omega)) (fun b hb _=>hb) x1 _ Bt.out
    have AC:e2=0->af (fun b=>w.heap.size<=b/\b≠w.heap.size+1+1/\b≠w2.heap.size) w6 x2 (dQ o2 t2 (.slice a2 m2 c2)):=fun he=>
     af.move lz (fun b hb _=>rfl) (fun b hb _=>⟨by omega,by omega,by omega⟩) x2 _ (hX6 he)
    clear Aa Ab hs6 hX6 Bt Bk A2;have AM:Below w6.heap.size w6 (w6.alloc (.cells #[.string o2,.string t2,.slice a2 m2 c2] 52)):=(Below.refl _ _).alloc lz _;have AF:=ae.new w6 #[.string o2,.string t2,.slice a2 m2 c2] 52;have Aa:=Ay.step (aB.of AM);have Ab:=hc6.below AM hc6.lt;have A5:e2=0->oP (w6.alloc (.cells #[.string o2,.string t2,.slice a2 m2 c2] 52)) g (.slice a0 n0 c0) l (k+(n1+1+n2)):=fun he=>(Bv he).step AM;have AW:=Jh (af.below AM x1 _ AJ) (fun he=>af.below AM x2 _ (AC he));have Bo:(w6.alloc (.cells #[.string o2,.string t2,.slice a2 m2 c2] 52)).heap.size=w6.heap.size+1:=by simp
    have H7:=Jh Aa (And.intro Ab (And.intro A5 AF));clear AM Aa Ab A5 AF AJ AC Bv;have Az:=Ay.tb.p.cell 0 _ rfl;have A0:=Ay.tb.p.lt;clear Ay hc6;have Bu:=Hh Bo;clear Bo;go_wp2_with fail;clear Az A0;obtain⟨Aa,Ab,A5,AF⟩:=H7.out;have Bo:=Bu.out;clear H7 Bu;generalize w6.alloc (.cells #[.string o2,.string t2,.slice a2 m2 c2] 52)=w7 at *;clear hc6 A3 A2;have B5:w6.heap.size≠g/\w6.heap.size≠w.heap.size+1+1/\w6.heap.size≠w2.heap.size/\w.heap.size<=w6.heap.size:=⟨by omega,by omega,by omega,by omega⟩
    by_cases he2:e2=0
    focus
     subst he2;have A5:=A5 rfl;obtain⟨AJ,AC⟩:=AW.out;have AC:=AC rfl
     have Aj:R=(if bK (l.drop (k+(n1+1+n2))) Mc=false then cZ (l.drop (k+(n1+1+n2))) (n1+1+n2) else il (dO (n1+1+n2+1) (ai m .choice (l.drop (k+(n1+1+n2+1))) (d+1))) fun c k3=>(.mk sQ iL [x1,x2,c],k3,0)):=by
      rw[A4.out,bP (by rfl)];rfl
     have hN:=vR w7 g _ l (k+(n1+1+n2)) Mc A5
     by_cases s2:bK (l.drop (k+(n1+1+n2))) Mc=false
     focus
      rw[if_pos s2,rY] at Aj;rw[s2,if_neg (by simp),if_neg (by simp)] at hN;have hw:(yL (l.drop (k+(n1+1+n2))) != 0)=true:=by simpa using oW _
      have B6:yL (l.drop (k+(n1+1+n2)))≠0:=oW _;generalize yL (l.drop (k+(n1+1+n2)))=ee at *;have A4:=Hh Aj;have B9:=Hh B6;clear Aj B6 AJ AC AW A5 AF;refine hN.mono ?_;rintro _ w8 ⟨rfl,hc8,hs8⟩;clear Ab
      replace Aa:=Aa.step hs8
      have Ab:=hc8;clear hs8 hc8 hN
     rotate_left
     ·rw[if_neg s2] at Aj
      have B8:bK (l.drop (k+(n1+1+n2))) Mc=true:=by simpa using s2
      rw[B8,if_pos rfl,if_pos rfl] at hN;have BB:k+(n1+1+n2)+1<=l.length:=by have:=bI B8;rw[List.length_drop] at this;omega
      have hne:=Bq.out;rw[Aj] at hne;have Bf:(ai m .choice (l.drop (k+(n1+1+n2+1))) (d+1)).2.2≠-1:=iC (g:=dO (n1+1+n2+1) (ai m .choice (l.drop (k+(n1+1+n2+1))) (d+1))) hne;have AT:=(eT m .choice (l.drop (k+(n1+1+n2+1))) (d+1) (by simp only[Nt.okX]) Bf).1;rw[List.length_drop] at AT;have A2:=fun w3 h3=>hC w3 g (.slice a0 n0 c0) l (k+(n1+1+n2+1)) (d+1) h3 (by omega) Bf;rw[show ((d+1:Nat):Int)=(d:Int)+1 by omega] at A2;clear hne;generalize ai m .choice (l.drop (k+(n1+1+n2+1))) (d+1)=r3 at *;obtain⟨x3,n3,e3⟩:=r3;simp only at AT Bf;have A4:=Hh Aj;clear Aj Bf AW;refine hN.mono ?_;rintro _ w8 ⟨rfl,hc8,hs8⟩;have Bw:oP w8 g (.slice a0 n0 c0) l (k+(n1+1+n2+1)):=A5.go hs8 hc8 BB;have AO:=Aa.step hs8;have By:=hs8.cells AF B5.1;have Bj:=Jh (af.move hs8.size (fun b hb hlt=>hs8.2 b hlt (by omega)) (fun b hb _=>hb) x1 _ AJ) (af.move hs8.size (fun b hb hlt=>hs8.2 b hlt (by omega)) (fun b hb _=>hb) x2 _ AC);have BN:=hs8.size;clear Ab Aa AF AJ AC hs8 A5 hN;have Aa:=AO;have Ab:=hc8;clear AO hc8;have A2:=A2 w8 Bw;have Az:=Aa.tb.p.cell 0 _ rfl;have A6:=Aa.tb.d.cell 0 _ rfl;have A0:=Aa.tb.p.lt;have A7:=Aa.tb.d.lt;have Ac:=Aa.rs.res;have AB:=Ac.lt;have Aw:=Aa.first
      have A8:=Aw.lt;have A9:=Ab.lt;have HR:=Jh Aa Ab;obtain⟨Ad,Ag,Ae,Ah,Af,Ai⟩:=Ac.n3 rfl;obtain⟨Aq,At,Ar,Au,As,Av⟩:=Aw.n3 rfl;obtain⟨Ak,An,Al,Ao,Am,Ap⟩:=Ab.n3 rfl;clear Aa Ab Ac Aw;go_wp2_with fail;refine A2.mono ?_;rintro _ w9 ⟨hs9,hc10,o3,t3,a3,m3,c3,rfl,hX9⟩;simp only at hc10 hX9;obtain⟨Aa,Ab⟩:=HR.out;clear HR Az A6 A0 A7 AB A8 A9 Ad Ae Af Ag Ah Ai Aq Ar As At Au Av Ak Al Am An Ao Ap;have BG:=Aa.first.lt
      have BE:=Aa.rs.res.lt;have Ay:=Aa.step hs9;have AG:=hs9.cells By B5.1;have BO:=hs9.size;have hc10:iZ w9 g (.slice a0 n0 c0) ((k+(n1+1+n2+1+n3):Nat)) e3:=by rw[Nat.add_assoc] at hc10;exact hc10
      have AX:=af.move hs9.size (fun b hb hlt=>hs9.2 b hlt (by omega)) (fun b hb _=>hb) x1 _ Bj.out.1;have AY:=af.move hs9.size (fun b hb hlt=>hs9.2 b hlt (by omega)) (fun b hb _=>hb) x2 _ Bj.out.2;clear Aa Ab hs9 Bw A2 Bj By;have HX:=Jh AX (And.intro AY hX9);have Aa:=Ay;have Ab:=hc10;clear Ay hc10 AX AY hX9;have BC:=AG.lt;have Az:=Aa.tb.p.cell 0 _ rfl;have A6:=Aa.tb.d.cell 0 _ rfl;have A0:=Aa.tb.p.lt;have A7:=Aa.tb.d.lt;have Ac:=Aa.rs.res;have AB:=Ac.lt;have Aw:=Aa.first
      have A8:=Aw.lt;have A9:=Ab.lt;have HR:=Jh Aa Ab;obtain⟨Ad,Ag,Ae,Ah,Af,Ai⟩:=Ac.n3 rfl;obtain⟨Aq,At,Ar,Au,As,Av⟩:=Aw.n3 rfl;obtain⟨Ak,An,Al,Ao,Am,Ap⟩:=Ab.n3 rfl;clear Aa Ab Ac Aw;obtain⟨Bz,B2,B0,B3,B1,B4⟩:=AG.n3 rfl;clear AG;go_wp2;obtain⟨Aa,Ab⟩:=HR.out;have AE:=Aa.rs;have hq:=((((AE.res.setI 0 (.string sQ)).setI 1 (.string ⟨#[]⟩)).setI 2 (.slice (some ⟨w9.heap.size+1,0,none⟩) 3 3)).alloc (.cells #[.string o3,.string t3,.slice a3 m3 c3] 52)).alloc (.cells #[.string o1,.string t1,.slice a1 m1 c1,.string o2,.string t2,.slice a2 m2 c2,.string o3,.string t3,.slice a3 m3 c3] 52);obtain⟨hx,hy,hz⟩:=hq.m3 rfl;refine bodyPost_ret (v:=.agg #[.string sQ,.string ⟨#[]⟩,.slice (some ⟨w9.heap.size+1,0,none⟩) 3 3]) (by simp[results,Tryz.results192,go_sem,hx,hy,hz]) rfl ?_
      have AL:=((AE.fin [.string sQ,.string ⟨#[]⟩,.slice (some ⟨w9.heap.size+1,0,none⟩) 3 3]).alloc (.cells #[.string o3,.string t3,.slice a3 m3 c3] 52)).alloc (.cells #[.string o1,.string t1,.slice a1 m1 c1,.string o2,.string t2,.slice a2 m2 c2,.string o3,.string t3,.slice a3 m3 c3] 52);have AK:=((AE.prc Ab [.string sQ,.string ⟨#[]⟩,.slice (some ⟨w9.heap.size+1,0,none⟩) 3 3]).alloc (.cells #[.string o3,.string t3,.slice a3 m3 c3] 52)).alloc (.cells #[.string o1,.string t1,.slice a1 m1 c1,.string o2,.string t2,.slice a2 m2 c2,.string o3,.string t3,.slice a3 m3 c3] 52);show XP g (.slice a0 n0 c0) k _ w _ (((ak w9 (w.heap.size+1+1) 0 [.string sQ,.string ⟨#[]⟩,.slice (some ⟨w9.heap.size+1,0,none⟩) 3 3]).alloc (.cells #[.string o3,.string t3,.slice a3 m3 c3] 52)).alloc (.cells #[.string o1,.string t1,.slice a1 m1 c1,.string o2,.string t2,.slice a2 m2 c2,.string o3,.string t3,.slice a3 m3 c3] 52));have AI:=aA (w.heap.size+1+1) [.string sQ,.string ⟨#[]⟩,.slice (some ⟨w9.heap.size+1,0,none⟩) 3 3] 0 w9;have AU:=fun b (hb:b≠w.heap.size+1+1)=>aL (w.heap.size+1+1) [.string sQ,.string ⟨#[]⟩,.slice (some ⟨w9.heap.size+1,0,none⟩) 3 3] 0 w9 b hb;generalize ak w9 (w.heap.size+1+1) 0 [.string sQ,.string ⟨#[]⟩,.slice (some ⟨w9.heap.size+1,0,none⟩) 3 3]=w10 at AL AK AI AU ⊢;have AG:=ae.new (w10.alloc (.cells #[.string o3,.string t3,.slice a3 m3 c3] 52)) #[.string o1,.string t1,.slice a1 m1 c1,.string o2,.string t2,.slice a2 m2 c2,.string o3,.string t3,.slice a3 m3 c3] 52
      rw[World.size_alloc,AI] at AG
      have AA:∀b,b≠w.heap.size+1+1->b<w9.heap.size->((w10.alloc (.cells #[.string o3,.string t3,.slice a3 m3 c3] 52)).alloc (.cells #[.string o1,.string t1,.slice a1 m1 c1,.string o2,.string t2,.slice a2 m2 c2,.string o3,.string t3,.slice a3 m3 c3] 52)).heap[b]?=w9.heap[b]?:=fun b hb hlt=>by
       rw[Below.heap_alloc _ _ _ (by rw[World.size_alloc];omega),Below.heap_alloc _ _ _ (by omega),AU b hb]
      have hs9:((w10.alloc (.cells #[.string o3,.string t3,.slice a3 m3 c3] 52)).alloc (.cells #[.string o1,.string t1,.slice a1 m1 c1,.string o2,.string t2,.slice a2 m2 c2,.string o3,.string t3,.slice a3 m3 c3] 52)).heap.size=w9.heap.size+2:=by
       rw[World.size_alloc,World.size_alloc,AI]
      generalize (w10.alloc (.cells #[.string o3,.string t3,.slice a3 m3 c3] 52)).alloc (.cells #[.string o1,.string t1,.slice a1 m1 c1,.string o2,.string t2,.slice a2 m2 c2,.string o3,.string t3,.slice a3 m3 c3] 52)=w11 at AL AK AG AA hs9 ⊢;have Aj:=A4.out;obtain⟨AX,AY,hX9⟩:=HX.out
      by_cases he3:e3=0
      ·subst he3
       rw[bP (by rfl)] at Aj;simp only[dO] at Aj;rw[Aj];refine⟨AL,AK,_,_,_,_,_,rfl,fun _=>?_⟩;refine qb (P:=fun b=>w.heap.size<=b) [(x1,dQ o1 t1 (.slice a1 m1 c1)),(x2,dQ o2 t2 (.slice a2 m2 c2)),(x3,dQ o3 t3 (.slice a3 m3 c3))] AG (by omega) (fun s hs=>?_) (by unfold maxLen;simp);simp at hs
       rcases hs with rfl|rfl|rfl
       ·exact af.move (by omega) (fun b hb hlt=>AA b hb.2.1 hlt) (fun b hb _=>hb.1) x1 _ AX
       ·exact af.move (by omega) (fun b hb hlt=>AA b hb.2.1 hlt) (fun b hb _=>hb.1) x2 _ AY
       ·exact af.move (by omega) (fun b hb hlt=>AA b (by omega) hlt) (fun b hb _=>by omega) x3 _ (hX9 rfl)
      ·rw[aZ (by exact he3)] at Aj
       simp only[dO] at Aj;rw[Aj];exact⟨AL,AK,_,_,_,_,_,rfl,fun h=>absurd h he3⟩
    rotate_left
    focus
     have Aj:=A4.out;rw[aZ (by exact he2)] at Aj;simp only[dO] at Aj;have A4:=Hh Aj;have hN:=Gs w7 g _ _ e2 Mc Ab he2 ⟨_,_,_,rfl⟩;have hw:(e2 != 0)=true:=by simpa using he2
     clear Aj A5 AW AF;refine hN.mono ?_;rintro _ _ ⟨rfl,nd,rfl⟩;have AO:=Aa.step ((aB.refl g _).drewN nd);have hc8:=ae.drewN Ab nd;clear Aa Ab hN;have Aa:=AO;have Ab:=hc8;clear AO hc8
 rotate_left 4
 focus
  have Aj:=AV.out;rw[aZ (by exact he1)] at Aj;have A4:=Hh Aj;have hI:=K6 _ g _ _ e1 sQ Ax he1 ⟨_,_,_,rfl⟩;clear Aj A3 AD AH AV;refine hI.mono ?_;rintro _ _ ⟨rfl,nd,rfl⟩;have Aa:=A1.step ((aB.refl g _).drewN nd);have Ab:=Ax.drewN nd;clear A1 Ax hI
 all_goals
  have Az:=Aa.tb.p.cell 0 _ rfl;have A6:=Aa.tb.d.cell 0 _ rfl;have A0:=Aa.tb.p.lt;have A7:=Aa.tb.d.lt;have Ac:=Aa.rs.res;have AB:=Ac.lt;have Aw:=Aa.first
  have A8:=Aw.lt;have A9:=Ab.lt;have HR:=Jh Aa Ab;obtain⟨Ad,Ag,Ae,Ah,Af,Ai⟩:=Ac.n3 rfl;obtain⟨Aq,At,Ar,Au,As,Av⟩:=Aw.n3 rfl;obtain⟨Ak,An,Al,Ao,Am,Ap⟩:=Ab.n3 rfl;clear Aa Ab Ac Aw;go_wp2;obtain⟨Aa,Ab⟩:=HR.out;have AE:=Aa.rs;have hq:=((AE.res.setI 0 (.string o1)).setI 1 (.string t1)).setI 2 (.slice a1 m1 c1);obtain⟨hx,hy,hz⟩:=hq.m3 rfl;refine bodyPost_ret (v:=.agg #[.string o1,.string t1,.slice a1 m1 c1]) (by simp[results,Tryz.results192,go_sem,hx,hy,hz]) rfl ?_;have AL:=AE.fin [.string o1,.string t1,.slice a1 m1 c1];have AK:=AE.prc Ab [.string o1,.string t1,.slice a1 m1 c1];show XP g (.slice a0 n0 c0) k _ w _ (ak _ (w.heap.size+1+1) 0 [.string o1,.string t1,.slice a1 m1 c1]);rw[A4.out];refine⟨AL,AK,_,_,_,_,_,rfl,?_⟩
  first
   |exact fun h=>absurd h he1
   |exact fun h=>absurd h he2
   |exact fun h=>absurd h B9.out
   |exact fun _=>af.move (P:=fun b=>w.heap.size<=b/\b≠w.heap.size+1+1/\b≠w2.heap.size) (by rw[aA];exact Nat.le_refl _) (fun b hb _=>aL _ _ 0 _ b hb.2.1) (fun b hb _=>hb.1) x1 _ HX.out
   |exact fun h=>by cases h
structure Po(w0:World)(q q5 g:Nat)(cs:Array Value)(w:World):Prop where
 rs:Rs w0 q g w
 first:ae w q5 cs 52
 q5g:q5≠g
 q50:w0.heap.size<=q5
 q5q:q5≠q
theorem Po.step{w0 w w':World}{q q5 g:Nat}{cs:Array Value}(h:Po w0 q q5 g cs w)(hs:aB g w w'):Po w0 q q5 g cs w':=
 ⟨h.rs.step hs,hs.cells h.first h.q5g,h.q5g,h.q50,h.q5q⟩
theorem Po.put{w0 w:World}{q q5 g:Nat}{a b c:Value}(h:Po w0 q q5 g #[a,b,c] w)(x y z:Value):Po w0 q q5 g #[x,y,z] (ak w q5 0 [x,y,z]):=
 ⟨⟨h.rs.save.setAllNew h.q50 _,h.rs.res.setAllOther (fun e=>h.q5q e.symm),h.rs.qg,h.rs.q0⟩,h.first.put [x,y,z] 0,h.q5g,h.q50,h.q5q⟩
def PL(w0:World)(q q5 g:Nat)(lv:Value)(l:List ag)(k d m:Nat)(R:eX)(wr:World):Prop:=
  ∃o t a nn c,Po w0 q q5 g #[.string o,.string t,.slice a nn c] wr/\
    ((∃j x k',j<=m/\oP wr g lv l k'/\k<=k'/\R=dO (k'-k) (ai j (.ploop x) (l.drop k') d)/\af (fun b=>w0.heap.size<=b/\b≠q/\b≠q5) wr x (dQ o t (.slice a nn c)))\/
     (∃(k':Nat) (e:Int),iZ wr g lv (k':Nat) e/\e≠0/\k<=k'/\R=(aU,k'-k,e)))
theorem FE(w:World)(g:Nat)(lv:Value)(k e:Int)(s:ByteArray)(hc:iZ w g lv k e)(he:e≠0)(hl:∃a n c,lv=.slice a n c) :
  Calls Tryz.prog 219 #[.pointer (some ⟨g,0,none⟩),.string s] w fun r w'=>r=.returned (.bool false)/\iZ w' g lv k e/\aB g w w':=by
 refine (K6 w g lv k e s hc he hl).mono ?_;rintro _ _ ⟨rfl,n,rfl⟩;exact⟨rfl,hc.drewN n,(aB.refl g w).drewN n⟩
theorem xB(w:World)(g:Nat)(lv:Value)(k e:Int)(s:ByteArray)(hc:iZ w g lv k e)(he:e≠0)(hl:∃a n c,lv=.slice a n c) :
  Calls Tryz.prog 221 #[.pointer (some ⟨g,0,none⟩),.string s] w fun r w'=>r=.returned (.tuple #[])/\iZ w' g lv k e/\aB g w w':=by
 refine (Gs w g lv k e s hc he hl).mono ?_;rintro _ _ ⟨rfl,n,rfl⟩;exact⟨rfl,hc.drewN n,(aB.refl g w).drewN n⟩
theorem IE(m:Nat)(hPr:FX m)(hC:∀j,j<=m->oz j):L6 (m+1):=by
 intro w g lv l k d h hd hne;obtain⟨a0,c0,rfl,C7,Ci,-⟩:=h.toks.len;unfold maxLen at Ci;have C5:=h.le;have C9:=h.small;have C4:=h.box.lt;have H0:=Hh h;have hR:=Rs.start h;have h1:=h.step ((Below.refl _ w).alloc lz (.cells fH 52));obtain⟨R,AG⟩:=exq (ai (m+1) .post (l.drop k) d);rw[<-AG] at hne ⊢;rw[ai] at AG;have By:(ai m .prime (l.drop k) d).2.2≠-1:=by rw[AG] at hne;exact iC hne
 have AY:(ai m .prime (l.drop k) d).2.1<=(l.drop k).length:=(eT m .prime (l.drop k) d (by simp only[Nt.okX]) By).1;rw[List.length_drop] at AY;have BO:=fun w3 h3=>hPr w3 g (.slice a0 l.length c0) l k d h3 hd By;generalize ai m .prime (l.drop k) d=r1 at *;obtain⟨x1,n1,e1⟩:=r1;simp only at AY By;have Bz:=Hh AG;clear AG By;go_enter Tryz.func230,Tryz.ntmps230;go_wp2_with fail;refine (BO _ h1).mono ?_;rintro _ w4 ⟨hs4,hc4,o,t,a,nn,c,rfl,hX⟩;simp only at hc4 hX;have Cz:=hs4.size;simp only[World.size_alloc] at Cz;have Ap:Below w4.heap.size w4 (w4.alloc (.cells #[.string o,.string t,.slice a nn c] 52)):=(Below.refl _ w4).alloc lz _
 have BN:Po w w.heap.size w4.heap.size g #[.string o,.string t,.slice a nn c] (w4.alloc (.cells #[.string o,.string t,.slice a nn c] 52)):=
  ⟨(hR.step hs4).below Ap,ae.new _ _ _,by omega,by omega,by omega⟩
 have BM:PL w w.heap.size w4.heap.size g (.slice a0 l.length c0) l k d m R (w4.alloc (.cells #[.string o,.string t,.slice a nn c] 52)):=by
  refine⟨o,t,a,nn,c,BN,?_⟩
  by_cases he:e1=0
  ·subst he
   left
   refine⟨m,x1,k+n1,Nat.le_refl _,(h1.go hs4 hc4 (by omega)).step Ap,by omega,?_,?_⟩
   ·rw[Bz.out,bP (by rfl)]
    simp only[List.drop_drop];rw[show k+n1-k=n1 by omega]
   ·refine af.move (by simp) (fun b _ hlt=>Below.heap_alloc _ _ _ hlt) (fun b hb hlt=>?_) _ _ (hX rfl)
    simp only[World.size_alloc] at hb;exact⟨by omega,by omega,by omega⟩
  ·right
   exact⟨k+n1,e1,hc4.below Ap hc4.lt,he,by omega,by rw[Bz.out,aZ (by exact he),show k+n1-k=n1 by omega]⟩
 have BJ:=Hh BM;clear BM hX BN Ap hc4 hs4 hR h1 h BO Bz AY;have C8:w.heap.size<w4.heap.size:=by omega
 go_wp2_with fail;go_loopw [6,11,69] (fun _ _ _ wr=>PL w w.heap.size w4.heap.size g (.slice a0 l.length c0) l k d m R wr) (fun _ _ _ wr=>l.length+1-sM wr g)
 case atStart=>exact BJ.out
 case round=>
  clear BJ;obtain⟨o5,t5,a5,Ab,c5,Aa,Cr⟩:=hrel;rcases Cr with ⟨j,x,k',hj,h5,hkk,hRe,hX⟩|⟨k',e,hc9,he,hkk,hRe⟩
  ·cases j with
   |zero=>rw[hRe] at hne;exact absurd rfl hne
   |succ j=>
   rw[ai] at hRe;have Ch:=h5.le;have hI:=mE _ g _ l k' qD h5;have BI:=Hh h5.box.pos
   by_cases s1:bK (l.drop k') qD=true
   ·rw[if_pos s1] at hRe
    rw[s1] at hI;have AV:k'+1<=l.length:=by have:=bI s1;rw[List.length_drop] at this;omega
    go_wp2_with fail;refine hI.mono ?_;rintro _ w5 ⟨rfl,Ap⟩;have A7:=h5.step Ap;have AO:=af.below Ap x _ hX
    replace Aa:=Aa.step (aB.of Ap)
    have C0:=Ap.size;clear hI Ap h5 hX;have AK:aB g w5 (w5.setCell ⟨g,1,none⟩ (.int .i64 ((k':Int)+1))):=(aB.refl g w5).set 1 _;have Bk:iZ (w5.setCell ⟨g,1,none⟩ (.int .i64 ((k':Int)+1))) g (.slice a0 l.length c0) ((k'+1:Nat)) 0:=A7.box.setI 1 (.int .i64 ((k':Int)+1));have h6:oP (w5.setCell ⟨g,1,none⟩ (.int .i64 ((k':Int)+1))) g (.slice a0 l.length c0) l (k'+1):=A7.go AK Bk AV;have Ao:=af.move AK.size (fun b hb hlt=>AK.2 b hlt (by omega)) (fun b hb _=>hb) x _ AO;have H6:=Jh (Aa.step AK) (And.intro h6 Ao);have Ad:=A7.box;have AS:=Ad.lt;clear AK Bk h6 Ao AO A7 Aa;obtain⟨Ag,Aj,Ah,Ak,Ai,Al⟩:=Ad.n3 rfl;clear Ad;go_wp2_with fail;clear Ag Ah Ai Aj Ak Al AS;obtain⟨Aa,h6,Ao⟩:=H6.out;clear H6;generalize w5.setCell ⟨g,1,none⟩ (.int .i64 ((k':Int)+1))=w6 at *;have hc9:=h6.box;obtain⟨kp,A6⟩:=exq (k'+1);rw[<-A6] at h6 hc9 AV;have Bw:(l.drop k').drop 1=l.drop kp:=by rw[List.drop_drop,A6]
    rw[Bw] at hRe;have hW:=oV
    by_cases s3:∃tk r,l.drop kp=tk::r/\tk.kind=1
    ·obtain⟨tk,r,AM,Bc⟩:=s3
     rw[AM] at hRe;simp only at hRe;rw[if_pos Bc,List.drop_drop] at hRe
     have Ar:kp<l.length:=by
      have:=congrArg List.length AM;rw[List.length_drop,List.length_cons] at this;omega
     have Br:l[kp]=tk:=by
      rw[List.drop_eq_getElem_cons Ar] at AM;exact (List.cons.inj AM).1
     obtain⟨tb,C3,BG,BZ,Bu,Bv,B1⟩:=aH.get h6.toks Ar;rw[Br] at Bu Bv B1;rw[Bc] at Bu;cases BG
     have hq:((kp:Int)==(l.length:Int))=false:=by rw[beq_eq_false_iff_ne];omega
     have Ad:=h6.box;have AS:=Ad.lt;have Ae:=Aa.first
     have Bb:=Ae.lt;have H6:=Jh Aa (And.intro h6 (And.intro Ao (And.intro hRe (And.intro A6 (And.intro Bc AM)))));clear Aa h6 hc9 Ao hRe A6 Bw AM Br Bc hW B1 AV;obtain⟨BP,BQ⟩:=Ad.m2 rfl;obtain⟨Co,Cl,Cp,Cm,Cq,Cn⟩:=Ae.n3 rfl;go_wp2_with fail;go_quiet (fail)
     go_wp2_with fail;clear hq Bu;have AU:=fun n=>(Ae.drewN n).alloc (.cells #[.string o5,.string t5,.slice a5 Ab c5] 52);have ha:∀(n b' o':Nat) (u:Value),b'<w6.heap.size->w6.cell? ⟨b',o',none⟩=some u->((w6.drewN n).alloc (.cells #[.string o5,.string t5,.slice a5 Ab c5] 52)).cell? ⟨b',o',none⟩=some u:=fun n b' o' u h1 h2=>(World.cell?_alloc_past _ _ _ h1).trans h2;have Cc:=fun n=>ha n _ _ _ AS BP;have Cd:=fun n=>ha n _ _ _ AS BQ;have Ce:=fun n=>ha n _ _ _ BZ Bv;have Cs:=fun n=>(AU n).cell 0 _ rfl;have Ct:=fun n=>(AU n).cell 1 _ rfl;have Cu:=fun n=>(AU n).cell 2 _ rfl;have Cv:=fun n=>(AU n).frozen 0;have Cw:=fun n=>(AU n).frozen 1;have Cy:=fun n=>(AU n).frozen 2;have HF:=Hh Ae;have HB:=Hh Ad;clear AU ha Ae Ad;go_region
     obtain⟨Aa,h6,Ao,hRe,A6,Bc,AM⟩:=H6.out;have An:aB g w6 ((w6.drewN (nq+1)).alloc (.cells #[.string o5,.string t5,.slice a5 Ab c5] 52)):=((aB.refl g w6).drewN _).alloc _;have B4:=(Aa.step An).put (.string nG) (.string tk.text) (.slice (some ⟨w6.heap.size,0,none⟩) 1 1);have Am:iZ (ak ((w6.drewN (nq+1)).alloc (.cells #[.string o5,.string t5,.slice a5 Ab c5] 52)) w4.heap.size 0 [.string nG,.string tk.text,.slice (some ⟨w6.heap.size,0,none⟩) 1 1]) g _ (kp:Nat) 0:=((h6.box.drewN (nq+1)).alloc (.cells #[.string o5,.string t5,.slice a5 Ab c5] 52)).setAllOther (by omega);have BC:ae (ak ((w6.drewN (nq+1)).alloc (.cells #[.string o5,.string t5,.slice a5 Ab c5] 52)) w4.heap.size 0 [.string nG,.string tk.text,.slice (some ⟨w6.heap.size,0,none⟩) 1 1]) w6.heap.size _ _:=(ae.new (w6.drewN (nq+1)) #[.string o5,.string t5,.slice a5 Ab c5] 52).setAllOther (by show w6.heap.size≠_;omega)
     have AZ:∀b,b≠w4.heap.size->b<w6.heap.size->(ak ((w6.drewN (nq+1)).alloc (.cells #[.string o5,.string t5,.slice a5 Ab c5] 52)) w4.heap.size 0 [.string nG,.string tk.text,.slice (some ⟨w6.heap.size,0,none⟩) 1 1]).heap[b]?=w6.heap[b]?:=fun b hb hlt=>by
      rw[aL _ _ _ _ _ hb,Below.heap_alloc _ _ _ (by exact hlt)];rfl
     have Bq:(ak ((w6.drewN (nq+1)).alloc (.cells #[.string o5,.string t5,.slice a5 Ab c5] 52)) w4.heap.size 0 [.string nG,.string tk.text,.slice (some ⟨w6.heap.size,0,none⟩) 1 1]).heap.size=w6.heap.size+1:=by
      rw[aA,World.size_alloc];rfl
     have Bs:∃w7,w7=ak ((w6.drewN (nq+1)).alloc (.cells #[.string o5,.string t5,.slice a5 Ab c5] 52)) w4.heap.size 0 [.string nG,.string tk.text,.slice (some ⟨w6.heap.size,0,none⟩) 1 1]:=⟨_,rfl⟩;obtain⟨w7,Bs⟩:=Bs;have Bt:w7=((((w6.drewN (nq+1)).alloc (.cells #[.string o5,.string t5,.slice a5 Ab c5] 52)).setCell ⟨w4.heap.size,0,none⟩ (.string nG)).setCell ⟨w4.heap.size,1,none⟩ (.string tk.text)).setCell ⟨w4.heap.size,2,none⟩ (.slice (some ⟨w6.heap.size,0,none⟩) 1 1):=Bs;rw[<-Bt];rw[<-Bs] at B4 Am BC AZ Bq;clear Bs Bt
     have Bi:=qb (P:=fun b=>w.heap.size<=b/\b≠w.heap.size/\b≠w4.heap.size) (op:=nG) (text:=tk.text) [(x,dQ o5 t5 (.slice a5 Ab c5))] BC ⟨by omega,by omega,by omega⟩ (fun s hs=>by
      simp at hs
      subst hs
      exact af.move (by omega) (fun b hb hlt=>AZ b hb.2.2 hlt) (fun b hb _=>hb) x _ Ao) (by unfold maxLen;simp)
     have A8:iZ (w7.setCell ⟨g,1,none⟩ (.int .i64 ((kp:Int)+1))) g _ ((kp+1:Nat)) 0:=Am.setI 1 (.int .i64 ((kp:Int)+1));have AF:aB g w7 (w7.setCell ⟨g,1,none⟩ (.int .i64 ((kp:Int)+1))):=(aB.refl g w7).set 1 _;have Bh:=B4.step AF;have AQ:=af.move AF.size (fun b hb hlt=>AF.2 b hlt (by omega)) (fun b hb _=>hb) _ _ Bi;have H8:=Jh Bh (And.intro A8 (And.intro AQ (And.intro hRe A6)));have Bx:=Am.lt;clear Aa h6 Ao hRe A6 Bc AM H6 An B4 BC AZ Bq Bi A8 AF Bh AQ HF HB Cc Cd Ce Cs Ct Cu Cv Cw Cy BP BQ Co Cp Cq Cl Cm Cn Bv AS Bb;obtain⟨BR,BU,BS,BV,BT,BW⟩:=Am.n3 rfl;clear Am;go_wp2_with fail;obtain⟨Bh,A8,AQ,hRe,A6⟩:=H8.out;constructor
     ·refine⟨_,_,_,_,_,Bh,.inl ⟨j,_,kp+1,by omega,H0.out.go Bh.rs.save A8 (by omega),by omega,?_,AQ⟩⟩
      rw[hRe,mg];show dO (k'-k+2) _=_;rw[show k'-k+2=kp+1-k by omega,show k'+2=kp+1 by omega];rfl
     ·rw[iZ.pos A8,BI.out]
      omega
    ·have Af:R=dO (k'-k) (aU,1,yL (l.drop kp)):=by
      rw[hRe,<-rY]
      cases hq:l.drop kp with
      |nil=>rfl
      |cons tk r=>
       simp only;rw[if_neg (fun e=>s3 ⟨tk,r,hq,e⟩)]
     clear hRe;have hW:=fun n=>oV (w6.drewN n) g _ l kp (h6.step (bL w6.heap.size w6 n));have Bd:yL (l.drop kp)≠0:=oW _;have Ad:=h6.box;have AS:=Ad.lt
     by_cases Ar:kp=l.length
     focus
      have hq:((kp:Int)==(l.length:Int))=true:=by rw[beq_iff_eq];omega
      generalize yL (l.drop kp)=ee at *;have Be:=Jh Af (And.intro Bd A6);clear Af Bd Ar h6 hc9 Ao A6 Bw s3 AV;obtain⟨Ag,Aj,Ah,Ak,Ai,Al⟩:=Ad.n3 rfl;clear Ad
     rotate_left
     focus
      have Ar:kp<l.length:=by omega
      have hq:((kp:Int)==(l.length:Int))=false:=by rw[beq_eq_false_iff_ne];omega
      obtain⟨tb,C3,BG,BZ,Bu,Bv,B1⟩:=aH.get h6.toks Ar
      have C6:(l[kp].kind != 1)=true:=by
       rw[bne_iff_ne];intro e;exact s3 ⟨l[kp],_,List.drop_eq_getElem_cons Ar,e⟩
      cases BG
      generalize l[kp].kind=kk at *;generalize yL (l.drop kp)=ee at *;have Be:=Jh Af (And.intro Bd A6);clear Af Bd h6 hc9 Ao A6 Bw s3 AV;obtain⟨Ag,Aj,Ah,Ak,Ai,Al⟩:=Ad.n3 rfl;clear Ad
     all_goals
      go_quiet (fail)
      go_wp2_with fail;refine (hW _).mono ?_;rintro _ w7 ⟨rfl,Am,An⟩
      replace Aa:=(Aa.step ((aB.refl g w6).drewN _)).step An
      have hc9:=Am;clear AS Ag Ah Ai Aj Ak Al Am An hW;have Ac:=Aa.rs.res;have BF:=Ac.lt;have Ae:=Aa.first
      have Bb:=Ae.lt;have Bx:=hc9.lt;have HR:=Jh Aa hc9;obtain⟨As,Av,At,Aw,Au,Ax⟩:=Ac.n3 rfl;obtain⟨Az,A2,A0,A3,A1,A4⟩:=Ae.n3 rfl;obtain⟨A9,AC,AA,AD,AB,AE⟩:=hc9.n3 rfl;clear Aa hc9 Ac Ae;go_wp2;obtain⟨Aa,hc9⟩:=HR.out;have Aq:=Aa.rs;have hq:=((Aq.res.setI 0 (.string o5)).setI 1 (.string t5)).setI 2 (.slice a5 Ab c5);obtain⟨hx,hy,hz⟩:=hq.m3 rfl;refine bodyPost_ret (v:=.agg #[.string o5,.string t5,.slice a5 Ab c5]) (by simp[results,Tryz.results230,go_sem,hx,hy,hz]) rfl ?_;have AN:=Aq.fin [.string o5,.string t5,.slice a5 Ab c5];have A5:=Aq.prc hc9 [.string o5,.string t5,.slice a5 Ab c5];show XP g (.slice _ l.length c0) k _ w _ (ak w7 w.heap.size 0 [.string o5,.string t5,.slice a5 Ab c5]);obtain⟨hRe,Bd,A6⟩:=Be.out;rw[hRe];simp only[dO];have AX:k+(k'-k+1)=kp:=by omega
      exact⟨AN,by show iZ _ g _ ((k+(k'-k+1):Nat)) ee;rw[AX];exact A5,_,_,_,_,_,rfl,fun h=>absurd h Bd⟩
   ·have C1:bK (l.drop k') qD=false:=by simpa using s1
    rw[if_neg s1] at hRe;rw[C1] at hI;go_wp2_with fail;refine hI.mono ?_;rintro _ w5 ⟨rfl,Ap⟩;have A7:=h5.step Ap;have AO:=af.below Ap x _ hX
    replace Aa:=Aa.step (aB.of Ap)
    have C0:=Ap.size;clear hI Ap h5 hX;have hI:=mE _ g _ l k' AP A7
    by_cases s2:bK (l.drop k') AP=true
    ·rw[if_pos s2] at hRe
     rw[s2] at hI;have AV:k'+1<=l.length:=by have:=bI s2;rw[List.length_drop] at this;omega
     go_wp2_with fail;refine hI.mono ?_;rintro _ w6 ⟨rfl,hb6⟩;have Bf:=A7.step hb6;have Ao:=af.below hb6 x _ AO
     replace Aa:=Aa.step (aB.of hb6)
     have CA:=hb6.size;clear hI hb6 A7 AO
     by_cases hd6:64<=d
     ·rw[if_pos hd6] at hRe
      have hN:=qm w6 g _ k' d Bf.box hd6;clear Ao Bf;go_wp2_with fail;refine hN.mono ?_;rintro _ w7 ⟨rfl,Am,An⟩
      replace Aa:=Aa.step An
      have hc9:=Am;clear Am An hN;have Ac:=Aa.rs.res;have BF:=Ac.lt;have Ae:=Aa.first
      have Bb:=Ae.lt;have Bx:=hc9.lt;have HR:=Jh Aa hc9;obtain⟨As,Av,At,Aw,Au,Ax⟩:=Ac.n3 rfl;obtain⟨Az,A2,A0,A3,A1,A4⟩:=Ae.n3 rfl;obtain⟨A9,AC,AA,AD,AB,AE⟩:=hc9.n3 rfl;clear Aa hc9 Ac Ae;go_wp2;obtain⟨Aa,hc9⟩:=HR.out;have Aq:=Aa.rs;have hq:=((Aq.res.setI 0 (.string o5)).setI 1 (.string t5)).setI 2 (.slice a5 Ab c5);obtain⟨hx,hy,hz⟩:=hq.m3 rfl;refine bodyPost_ret (v:=.agg #[.string o5,.string t5,.slice a5 Ab c5]) (by simp[results,Tryz.results230,go_sem,hx,hy,hz]) rfl ?_;have AN:=Aq.fin [.string o5,.string t5,.slice a5 Ab c5];have A5:=Aq.prc hc9 [.string o5,.string t5,.slice a5 Ab c5];show XP g (.slice a0 l.length c0) k _ w _ (ak w7 w.heap.size 0 [.string o5,.string t5,.slice a5 Ab c5]);rw[hRe];simp only[dO,lX,Nat.add_zero];have AX:k+(k'-k)=k':=by omega
      exact⟨AN,by show iZ _ g _ ((k+(k'-k):Nat)) 5;rw[AX];exact A5,_,_,_,_,_,rfl,fun h=>by cases h⟩
     ·rw[if_neg hd6] at hRe
      have hN:=nJ w6 g _ k' d Bf.box (by omega) (by omega)
      have BE:(ai j .choice (l.drop (k'+1)) (d+1)).2.2≠-1:=by
       have Bo:=hne;rw[hRe,List.drop_drop] at Bo;exact iC (g:=dO 1 (ai j .choice (l.drop (k'+1)) (d+1))) Bo
      have Bn:=(eT j .choice (l.drop (k'+1)) (d+1) (by simp only[Nt.okX]) BE).1;rw[List.length_drop] at Bn;have B5:=fun w3 h3=>hC j (by omega) w3 g (.slice a0 l.length c0) l (k'+1) (d+1) h3 (by omega) BE;rw[show ((d+1:Nat):Int)=(d:Int)+1 by omega] at B5;rw[List.drop_drop] at hRe;generalize ai j .choice (l.drop (k'+1)) (d+1)=r2 at *;obtain⟨x2,n2,e2⟩:=r2;simp only at Bn BE;have Be:=Hh hRe;clear hRe;go_wp2_with fail;refine hN.mono ?_;rintro _ w7 ⟨rfl,Am,An⟩;have B2:oP w7 g (.slice a0 l.length c0) l (k'+1):=Bf.go An Am AV;have Bi:=af.move An.size (fun b hb hlt=>An.2 b hlt (by omega)) (fun b hb _=>hb) x _ Ao
      replace Aa:=Aa.step An
      clear hN An Am Bf Ao;go_wp2_with fail;refine (B5 w7 B2).mono ?_;rintro _ w8 ⟨AF,A8,o2,t2,a2,m2,c2,rfl,hX2⟩;simp only at A8 hX2;have Ck:=Aa.first.lt
      have Cj:=Aa.rs.res.lt;have AQ:=af.move AF.size (fun b hb hlt=>AF.2 b hlt (by omega)) (fun b hb _=>hb) x _ Bi;have CB:=AF.size
      have BK:e2=0->af (fun b=>w.heap.size<=b/\b≠w.heap.size/\b≠w4.heap.size) w8 x2 (dQ o2 t2 (.slice a2 m2 c2)):=fun he=>
       af.move lz (fun b hb _=>rfl) (fun b hb _=>⟨by omega,by omega,by omega⟩) x2 _ (hX2 he)
      replace Aa:=Aa.step AF
      have BL:e2=0->oP w8 g (.slice a0 l.length c0) l (k'+1+n2):=fun he=>by
       subst he;exact B2.go AF A8 (by omega)
      clear AF B2 Bi B5 hX2
      -- the box of what lies between the brackets
      have Ba:Below w8.heap.size w8 (w8.alloc (.cells #[.string o2,.string t2,.slice a2 m2 c2] 52)):=(Below.refl _ _).alloc lz _;have Bm:=ae.new w8 #[.string o2,.string t2,.slice a2 m2 c2] 52
      replace Aa:=Aa.step (aB.of Ba)
      have hc9:=A8.below Ba A8.lt;have A5:e2=0->oP (w8.alloc (.cells #[.string o2,.string t2,.slice a2 m2 c2] 52)) g (.slice a0 l.length c0) l (k'+1+n2):=fun he=>(BL he).step Ba;have B0:=Jh (af.below Ba x _ AQ) (fun he=>af.below Ba x2 _ (BK he));have BH:(w8.alloc (.cells #[.string o2,.string t2,.slice a2 m2 c2] 52)).heap.size=w8.heap.size+1:=by simp
      have H9:=Jh Aa (And.intro hc9 (And.intro A5 (And.intro Bm BH)));clear Ba Aa hc9 A5 Bm AQ BK BL A8 BH;go_wp2_with fail;obtain⟨Aa,hc9,A5,Bm,BH⟩:=H9.out;clear H9;generalize w8.alloc (.cells #[.string o2,.string t2,.slice a2 m2 c2] 52)=w9 at *
      have hN:∃(kk:Nat) (ee:Int),k'+1+n2<=kk/\kk<=l.length/\Calls Tryz.prog 221 #[.pointer (some ⟨g,0,none⟩),.string o9] w9 (fun r w'=>r=.returned (.tuple #[])/\iZ w' g (.slice a0 l.length c0) (kk:Nat) ee/\aB g w9 w')/\
        ((ee=0/\e2=0/\R=dO (kk-k) (ai j (.ploop (.mk vB iL [x,x2])) (l.drop kk) d))\/(ee≠0/\R=(aU,kk-k,ee))):=by
       have hRe:=Be.out
       by_cases he:e2=0
       ·subst he
        have Af:R=dO (k'-k) (if bK (l.drop (k'+(1+n2))) o9=false then cZ (l.drop (k'+(1+n2))) (1+n2) else dO (1+n2+1) (ai j (.ploop (.mk vB iL [x,x2])) (l.drop (k'+(1+n2+1))) d)):=by
         rw[hRe,bP (by rfl)];simp only[List.drop_drop];rfl
        have hN:=vR w9 g _ l (k'+1+n2) o9 (A5 rfl);rw[show k'+(1+n2)=k'+1+n2 by omega,show k'+(1+n2+1)=k'+1+n2+1 by omega] at Af
        by_cases s3:bK (l.drop (k'+1+n2)) o9=false
        ·rw[if_pos s3,rY] at Af
         rw[s3,if_neg (by simp),if_neg (by simp)] at hN;refine⟨k'+1+n2,_,Nat.le_refl _,by omega,hN,.inr ⟨oW _,?_⟩⟩;rw[Af];exact Prod.ext rfl (Prod.ext (by simp only[dO];omega) rfl)
        ·have Ca:bK (l.drop (k'+1+n2)) o9=true:=by simpa using s3
         have Cf:k'+1+n2+1<=l.length:=by have:=bI Ca;rw[List.length_drop] at this;omega
         rw[if_neg s3,mg] at Af;rw[Ca,if_pos rfl,if_pos rfl] at hN;refine⟨k'+1+n2+1,_,by omega,Cf,hN,.inl ⟨rfl,rfl,?_⟩⟩;rw[Af,show k'-k+(1+n2+1)=k'+1+n2+1-k by omega]
       ·rw[aZ (by exact he)] at hRe
        refine⟨k'+1+n2,e2,Nat.le_refl _,by omega,xB w9 g _ _ e2 o9 hc9 he ⟨_,_,_,rfl⟩,.inr ⟨he,?_⟩⟩;rw[hRe];exact Prod.ext rfl (Prod.ext (by simp only[dO];omega) rfl)
      obtain⟨kk,ee,Cg,BD,hN,Ay⟩:=hN;refine hN.mono ?_;rintro _ w10 ⟨rfl,hc10,hs10⟩;have AW:=hs10.cells Bm (by omega)
      replace Aa:=Aa.step hs10
      have AH:=af.move hs10.size (fun b hb hlt=>hs10.2 b hlt (by omega)) (fun b hb _=>hb) x _ B0.out.1;have AI:=fun he=>af.move hs10.size (fun b hb hlt=>hs10.2 b hlt (by omega)) (fun b hb _=>hb) x2 _ (B0.out.2 he);have Cx:=hs10.size;have Ae:=Aa.first
      have Bb:=Ae.lt;have BX:=AW.lt;have Cb:=Jh Aa (And.intro hc10 (And.intro AH (And.intro AI Ay)));clear hs10 Bm Aa hc10 AH AI Ay hN B0 hc9 A5 Be;obtain⟨Az,A2,A0,A3,A1,A4⟩:=Ae.n3 rfl;obtain⟨B6,B9,B7,BA,B8,BB⟩:=AW.n3 rfl;clear Ae AW;go_wp2_with fail;obtain⟨Aa,hc10,AH,AI,Ay⟩:=Cb.out;have B3:=Aa.put (.string vB) (.string ⟨#[]⟩) (.slice (some ⟨w10.heap.size,0,none⟩) 2 2);have Bj:iZ (ak w10 w4.heap.size 0 [.string vB,.string ⟨#[]⟩,.slice (some ⟨w10.heap.size,0,none⟩) 2 2]) g _ _ _:=hc10.setAllOther (by omega);have Bp:=fun b (hb:b≠w4.heap.size)=>aL w4.heap.size [.string vB,.string ⟨#[]⟩,.slice (some ⟨w10.heap.size,0,none⟩) 2 2] 0 w10 b hb;have AL:=aA w4.heap.size [.string vB,.string ⟨#[]⟩,.slice (some ⟨w10.heap.size,0,none⟩) 2 2] 0 w10
      show PL w w.heap.size w4.heap.size g (.slice a0 l.length c0) l k d m R ((ak w10 w4.heap.size 0 [.string vB,.string ⟨#[]⟩,.slice (some ⟨w10.heap.size,0,none⟩) 2 2]).alloc (.cells #[.string o5,.string t5,.slice a5 Ab c5,.string o2,.string t2,.slice a2 m2 c2] 52))/\
       l.length+1-sM ((ak w10 w4.heap.size 0 [.string vB,.string ⟨#[]⟩,.slice (some ⟨w10.heap.size,0,none⟩) 2 2]).alloc (.cells #[.string o5,.string t5,.slice a5 Ab c5,.string o2,.string t2,.slice a2 m2 c2] 52)) g<l.length+1-sM wr g
      generalize ak w10 w4.heap.size 0 [.string vB,.string ⟨#[]⟩,.slice (some ⟨w10.heap.size,0,none⟩) 2 2]=w11 at *;have AR:Below w11.heap.size w11 (w11.alloc (.cells #[.string o5,.string t5,.slice a5 Ab c5,.string o2,.string t2,.slice a2 m2 c2] 52)):=(Below.refl _ _).alloc lz _;have Bl:=ae.new w11 #[.string o5,.string t5,.slice a5 Ab c5,.string o2,.string t2,.slice a2 m2 c2] 52;have Bg:=B3.step (aB.of AR);have AT:iZ (w11.alloc (.cells #[.string o5,.string t5,.slice a5 Ab c5,.string o2,.string t2,.slice a2 m2 c2] 52)) g (.slice a0 l.length c0) (kk:Nat) ee:=Bj.below AR Bj.lt
      have AJ:∀b,b≠w4.heap.size->b<w10.heap.size->(w11.alloc (.cells #[.string o5,.string t5,.slice a5 Ab c5,.string o2,.string t2,.slice a2 m2 c2] 52)).heap[b]?=w10.heap[b]?:=fun b hb hlt=>by
       rw[AR.block b (by omega),Bp b hb]
      have BY:(w11.alloc (.cells #[.string o5,.string t5,.slice a5 Ab c5,.string o2,.string t2,.slice a2 m2 c2] 52)).heap.size=w10.heap.size+1:=by rw[World.size_alloc,AL]
      rw[AL] at Bl;generalize w11.alloc (.cells #[.string o5,.string t5,.slice a5 Ab c5,.string o2,.string t2,.slice a2 m2 c2] 52)=w12 at *;constructor
      ·refine⟨_,_,_,_,_,Bg,?_⟩
       rcases Ay with ⟨he0,he2,AG⟩|⟨he,AG⟩
       ·subst he0
        left
        refine⟨j,_,kk,by omega,H0.out.go Bg.rs.save AT BD,by omega,AG,?_⟩;refine qb (P:=fun b=>w.heap.size<=b/\b≠w.heap.size/\b≠w4.heap.size) (op:=vB) (text:=⟨#[]⟩) [(x,dQ o5 t5 (.slice a5 Ab c5)),(x2,dQ o2 t2 (.slice a2 m2 c2))] Bl ⟨by omega,by omega,by omega⟩ (fun s hs=>?_) (by unfold maxLen;simp);simp at hs
        rcases hs with rfl|rfl
        ·exact af.move (by omega) (fun b hb hlt=>AJ b hb.2.2 hlt) (fun b hb _=>hb) x _ AH
        ·exact af.move (by omega) (fun b hb hlt=>AJ b hb.2.2 hlt) (fun b hb _=>hb) x2 _ (AI he2)
       ·right
        exact⟨kk,ee,AT,he,by omega,AG⟩
      ·rw[iZ.pos AT,BI.out]
       omega
    ·have C2:bK (l.drop k') AP=false:=by simpa using s2
     rw[if_neg s2] at hRe;rw[C2] at hI;go_wp2_with fail;refine hI.mono ?_;rintro _ w6 ⟨rfl,hb6⟩;have Ao:=Hh (af.below hb6 x _ AO)
     replace Aa:=Aa.step (aB.of hb6)
     have hc9:=A7.box.below hb6 A7.box.lt;clear hI hb6 AO A7;have Ac:=Aa.rs.res;have BF:=Ac.lt;have Ae:=Aa.first
     have Bb:=Ae.lt;have Bx:=hc9.lt;have HR:=Jh Aa hc9;obtain⟨As,Av,At,Aw,Au,Ax⟩:=Ac.n3 rfl;obtain⟨Az,A2,A0,A3,A1,A4⟩:=Ae.n3 rfl;obtain⟨A9,AC,AA,AD,AB,AE⟩:=hc9.n3 rfl;clear Aa hc9 Ac Ae;go_wp2;obtain⟨Aa,hc9⟩:=HR.out;have Aq:=Aa.rs;have hq:=((Aq.res.setI 0 (.string o5)).setI 1 (.string t5)).setI 2 (.slice a5 Ab c5);obtain⟨hx,hy,hz⟩:=hq.m3 rfl;refine bodyPost_ret (v:=.agg #[.string o5,.string t5,.slice a5 Ab c5]) (by simp[results,Tryz.results230,go_sem,hx,hy,hz]) rfl ?_;have AN:=Aq.fin [.string o5,.string t5,.slice a5 Ab c5];have A5:=Aq.prc hc9 [.string o5,.string t5,.slice a5 Ab c5];show XP g (.slice a0 l.length c0) k _ w _ (ak w6 w.heap.size 0 [.string o5,.string t5,.slice a5 Ab c5]);rw[hRe];simp only[dO,Nat.add_zero];have AX:k+(k'-k)=k':=by omega
     exact⟨AN,by show iZ _ g _ ((k+(k'-k):Nat)) 0;rw[AX];exact A5,_,_,_,_,_,rfl,fun _=>af.move (P:=fun b=>w.heap.size<=b/\b≠w.heap.size/\b≠w4.heap.size) (by rw[aA];exact Nat.le_refl _) (fun b hb _=>aL _ _ 0 _ b hb.2.1) (fun b hb _=>hb.1) x _ Ao.out⟩
  ·have hI:=FE _ g _ _ e qD hc9 he ⟨_,_,_,rfl⟩
   go_wp2_with fail;refine hI.mono ?_;rintro _ w6 ⟨rfl,Bk,AK⟩
   replace Aa:=Aa.step AK
   replace hc9:=Bk
   clear hI AK Bk;have hI:=FE _ g _ _ e AP hc9 he ⟨_,_,_,rfl⟩;go_wp2_with fail;refine hI.mono ?_;rintro _ w7 ⟨rfl,Am,An⟩
   replace Aa:=Aa.step An
   replace hc9:=Am
   clear hI Am An;have Ac:=Aa.rs.res;have BF:=Ac.lt;have Ae:=Aa.first
   have Bb:=Ae.lt;have Bx:=hc9.lt;have HR:=Jh Aa hc9;obtain⟨As,Av,At,Aw,Au,Ax⟩:=Ac.n3 rfl;obtain⟨Az,A2,A0,A3,A1,A4⟩:=Ae.n3 rfl;obtain⟨A9,AC,AA,AD,AB,AE⟩:=hc9.n3 rfl;clear Aa hc9 Ac Ae;go_wp2;obtain⟨Aa,hc9⟩:=HR.out;have Aq:=Aa.rs;have hq:=((Aq.res.setI 0 (.string o5)).setI 1 (.string t5)).setI 2 (.slice a5 Ab c5);obtain⟨hx,hy,hz⟩:=hq.m3 rfl;refine bodyPost_ret (v:=.agg #[.string o5,.string t5,.slice a5 Ab c5]) (by simp[results,Tryz.results230,go_sem,hx,hy,hz]) rfl ?_;have AN:=Aq.fin [.string o5,.string t5,.slice a5 Ab c5];have A5:=Aq.prc hc9 [.string o5,.string t5,.slice a5 Ab c5];show XP g (.slice a0 l.length c0) k _ w _ (ak w7 w.heap.size 0 [.string o5,.string t5,.slice a5 Ab c5]);rw[hRe];have AX:k+(k'-k)=k':=by omega
   exact⟨AN,by show iZ _ g _ ((k+(k'-k):Nat)) e;rw[AX];exact A5,_,_,_,_,_,rfl,fun h=>absurd h he⟩
theorem Tryz.infoExp:(Tryz.prog.info? 52).map (fun i=>(i.zero,i.size,i.bytes))=some (some (.agg #[.string ⟨#[]⟩,.string ⟨#[]⟩,.slice none 0 0]),3,56):=by kernel_rfl
def pV(base:Nat)(w:World)(v:Value)(L:List (dR×List Value)):Prop:=(∀s∈L,s.2.length=3)/\w.ownsRow base 52 3 v L.length (L.flatMap (·.2))
def En(base:Nat)(w:World)(v:Value)(L:List (dR×List Value)):Prop:=∀s∈L,af (fun k=>base<=k/\some k≠v.ownBlock) w s.1 s.2
theorem pV.nil(base:Nat)(w:World):pV base w (.slice none 0 0) []:=⟨by simp,World.ownsRow_nil _ _ _ _⟩
theorem pV.keep{base:Nat}{w w':World}{v:Value}{L:List (dR×List Value)}(h:pV base w v L)(hb:∀k,base<=k->k<w.heap.size->w'.heap[k]?=w.heap[k]?):pV base w' v L:=by
 obtain⟨h0,h⟩:=h;have hl:=World.ownsRow.lt h;obtain⟨h1,h2⟩:=h;refine⟨h0,h1,?_⟩;rcases h2 with h2|⟨g,cap,cur,hv,hg,hh,r⟩
 ·exact .inl h2
 ·refine .inr ⟨g,cap,cur,hv,hg,?_,r⟩
  have:=hl g (by rw[hv];rfl);rw[hb g this.1 this.2];exact hh
theorem En.keep{base:Nat}{w w':World}{v:Value}{L:List (dR×List Value)}(h:En base w v L)(hs:w.heap.size<=w'.heap.size)(hb:∀k,base<=k->k<w.heap.size->w'.heap[k]?=w.heap[k]?):En base w' v L:=
 fun s hs'=>af.move hs (fun k hk hlt=>hb k hk.1 hlt) (fun _ h _=>h) _ _ (h s hs')
theorem pV.save{base g:Nat}{w w':World}{v:Value}{L:List (dR×List Value)}(h:pV base w v L)(hs:aB g w w')(hg:g<base):pV base w' v L:=
 h.keep (fun k hk hlt=>hs.2 k hlt (by omega))
theorem En.save{base g:Nat}{w w':World}{v:Value}{L:List (dR×List Value)}(h:En base w v L)(hs:aB g w w')(hg:g<base):En base w' v L:=
 h.keep hs.size (fun k hk hlt=>hs.2 k hlt (by omega))
theorem pV.len{base:Nat}{w:World}{v:Value}{L:List (dR×List Value)}(h:pV base w v L):∃a cap,v=.slice a L.length cap:=by
 obtain⟨-,h1,h2⟩:=h;rcases h2 with ⟨rfl,h3⟩|⟨g,cap,cur,rfl,_⟩
 ·exact⟨none,0,by rw[h3]⟩
 ·exact⟨_,cap,rfl⟩
theorem En.push{base gb cap n:Nat}{w w':World}{v:Value}{L:List (dR×List Value)}{x:dR}{cs:List Value}(h:En base w v L)(hx:af (fun k=>base<=k/\some k≠v.ownBlock) w x cs)
  (hg:w.grownBy w' v.ownBlock) (ha:v.ownBlock=some gb\/gb=w.heap.size):En base w' (.slice (some ⟨gb,0,none⟩) n cap) (L++[(x,cs)]):=by
 have hm:∀(t:dR) (cs:List Value),af (fun k=>base<=k/\some k≠v.ownBlock) w t cs->af (fun k=>base<=k/\some k≠(Value.slice (some ⟨gb,0,none⟩) n cap).ownBlock) w' t cs:=fun t cs h=>
  af.move hg.size (fun k hk hlt=>hg.block k hlt hk.2) (fun k hk hlt=>⟨hk.1,fun e=>by
   simp only[Value.ownBlock] at e;rcases ha with ha|ha
   ·exact hk.2 (e.trans ha.symm)
   ·injection e with e;omega⟩) _ _ h
 intro s hs;rcases List.mem_append.1 hs with hs|hs
 ·exact hm _ _ (h s hs)
 ·simp at hs;subst hs;exact hm _ _ hx
theorem zS{base:Nat}{w:World}{v:Value}{L:List (dR×List Value)}(hr:pV base w v L)(hi:En base w v L):NN base w (L.map (·.1)) v:=by
 intro o t;obtain⟨h3,h1,h2⟩:=hr;rcases h2 with ⟨rfl,h0⟩|⟨g,cap,cur,rfl,hb,hg,hc1,hc2,hcs,htk⟩
 ·have:L=[]:=List.eq_nil_of_length_eq_zero h0
  subst this;exact af.leaf _ w o t
 ·simp only[af]
  refine⟨_,cap,by rw[List.length_map],by rw[List.length_map];exact hc1,hc2,(fun h=>by cases h),fun x hx hne=>?_⟩;cases hx
  refine⟨rfl,⟨(Array.getElem?_eq_some_iff.1 hg).1,hb,fun o=>frozen_of_row w g o cur _ hg⟩,fe.make _ 0 (fun k hk=>?_)⟩;have Aa:k<L.length:=by rw[List.length_map] at hk;exact hk
  refine⟨L[k].2,fun j u hu=>?_,?_⟩
  ·have hj:j<3:=by have:=(List.getElem?_eq_some_iff.1 hu).1;rw[h3 _ (List.getElem_mem Aa)] at this;exact this
   rw[Nat.zero_add,cell_of_row w g _ cur 52 (0,0) hg];have hf:=qo L h3 k Aa j hj;rw[<-htk,List.getElem?_take,if_pos (by omega)] at hf;rw[<-hu,<-hf];simp
  ·rw[List.getElem_map]
   exact af.move lz (fun _ _ _=>rfl) (fun b hb _=>hb.1) _ _ (hi _ (List.getElem_mem Aa))
section
variable {w:World} {ops:Array Oper} {rest:List Oper} {o:Oper} {a:Act} {Q:Exit->Act->World->Prop}
theorem mf(hgd:o.guard=none)(s x:Operand)
  (ho:o.op=.call { callee:=.builtin .append,args:=#[s,x],argTypes:=#[50,50] })
  (base:Nat) (L:List (dR×List Value)) (hown:pV base w (a.eval s) L) (g:Nat) (hx:a.eval x=.slice (some ⟨g,0,none⟩) 1 1) (y:dR) (o1 t1:ByteArray) (a1:Option Addr) (n1 c1:Nat)
  (hc:ae w g #[.string o1,.string t1,.slice a1 n1 c1] 52)
  (hm:L.length<=1000000) (hbase:base<=w.heap.size) (H:Nat) (hH:w.heap.size=H)
  (hK:∀gb cap w',pV base w' (.slice (some ⟨gb,0,none⟩) (L.length+1) cap) (L++[(y,dQ o1 t1 (.slice a1 n1 c1))])->w.grownBy w' (a.eval s).ownBlock->((a.eval s).ownBlock=some gb\/gb=H)->base<=gb->
   wpList Tryz.prog ops Q rest (a.put o.dst (.slice (some ⟨gb,0,none⟩) (L.length+1) cap)) w'):wpList Tryz.prog ops Q (o::rest) a w:=by
 obtain⟨i,Aa,Ab,Ac,Ad⟩:=info_parts Tryz.infoExp;refine wpList_append_lies w hgd s x 50 ho base 52 i _ 3 56 Tryz.underlying50 Aa Ab Ac Ad rfl (by decide) (a.eval s) L.length (L.flatMap (·.2)) rfl hown.2 ⟨g,0,none⟩ 1 1 (dQ o1 t1 (.slice a1 n1 c1)) hx rfl ?_ ?_ (by omega) (by unfold maxLen;omega) (by omega) hbase H hH ?_
 ·intro j u hu
  rw[Addr.add_lit,Nat.zero_add];exact hc.cell _ _ (by simpa using hu)
 ·intro u hu
  simp at hu
  rcases hu with rfl|rfl|rfl<;>rfl
 ·intro gb cap w' hown' hg hat hlt
  have hl:=World.ownsRow.lt hown' gb rfl;refine hK gb cap w' ⟨?_,by simpa using hown'⟩ hg hat hl.1;intro s hs;rcases List.mem_append.1 hs with hs|hs
  ·exact hown.1 s hs
  ·simp at hs;subst hs;rfl
end
end Go.Proofs.YtbcdaaobbebooaaGreatDoor
