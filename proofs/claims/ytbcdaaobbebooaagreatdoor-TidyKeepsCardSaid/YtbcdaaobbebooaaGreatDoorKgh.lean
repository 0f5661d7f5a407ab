import Derived.Test.YtbcdaaobbebooaaGreatDoorKge
import Derived.Test.YtbcdaaobbebooaaGreatDoorKgg
set_option linter.unusedSimpArgs false
set_option linter.unusedVariables false
set_option maxRecDepth 100000
set_option maxHeartbeats 20000000
namespace Go.Proofs.YtbcdaaobbebooaaGreatDoor
open Go.RowKit Go.Tab
def ML(w0:World)(g:Nat)(lv:Value)(s:ByteArray)(l:List ag)(k d m:Nat)(R:eX)(v:Value)(wr:World):Prop:=
 aB g w0 wr/\∃(L:List (dR×List Value)) (j k':Nat),pV w0.heap.size wr v L/\En w0.heap.size wr v L/\j<=m/\oP wr g lv l k'/\k<=k'/\L.length<=k'/\
  R=dO (k'-k) (ai j (.mloop s (L.map (·.1))) (l.drop k') d)
theorem IR(m:Nat)(hC:∀j,j<=m->oz j):L8 (m+1):=by
 intro w g lv l k d s h hlen hd hs12 hne;obtain⟨a0,c0,rfl,Bk,Ba,-⟩:=h.toks.len;unfold maxLen at Ba;have Bj:=h.le;have Bl:=h.small;have An:=h.box.lt;obtain⟨R,Ag⟩:=exq (ai (m+1) (.many s) (l.drop k) d);rw[<-Ag] at hne ⊢;rw[ai] at Ag
 by_cases hd6:64<=d
 ·rw[if_pos hd6] at Ag
  have A7:=Hh Ag;clear Ag hne;have hN:=qm w g _ k d h.box hd6;go_enter Tryz.func238,Tryz.ntmps238;go_wp2_with fail;refine hN.mono ?_;rintro _ w2 ⟨rfl,hc2,hs2⟩;have H2:=Jh hc2 hs2;clear hc2 hs2 hN;go_wp2;go_ret;rw[A7.out];exact⟨H2.out.2,H2.out.1,_,_,_,rfl,fun h=>by cases h⟩
 ·rw[if_neg hd6,List.drop_drop] at Ag
  rw[List.length_drop] at hlen;have AX:k+1<=l.length:=by omega
  have hN:=nJ w g _ k d h.box (by omega) (by omega);go_enter Tryz.func238,Tryz.ntmps238;go_wp2_with fail;refine hN.mono ?_;rintro _ w2 ⟨rfl,hc2,hs2⟩;have h2:oP w2 g (.slice a0 l.length c0) l (k+1):=h.go hs2 hc2 AX;have hI:=mE w2 g _ l (k+1) s h2;clear hN hc2
  by_cases s1:bK (l.drop (k+1)) s=true
  ·rw[if_pos s1] at Ag
   rw[s1] at hI;have A7:=Hh Ag;clear Ag hne;go_wp2_with fail;refine hI.mono ?_;rintro _ w3 ⟨rfl,hb3⟩;have A5:=h2.box.below hb3 h2.box.lt;have A0:=hs2.trans (aB.of hb3);have H3:=Jh (A5.setI 1 (.int .i64 (((k+1:Nat):Int)+1))) (A0.set 1 (.int .i64 (((k+1:Nat):Int)+1)));have Ay:=A5.lt;clear hs2 hI hb3 h2 A0;obtain⟨AG,AJ,AH,AK,AI,AL⟩:=A5.n3 rfl;clear A5;go_wp2;go_ret;rw[A7.out];exact⟨H3.out.2,H3.out.1,_,_,_,rfl,fun _ o t=>af.leaf _ _ o t⟩
  ·have Be:bK (l.drop (k+1)) s=false:=by simpa using s1
   rw[if_neg s1] at Ag;rw[Be] at hI;go_wp2_with fail;refine hI.mono ?_;rintro _ w3 ⟨rfl,hb3⟩;have h3:=h2.step hb3;have A0:=hs2.trans (aB.of hb3)
   have AC:ML w g (.slice a0 l.length c0) s l k d m R (.slice none 0 0) w3:=by
    refine⟨A0,[],m,k+1,pV.nil _ _,(by intro s hs;cases hs),Nat.le_refl _,h3,by omega,Nat.zero_le _,?_⟩;rw[Ag,show k+1-k=1 by omega];rfl
   have AB:=Hh AC;clear AC A0 h3 hb3 hI h2 hs2 Ag;go_wp2_with fail;go_loopw [7] (fun v wr=>ML w g (.slice a0 l.length c0) s l k d m R v wr) (fun _ wr=>l.length+1-sM wr g)
   case atStart=>exact AB.out
   case round=>
    clear AB;obtain⟨AA,L,j,k',Am,AT,hj,h5,Bi,Bh,Ab⟩:=hrel;obtain⟨va,vc,rfl⟩:=Am.len
    cases j with
    |zero=>rw[Ab] at hne;exact absurd rfl hne
    |succ j=>
    rw[ai] at Ab;simp only[List.drop_drop] at Ab;have AZ:=h5.le;have AV:=Hh h5.box.pos
    have A9:(ai j .choice (l.drop k') (d+1)).2.2≠-1:=by
     have Az:=hne;rw[Ab] at Az;exact iC Az
    have Ax:=(eT j .choice (l.drop k') (d+1) (by simp only[Nt.okX]) A9).1;rw[List.length_drop] at Ax;have A8:=hC j (by omega) wr g (.slice a0 l.length c0) l k' (d+1) h5 (by omega) A9;rw[show ((d+1:Nat):Int)=(d:Int)+1 by omega] at A8;generalize ai j .choice (l.drop k') (d+1)=r2 at *;obtain⟨x2,n2,e2⟩:=r2;simp only at Ax A9;have A4:=Hh Ab;clear Ab;go_wp2_with fail;refine A8.mono ?_;rintro _ w6 ⟨hs6,hc6,o2,t2,a2,m2,c2,rfl,hX2⟩;simp only at hc6 hX2;have Ao:=Am.save hs6 An;have Au:=AT.save hs6 An;have Bc:=hs6.size;have Bm:=AA.size;have A2:=AA.trans hs6
    have AW:e2=0->oP w6 g (.slice a0 l.length c0) l (k'+n2):=fun he=>by
     subst he;exact h5.go hs6 hc6 (by omega)
    have AU:∀b,(Value.slice va L.length vc).ownBlock=some b->b<wr.heap.size:=fun b hb=>(World.ownsRow.lt Am.2 b hb).2
    have AE:e2=0->af (fun b=>w.heap.size<=b/\some b≠(Value.slice va L.length vc).ownBlock) w6 x2 (dQ o2 t2 (.slice a2 m2 c2)):=fun he=>
     af.move lz (fun _ _ _=>rfl) (fun b hb _=>⟨by omega,fun e=>by have:=AU b e.symm;omega⟩) x2 _ (hX2 he)
    clear A8 Am AT AA hs6 hX2;go_wp2_with (with_reducible first|refine aK ?_)
    refine Stop.out ?_;have Aq:Below w6.heap.size w6 (w6.alloc (.cells #[.string o2,.string t2,.slice a2 m2 c2] 52)):=(Below.refl _ _).alloc lz _;have AS:=hc6.below Aq hc6.lt;have Af:=Ao.keep (fun b _ Ay=>Aq.block b Ay);have Aw:=Au.keep Aq.size (fun b _ Ay=>Aq.block b Ay);have AF:=fun he=>af.below Aq x2 _ (AE he);have Bd:(w6.alloc (.cells #[.string o2,.string t2,.slice a2 m2 c2] 52)).heap.size=w6.heap.size+1:=by simp
    have A3:=A2.trans (aB.of Aq);refine mf rfl _ _ rfl w.heap.size L (by exact Af) w6.heap.size rfl x2 o2 t2 a2 m2 c2 (ae.new _ _ _) (by omega) (by omega) _ rfl ?_;intro gb cap w7 hrow7 hg7 hat7 hge7;have Ad:e2=0->En w.heap.size w7 (.slice (some ⟨gb,0,none⟩) (L.length+1) cap) (L++[(x2,dQ o2 t2 (.slice a2 m2 c2))]):=fun he=>En.push Aw (AF he) hg7 hat7;have Ae:aB g w w7:=A3.grown hg7 (fun b hb=>(World.ownsRow.lt Af.2 b hb).1);have At:iZ w7 g (.slice a0 l.length c0) ((k'+n2:Nat)) e2:=AS.kept hg7 (fun e=>by have:=(World.ownsRow.lt Af.2 g e.symm).1;omega)
    have Al:e2=0->oP w7 g (.slice a0 l.length c0) l (k'+n2):=fun he=>by
     subst he;exact h.go Ae At (by omega)
    clear Aq AS Af Aw AF Bd A3 hg7 hat7 hge7 hc6 Ao Au AE AW A2 AU h5 Bc
    by_cases he2:e2=0
    ·subst he2
     have Ab:=A4.out;rw[bP (by rfl)] at Ab
     replace Al:=Al rfl
     replace Ad:=Ad rfl
     have hI:=mE w7 g _ l (k'+n2) jC Al
     by_cases s2:bK (l.drop (k'+n2)) jC=true
     ·have AY:k'+n2+1<=l.length:=by have:=bI s2;rw[List.length_drop] at this;omega
      have Aa:R=dO (k'+n2+1-k) (ai j (.mloop s ((L++[(x2,dQ o2 t2 (.slice a2 m2 c2))]).map (·.1))) (l.drop (k'+n2+1)) d):=by
       rw[Ab];show dO (k'-k) (if bK (l.drop (k'+n2)) jC=true then _ else _)=_;rw[if_pos s2,mg,show k'-k+(n2+1)=k'+n2+1-k by omega];simp only[List.map_append,List.map_cons,List.map_nil];rfl
      rw[s2] at hI;have A4:=Hh Aa;clear Ab Aa;go_wp2_with fail;refine hI.mono ?_;rintro _ w8 ⟨rfl,hb8⟩;have Ar:=Al.box.below hb8 Al.box.lt;have A1:=aB.of (g:=g) hb8;have Ac:iZ (w8.setCell ⟨g,1,none⟩ (.int .i64 ((k':Int)+(n2:Int)+1))) g (.slice a0 l.length c0) ((k'+n2+1:Nat)) 0:=Ar.setI 1 (.int .i64 ((k':Int)+(n2:Int)+1));have Ah:aB g w7 (w8.setCell ⟨g,1,none⟩ (.int .i64 ((k':Int)+(n2:Int)+1))):=A1.set 1 _;have H9:=Jh Ac (And.intro (Ae.trans Ah) (And.intro (hrow7.save Ah An) (Ad.save Ah An)));have Ay:=Ar.lt;clear Ac Ah A1 hb8 hI Al Ad hrow7 Ae At;obtain⟨AM,AP,AN,AQ,AO,AR⟩:=Ar.n3 rfl;clear Ar;go_wp2_with fail;obtain⟨Ac,Ak,Ai,As⟩:=H9.out;constructor
      ·refine⟨Ak,_,j,k'+n2+1,Ai,As,by omega,h.go Ak Ac AY,by omega,by simp;omega,A4.out⟩
      ·have Bb:=iZ.pos Ac
       rw[Bb,AV.out];omega
     ·have Bf:bK (l.drop (k'+n2)) jC=false:=by simpa using s2
      rw[Bf] at hI
      have Aa:R=dO (k'-k) (if bK (l.drop (k'+n2)) s=true then (.mk iL iL ((L++[(x2,dQ o2 t2 (.slice a2 m2 c2))]).map (·.1)),n2+1,0) else cZ (l.drop (k'+n2)) n2):=by
       rw[Ab];show dO (k'-k) (if bK (l.drop (k'+n2)) jC=true then _ else _)=_;rw[if_neg s2];simp only[List.map_append,List.map_cons,List.map_nil]
      clear Ab;go_wp2_with fail;refine hI.mono ?_;rintro _ w8 ⟨rfl,hb8⟩;have AD:=Al.step hb8;have Aj:=Ae.trans (aB.of hb8);have Ap:=hrow7.save (aB.of (g:=g) hb8) An;have Av:=Ad.save (aB.of (g:=g) hb8) An;clear Al Ae hrow7 Ad hb8 hI;have hN:=vR w8 g _ l (k'+n2) s AD;go_wp2_with fail;refine hN.mono ?_;rintro _ w9 ⟨rfl,Ac,Ah⟩;have H9:=Jh Ac (And.intro (Aj.trans Ah) (And.intro (Ap.save Ah An) (Av.save Ah An)));have A6:=Hh Aa;clear Ac Ah Aj Ap Av hN AD Aa At;go_wp2;go_ret;obtain⟨Ac,Ak,Ai,As⟩:=H9.out;have Aa:=A6.out
      by_cases s3:bK (l.drop (k'+n2)) s=true
      ·rw[if_pos s3] at Aa
       rw[s3,if_pos rfl,if_pos rfl] at Ac;rw[Aa];refine⟨Ak,?_,_,_,_,rfl,fun _=>zS Ai As⟩;show iZ _ g _ ((k+(k'-k+(n2+1)):Nat)) 0;rw[show k+(k'-k+(n2+1))=k'+n2+1 by omega];exact Ac
      ·have Bg:bK (l.drop (k'+n2)) s=false:=by simpa using s3
       rw[if_neg s3,rY] at Aa;rw[Bg,if_neg (by simp),if_neg (by simp)] at Ac;rw[Aa];refine⟨Ak,?_,_,_,_,rfl,fun e=>absurd e (oW _)⟩;show iZ _ g _ ((k+(k'-k+n2):Nat)) (yL _);rw[show k+(k'-k+n2)=k'+n2 by omega];exact Ac
    ·have Ab:=A4.out
     rw[aZ (by exact he2)] at Ab;have A6:=Hh Ab;have hI:=FE w7 g _ _ e2 jC At he2 ⟨_,_,_,rfl⟩;clear Ab Al Ad hrow7;go_wp2_with fail;refine hI.mono ?_;rintro _ w8 ⟨rfl,Ar,A1⟩;have hN:=xB w8 g _ _ e2 s Ar he2 ⟨_,_,_,rfl⟩;have Aj:=Ae.trans A1;clear hI A1 Ae At Ar;go_wp2_with fail;refine hN.mono ?_;rintro _ w9 ⟨rfl,Ac,Ah⟩;have H9:=Jh Ac (Aj.trans Ah);clear Ac Ah Aj hN;go_wp2;go_ret;rw[A6.out];refine⟨H9.out.2,?_,_,_,_,rfl,fun e=>absurd e he2⟩;show iZ _ g _ ((k+(k'-k+n2):Nat)) e2;rw[show k+(k'-k+n2)=k'+n2 by omega];exact H9.out.1
theorem zF(s:ByteArray):(jD s=none/\∃x e,xm (xq (bs s))=.tuple #[.string x,.int .i64 e]/\e≠0)\/∃x,jD s=some x/\xm (xq (bs s))=.tuple #[.string x,.int .i64 0]:=by
 have hb:bs s=nb s.data.toList:=rfl;have hB:vI (nb s.data.toList):=gy _;have hl:(nb s.data.toList).length=s.size:=by rw[<-hb,ax]
 unfold jD xq xm;rw[hb]
 by_cases h1:(aV (nb s.data.toList)).2.2=0
 ·have hz:=(jd hB h1).2
  have Aa:¬(aV (nb s.data.toList)).2.2≠0:=fun h=>h h1
  by_cases h2:(aV (nb s.data.toList)).2.1=s.size
  ·right
   have h3:¬(aV (nb s.data.toList)).2.1<(nb s.data.toList).length:=by omega
   rw[if_pos ⟨h1,h2⟩,if_neg Aa,if_neg h3];exact⟨_,rfl,rfl⟩
  ·left
   have h3:(aV (nb s.data.toList)).2.1<(nb s.data.toList).length:=by omega
   have h4:¬((aV (nb s.data.toList)).2.2=0/\(aV (nb s.data.toList)).2.1=s.size):=fun h=>h2 h.2;rw[if_neg h4,if_neg Aa,if_pos h3];exact⟨rfl,_,_,rfl,by decide⟩
 ·left
  have h4:¬((aV (nb s.data.toList)).2.2=0/\(aV (nb s.data.toList)).2.1=s.size):=fun h=>h1 h.1;rw[if_neg h4,if_pos h1];exact⟨rfl,_,_,rfl,by simp only;omega⟩
structure Pm(w0:World)(q tb g:Nat)(t:ag)(w:World):Prop where
 rs:Rs w0 q g w
 tok:ae w tb #[.int .i64 t.kind,.string t.text,.int .i64 t.pos] 63
 tbg:tb≠g
 tb0:w0.heap.size<=tb
 tbq:tb≠q
theorem Pm.step{w0 w w':World}{q tb g:Nat}{t:ag}(h:Pm w0 q tb g t w)(hs:aB g w w'):Pm w0 q tb g t w':=
 ⟨h.rs.step hs,hs.cells h.tok h.tbg,h.tbg,h.tb0,h.tbq⟩
theorem iZ.below'{w w':World}{g:Nat}{lv:Value}{k e:Int}(h:iZ w g lv k e)(hb:Below w.heap.size w w'):iZ w' g lv k e:=ae.below h hb h.lt
theorem EY(m:Nat)(hM:L8 m)(hC:oz m):FX (m+1):=by
 intro w g lv l k d h hd hne;obtain⟨a0,c0,rfl,BZ,BG,-⟩:=h.toks.len;unfold maxLen at BG;have BY:=h.le;have Cb:=h.small;have BW:=h.box.lt;have H0:=Hh h;have hR:=Rs.start h;have h1:=h.step ((Below.refl _ w).alloc lz (.cells fH 52));have B4:(w.alloc (.cells fH 52)).heap.size=w.heap.size+1:=by simp
 obtain⟨R,A8⟩:=exq (ai (m+1) .prime (l.drop k) d);rw[<-A8] at hne ⊢;go_enter Tryz.func236,Tryz.ntmps236;go_wp2_with fail;generalize w.alloc (.cells fH 52)=w1 at hR h1 B4 ⊢;have AA:=h1.box;have Bj:=AA.lt
 by_cases hk:k=l.length
 ·have hq:((k:Int)==(l.length:Int))=true:=by rw[beq_iff_eq];omega
  have hW:=fun n=>oV (w1.drewN n) g _ l k (h1.step (bL w1.heap.size w1 n));rw[hk,List.drop_length,ai,rY] at A8;have Bu:l.drop k=[]:=by rw[hk,List.drop_length]
  rw[Bu] at hW;have Bb:yL []≠0:=oW _;generalize yL []=ee at *;have AQ:=Jh A8 Bb;clear A8 Bb Bu hk h1;obtain⟨AH,AK,AI,AL,AJ,AM⟩:=AA.n3 rfl;clear AA;go_quiet (fail)
  go_wp2_with fail;refine (hW _).mono ?_;rintro _ w2 ⟨rfl,hc9,hs2⟩;have Ax:=hR.step (((aB.refl g w1).drewN _).trans hs2);have Ab:=Ax.res;have A0:=Ab.lt;have HR:=Jh Ax hc9;clear hR hs2 hW AH AI AJ AK AL AM Ax hc9;obtain⟨Ac,Af,Ad,Ag,Ae,Ah⟩:=Ab.n3 rfl;clear Ab;go_wp2;obtain⟨Ax,hc9⟩:=HR.out;have hq:=((Ax.res.setI 0 (.string ⟨#[]⟩)).setI 1 (.string ⟨#[]⟩)).setI 2 (.slice none 0 0);obtain⟨hx,hy,hz⟩:=hq.m3 rfl;refine bodyPost_ret (v:=.agg #[.string ⟨#[]⟩,.string ⟨#[]⟩,.slice none 0 0]) (by simp[results,Tryz.results236,go_sem,hx,hy,hz]) rfl ?_;have Az:=Ax.fin [.string ⟨#[]⟩,.string ⟨#[]⟩,.slice none 0 0];have Ay:=Ax.prc hc9 [.string ⟨#[]⟩,.string ⟨#[]⟩,.slice none 0 0];show XP g (.slice a0 l.length c0) k _ w _ (ak w2 w.heap.size 0 [.string ⟨#[]⟩,.string ⟨#[]⟩,.slice none 0 0]);rw[AQ.out.1];exact⟨Az,Ay,_,_,_,_,_,rfl,fun e=>absurd e AQ.out.2⟩
 ·have AB:k<l.length:=by omega
  have hq:((k:Int)==(l.length:Int))=false:=by rw[beq_eq_false_iff_ne];omega
  obtain⟨tb,A4,BR,Bg,Bm,Bn,Bo⟩:=aH.get h1.toks AB;have AY:l.drop k=l[k]::l.drop (k+1):=List.drop_eq_getElem_cons AB;rw[AY,ai,<-AY] at A8;have Bf:=h1.short _ (List.getElem_mem AB);cases BR
  generalize l[k]=t at *;have Bt:=AA;obtain⟨AE,AU,AF,AV,AT,AW⟩:=Bt.n3 rfl;go_quiet (fail)
  go_wp2_with fail;have ha:∀(n b' o':Nat) (u:Value),b'<w1.heap.size->w1.cell? ⟨b',o',none⟩=some u->((w1.drewN n).alloc (.cells #[.int .i64 0,.string ⟨#[]⟩,.int .i64 0] 63)).cell? ⟨b',o',none⟩=some u:=fun n b' o' u h1 h2=>(World.cell?_alloc_past _ _ _ h1).trans h2;have B8:=fun n=>ha n _ _ _ Bj AE;have B9:=fun n=>ha n _ _ _ Bj AF;have BA:=fun n=>ha n _ _ _ Bg Bm;have BB:=fun n=>ha n _ _ _ Bg Bn;have BC:=fun n=>ha n _ _ _ Bg Bo;have hn:=fun n=>ae.new (w1.drewN n) #[.int .i64 0,.string ⟨#[]⟩,.int .i64 0] 63;have BK:∀n,((w1.drewN n).alloc (.cells #[.int .i64 0,.string ⟨#[]⟩,.int .i64 0] 63)).cell? ⟨w1.heap.size,0,none⟩=some (.int .i64 0):=fun n=>(hn n).cell 0 _ rfl;have BL:∀n,((w1.drewN n).alloc (.cells #[.int .i64 0,.string ⟨#[]⟩,.int .i64 0] 63)).cell? ⟨w1.heap.size,1,none⟩=some (.string ⟨#[]⟩):=fun n=>(hn n).cell 1 _ rfl;have BM:∀n,((w1.drewN n).alloc (.cells #[.int .i64 0,.string ⟨#[]⟩,.int .i64 0] 63)).cell? ⟨w1.heap.size,2,none⟩=some (.int .i64 0):=fun n=>(hn n).cell 2 _ rfl;have BH:∀n,((w1.drewN n).alloc (.cells #[.int .i64 0,.string ⟨#[]⟩,.int .i64 0] 63)).frozen? ⟨w1.heap.size,0,none⟩=false:=fun n=>(hn n).frozen 0;have BI:∀n,((w1.drewN n).alloc (.cells #[.int .i64 0,.string ⟨#[]⟩,.int .i64 0] 63)).frozen? ⟨w1.heap.size,1,none⟩=false:=fun n=>(hn n).frozen 1;have BJ:∀n,((w1.drewN n).alloc (.cells #[.int .i64 0,.string ⟨#[]⟩,.int .i64 0] 63)).frozen? ⟨w1.heap.size,2,none⟩=false:=fun n=>(hn n).frozen 2
  have AQ:=Hh A8;have H1:=Jh h1 (And.intro hR (And.intro Bf AY));clear A8 h1 hR Bf AY AA H0;go_region
  have Bd:Below w1.heap.size w1 ((w1.drewN (nq+1)).alloc (.cells #[.int .i64 t.kind,.string t.text,.int .i64 t.pos] 63)):=(bL w1.heap.size w1 (nq+1)).alloc lz _;have Be:=ae.new (w1.drewN (nq+1)) #[.int .i64 t.kind,.string t.text,.int .i64 t.pos] 63;rw[show (w1.drewN (nq+1)).heap.size=w.heap.size+1 from B4] at Be;generalize (w1.drewN (nq+1)).alloc (.cells #[.int .i64 t.kind,.string t.text,.int .i64 t.pos] 63)=w2 at Bd Be ⊢;obtain⟨h1,hR,Bf,AY⟩:=H1.out;have h2:=h1.step Bd;have Aa:Pm w w.heap.size (w.heap.size+1) g t w2:=⟨hR.below Bd,Be,by omega,by omega,by omega⟩;clear H1 h1 hR Bd Be ha B8 B9 BA BB BC hn BK BL BM BH BI BJ Bm Bn Bo AE AF AT AU AV AW Bt Bj Bg hq;have Ai:=AQ.out
  by_cases k1:t.kind=1
  ·rw[if_pos k1] at Ai
   have kb:(t.kind==1)=true:=by rw[beq_iff_eq];exact k1
   have A7:aB g w2 (w2.setCell ⟨g,1,none⟩ (.int .i64 ((k:Int)+1))):=(aB.refl g w2).set 1 _;have AX:iZ (w2.setCell ⟨g,1,none⟩ (.int .i64 ((k:Int)+1))) g (.slice (some ⟨tb,A4,none⟩) l.length c0) ((k+1:Nat)) 0:=h2.box.setI 1 (.int .i64 ((k:Int)+1));have h6:oP (w2.setCell ⟨g,1,none⟩ (.int .i64 ((k:Int)+1))) g (.slice (some ⟨tb,A4,none⟩) l.length c0) l (k+1):=h2.go A7 AX AB;have H6:=Jh (Aa.step A7) h6;have hc9:=h2.box;have K1:=Hh k1;have AD:=Hh Ai;clear A7 AX h6 h2 k1 AQ Ai;have Ab:=Aa.rs.res;have A0:=Ab.lt;have Aw:=Aa.tok;have A1:=Aw.lt;have A3:=hc9.lt;have HR:=Jh Aa hc9;obtain⟨Ac,Af,Ad,Ag,Ae,Ah⟩:=Ab.n3 rfl;obtain⟨Aj,Am,Ak,An,Al,Ao⟩:=Aw.n3 rfl;obtain⟨Ap,As,Aq,At,Ar,Au⟩:=hc9.n3 rfl;clear Aa hc9 Ab Aw;go_wp2_with fail;obtain⟨Aa,hc9⟩:=HR.out;clear HR A0 A1 A3 Ac Ad Ae Af Ag Ah Aj Ak Al Am An Ao Ap Aq Ar As At Au;clear Aa hc9
   obtain⟨Aa,h6⟩:=H6.out;clear H6;generalize w2.setCell ⟨g,1,none⟩ (.int .i64 ((k:Int)+1))=w3 at *;have hI:=mE w3 g _ l (k+1) AO h6;have Ai:=AD.out;clear AD
   by_cases s1:bK (l.drop (k+1)) AO=true
   ·rw[if_pos s1] at Ai
    rw[s1] at hI
    have AC:(ai m (.many p9) (l.drop (k+1)) d).2.2≠-1:=by
     have A5:=hne;rw[Ai] at A5;exact iC (g:=dO 1 (ai m (.many p9) (l.drop (k+1)) d)) A5
    have AG:=fun w3 h3=>hM w3 g (.slice (some ⟨tb,A4,none⟩) l.length c0) l (k+1) d p9 h3 (bI s1) hd (.inl rfl) AC;generalize ai m (.many p9) (l.drop (k+1)) d=r1 at *;obtain⟨x1,n1,e1⟩:=r1;simp only at AG AC;have A2:=Hh Ai;clear Ai;refine hI.mono ?_;rintro _ w4 ⟨rfl,hb4⟩;have h4:=h6.step hb4
    replace Aa:=Aa.step (aB.of hb4)
    have B7:=AG w4.drew (h4.step ((Below.refl _ _).drew));clear AG hI h6 hb4;have Bp:=Hh Aa;have Aw:=Aa.tok;have A1:=Aw.lt;have BS:=Aa.rs.save.size;clear Aa;obtain⟨Aj,Am,Ak,An,Al,Ao⟩:=Aw.n3 rfl;go_wp2_with fail
    go_region_law (first
     |(go_simp;go_at_call 238;refine B7.mono ?_;rintro _ w5 ⟨hs5,hc5,ya,yn,yc,rfl,hX5⟩;have AN:=hs5.cells Aw.drew (by omega);have BE:=AN.lt;have BV:=AN.cell 1 _ rfl;have Ab:=(Bp.out.step ((aB.refl g w4).drew.trans hs5)).rs.res;have A0:=Ab.lt;obtain⟨Ca,Cc,BO,Cd,BP,Ce⟩:=Ab.n3 rfl;have H5:=Jh hs5 (And.intro hc5 hX5);clear hs5 hc5 hX5 Ab AN))
    all_goals
     go_wp2;obtain⟨hs5,hc9,hX5⟩:=H5.out;have BQ:=(aB.refl g w4).drew.trans hs5;have Ax:=(Bp.out.step BQ).rs;have hq:=((Ax.res.setI 0 (.string kD)).setI 1 (.string t.text)).setI 2 (.slice ya yn yc);obtain⟨hx,hy,hz⟩:=hq.m3 rfl;refine bodyPost_ret (v:=.agg #[.string kD,.string t.text,.slice ya yn yc]) (by simp[results,Tryz.results236,go_sem,hx,hy,hz]) rfl ?_;have Az:=Ax.fin [.string kD,.string t.text,.slice ya yn yc];have Ay:=Ax.prc hc9 [.string kD,.string t.text,.slice ya yn yc];show XP g (.slice (some ⟨tb,A4,none⟩) l.length c0) k _ w _ (ak w5 w.heap.size 0 [.string kD,.string t.text,.slice ya yn yc]);have Ai:=A2.out;have B5:w.heap.size<w4.drew.heap.size:=by show w.heap.size<w4.heap.size;omega
     by_cases he:e1=0
     ·subst he
      rw[bP (by rfl)] at Ai;simp only[dO] at Ai;rw[Ai];rw[show k+1+n1=k+(1+n1) by omega] at Ay;exact⟨Az,Ay,_,_,_,_,_,rfl,fun _=>af.keep (Nat.le_of_lt B5) B5 (hX5 rfl kD t.text)⟩
     ·rw[aZ (by exact he)] at Ai
      simp only[dO] at Ai;rw[Ai];rw[show k+1+n1=k+(1+n1) by omega] at Ay;exact⟨Az,Ay,_,_,_,_,_,rfl,fun h=>absurd h he⟩
   ·have Bl:bK (l.drop (k+1)) AO=false:=by simpa using s1
    rw[if_neg s1] at Ai;rw[Bl] at hI;have A2:=Hh Ai;clear Ai;refine hI.mono ?_;rintro _ w4 ⟨rfl,hb4⟩;have hc9:=h6.box.below hb4 h6.box.lt
    replace Aa:=Aa.step (aB.of hb4)
    clear hI h6 hb4;have Ab:=Aa.rs.res;have A0:=Ab.lt;have Aw:=Aa.tok;have A1:=Aw.lt;have A3:=hc9.lt;have HR:=Jh Aa hc9;obtain⟨Ac,Af,Ad,Ag,Ae,Ah⟩:=Ab.n3 rfl;obtain⟨Aj,Am,Ak,An,Al,Ao⟩:=Aw.n3 rfl;obtain⟨Ap,As,Aq,At,Ar,Au⟩:=hc9.n3 rfl;clear Aa hc9 Ab Aw;go_wp2;obtain⟨Aa,hc9⟩:=HR.out;have Ax:=Aa.rs;have hq:=((Ax.res.setI 0 (.string qO)).setI 1 (.string t.text)).setI 2 (.slice none 0 0);obtain⟨hx,hy,hz⟩:=hq.m3 rfl;refine bodyPost_ret (v:=.agg #[.string qO,.string t.text,.slice none 0 0]) (by simp[results,Tryz.results236,go_sem,hx,hy,hz]) rfl ?_;have Az:=Ax.fin [.string qO,.string t.text,.slice none 0 0];have Ay:=Ax.prc hc9 [.string qO,.string t.text,.slice none 0 0];show XP g (.slice (some ⟨tb,A4,none⟩) l.length c0) k _ w _ (ak w4 w.heap.size 0 [.string qO,.string t.text,.slice none 0 0]);rw[A2.out];exact⟨Az,Ay,_,_,_,_,_,rfl,fun _=>af.leaf _ _ qO t.text⟩
  ·have Ch:(t.kind==1)=false:=by rw[beq_eq_false_iff_ne];exact k1
   rw[if_neg k1] at Ai;have K1:=Hh k1;clear k1 AQ
   by_cases k2:t.kind=2
   ·rw[if_pos k2] at Ai
    have kb:(t.kind==2)=true:=by rw[beq_iff_eq];exact k2
    have A2:=Hh Ai;have H9:=Hh (h2.box.setI 1 (.int .i64 ((k:Int)+1)));have K2:=Hh k2;have hc9:=h2.box;have Bi:=Hh (Aa.step ((aB.refl g w2).set 1 (.int .i64 ((k:Int)+1))));clear Ai k2 h2;have Ab:=Aa.rs.res;have A0:=Ab.lt;have Aw:=Aa.tok;have A1:=Aw.lt;have A3:=hc9.lt;have HR:=Jh Aa hc9;obtain⟨Ac,Af,Ad,Ag,Ae,Ah⟩:=Ab.n3 rfl;obtain⟨Aj,Am,Ak,An,Al,Ao⟩:=Aw.n3 rfl;obtain⟨Ap,As,Aq,At,Ar,Au⟩:=hc9.n3 rfl;clear Aa hc9 Ab Aw;go_wp2;obtain⟨Aa,hc9⟩:=HR.out;clear HR A0 A1 A3 Ac Ad Ae Af Ag Ah Aj Ak Al Am An Ao Ap Aq Ar As At Au;clear Aa hc9;have Ax:=Bi.out.rs;have hc9:iZ (w2.setCell ⟨g,1,none⟩ (.int .i64 ((k:Int)+1))) g (.slice (some ⟨tb,A4,none⟩) l.length c0) ((k+1:Nat)) 0:=H9.out;have hq:=((Ax.res.setI 0 (.string yY)).setI 1 (.string t.text)).setI 2 (.slice none 0 0);obtain⟨hx,hy,hz⟩:=hq.m3 rfl;refine bodyPost_ret (v:=.agg #[.string yY,.string t.text,.slice none 0 0]) (by simp[results,Tryz.results236,go_sem,hx,hy,hz]) rfl ?_
    have Az:=Ax.fin [.string yY,.string t.text,.slice none 0 0];have Ay:=Ax.prc hc9 [.string yY,.string t.text,.slice none 0 0];show XP g (.slice (some ⟨tb,A4,none⟩) l.length c0) k _ w _ (ak (w2.setCell ⟨g,1,none⟩ (.int .i64 ((k:Int)+1))) w.heap.size 0 [.string yY,.string t.text,.slice none 0 0]);rw[A2.out];exact⟨Az,Ay,_,_,_,_,_,rfl,fun _=>af.leaf _ _ yY t.text⟩
   ·have Ci:(t.kind==2)=false:=by rw[beq_eq_false_iff_ne];exact k2
    rw[if_neg k2] at Ai;have K2:=Hh k2;clear k2
    by_cases k3:t.kind=3
    ·rw[if_pos k3] at Ai
     have kb:(t.kind==3)=true:=by rw[beq_iff_eq];exact k3
     have K3:=Hh k3;have AR:=Av t.text w2 Bf h2.tab;rcases zF t.text with ⟨hq1,xs,e,hq2,hq3⟩|⟨xs,hq1,hq2⟩
     ·rw[hq1] at Ai
      rw[hq2] at AR;have A2:=Hh Ai;have BN:(e != 0)=true:=by simpa using hq3
      have hc9:=h2.box;have H2:=Hh h2;clear Ai hq1 hq2 hq3 k3 h2;have Ab:=Aa.rs.res;have A0:=Ab.lt;have Aw:=Aa.tok;have A1:=Aw.lt;have A3:=hc9.lt;have HR:=Jh Aa hc9;obtain⟨Ac,Af,Ad,Ag,Ae,Ah⟩:=Ab.n3 rfl;obtain⟨Aj,Am,Ak,An,Al,Ao⟩:=Aw.n3 rfl;obtain⟨Ap,As,Aq,At,Ar,Au⟩:=hc9.n3 rfl;clear Aa hc9 Ab Aw;go_wp2_with fail;refine AR.mono ?_;rintro _ w3 ⟨rfl,hb3⟩;obtain⟨Aa,hc9⟩:=HR.out;clear HR A0 A1 A3 Ac Ad Ae Af Ag Ah Aj Ak Al Am An Ao Ap Aq Ar As At Au
      replace Aa:=Aa.step (aB.of hb3)
      replace hc9:=iZ.below' hc9 hb3
      have hN:=BD w3 g _ (k:Nat) 3 hc9;clear hb3 AR hc9;go_wp2_with fail;refine hN.mono ?_;rintro _ w4 ⟨rfl,hc9,hs4⟩
      replace Aa:=Aa.step hs4
      clear hN hs4;have Ab:=Aa.rs.res;have A0:=Ab.lt;have Aw:=Aa.tok;have A1:=Aw.lt;have A3:=hc9.lt;have HR:=Jh Aa hc9;obtain⟨Ac,Af,Ad,Ag,Ae,Ah⟩:=Ab.n3 rfl;obtain⟨Aj,Am,Ak,An,Al,Ao⟩:=Aw.n3 rfl;obtain⟨Ap,As,Aq,At,Ar,Au⟩:=hc9.n3 rfl;clear Aa hc9 Ab Aw;go_wp2;obtain⟨Aa,hc9⟩:=HR.out;have Ax:=Aa.rs;have hq:=((Ax.res.setI 0 (.string ⟨#[]⟩)).setI 1 (.string ⟨#[]⟩)).setI 2 (.slice none 0 0);obtain⟨hx,hy,hz⟩:=hq.m3 rfl;refine bodyPost_ret (v:=.agg #[.string ⟨#[]⟩,.string ⟨#[]⟩,.slice none 0 0]) (by simp[results,Tryz.results236,go_sem,hx,hy,hz]) rfl ?_;have Az:=Ax.fin [.string ⟨#[]⟩,.string ⟨#[]⟩,.slice none 0 0];have Ay:=Ax.prc hc9 [.string ⟨#[]⟩,.string ⟨#[]⟩,.slice none 0 0];show XP g (.slice (some ⟨tb,A4,none⟩) l.length c0) k _ w _ (ak w4 w.heap.size 0 [.string ⟨#[]⟩,.string ⟨#[]⟩,.slice none 0 0]);rw[A2.out];exact⟨Az,Ay,_,_,_,_,_,rfl,fun h=>by cases h⟩
     ·rw[hq1] at Ai
      rw[hq2] at AR;have A2:=Hh Ai;have hc9:=h2.box;clear Ai hq1 hq2 k3 h2;have Ab:=Aa.rs.res;have A0:=Ab.lt;have Aw:=Aa.tok;have A1:=Aw.lt;have A3:=hc9.lt;have HR:=Jh Aa hc9;obtain⟨Ac,Af,Ad,Ag,Ae,Ah⟩:=Ab.n3 rfl;obtain⟨Aj,Am,Ak,An,Al,Ao⟩:=Aw.n3 rfl;obtain⟨Ap,As,Aq,At,Ar,Au⟩:=hc9.n3 rfl;clear Aa hc9 Ab Aw;go_wp2_with fail;refine AR.mono ?_;rintro _ w3 ⟨rfl,hb3⟩;obtain⟨Aa,hc9⟩:=HR.out;clear HR A0 A1 A3 Ac Ad Ae Af Ag Ah Aj Ak Al Am An Ao Ap Aq Ar As At Au
      replace Aa:=Aa.step (aB.of hb3)
      replace hc9:=iZ.below' hc9 hb3
      have H9:=Hh (hc9.setI 1 (.int .i64 ((k:Int)+1)));have Bi:=Hh (Aa.step ((aB.refl g w3).set 1 (.int .i64 ((k:Int)+1))));clear hb3 AR;have Ab:=Aa.rs.res;have A0:=Ab.lt;have Aw:=Aa.tok;have A1:=Aw.lt;have A3:=hc9.lt;have HR:=Jh Aa hc9;obtain⟨Ac,Af,Ad,Ag,Ae,Ah⟩:=Ab.n3 rfl;obtain⟨Aj,Am,Ak,An,Al,Ao⟩:=Aw.n3 rfl;obtain⟨Ap,As,Aq,At,Ar,Au⟩:=hc9.n3 rfl;clear Aa hc9 Ab Aw;go_wp2;obtain⟨Aa,hc9⟩:=HR.out;clear HR A0 A1 A3 Ac Ad Ae Af Ag Ah Aj Ak Al Am An Ao Ap Aq Ar As At Au;clear Aa hc9;have Ax:=Bi.out.rs;have hc9:iZ (w3.setCell ⟨g,1,none⟩ (.int .i64 ((k:Int)+1))) g (.slice (some ⟨tb,A4,none⟩) l.length c0) ((k+1:Nat)) 0:=H9.out;have hq:=((Ax.res.setI 0 (.string pu)).setI 1 (.string xs)).setI 2 (.slice none 0 0);obtain⟨hx,hy,hz⟩:=hq.m3 rfl;refine bodyPost_ret (v:=.agg #[.string pu,.string xs,.slice none 0 0]) (by simp[results,Tryz.results236,go_sem,hx,hy,hz]) rfl ?_
      have Az:=Ax.fin [.string pu,.string xs,.slice none 0 0];have Ay:=Ax.prc hc9 [.string pu,.string xs,.slice none 0 0];show XP g (.slice (some ⟨tb,A4,none⟩) l.length c0) k _ w _ (ak (w3.setCell ⟨g,1,none⟩ (.int .i64 ((k:Int)+1))) w.heap.size 0 [.string pu,.string xs,.slice none 0 0]);rw[A2.out];exact⟨Az,Ay,_,_,_,_,_,rfl,fun _=>af.leaf _ _ pu xs⟩
    ·have Cj:(t.kind==3)=false:=by rw[beq_eq_false_iff_ne];exact k3
     rw[if_neg k3] at Ai;have K3:=Hh k3;clear k3;have AD:=Hh Ai;clear Ai;have hI:=mE w2 g _ l k AP h2;have hc9:=h2.box;have Ab:=Aa.rs.res;have A0:=Ab.lt;have Aw:=Aa.tok;have A1:=Aw.lt;have A3:=hc9.lt;have HR:=Jh Aa hc9;obtain⟨Ac,Af,Ad,Ag,Ae,Ah⟩:=Ab.n3 rfl;obtain⟨Aj,Am,Ak,An,Al,Ao⟩:=Aw.n3 rfl;obtain⟨Ap,As,Aq,At,Ar,Au⟩:=hc9.n3 rfl;clear Aa hc9 Ab Aw;go_wp2_with fail;obtain⟨Aa,hc9⟩:=HR.out;clear HR A0 A1 A3 Ac Ad Ae Af Ag Ah Aj Ak Al Am An Ao Ap Aq Ar As At Au;clear hc9;have Ai:=AD.out;clear AD
     by_cases s1:bK (l.drop k) AP=true
     ·rw[if_pos s1] at Ai
      rw[s1] at hI
      have AC:(ai m (.many o9) (l.drop k) d).2.2≠-1:=by
       have A5:=hne;rw[Ai] at A5;exact iC (g:=ai m (.many o9) (l.drop k) d) A5
      have AG:=fun w3 h3=>hM w3 g (.slice (some ⟨tb,A4,none⟩) l.length c0) l k d o9 h3 (bI s1) hd (.inr rfl) AC;generalize ai m (.many o9) (l.drop k) d=r1 at *;obtain⟨x1,n1,e1⟩:=r1;simp only at AG AC;have A2:=Hh Ai;clear Ai;refine hI.mono ?_;rintro _ w4 ⟨rfl,hb4⟩;have h4:=h2.step hb4
      replace Aa:=Aa.step (aB.of hb4)
      clear hI h2 hb4;have BS:=Aa.rs.save.size;have B2:=Aa.rs.res.lt;go_wp2_with fail;refine (AG w4 h4).mono ?_;rintro _ w5 ⟨hs5,hc9,ya,yn,yc,rfl,hX5⟩
      replace Aa:=Aa.step hs5
      have B6:=Hh hX5;clear hs5 h4 AG hX5;have Ab:=Aa.rs.res;have A0:=Ab.lt;have Aw:=Aa.tok;have A1:=Aw.lt;have A3:=hc9.lt;have HR:=Jh Aa hc9;obtain⟨Ac,Af,Ad,Ag,Ae,Ah⟩:=Ab.n3 rfl;obtain⟨Aj,Am,Ak,An,Al,Ao⟩:=Aw.n3 rfl;obtain⟨Ap,As,Aq,At,Ar,Au⟩:=hc9.n3 rfl;clear Aa hc9 Ab Aw;go_wp2;obtain⟨Aa,hc9⟩:=HR.out;have Ax:=Aa.rs;have hq:=((Ax.res.setI 0 (.string kz)).setI 1 (.string ⟨#[]⟩)).setI 2 (.slice ya yn yc);obtain⟨hx,hy,hz⟩:=hq.m3 rfl;refine bodyPost_ret (v:=.agg #[.string kz,.string ⟨#[]⟩,.slice ya yn yc]) (by simp[results,Tryz.results236,go_sem,hx,hy,hz]) rfl ?_;have Az:=Ax.fin [.string kz,.string ⟨#[]⟩,.slice ya yn yc];have Ay:=Ax.prc hc9 [.string kz,.string ⟨#[]⟩,.slice ya yn yc];show XP g (.slice (some ⟨tb,A4,none⟩) l.length c0) k _ w _ (ak w5 w.heap.size 0 [.string kz,.string ⟨#[]⟩,.slice ya yn yc]);have Ai:=A2.out
      by_cases he:e1=0
      ·subst he
       rw[bP (by rfl)] at Ai;rw[Ai];exact⟨Az,Ay,_,_,_,_,_,rfl,fun _=>af.keep (Nat.le_of_lt B2) B2 (B6.out rfl kz ⟨#[]⟩)⟩
      ·rw[aZ (by exact he)] at Ai
       rw[Ai];exact⟨Az,Ay,_,_,_,_,_,rfl,fun h=>absurd h he⟩
     ·have Bl:bK (l.drop k) AP=false:=by simpa using s1
      rw[if_neg s1] at Ai;rw[Bl] at hI;have AD:=Hh Ai;clear Ai;refine hI.mono ?_;rintro _ w4 ⟨rfl,hb4⟩;have h4:=h2.step hb4
      replace Aa:=Aa.step (aB.of hb4)
      clear hI h2 hb4;have hI:=mE w4 g _ l k AO h4;have hc9:=h4.box;have Ab:=Aa.rs.res;have A0:=Ab.lt;have Aw:=Aa.tok;have A1:=Aw.lt;have A3:=hc9.lt;have HR:=Jh Aa hc9;obtain⟨Ac,Af,Ad,Ag,Ae,Ah⟩:=Ab.n3 rfl;obtain⟨Aj,Am,Ak,An,Al,Ao⟩:=Aw.n3 rfl;obtain⟨Ap,As,Aq,At,Ar,Au⟩:=hc9.n3 rfl;clear Aa hc9 Ab Aw;go_wp2_with fail;obtain⟨Aa,hc9⟩:=HR.out;clear HR A0 A1 A3 Ac Ad Ae Af Ag Ah Aj Ak Al Am An Ao Ap Aq Ar As At Au;clear hc9;have Ai:=AD.out;clear AD
      by_cases s2:bK (l.drop k) AO=true
      ·rw[if_pos s2] at Ai
       rw[s2] at hI
       by_cases hd6:64<=d
       ·rw[if_pos hd6] at Ai
        have A2:=Hh Ai;clear Ai;refine hI.mono ?_;rintro _ w5 ⟨rfl,hb5⟩;have h5:=h4.step hb5
        replace Aa:=Aa.step (aB.of hb5)
        clear hI h4 hb5;have hN:=qm w5 g _ k d h5.box hd6;go_wp2_with fail;refine hN.mono ?_;rintro _ w6 ⟨rfl,hc9,A7⟩
        replace Aa:=Aa.step A7
        clear hN A7 h5;have Ab:=Aa.rs.res;have A0:=Ab.lt;have Aw:=Aa.tok;have A1:=Aw.lt;have A3:=hc9.lt;have HR:=Jh Aa hc9;obtain⟨Ac,Af,Ad,Ag,Ae,Ah⟩:=Ab.n3 rfl;obtain⟨Aj,Am,Ak,An,Al,Ao⟩:=Aw.n3 rfl;obtain⟨Ap,As,Aq,At,Ar,Au⟩:=hc9.n3 rfl;clear Aa hc9 Ab Aw;go_wp2;obtain⟨Aa,hc9⟩:=HR.out;have Ax:=Aa.rs;have hq:=((Ax.res.setI 0 (.string ⟨#[]⟩)).setI 1 (.string ⟨#[]⟩)).setI 2 (.slice none 0 0);obtain⟨hx,hy,hz⟩:=hq.m3 rfl;refine bodyPost_ret (v:=.agg #[.string ⟨#[]⟩,.string ⟨#[]⟩,.slice none 0 0]) (by simp[results,Tryz.results236,go_sem,hx,hy,hz]) rfl ?_;have Az:=Ax.fin [.string ⟨#[]⟩,.string ⟨#[]⟩,.slice none 0 0];have Ay:=Ax.prc hc9 [.string ⟨#[]⟩,.string ⟨#[]⟩,.slice none 0 0];show XP g (.slice (some ⟨tb,A4,none⟩) l.length c0) k _ w _ (ak w6 w.heap.size 0 [.string ⟨#[]⟩,.string ⟨#[]⟩,.slice none 0 0]);rw[A2.out];exact⟨Az,Ay,_,_,_,_,_,rfl,fun h=>by cases h⟩
       ·rw[if_neg hd6] at Ai
        simp only[List.drop_drop] at Ai
        have AC:(ai m .choice (l.drop (k+1)) (d+1)).2.2≠-1:=by
         have A5:=hne;rw[Ai] at A5;exact iC (g:=dO 1 (ai m .choice (l.drop (k+1)) (d+1))) A5
        have Ba:=(eT m .choice (l.drop (k+1)) (d+1) (by simp only[Nt.okX]) AC).1;rw[List.length_drop] at Ba;have Bh:=fun w3 h3=>hC w3 g (.slice (some ⟨tb,A4,none⟩) l.length c0) l (k+1) (d+1) h3 (by omega) AC;rw[show ((d+1:Nat):Int)=(d:Int)+1 by omega] at Bh;generalize ai m .choice (l.drop (k+1)) (d+1)=r1 at *;obtain⟨x1,n1,e1⟩:=r1;simp only at Ba AC;have A2:=Hh Ai;clear Ai;refine hI.mono ?_;rintro _ w5 ⟨rfl,hb5⟩;have h5:=h4.step hb5
        replace Aa:=Aa.step (aB.of hb5)
        clear hI h4 hb5;have hN:=nJ w5 g _ k d h5.box (by omega) (by omega);go_wp2_with fail;refine hN.mono ?_;rintro _ w6 ⟨rfl,AX,A7⟩;have h6:=h5.go A7 AX AB
        replace Aa:=Aa.step A7
        have Cf:=Aa.rs.save.size;have B3:=Aa.rs.res.lt;clear hN A7 h5 AX;go_wp2_with fail;refine (Bh w6 h6).mono ?_;rintro _ w7 ⟨hs7,hc7,o2,t2,a2,m2,c2,rfl,hX7⟩;simp only at hc7 hX7
        replace Aa:=Aa.step hs7
        have Bq:e1=0->oP w7 g (.slice (some ⟨tb,A4,none⟩) l.length c0) l (k+1+n1):=fun he=>by
         subst he;exact h6.go hs7 hc7 (by omega)
        have Cg:=hs7.size;clear hs7 h6 Bh;have AS:Below w7.heap.size w7 (w7.alloc (.cells #[.string o2,.string t2,.slice a2 m2 c2] 52)):=(Below.refl _ _).alloc lz _;have AZ:=ae.new w7 #[.string o2,.string t2,.slice a2 m2 c2] 52;have H8:=Jh (Aa.step (aB.of AS)) (And.intro (iZ.below' hc7 AS) (And.intro (fun he=>(Bq he).step AS) (And.intro AZ (fun he=>af.below AS x1 _ (hX7 he)))));clear AS AZ hX7 Bq Aa hc7;go_wp2_with fail;obtain⟨Aa,hc9,Br,AZ,Bs⟩:=H8.out;clear H8;generalize w7.alloc (.cells #[.string o2,.string t2,.slice a2 m2 c2] 52)=w8 at *;have Ai:=A2.out
        have hN:∃(kk:Nat) (ee:Int),Calls Tryz.prog 221 #[.pointer (some ⟨g,0,none⟩),.string p9] w8 (fun r w'=>r=.returned (.tuple #[])/\iZ w' g (.slice (some ⟨tb,A4,none⟩) l.length c0) (kk:Nat) ee/\aB g w8 w')/\k<=kk/\
          ((ee=0/\e1=0/\R=(x1,kk-k,0))\/(ee≠0/\R=(aU,kk-k,ee))):=by
         by_cases he:e1=0
         ·subst he
          have A9:R=(if bK (l.drop (k+(1+n1))) p9=false then cZ (l.drop (k+(1+n1))) (1+n1) else (x1,1+n1+1,0)):=by
           rw[Ai,bP (by rfl)];rfl
          have hN:=vR w8 g _ l (k+1+n1) p9 (Br rfl);rw[show k+(1+n1)=k+1+n1 by omega] at A9
          by_cases s3:bK (l.drop (k+1+n1)) p9=false
          ·rw[if_pos s3,rY] at A9
           rw[s3,if_neg (by simp),if_neg (by simp)] at hN;refine⟨k+1+n1,_,hN,by omega,.inr ⟨oW _,?_⟩⟩;rw[A9,show k+1+n1-k=1+n1 by omega]
          ·have BU:bK (l.drop (k+1+n1)) p9=true:=by simpa using s3
           rw[if_neg s3] at A9;rw[BU,if_pos rfl,if_pos rfl] at hN;refine⟨k+1+n1+1,_,hN,by omega,.inl ⟨rfl,rfl,?_⟩⟩;rw[A9,show k+1+n1+1-k=1+n1+1 by omega]
         ·rw[aZ (by exact he)] at Ai
          refine⟨k+1+n1,e1,xB w8 g _ _ e1 p9 hc9 he ⟨_,_,_,rfl⟩,by omega,.inr ⟨he,?_⟩⟩;rw[Ai];exact Prod.ext rfl (Prod.ext (by simp only[dO];omega) rfl)
        obtain⟨kk,ee,hN,BX,A6⟩:=hN;refine hN.mono ?_;rintro _ w9 ⟨rfl,hc10,hs10⟩;have Bk:=hs10.cells AZ (by omega)
        have Bc:e1=0->af (fun b=>w6.heap.size<=b) w9 x1 (dQ o2 t2 (.slice a2 m2 c2)):=fun he=>
         af.move hs10.size (fun b hb hlt=>hs10.2 b hlt (by omega)) (fun b hb _=>hb) x1 _ (Bs he)
        replace Aa:=Aa.step hs10
        replace hc9:=hc10
        have HC:=Jh A6 Bc;have BF:=Bk.lt;clear hs10 AZ Bs Br hc10 A6 Bc hN Ai A2;obtain⟨Bv,By,Bw,Bz,Bx,B0⟩:=Bk.n3 rfl;clear Bk;have Ab:=Aa.rs.res;have A0:=Ab.lt;have Aw:=Aa.tok;have A1:=Aw.lt;have A3:=hc9.lt;have HR:=Jh Aa hc9;obtain⟨Ac,Af,Ad,Ag,Ae,Ah⟩:=Ab.n3 rfl;obtain⟨Aj,Am,Ak,An,Al,Ao⟩:=Aw.n3 rfl;obtain⟨Ap,As,Aq,At,Ar,Au⟩:=hc9.n3 rfl;clear Aa hc9 Ab Aw;go_wp2;obtain⟨Aa,hc9⟩:=HR.out;have Ax:=Aa.rs;have hq:=((Ax.res.setI 0 (.string o2)).setI 1 (.string t2)).setI 2 (.slice a2 m2 c2);obtain⟨hx,hy,hz⟩:=hq.m3 rfl;refine bodyPost_ret (v:=.agg #[.string o2,.string t2,.slice a2 m2 c2]) (by simp[results,Tryz.results236,go_sem,hx,hy,hz]) rfl ?_;have Az:=Ax.fin [.string o2,.string t2,.slice a2 m2 c2];have Ay:=Ax.prc hc9 [.string o2,.string t2,.slice a2 m2 c2]
        show XP g (.slice (some ⟨tb,A4,none⟩) l.length c0) k _ w _ (ak w9 w.heap.size 0 [.string o2,.string t2,.slice a2 m2 c2]);obtain⟨A6,Bc⟩:=HC.out;have B1:k+(kk-k)=kk:=by omega
        rcases A6 with ⟨he0,he1,A8⟩|⟨he,A8⟩
        ·subst he0
         rw[A8];exact⟨Az,by show iZ _ g _ ((k+(kk-k):Nat)) 0;rw[B1];exact Ay,_,_,_,_,_,rfl,fun _=>af.keep (Nat.le_of_lt B3) B3 (Bc he1)⟩
        ·rw[A8]
         exact⟨Az,by show iZ _ g _ ((k+(kk-k):Nat)) ee;rw[B1];exact Ay,_,_,_,_,_,rfl,fun h=>absurd h he⟩
      ·have BT:bK (l.drop k) AO=false:=by simpa using s2
       rw[if_neg s2,rY] at Ai;rw[BT] at hI;have Bb:yL (l.drop k)≠0:=oW _;refine hI.mono ?_;rintro _ w5 ⟨rfl,hb5⟩;have h5:=h4.step hb5
       replace Aa:=Aa.step (aB.of hb5)
       have hW:=oV w5 g _ l k h5;generalize yL (l.drop k)=ee at *;have A2:=Jh Ai Bb;clear hI h4 hb5 Ai Bb h5;go_wp2_with fail;refine hW.mono ?_;rintro _ w6 ⟨rfl,hc9,A7⟩
       replace Aa:=Aa.step A7
       clear hW A7;have Ab:=Aa.rs.res;have A0:=Ab.lt;have Aw:=Aa.tok;have A1:=Aw.lt;have A3:=hc9.lt;have HR:=Jh Aa hc9;obtain⟨Ac,Af,Ad,Ag,Ae,Ah⟩:=Ab.n3 rfl;obtain⟨Aj,Am,Ak,An,Al,Ao⟩:=Aw.n3 rfl;obtain⟨Ap,As,Aq,At,Ar,Au⟩:=hc9.n3 rfl;clear Aa hc9 Ab Aw;go_wp2;obtain⟨Aa,hc9⟩:=HR.out;have Ax:=Aa.rs;have hq:=((Ax.res.setI 0 (.string ⟨#[]⟩)).setI 1 (.string ⟨#[]⟩)).setI 2 (.slice none 0 0);obtain⟨hx,hy,hz⟩:=hq.m3 rfl;refine bodyPost_ret (v:=.agg #[.string ⟨#[]⟩,.string ⟨#[]⟩,.slice none 0 0]) (by simp[results,Tryz.results236,go_sem,hx,hy,hz]) rfl ?_;have Az:=Ax.fin [.string ⟨#[]⟩,.string ⟨#[]⟩,.slice none 0 0];have Ay:=Ax.prc hc9 [.string ⟨#[]⟩,.string ⟨#[]⟩,.slice none 0 0];show XP g (.slice (some ⟨tb,A4,none⟩) l.length c0) k _ w _ (ak w6 w.heap.size 0 [.string ⟨#[]⟩,.string ⟨#[]⟩,.slice none 0 0]);rw[A2.out.1];exact⟨Az,Ay,_,_,_,_,_,rfl,fun e=>absurd e A2.out.2⟩
theorem kR(nt:Nt)(l:List ag)(d:Nat):(ai 0 nt l d).2.2 = -1:=by rw[ai]
theorem JC:∀m,oz m/\Eh m/\BM m/\L6 m/\FX m/\L8 m:=by
 intro m
 induction m using Nat.strongRecOn with
 |ind m ih=>
  cases m with
  |zero=>
   refine⟨?_,?_,?_,?_,?_,?_⟩
   ·intro w g lv l k d _ _ hne;exact absurd (kR _ _ _) hne
   ·intro w g lv l k d n bp bd bt _ _ _ _ _ hne;exact absurd (kR _ _ _) hne
   ·intro w g lv l k d _ _ hne;exact absurd (kR _ _ _) hne
   ·intro w g lv l k d _ _ hne;exact absurd (kR _ _ _) hne
   ·intro w g lv l k d _ _ hne;exact absurd (kR _ _ _) hne
   ·intro w g lv l k d s _ _ _ _ hne;exact absurd (kR _ _ _) hne
  |succ m=>
   have hm:=ih m (Nat.lt_succ_self m);have hc:∀j,j<=m->oz j:=fun j hj=>(ih j (by omega)).1;have ht:∀j,j<=m->Eh j:=fun j hj=>(ih j (by omega)).2.1;exact⟨Ea m hm.2.1 hm.1,Hw m hm.2.2.1 ht,Ex m hm.2.2.1 hm.2.2.2.1,IE m hm.2.2.2.2.1 hc,EY m hm.2.2.2.2.2 hm.1,IR m hc⟩
def gp(l:List ag):eX:=if 1000<l.length then (aU,1000,4) else if (ai (gT .choice l) .choice l 0).2.2=0 then ai (gT .choice l) .choice l 0 else (aU,(ai (gT .choice l) .choice l 0).2)
theorem MG(l:List ag):(gp l).2.2=0->(gp l).2.1<=l.length:=by
 unfold gp;have hf:=nC (gT .choice l) .choice l 0 lz (by simp only[Nt.okX]);split
 ·intro h;cases h
 ·split
  ·intro _;exact hf.2.1
  ·next h=>intro h2;exact absurd h2 h
def OB(w:World)(r:eX)(e:Ending)(w':World):Prop:=
 Below w.heap.size w w'/\∃o t a n c,e=.returned (.tuple #[PU o t (.slice a n c),.int .i64 (r.2.1:Nat),.int .i64 r.2.2])/\af (fun b=>w.heap.size<=b) w' r.1 (dQ o t (.slice a n c))
theorem y7(w:World)(lv:Value)(l:List ag)(h:aH w lv l)(ho:∀b,lv.ownBlock=some b->b<w.heap.size)(hT:Tab w)(hTg:1<w.heap.size)(hs:l.length<=1000000)(hsh:∀t∈l,t.text.size<=1048576) :
  Calls Tryz.prog 162 #[lv] w (OB w (gp l)):=by
 obtain⟨a0,c0,rfl,A3,Ay,-⟩:=h.len;unfold maxLen at Ay
 by_cases hbig:1000<l.length
 ·have hR:gp l=(aU,1000,4):=by unfold gp;rw[if_pos hbig]
  have hq:=ae.new w fH 52;have HR:=Hh hR;clear hR;go_enter Tryz.func162,Tryz.ntmps162;go_wp2;obtain⟨hx,hy,hz⟩:=hq.m3 rfl;refine bodyPost_ret (v:=.tuple #[.agg #[.string ⟨#[]⟩,.string ⟨#[]⟩,.slice none 0 0],.int .i64 1000,.int .i64 4]) (by simp[results,Tryz.results162,go_sem,hx,hy,hz]) rfl ?_;rw[HR.out];exact⟨(Below.refl _ w).alloc lz _,_,_,_,_,_,rfl,af.leaf _ _ _ _⟩
 ·have hf:=nC (gT .choice l) .choice l 0 lz (by simp only[Nt.okX])
  have hR:gp l=if (ai (gT .choice l) .choice l 0).2.2=0 then ai (gT .choice l) .choice l 0 else (aU,(ai (gT .choice l) .choice l 0).2):=by unfold gp;rw[if_neg hbig]
  have Ah:=(JC (gT .choice l)).1;have Aq:=hf.1;have Aa:Below w.heap.size w ((w.alloc (.cells fH 52)).alloc (.cells #[.slice a0 l.length c0,.int .i64 0,.int .i64 0] 220)):=((Below.refl _ w).alloc lz _).alloc (by simp) _;have Af:=(ae.new w fH 52).alloc (.cells #[.slice a0 l.length c0,.int .i64 0,.int .i64 0] 220);have Ae:=ae.new (w.alloc (.cells fH 52)) #[.slice a0 l.length c0,.int .i64 0,.int .i64 0] 220;simp only[World.size_alloc] at Ae
  have Ai:oP ((w.alloc (.cells fH 52)).alloc (.cells #[.slice a0 l.length c0,.int .i64 0,.int .i64 0] 220)) (w.heap.size+1) (.slice a0 l.length c0) l 0:=
   ⟨Ae,h.below Aa lz,fun b hb=>by have:=ho b hb;omega,Nat.zero_le _,hs,fun j hj=>(Aa.cell hTg).trans (hT j hj),by omega,hsh⟩
  have Ad:=Ah _ _ _ l 0 0 Ai (by omega) (by rw[List.drop_zero];exact Aq);rw[List.drop_zero] at Ad;have Az:=hf.2.1;generalize ai (gT .choice l) .choice l 0=r at *;obtain⟨x1,n1,e1⟩:=r;simp only at hR Aq Az;have HR:=Hh hR;clear hR Ah Ai Ae hf;go_enter Tryz.func162,Tryz.ntmps162;go_wp2_with fail;generalize (w.alloc (.cells fH 52)).alloc (.cells #[.slice a0 l.length c0,.int .i64 0,.int .i64 0] 220)=w2 at *;refine Ad.mono ?_;rintro _ w3 ⟨hs3,hc3,o,t,a,n,c,rfl,hX⟩;simp only[Nat.zero_add] at hc3 hX;have Ab:=hs3.cells Af (by omega);have A6:=Af.lt;have A5:=Aa.size;have HB:=Jh Aa (And.intro hs3 hX);clear Af Aa hs3 hX Ad h ho;have A4:=Ab.lt;have A2:=hc3.lt;have Aj:=Hh Ab;have A0:=Hh hc3;obtain⟨Ar,Au,As,Av,At,Aw⟩:=Ab.n3 rfl;obtain⟨Ak,An,Al,Ao,Am,Ap⟩:=hc3.n3 rfl;clear Ab hc3
  by_cases he:e1=0
  ·subst he
   go_wp2_with fail;go_region
   go_wp2;have Ag:=((((((Aj.out.setI 0 (.string o)).setI 1 (.string t)).setI 2 (.slice a n c)).setI 0 (.string o)).setI 1 (.string t)).setI 2 (.slice a n c)).drew;obtain⟨hx,hy,hz⟩:=Ag.m3 rfl;refine bodyPost_ret (v:=.tuple #[.agg #[.string o,.string t,.slice a n c],.int .i64 (n1:Nat),.int .i64 0]) (by simp[results,Tryz.results162,go_sem,hx,hy,hz]) rfl ?_;obtain⟨Aa,hs3,hX⟩:=HB.out;have Ac:=(aS w.heap.size w.heap.size lz [.string o,.string t,.slice a n c] 0 _ _ (aS w.heap.size w.heap.size lz [.string o,.string t,.slice a n c] 0 _ _ (hs3.chain Aa (Nat.le_succ _)))).drew;show OB w _ _ ((ak (ak w3 w.heap.size 0 [.string o,.string t,.slice a n c]) w.heap.size 0 [.string o,.string t,.slice a n c]).drew)
   have Ax:af (fun b=>w.heap.size<=b) (ak (ak w3 w.heap.size 0 [.string o,.string t,.slice a n c]) w.heap.size 0 [.string o,.string t,.slice a n c]) x1 (dQ o t (.slice a n c)):=by
    refine af.move (P:=fun b=>w2.heap.size<=b) (w:=w3) ?_ (fun b hb _=>?_) (fun b hb _=>?_) x1 _ (hX trivial)
    ·rw[aA,aA];exact Nat.le_refl _
    ·rw[aL _ _ _ _ _ (by omega),aL _ _ _ _ _ (by omega)]
    ·show w.heap.size<=b
     omega
   rw[HR.out,if_pos trivial];generalize ak (ak w3 w.heap.size 0 [.string o,.string t,.slice a n c]) w.heap.size 0 [.string o,.string t,.slice a n c]=w9 at *;exact⟨Ac,o,t,a,n,c,rfl,af.below (Below.refl _ _).drew x1 _ Ax⟩
  ·have A1:(e1 != 0)=true:=by simpa using he
   go_wp2_with fail;go_region
   go_wp2;have Ag:=((((((Aj.out.setI 0 (.string o)).setI 1 (.string t)).setI 2 (.slice a n c)).setI 0 (.string ⟨#[]⟩)).setI 1 (.string ⟨#[]⟩)).setI 2 (.slice none 0 0)).drew;obtain⟨hx,hy,hz⟩:=Ag.m3 rfl;refine bodyPost_ret (v:=.tuple #[.agg #[.string ⟨#[]⟩,.string ⟨#[]⟩,.slice none 0 0],.int .i64 (n1:Nat),.int .i64 e1]) (by simp[results,Tryz.results162,go_sem,hx,hy,hz]) rfl ?_;obtain⟨Aa,hs3,hX⟩:=HB.out;have Ac:=(aS w.heap.size w.heap.size lz [.string ⟨#[]⟩,.string ⟨#[]⟩,.slice none 0 0] 0 _ _ (aS w.heap.size w.heap.size lz [.string o,.string t,.slice a n c] 0 _ _ (hs3.chain Aa (Nat.le_succ _)))).drew;show OB w _ _ ((ak (ak w3 w.heap.size 0 [.string o,.string t,.slice a n c]) w.heap.size 0 [.string ⟨#[]⟩,.string ⟨#[]⟩,.slice none 0 0]).drew);rw[HR.out,if_neg he];exact⟨Ac,_,_,_,_,_,rfl,af.leaf _ _ _ _⟩
end Go.Proofs.YtbcdaaobbebooaaGreatDoor
namespace Go.Proofs.YtbcdaaobbebooaaGreatDoor
inductive bA where
 |mk (block:Bool) (name:ByteArray) (value:dR) (labels:List ByteArray) (items:List bA):bA
def bA.block:bA->Bool
 |.mk b _ _ _ _=>b
def bA.name:bA->ByteArray
 |.mk _ n _ _ _=>n
def bA.value:bA->dR
 |.mk _ _ v _ _=>v
def bA.labels:bA->List ByteArray
 |.mk _ _ _ l _=>l
def bA.items:bA->List bA
 |.mk _ _ _ _ i=>i
def bW:bA:=.mk false ⟨#[]⟩ aU [] []
def bA.add:bA->bA->bA
 |.mk b n v l i,x=>.mk b n v l (i++[x])
inductive oL where
 |wrong (at_ e:Int):oL
 |empty:oL
 |attr (x:bA):oL
 |begins (x:bA):oL
 |bare (x:bA):oL
 |fin:oL
abbrev ut:ByteArray:=⟨#[123]⟩
abbrev nW:ByteArray:=⟨#[125]⟩
abbrev Ie:ByteArray:=⟨#[61]⟩
def dZ(row:List ag)(stop:Int)(last:Bool)(i:Nat):oL:=match row[i]? with
 |some t=>.wrong t.pos 3
 |none=>if last then .wrong stop 2 else .wrong stop 3
def jI(row:List ag)(stop:Int)(last:Bool)(name:ByteArray):oL:=
 if (gp (row.drop 2)).2.2=2\/((gp (row.drop 2)).2.2=0/\2+(gp (row.drop 2)).2.1<row.length) then dZ row stop last (2+(gp (row.drop 2)).2.1)
 else if (gp (row.drop 2)).2.2=0 then .attr (.mk false name (gp (row.drop 2)).1 [] [])
 else match row[2+(gp (row.drop 2)).2.1]? with
  |some t=>.wrong t.pos (gp (row.drop 2)).2.2
  |none=>.wrong 0 0
def fA:List ag->List ByteArray
 |[]=>[]
 |t::r=>if t.kind=3 then (jD t.text).getD ⟨#[]⟩::fA r else []
def fE(n:Nat)(row:List ag)(stop:Int)(last:Bool)(name:ByteArray):oL:=
 let ls:=fA (row.drop 1)
 let i:=1+ls.length
 let x:bA:=.mk true name aU ls []
 if bK (row.drop i) ut=false then dZ row stop last i
 else if 64<n then (match row[i]? with|some t=>.wrong t.pos 5|none=>.wrong 0 0)
 else if row.length=i+1 then .begins x
 else if bK (row.drop (i+1)) nW=false then dZ row stop last (i+1)
 else if i+2<row.length then dZ row stop last (i+2)
 else .bare x
def aY(n:Nat)(row:List ag)(stop:Int)(last:Bool):oL:=match row with
 |[]=>.empty
 |t::r=>
  if bK (t::r) nW then (if n=1 then dZ (t::r) stop last 0 else if 1<(t::r).length then dZ (t::r) stop last 1 else .fin)
  else if t.kind≠1 then dZ (t::r) stop last 0
  else if bK r Ie then jI (t::r) stop last t.text else fE n (t::r) stop last t.text
def iJ:List bA->bA->List bA
 |[],_=>[]
 |[t],x=>[t.add x]
 |t::u::r,x=>t::iJ (u::r) x
def bB(st:List bA)(row:List ag)(stop:Int)(last:Bool):List bA×Int×Int:=match aY st.length row stop last with
 |.wrong a e=>(st,a,e)
 |.empty=>(st,0,0)
 |.attr x=>(iJ st x,0,0)
 |.begins x=>(st++[x],0,0)
 |.bare x=>(iJ st x,0,0)
 |.fin=>(iJ st.dropLast (st.getLast?.getD bW),0,0)
def bN(size:Int):List ag->List bA->List ag->List bA×Int×Int
 |[],st,row=>
  if (bB st row size true).2.2≠0 then ([],(bB st row size true).2)
  else if 1<(bB st row size true).1.length then ([],size,2)
  else (((bB st row size true).1.head?.getD bW).items,-1,0)
 |t::r,st,row=>
  if t.kind=6\/t.kind=7 then bN size r st row
  else if t.kind=5 then
   (if (bB st row t.pos false).2.2≠0 then ([],(bB st row t.pos false).2) else bN size r (bB st row t.pos false).1 [])
  else bN size r st (row++[t])
def bT(l:Bs):List bA×Int×Int:=
 if (iT l).2.2≠0 then ([],(iT l).2) else bN l.length (iT l).1 [bW] []
theorem iq:∀(st:List bA) (x:bA),(iJ st x).length=st.length
 |[],_=>rfl
 |[_],_=>rfl
 |_::u::r,x=>by simp only[iJ,List.length_cons,iq (u::r) x]
theorem jy:∀(st:List bA) (t x:bA),iJ (st++[t]) x=st++[t.add x]
 |[],_,_=>rfl
 |[a],t,x=>rfl
 | a::b::r,t,x=>by
  have:=jy (b::r) t x;simp only[List.cons_append,iJ] at this ⊢;rw[this]
def dJ(st:List bA):oL->List bA×Int×Int
 |.wrong a e=>(st,a,e)
 |.empty=>(st,0,0)
 |.attr x=>(iJ st x,0,0)
 |.begins x=>(st++[x],0,0)
 |.bare x=>(iJ st x,0,0)
 |.fin=>(iJ st.dropLast (st.getLast?.getD bW),0,0)
theorem iW(st:List bA)(row:List ag)(stop:Int)(last:Bool):bB st row stop last=dJ st (aY st.length row stop last):=by
 unfold bB dJ;cases aY st.length row stop last<;>rfl
theorem wT(st:List bA)(x:bA):dJ (st++[x]) .fin=dJ st (.bare x):=by simp[dJ]
theorem qi{n:Nat}{row:List ag}{stop:Int}{last:Bool}(h:aY n row stop last=.fin):n≠1:=by
 intro e;subst e;unfold aY at h
 cases row with
 |nil=>cases h
 |cons t r=>
  simp only at h;split at h
  ·simp only[if_true] at h
   unfold dZ at h;simp only[List.getElem?_cons_zero] at h;cases h
  ·split at h
   ·unfold dZ at h
    simp only[List.getElem?_cons_zero] at h;cases h
   ·split at h
    ·unfold jI dZ at h
     repeat' split at h
     all_goals cases h
    ·unfold fE dZ at h
     simp only at h;repeat' split at h
     all_goals cases h
end Go.Proofs.YtbcdaaobbebooaaGreatDoor
namespace Go.Proofs.YtbcdaaobbebooaaGreatDoor
def jH:Bs->List Bs
 |[]=>[[]]
 | c::l=>if c=10 then []::jH l else match jH l with
  |a::r=>(c::a)::r
  |[]=>[[c]]
theorem BH:∀l:Bs,jH l≠[]
 |[]=>by simp[jH]
 | c::l=>by
  rw[jH];split
  ·simp
  ·split<;>simp
theorem ou:∀(a b:Bs),10∉a->jH (a++10::b)=a::jH b
 |[],b,_=>by simp[jH]
 | c::a,b,h=>by
  simp only[List.mem_cons,not_or] at h;rw[List.cons_append,jH,if_neg (fun e=>h.1 e.symm),ou a b h.2]
theorem nM:∀(a:Bs),10∉a->jH a=[a]
 |[],_=>rfl
 | c::a,h=>by
  simp only[List.mem_cons,not_or] at h;rw[jH,if_neg (fun e=>h.1 e.symm),nM a h.2]
theorem tL{P:Bs->Prop}(h1:∀a,10∉a->P a)(h2:∀a b,10∉a->P b->P (a++10::b))(l:Bs):P l:=by
 have hk:∀(k:Nat) (l:Bs),l.length<=k->P l:=by
  intro k
  induction k with
  |zero=>intro l hl;rw[List.eq_nil_of_length_eq_zero (Nat.le_zero.1 hl)];exact h1 [] (by simp)
  |succ k ih=>
   intro l hl
   by_cases h:10∈l
   ·obtain⟨a,b,e,ha⟩:=List.eq_append_cons_of_mem h
    rw[e];refine h2 a b ha (ih b ?_);rw[e] at hl;simp at hl;omega
   ·exact h1 l h
 exact hk l.length l lz
def fw(r:List ag):List ag:=r.filter (fun t=>!dB t)
def mq(r:List ag):Bool:=match (fw r).getLast? with|some t=>gH t ut|none=>false
def oN(r:List ag):Bool:=match fw r with|t::_=>gH t nW|[]=>false
structure j6 where
 toks:List ag
 lo:Int
 hi:Int
 dep:Int
def gD(o:Int)(l:List ag):Int:=if oN l then o-1 else o
def qF(o:Int)(l:List ag)(lo hi:Int):j6:=⟨l,lo,hi,gD o l⟩
def eZ(o:Int)(l:List ag):Int:=if mq l then gD o l+1 else gD o l
def fU(size:Int):List ag->List ag->Int->Int->List j6
 |[],cur,fr,o=>if fr<size then [qF o cur fr size] else []
 |t::r,cur,fr,o=>if t.kind=5 then qF o cur fr t.pos::fU size r [] (t.pos+1) (eZ o cur) else fU size r (cur++[t]) fr o
def bV(l:Bs):List j6:=if (iT l).2.2=0 then fU l.length (iT l).1 [] 0 0 else []
def iP:List Bs->Nat->Int->List j6
 |[],_,_=>[]
 |[a],p,o=>if a=[] then [] else [qF o (aG a p).1 p ((p+a.length:Nat):Int)]
 |a::b::r,p,o=>qF o (aG a p).1 p ((p+a.length:Nat):Int)::iP (b::r) (p+a.length+1) (eZ o (aG a p).1)
theorem wR(size:Int)(x:ByteArray)(q:Int)(tb:List ag):∀(ta cur:List ag) (fr o:Int),(∀t∈ta,t.kind≠5)->fU size (ta++⟨5,x,q⟩::tb) cur fr o=qF o (cur++ta) fr q::fU size tb [] (q+1) (eZ o (cur++ta))
 |[],cur,fr,o,_=>by simp only[List.nil_append,fU,if_true,List.append_nil]
 | t::ta,cur,fr,o,h=>by
  have h1:=h t (by simp);rw[List.cons_append,fU,if_neg h1,wR size x q tb ta (cur++[t]) fr o (fun u hu=>h u (by simp[hu]))];simp
theorem wS(size:Int):∀(ta cur:List ag) (fr o:Int),(∀t∈ta,t.kind≠5)->fU size ta cur fr o=if fr<size then [qF o (cur++ta) fr size] else []
 |[],cur,fr,o,_=>by rw[fU,List.append_nil]
 | t::ta,cur,fr,o,h=>by
  have h1:=h t (by simp);rw[fU,if_neg h1,wS size ta (cur++[t]) fr o (fun u hu=>h u (by simp[hu]))];simp
theorem IL{c:UInt8}{r:Bs}{n:Nat}(h:dN (c::r)=.tok 5 n):c=10:=by
 refine Decidable.byContradiction fun hc=>?_;rw[dN] at h;split at h
 ·cases h
 split at h
 ·unfold l9 at h;split at h<;>cases h
 split at h
 ·unfold nz at h;split at h<;>cases h
 (try rw[if_neg hc] at h)
 have hr:∀(l:Bs) (k:Nat),fP l k=.tok 5 n->k=5:=fun l k hk=>by
  unfold fP at hk;split at hk
  ·cases hk
  ·injection hk
 split at h
 ·exact absurd (hr _ _ h) (by decide)
 split at h
 ·unfold dS at h
  split at h
  ·cases h
  ·split at h
   ·cases h
   ·exact absurd (hr _ _ h) (by decide)
 split at h<;>cases h
theorem gz:∀(k:Nat) (l:Bs) (p:Nat),l.length<=k->10∉l->∀t∈(aG l p).1,t.kind≠5
 |k,[],p,_,_=>by rw[dH];intro t ht;cases ht
 |0,c::r,p,hk,_=>by simp at hk
 | k+1,c::r,p,hk,h=>by
  simp only[List.length_cons] at hk;simp only[List.mem_cons,not_or] at h
  cases hb:bG c with
  |true=>rw[bO hb];exact gz k r (p+1) (by omega) h.2
  |false=>
   cases ho:dN (c::r) with
   |bad o e=>rw[eB hb ho];intro t ht;cases ht
   |tok kd sz=>
    have hs:=dh ho;rw[di hb ho];intro t ht;simp only[List.mem_cons] at ht;rcases ht with rfl|ht
    ·intro e
     have e:(kd:Int)=5:=e;obtain rfl:kd=5:=by omega
     exact h.1 (IL ho).symm
    ·exact gz k _ _ (by rw[List.length_drop,List.length_cons];omega) (fun hm=>by
      rcases List.mem_cons.1 (List.mem_of_mem_drop hm) with e|e
      ·exact h.1 e
      ·exact h.2 e) t ht
theorem qj(a b:Bs)(p:Nat)(h:(aG (a++10::b) p).2.2=0) :
  (aG a p).2.2=0/\(aG b (p+a.length+1)).2.2=0/\aG (a++10::b) p=((aG a p).1++⟨5,ay [10],((p+a.length:Nat):Int)⟩::(aG b (p+a.length+1)).1,(aG b (p+a.length+1)).2):=by
 have h1:=Bv a.length a p b lz h;have h2:=FB a.length a p b lz h1;rw[h2] at h;exact⟨h1,h,h2⟩
theorem EG(l:Bs):∀(p:Nat) (o:Int),(aG l p).2.2=0->fU ((p+l.length:Nat):Int) (aG l p).1 [] p o=iP (jH l) p o:=by
 refine tL (P:=fun l=>∀(p:Nat) (o:Int),(aG l p).2.2=0->fU ((p+l.length:Nat):Int) (aG l p).1 [] p o=iP (jH l) p o) ?_ ?_ l
 ·intro a ha p o _
  rw[nM a ha,iP,wS _ _ _ _ _ (gz a.length a p lz ha),List.nil_append]
  by_cases h0:a=[]
  ·subst h0
   rw[if_neg (by simp),if_pos rfl]
  ·have:0<a.length:=List.length_pos_iff.2 h0
   rw[if_pos (by omega),if_neg h0]
 ·intro a b ha ih p o h
  obtain⟨h1,h2,h3⟩:=qj a b p h;rw[h3,ou a b ha]
  obtain⟨x,r,hx⟩:∃x r,jH b=x::r:=by
   cases hc:jH b with
   |nil=>exact absurd hc (BH b)
   |cons x r=>exact⟨x,r,rfl⟩
  have ih:=ih (p+a.length+1) (eZ o (aG a p).1) h2;rw[hx] at ih ⊢;rw[iP,<-ih];simp only;rw[wR _ _ _ _ _ _ _ _ (gz a.length a p lz ha),List.nil_append];simp only[List.length_append,List.length_cons];rw[show p+(a.length+(b.length+1))=p+a.length+1+b.length by omega]
  congr 1
theorem mo{l:Bs}(h:(aG l 0).2.2=0):bV l=iP (jH l) 0 0:=by
 have:=EG l 0 0 h;rw[Nat.zero_add] at this;unfold bV iT;rw[if_pos h];simp only[if_true];exact this
end Go.Proofs.YtbcdaaobbebooaaGreatDoor
namespace Go.Proofs.YtbcdaaobbebooaaGreatDoor
def jS(r:List ag):Bool:=match r.getLast? with|some t=>gH t ut|none=>false
def oG(r:List ag):Bool:=match r with|t::_=>gH t nW|[]=>false
def dF:List (List ag)->List (List ag)
 |[]=>[]
 |[]::r=>dF r
 |(t::q)::r=>(t::q)::r
def ql(r:List ag)(rest:List (List ag)):List ag×List (List ag):=
 if jS r then (match dF rest with|x::q=>if oG x then (r++x,q) else (r,rest)|[]=>(r,rest)) else (r,rest)
structure vH where
 toks:List ag
 after:Bool
def eU:Nat->Bool->List (List ag)->List vH
 |0,_,_=>[]
 |_+1,_,[]=>[]
 |n+1,_,[]::rest=>eU n true rest
 |n+1,gap,(t::q)::rest=>⟨(ql (t::q) rest).1,gap⟩::eU n false (ql (t::q) rest).2
theorem ji{rows q:List (List ag)}{x:List ag}(h:dF rows=x::q):x≠[]/\q.length<rows.length/\∀r,r=x\/r∈q->r∈rows:=by
 induction rows with
 |nil=>cases h
 |cons a rows ih=>
  cases a with
  |nil=>
   obtain⟨h1,h2,h3⟩:=ih h;exact⟨h1,by simp;omega,fun r hr=>by simp[h3 r hr]⟩
  |cons t p=>
   simp only[dF,List.cons.injEq] at h;obtain⟨rfl,rfl⟩:=h;exact⟨by simp,by simp,fun r hr=>by rcases hr with rfl|hr<;>simp[*]⟩
end Go.Proofs.YtbcdaaobbebooaaGreatDoor
namespace Go.Proofs.YtbcdaaobbebooaaGreatDoor
abbrev mP(t:ag):Bs:=t.text.data.toList
def nS(n:Nat):Bs:=List.replicate n 32
def Ps(x:Nat×ag):Bs:=nS x.1++mP x.2
def gU(l:List (Nat×ag)):Bs:=l.flatMap Ps
def oI(row:List ag)(ind i:Nat):Nat:=if i=0 then ind else qE row i
def yX(row:List ag)(ind:Nat):List (Nat×ag):=row.mapIdx fun i t=>(oI row ind i,t)
def cu(row:List ag)(ind fr en:Nat):Bs:=gU (((yX row ind).take en).drop fr)
theorem CW(row:List ag)(ind:Nat):(yX row ind).length=row.length:=List.length_mapIdx
theorem MB{row:List ag}{ind k:Nat}(h:k<row.length):(yX row ind)[k]'(by rw[CW];exact h)=(oI row ind k,row[k]):=by
 unfold yX;rw[List.getElem_mapIdx]
theorem uA(row:List ag)(ind fr:Nat):cu row ind fr fr=[]:=by
 unfold cu;rw[List.drop_eq_nil_of_le (by rw[List.length_take];omega)];rfl
theorem tQ(a b:List (Nat×ag)):gU (a++b)=gU a++gU b:=List.flatMap_append
theorem CY{row:List ag}{ind fr k:Nat}(h1:fr<=k)(h2:k<row.length):cu row ind fr (k+1)=cu row ind fr k++(nS (oI row ind k)++mP row[k]):=by
 have hk:k<(yX row ind).length:=by rw[CW];exact h2
 unfold cu;rw[List.take_add_one,List.getElem?_eq_getElem hk,MB h2,List.drop_append_of_le_length (by rw[List.length_take];omega),tQ];simp[gU,Ps]
def iA(l:Bs):Nat:=if (scan (nb l) 0).2.isNone then (scan (nb l) 0).1.length else 0
def oQ:List ag->Nat->Nat->Option Nat
 |[],_,_=>none
 |t::r,i,0=>if dB t then oQ r (i+1) 0 else some i
 |t::r,i,n+1=>if dB t then oQ r (i+1) (n+1) else oQ r (i+1) n
def rV(r:List ag):Option Nat:=match oQ r 0 1 with
 |some i=>if gH (r[i]?.getD ⟨0,⟨#[]⟩,0⟩) Ie then some i else none
 |none=>none
theorem xh:∀(r:List ag) (i n j:Nat),oQ r i n=some j->i+n<=j/\j<i+r.length
 |[],_,_,_,h=>by cases h
 | t::r,i,0,j,h=>by
  rw[oQ] at h;simp only[List.length_cons];split at h
  ·have:=xh r (i+1) 0 j h;omega
  ·cases h;omega
 | t::r,i,n+1,j,h=>by
  rw[oQ] at h;simp only[List.length_cons];split at h
  ·have:=xh r (i+1) (n+1) j h;omega
  ·have:=xh r (i+1) n j h;omega
theorem pK{r:List ag}{i:Nat}(h:rV r=some i):1<=i/\i<r.length:=by
 unfold rV at h;split at h
 ·next j hj=>
  split at h
  ·cases h
   have:=xh r 0 1 i hj;omega
  ·cases h
 ·cases h
structure aI where
 toks:List ag
 dep:Int
def jM:List vH->Int->Option Bool->List aI
 |[],_,_=>[]
 |f::r,d,pv=>(if f.after&&(pv.isSome&&(!oN f.toks&&pv != some true)) then [⟨[],0⟩] else [])++⟨f.toks,gD d f.toks⟩::jM r (eZ d f.toks) (some (mq f.toks))
def dx(l:List (List ag)):List aI:=jM (eU l.length false l) 0 none
def aI.ind(r:aI):Nat:=(2*r.dep).toNat
def aI.eq(r:aI):Nat:=(rV r.toks).getD 0
def bq(r:aI):Bs:=cu r.toks r.ind 0 r.eq
def kW(run:List aI):Nat:=run.foldl (fun m r=>max m (iA (bq r))) 0
def fO(W:Nat)(r:aI):Bs:=bq r++(nS (W-iA (bq r)+1)++(mP (r.toks[r.eq]?.getD ⟨0,⟨#[]⟩,0⟩)++(cu r.toks r.ind (r.eq+1) r.toks.length++[10])))
def mK(run:List aI):Bs:=run.flatMap (fO (kW run))
def vw(r:aI):Bs:=cu r.toks r.ind 0 r.toks.length++[10]
def gP:List aI->List aI->Bs
 |[],run=>mK run
 |r::l,run=>if (rV r.toks).isSome then gP l (run++[r]) else mK run++(vw r++gP l [])
def jQ(l:List (List ag)):Bs:=gP (dx l) []
def jP(l:Bs):Bs×Int×Int:=if (bT l).2.2=0 then (jQ ((bV l).map (·.toks)),-1,0) else ([],(bT l).2)
end Go.Proofs.YtbcdaaobbebooaaGreatDoor
