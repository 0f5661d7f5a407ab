import Derived.Test.YtbcdaaobbebooaaGreatDoorMge
set_option linter.unusedSimpArgs false
set_option linter.unusedVariables false
set_option maxRecDepth 100000
set_option maxHeartbeats 20000000
namespace Go.Proofs.YtbcdaaobbebooaaGreatDoor
def R3(r:List ag)(g G1 G2:fw):Prop:=g.2.2=0->g.2.1<=r.length/\((G1=g/\G2=g)\/(G1=G2/\G1.2.2=5))
end Go.Proofs.YtbcdaaobbebooaaGreatDoor
namespace Go.Proofs.YtbcdaaobbebooaaGreatDoor
open Go.RowKit Go.Tab
def ML(w0:World)(g:Nat)(lv:Value)(s:ByteArray)(l:List ag)(k d m:Nat)(R:fw)(v:Value)(wr:World):Prop:=
 aC g w0 wr/\∃(L:List (gu×List Value)) (j k':Nat),qb w0.heap.size wr v L/\D8 w0.heap.size wr v L/\j<=m/\oV wr g lv l k'/\k<=k'/\L.length<=k'/\
  R=dL (k'-k) (aj j (.mloop s (L.map (·.1))) (l.drop k') d)
theorem IK(m:Nat)(hC:∀j,j<=m->oK j):LK (m+1):=by
 intro w g lv l k d s h hlen hd hs12 hne;obtain⟨a0,c0,rfl,Bk,Ba,-⟩:=h.toks.len;unfold maxLen at Ba;have Bj:=h.le;have Bl:=h.small;have An:=h.box.lt;obtain⟨R,Ag⟩:=exq (aj (m+1) (.many s) (l.drop k) d);rw[<-Ag] at hne ⊢;rw[aj] at Ag
 by_cases hd6:64<=d
 ·rw[if_pos hd6] at Ag
  have A7:=Hh Ag;clear Ag hne;have hN:=qA w g _ k d h.box hd6;go_enter Tryz.func238,Tryz.ntmps238;go_wp2_with fail;refine hN.mono ?_;rintro _ w2 ⟨rfl,hc2,hs2⟩;have H2:=Jh hc2 hs2;clear hc2 hs2 hN;go_wp2;go_ret;rw[A7.out];exact⟨H2.out.2,H2.out.1,_,_,_,rfl,fun h=>by cases h⟩
 ·rw[if_neg hd6,List.drop_drop] at Ag
  rw[List.length_drop] at hlen;have AX:k+1<=l.length:=by omega
  have hN:=nU w g _ k d h.box (by omega) (by omega);go_enter Tryz.func238,Tryz.ntmps238;go_wp2_with fail;refine hN.mono ?_;rintro _ w2 ⟨rfl,hc2,hs2⟩;have h2:oV w2 g (.slice a0 l.length c0) l (k+1):=h.go hs2 hc2 AX;have hI:=mU w2 g _ l (k+1) s h2;clear hN hc2
  by_cases s1:bO (l.drop (k+1)) s=true
  ·rw[if_pos s1] at Ag
   rw[s1] at hI;have A7:=Hh Ag;clear Ag hne;go_wp2_with fail;refine hI.mono ?_;rintro _ w3 ⟨rfl,hb3⟩;have A5:=h2.box.below hb3 h2.box.lt;have A0:=hs2.trans (aC.of hb3);have H3:=Jh (A5.setI 1 (.int .i64 (((k+1:Nat):Int)+1))) (A0.set 1 (.int .i64 (((k+1:Nat):Int)+1)));have Ay:=A5.lt;clear hs2 hI hb3 h2 A0;obtain⟨AG,AJ,AH,AK,AI,AL⟩:=A5.n3 rfl;clear A5;go_wp2;go_ret;rw[A7.out];exact⟨H3.out.2,H3.out.1,_,_,_,rfl,fun _ o t=>ae.leaf _ _ o t⟩
  ·have Be:bO (l.drop (k+1)) s=false:=by simpa using s1
   rw[if_neg s1] at Ag;rw[Be] at hI;go_wp2_with fail;refine hI.mono ?_;rintro _ w3 ⟨rfl,hb3⟩;have h3:=h2.step hb3;have A0:=hs2.trans (aC.of hb3)
   have AC:ML w g (.slice a0 l.length c0) s l k d m R (.slice none 0 0) w3:=by
    refine⟨A0,[],m,k+1,qb.nil _ _,(by intro s hs;cases hs),Nat.le_refl _,h3,by omega,Nat.zero_le _,?_⟩;rw[Ag,show k+1-k=1 by omega];rfl
   have AB:=Hh AC;clear AC A0 h3 hb3 hI h2 hs2 Ag;go_wp2_with fail;go_loopw [7] (fun v wr=>ML w g (.slice a0 l.length c0) s l k d m R v wr) (fun _ wr=>l.length+1-sW wr g)
   case atStart=>exact AB.out
   case round=>
    clear AB;obtain⟨AA,L,j,k',Am,AT,hj,h5,Bi,Bh,Ab⟩:=hrel;obtain⟨va,vc,rfl⟩:=Am.len
    cases j with
    |zero=>rw[Ab] at hne;exact absurd rfl hne
    |succ j=>
    rw[aj] at Ab;simp only[List.drop_drop] at Ab;have AZ:=h5.le;have AV:=Hh h5.box.pos
    have A9:(aj j .choice (l.drop k') (d+1)).2.2≠-1:=by
     have Az:=hne;rw[Ab] at Az;exact iI Az
    have Ax:=(fq j .choice (l.drop k') (d+1) (by simp only[Nt.okX]) A9).1;rw[List.length_drop] at Ax;have A8:=hC j (by omega) wr g (.slice a0 l.length c0) l k' (d+1) h5 (by omega) A9;rw[show ((d+1:Nat):Int)=(d:Int)+1 by omega] at A8;generalize aj j .choice (l.drop k') (d+1)=r2 at *;obtain⟨x2,n2,e2⟩:=r2;simp only at Ax A9;have A4:=Hh Ab;clear Ab;go_wp2_with fail;refine A8.mono ?_;rintro _ w6 ⟨hs6,hc6,o2,t2,a2,m2,c2,rfl,hX2⟩;simp only at hc6 hX2;have Ao:=Am.save hs6 An;have Au:=AT.save hs6 An;have Bc:=hs6.size;have Bm:=AA.size;have A2:=AA.trans hs6
    have AW:e2=0->oV w6 g (.slice a0 l.length c0) l (k'+n2):=fun he=>by
     subst he;exact h5.go hs6 hc6 (by omega)
    have AU:∀b,(Value.slice va L.length vc).ownBlock=some b->b<wr.heap.size:=fun b hb=>(World.ownsRow.lt Am.2 b hb).2
    have AE:e2=0->ae (fun b=>w.heap.size<=b/\some b≠(Value.slice va L.length vc).ownBlock) w6 x2 (dQ o2 t2 (.slice a2 m2 c2)):=fun he=>
     ae.move lz (fun _ _ _=>rfl) (fun b hb _=>⟨by omega,fun e=>by have:=AU b e.symm;omega⟩) x2 _ (hX2 he)
    clear A8 Am AT AA hs6 hX2;go_wp2_with (with_reducible first|refine aA ?_)
    refine Stop.out ?_;have Aq:Below w6.heap.size w6 (w6.alloc (.cells #[.string o2,.string t2,.slice a2 m2 c2] 52)):=(Below.refl _ _).alloc lz _;have AS:=hc6.below Aq hc6.lt;have Af:=Ao.keep (fun b _ Ay=>Aq.block b Ay);have Aw:=Au.keep Aq.size (fun b _ Ay=>Aq.block b Ay);have AF:=fun he=>ae.below Aq x2 _ (AE he);have Bd:(w6.alloc (.cells #[.string o2,.string t2,.slice a2 m2 c2] 52)).heap.size=w6.heap.size+1:=by simp
    have A3:=A2.trans (aC.of Aq);refine mK rfl _ _ rfl w.heap.size L (by exact Af) w6.heap.size rfl x2 o2 t2 a2 m2 c2 (aa.new _ _ _) (by omega) (by omega) _ rfl ?_;intro gb cap w7 hrow7 hg7 hat7 hge7;have Ad:e2=0->D8 w.heap.size w7 (.slice (some ⟨gb,0,none⟩) (L.length+1) cap) (L++[(x2,dQ o2 t2 (.slice a2 m2 c2))]):=fun he=>D8.push Aw (AF he) hg7 hat7;have Ae:aC g w w7:=A3.grown hg7 (fun b hb=>(World.ownsRow.lt Af.2 b hb).1);have At:jl w7 g (.slice a0 l.length c0) ((k'+n2:Nat)) e2:=AS.kept hg7 (fun e=>by have:=(World.ownsRow.lt Af.2 g e.symm).1;omega)
    have Al:e2=0->oV w7 g (.slice a0 l.length c0) l (k'+n2):=fun he=>by
     subst he;exact h.go Ae At (by omega)
    clear Aq AS Af Aw AF Bd A3 hg7 hat7 hge7 hc6 Ao Au AE AW A2 AU h5 Bc
    by_cases he2:e2=0
    ·subst he2
     have Ab:=A4.out;rw[bL (by rfl)] at Ab
     replace Al:=Al rfl
     replace Ad:=Ad rfl
     have hI:=mU w7 g _ l (k'+n2) jM Al
     by_cases s2:bO (l.drop (k'+n2)) jM=true
     ·have AY:k'+n2+1<=l.length:=by have:=bD s2;rw[List.length_drop] at this;omega
      have Aa:R=dL (k'+n2+1-k) (aj j (.mloop s ((L++[(x2,dQ o2 t2 (.slice a2 m2 c2))]).map (·.1))) (l.drop (k'+n2+1)) d):=by
       rw[Ab];show dL (k'-k) (if bO (l.drop (k'+n2)) jM=true then _ else _)=_;rw[if_pos s2,mM,show k'-k+(n2+1)=k'+n2+1-k by omega];simp only[List.map_append,List.map_cons,List.map_nil];rfl
      rw[s2] at hI;have A4:=Hh Aa;clear Ab Aa;go_wp2_with fail;refine hI.mono ?_;rintro _ w8 ⟨rfl,hb8⟩;have Ar:=Al.box.below hb8 Al.box.lt;have A1:=aC.of (g:=g) hb8;have Ac:jl (w8.setCell ⟨g,1,none⟩ (.int .i64 ((k':Int)+(n2:Int)+1))) g (.slice a0 l.length c0) ((k'+n2+1:Nat)) 0:=Ar.setI 1 (.int .i64 ((k':Int)+(n2:Int)+1));have Ah:aC g w7 (w8.setCell ⟨g,1,none⟩ (.int .i64 ((k':Int)+(n2:Int)+1))):=A1.set 1 _;have H9:=Jh Ac (And.intro (Ae.trans Ah) (And.intro (hrow7.save Ah An) (Ad.save Ah An)));have Ay:=Ar.lt;clear Ac Ah A1 hb8 hI Al Ad hrow7 Ae At;obtain⟨AM,AP,AN,AQ,AO,AR⟩:=Ar.n3 rfl;clear Ar;go_wp2_with fail;obtain⟨Ac,Ak,Ai,As⟩:=H9.out;constructor
      ·refine⟨Ak,_,j,k'+n2+1,Ai,As,by omega,h.go Ak Ac AY,by omega,by simp;omega,A4.out⟩
      ·have Bb:=jl.pos Ac
       rw[Bb,AV.out];omega
     ·have Bf:bO (l.drop (k'+n2)) jM=false:=by simpa using s2
      rw[Bf] at hI
      have Aa:R=dL (k'-k) (if bO (l.drop (k'+n2)) s=true then (.mk iU iU ((L++[(x2,dQ o2 t2 (.slice a2 m2 c2))]).map (·.1)),n2+1,0) else cO (l.drop (k'+n2)) n2):=by
       rw[Ab];show dL (k'-k) (if bO (l.drop (k'+n2)) jM=true then _ else _)=_;rw[if_neg s2];simp only[List.map_append,List.map_cons,List.map_nil]
      clear Ab;go_wp2_with fail;refine hI.mono ?_;rintro _ w8 ⟨rfl,hb8⟩;have AD:=Al.step hb8;have Aj:=Ae.trans (aC.of hb8);have Ap:=hrow7.save (aC.of (g:=g) hb8) An;have Av:=Ad.save (aC.of (g:=g) hb8) An;clear Al Ae hrow7 Ad hb8 hI;have hN:=wE w8 g _ l (k'+n2) s AD;go_wp2_with fail;refine hN.mono ?_;rintro _ w9 ⟨rfl,Ac,Ah⟩;have H9:=Jh Ac (And.intro (Aj.trans Ah) (And.intro (Ap.save Ah An) (Av.save Ah An)));have A6:=Hh Aa;clear Ac Ah Aj Ap Av hN AD Aa At;go_wp2;go_ret;obtain⟨Ac,Ak,Ai,As⟩:=H9.out;have Aa:=A6.out
      by_cases s3:bO (l.drop (k'+n2)) s=true
      ·rw[if_pos s3] at Aa
       rw[s3,if_pos rfl,if_pos rfl] at Ac;rw[Aa];refine⟨Ak,?_,_,_,_,rfl,fun _=>zU Ai As⟩;show jl _ g _ ((k+(k'-k+(n2+1)):Nat)) 0;rw[show k+(k'-k+(n2+1))=k'+n2+1 by omega];exact Ac
      ·have Bg:bO (l.drop (k'+n2)) s=false:=by simpa using s3
       rw[if_neg s3,r9] at Aa;rw[Bg,if_neg (by simp),if_neg (by simp)] at Ac;rw[Aa];refine⟨Ak,?_,_,_,_,rfl,fun e=>absurd e (o7 _)⟩;show jl _ g _ ((k+(k'-k+n2):Nat)) (yO _);rw[show k+(k'-k+n2)=k'+n2 by omega];exact Ac
    ·have Ab:=A4.out
     rw[bf (by exact he2)] at Ab;have A6:=Hh Ab;have hI:=EZ w7 g _ _ e2 jM At he2 ⟨_,_,_,rfl⟩;clear Ab Al Ad hrow7;go_wp2_with fail;refine hI.mono ?_;rintro _ w8 ⟨rfl,Ar,A1⟩;have hN:=xQ w8 g _ _ e2 s Ar he2 ⟨_,_,_,rfl⟩;have Aj:=Ae.trans A1;clear hI A1 Ae At Ar;go_wp2_with fail;refine hN.mono ?_;rintro _ w9 ⟨rfl,Ac,Ah⟩;have H9:=Jh Ac (Aj.trans Ah);clear Ac Ah Aj hN;go_wp2;go_ret;rw[A6.out];refine⟨H9.out.2,?_,_,_,_,rfl,fun e=>absurd e he2⟩;show jl _ g _ ((k+(k'-k+n2):Nat)) e2;rw[show k+(k'-k+n2)=k'+n2 by omega];exact H9.out.1
theorem zJ(s:ByteArray):(jP s=none/\∃x e,xL (xM (bs s))=.tuple #[.string x,.int .i64 e]/\e≠0)\/∃x,jP s=some x/\xL (xM (bs s))=.tuple #[.string x,.int .i64 0]:=by
 have hb:bs s=nb s.data.toList:=rfl;have hB:vZ (nb s.data.toList):=iB _;have hl:(nb s.data.toList).length=s.size:=by rw[<-hb,ay]
 unfold jP xM xL;rw[hb]
 by_cases h1:(aV (nb s.data.toList)).2.2=0
 ·have hz:=(ko hB h1).2
  have Aa:¬(aV (nb s.data.toList)).2.2≠0:=fun h=>h h1
  by_cases h2:(aV (nb s.data.toList)).2.1=s.size
  ·right
   have h3:¬(aV (nb s.data.toList)).2.1<(nb s.data.toList).length:=by omega
   rw[if_pos ⟨h1,h2⟩,if_neg Aa,if_neg h3];exact⟨_,rfl,rfl⟩
  ·left
   have h3:(aV (nb s.data.toList)).2.1<(nb s.data.toList).length:=by omega
   have h4:¬((aV (nb s.data.toList)).2.2=0/\(aV (nb s.data.toList)).2.1=s.size):=fun h=>h2 h.2;rw[if_neg h4,if_neg Aa,if_pos h3];exact⟨rfl,_,_,rfl,by decide⟩
 ·left
  have h4:¬((aV (nb s.data.toList)).2.2=0/\(aV (nb s.data.toList)).2.1=s.size):=fun h=>h1 h.1;rw[if_neg h4,if_pos h1];exact⟨rfl,_,_,rfl,by simp only;omega⟩
structure Pm(w0:World)(q tb g:Nat)(t:ag)(w:World):Prop where
 rs:Rs w0 q g w
 tok:aa w tb #[.int .i64 t.kind,.string t.text,.int .i64 t.pos] 63
 tbg:tb≠g
 tb0:w0.heap.size<=tb
 tbq:tb≠q
theorem Pm.step{w0 w w':World}{q tb g:Nat}{t:ag}(h:Pm w0 q tb g t w)(hs:aC g w w'):Pm w0 q tb g t w':=
 ⟨h.rs.step hs,hs.cells h.tok h.tbg,h.tbg,h.tb0,h.tbq⟩
theorem jl.below'{w w':World}{g:Nat}{lv:Value}{k e:Int}(h:jl w g lv k e)(hb:Below w.heap.size w w'):jl w' g lv k e:=aa.below h hb h.lt
theorem EF(m:Nat)(hM:LK m)(hC:oK m):FD (m+1):=by
 intro w g lv l k d h hd hne;obtain⟨a0,c0,rfl,BZ,BG,-⟩:=h.toks.len;unfold maxLen at BG;have BY:=h.le;have Cb:=h.small;have BW:=h.box.lt;have H0:=Hh h;have hR:=Rs.start h;have h1:=h.step ((Below.refl _ w).alloc lz (.cells fP 52));have B5:(w.alloc (.cells fP 52)).heap.size=w.heap.size+1:=by simp
 obtain⟨R,A8⟩:=exq (aj (m+1) .prime (l.drop k) d);rw[<-A8] at hne ⊢;go_enter Tryz.func236,Tryz.ntmps236;go_wp2_with fail;generalize w.alloc (.cells fP 52)=w1 at hR h1 B5 ⊢;have AA:=h1.box;have Bj:=AA.lt
 by_cases hk:k=l.length
 ·have hq:((k:Int)==(l.length:Int))=true:=by rw[beq_iff_eq];omega
  have hW:=fun n=>o6 (w1.drewN n) g _ l k (h1.step (bV w1.heap.size w1 n));rw[hk,List.drop_length,aj,r9] at A8;have Bv:l.drop k=[]:=by rw[hk,List.drop_length]
  rw[Bv] at hW;have Bb:yO []≠0:=o7 _;generalize yO []=ee at *;have AQ:=Jh A8 Bb;clear A8 Bb Bv hk h1;obtain⟨AI,AM,AK,AN,AL,AO⟩:=AA.n3 rfl;clear AA;go_quiet (fail)
  go_wp2_with fail;refine (hW _).mono ?_;rintro _ w2 ⟨rfl,hc9,hs2⟩;have Ax:=hR.step (((aC.refl g w1).drewN _).trans hs2);have Ab:=Ax.res;have A0:=Ab.lt;have HR:=Jh Ax hc9;clear hR hs2 hW AI AK AL AM AN AO Ax hc9;obtain⟨Ac,Af,Ad,Ag,Ae,Ah⟩:=Ab.n3 rfl;clear Ab;go_wp2;obtain⟨Ax,hc9⟩:=HR.out;have hq:=((Ax.res.setI 0 (.string ⟨#[]⟩)).setI 1 (.string ⟨#[]⟩)).setI 2 (.slice none 0 0);obtain⟨hx,hy,hz⟩:=hq.m3 rfl;refine bodyPost_ret (v:=.agg #[.string ⟨#[]⟩,.string ⟨#[]⟩,.slice none 0 0]) (by simp[results,Tryz.results236,go_sem,hx,hy,hz]) rfl ?_;have Az:=Ax.fin [.string ⟨#[]⟩,.string ⟨#[]⟩,.slice none 0 0];have Ay:=Ax.prc hc9 [.string ⟨#[]⟩,.string ⟨#[]⟩,.slice none 0 0];show XP g (.slice a0 l.length c0) k _ w _ (ai w2 w.heap.size 0 [.string ⟨#[]⟩,.string ⟨#[]⟩,.slice none 0 0]);rw[AQ.out.1];exact⟨Az,Ay,_,_,_,_,_,rfl,fun e=>absurd e AQ.out.2⟩
 ·have AB:k<l.length:=by omega
  have hq:((k:Int)==(l.length:Int))=false:=by rw[beq_eq_false_iff_ne];omega
  obtain⟨tb,A4,BR,Bg,Bm,Bn,Bo⟩:=aH.get h1.toks AB;have AY:l.drop k=l[k]::l.drop (k+1):=List.drop_eq_getElem_cons AB;rw[AY,aj,<-AY] at A8;have Bf:=h1.short _ (List.getElem_mem AB);cases BR
  generalize l[k]=t at *;have Bu:=AA;obtain⟨AF,AU,AG,AV,AT,AW⟩:=Bu.n3 rfl;go_quiet (fail)
  go_wp2_with fail;have ha:∀(n b' o':Nat) (u:Value),b'<w1.heap.size->w1.cell? ⟨b',o',none⟩=some u->((w1.drewN n).alloc (.cells #[.int .i64 0,.string ⟨#[]⟩,.int .i64 0] 63)).cell? ⟨b',o',none⟩=some u:=fun n b' o' u h1 h2=>(World.cell?_alloc_past _ _ _ h1).trans h2;have B9:=fun n=>ha n _ _ _ Bj AF;have BA:=fun n=>ha n _ _ _ Bj AG;have BB:=fun n=>ha n _ _ _ Bg Bm;have BC:=fun n=>ha n _ _ _ Bg Bn;have BD:=fun n=>ha n _ _ _ Bg Bo;have hn:=fun n=>aa.new (w1.drewN n) #[.int .i64 0,.string ⟨#[]⟩,.int .i64 0] 63;have BK:∀n,((w1.drewN n).alloc (.cells #[.int .i64 0,.string ⟨#[]⟩,.int .i64 0] 63)).cell? ⟨w1.heap.size,0,none⟩=some (.int .i64 0):=fun n=>(hn n).cell 0 _ rfl;have BL:∀n,((w1.drewN n).alloc (.cells #[.int .i64 0,.string ⟨#[]⟩,.int .i64 0] 63)).cell? ⟨w1.heap.size,1,none⟩=some (.string ⟨#[]⟩):=fun n=>(hn n).cell 1 _ rfl;have BM:∀n,((w1.drewN n).alloc (.cells #[.int .i64 0,.string ⟨#[]⟩,.int .i64 0] 63)).cell? ⟨w1.heap.size,2,none⟩=some (.int .i64 0):=fun n=>(hn n).cell 2 _ rfl;have BH:∀n,((w1.drewN n).alloc (.cells #[.int .i64 0,.string ⟨#[]⟩,.int .i64 0] 63)).frozen? ⟨w1.heap.size,0,none⟩=false:=fun n=>(hn n).frozen 0;have BI:∀n,((w1.drewN n).alloc (.cells #[.int .i64 0,.string ⟨#[]⟩,.int .i64 0] 63)).frozen? ⟨w1.heap.size,1,none⟩=false:=fun n=>(hn n).frozen 1;have BJ:∀n,((w1.drewN n).alloc (.cells #[.int .i64 0,.string ⟨#[]⟩,.int .i64 0] 63)).frozen? ⟨w1.heap.size,2,none⟩=false:=fun n=>(hn n).frozen 2
  have AQ:=Hh A8;have H1:=Jh h1 (And.intro hR (And.intro Bf AY));clear A8 h1 hR Bf AY AA H0;go_region
  have Bd:Below w1.heap.size w1 ((w1.drewN (nq+1)).alloc (.cells #[.int .i64 t.kind,.string t.text,.int .i64 t.pos] 63)):=(bV w1.heap.size w1 (nq+1)).alloc lz _;have Be:=aa.new (w1.drewN (nq+1)) #[.int .i64 t.kind,.string t.text,.int .i64 t.pos] 63;rw[show (w1.drewN (nq+1)).heap.size=w.heap.size+1 from B5] at Be;generalize (w1.drewN (nq+1)).alloc (.cells #[.int .i64 t.kind,.string t.text,.int .i64 t.pos] 63)=w2 at Bd Be ⊢;obtain⟨h1,hR,Bf,AY⟩:=H1.out;have h2:=h1.step Bd;have Aa:Pm w w.heap.size (w.heap.size+1) g t w2:=⟨hR.below Bd,Be,by omega,by omega,by omega⟩;clear H1 h1 hR Bd Be ha B9 BA BB BC BD hn BK BL BM BH BI BJ Bm Bn Bo AF AG AT AU AV AW Bu Bj Bg hq;have Ai:=AQ.out
  by_cases k1:t.kind=1
  ·rw[if_pos k1] at Ai
   have kb:(t.kind==1)=true:=by rw[beq_iff_eq];exact k1
   have A7:aC g w2 (w2.setCell ⟨g,1,none⟩ (.int .i64 ((k:Int)+1))):=(aC.refl g w2).set 1 _;have AX:jl (w2.setCell ⟨g,1,none⟩ (.int .i64 ((k:Int)+1))) g (.slice (some ⟨tb,A4,none⟩) l.length c0) ((k+1:Nat)) 0:=h2.box.setI 1 (.int .i64 ((k:Int)+1));have h6:oV (w2.setCell ⟨g,1,none⟩ (.int .i64 ((k:Int)+1))) g (.slice (some ⟨tb,A4,none⟩) l.length c0) l (k+1):=h2.go A7 AX AB;have H6:=Jh (Aa.step A7) h6;have hc9:=h2.box;have K1:=Hh k1;have AE:=Hh Ai;clear A7 AX h6 h2 k1 AQ Ai;have Ab:=Aa.rs.res;have A0:=Ab.lt;have Aw:=Aa.tok;have A1:=Aw.lt;have A3:=hc9.lt;have HR:=Jh Aa hc9;obtain⟨Ac,Af,Ad,Ag,Ae,Ah⟩:=Ab.n3 rfl;obtain⟨Aj,Am,Ak,An,Al,Ao⟩:=Aw.n3 rfl;obtain⟨Ap,At,Aq,Au,As,Av⟩:=hc9.n3 rfl;clear Aa hc9 Ab Aw;go_wp2_with fail;obtain⟨Aa,hc9⟩:=HR.out;clear HR A0 A1 A3 Ac Ad Ae Af Ag Ah Aj Ak Al Am An Ao Ap Aq As At Au Av;clear Aa hc9
   obtain⟨Aa,h6⟩:=H6.out;clear H6;generalize w2.setCell ⟨g,1,none⟩ (.int .i64 ((k:Int)+1))=w3 at *;have hI:=mU w3 g _ l (k+1) AC h6;have Ai:=AE.out;clear AE
   by_cases s1:bO (l.drop (k+1)) AC=true
   ·rw[if_pos s1] at Ai
    rw[s1] at hI
    have AD:(aj m (.many ql) (l.drop (k+1)) d).2.2≠-1:=by
     have A5:=hne;rw[Ai] at A5;exact iI (g:=dL 1 (aj m (.many ql) (l.drop (k+1)) d)) A5
    have AH:=fun w3 h3=>hM w3 g (.slice (some ⟨tb,A4,none⟩) l.length c0) l (k+1) d ql h3 (bD s1) hd (.inl rfl) AD;generalize aj m (.many ql) (l.drop (k+1)) d=r1 at *;obtain⟨x1,n1,e1⟩:=r1;simp only at AH AD;have A2:=Hh Ai;clear Ai;refine hI.mono ?_;rintro _ w4 ⟨rfl,hb4⟩;have h4:=h6.step hb4
    replace Aa:=Aa.step (aC.of hb4)
    have B8:=AH w4.drew (h4.step ((Below.refl _ _).drew));clear AH hI h6 hb4;have Bp:=Hh Aa;have Aw:=Aa.tok;have A1:=Aw.lt;have BS:=Aa.rs.save.size;clear Aa;obtain⟨Aj,Am,Ak,An,Al,Ao⟩:=Aw.n3 rfl;go_wp2_with fail
    go_region_law (first
     |(go_simp;go_at_call 238;refine B8.mono ?_;rintro _ w5 ⟨hs5,hc5,ya,yn,yc,rfl,hX5⟩;have AP:=hs5.cells Aw.drew (by omega);have BE:=AP.lt;have BV:=AP.cell 1 _ rfl;have Ab:=(Bp.out.step ((aC.refl g w4).drew.trans hs5)).rs.res;have A0:=Ab.lt;obtain⟨Ca,Cc,BO,Cd,BP,Ce⟩:=Ab.n3 rfl;have H5:=Jh hs5 (And.intro hc5 hX5);clear hs5 hc5 hX5 Ab AP))
    all_goals
     go_wp2;obtain⟨hs5,hc9,hX5⟩:=H5.out;have BQ:=(aC.refl g w4).drew.trans hs5;have Ax:=(Bp.out.step BQ).rs;have hq:=((Ax.res.setI 0 (.string kK)).setI 1 (.string t.text)).setI 2 (.slice ya yn yc);obtain⟨hx,hy,hz⟩:=hq.m3 rfl;refine bodyPost_ret (v:=.agg #[.string kK,.string t.text,.slice ya yn yc]) (by simp[results,Tryz.results236,go_sem,hx,hy,hz]) rfl ?_;have Az:=Ax.fin [.string kK,.string t.text,.slice ya yn yc];have Ay:=Ax.prc hc9 [.string kK,.string t.text,.slice ya yn yc];show XP g (.slice (some ⟨tb,A4,none⟩) l.length c0) k _ w _ (ai w5 w.heap.size 0 [.string kK,.string t.text,.slice ya yn yc]);have Ai:=A2.out;have B6:w.heap.size<w4.drew.heap.size:=by show w.heap.size<w4.heap.size;omega
     by_cases he:e1=0
     ·subst he
      rw[bL (by rfl)] at Ai;simp only[dL] at Ai;rw[Ai];rw[show k+1+n1=k+(1+n1) by omega] at Ay;exact⟨Az,Ay,_,_,_,_,_,rfl,fun _=>ae.keep (Nat.le_of_lt B6) B6 (hX5 rfl kK t.text)⟩
     ·rw[bf (by exact he)] at Ai
      simp only[dL] at Ai;rw[Ai];rw[show k+1+n1=k+(1+n1) by omega] at Ay;exact⟨Az,Ay,_,_,_,_,_,rfl,fun h=>absurd h he⟩
   ·have Bl:bO (l.drop (k+1)) AC=false:=by simpa using s1
    rw[if_neg s1] at Ai;rw[Bl] at hI;have A2:=Hh Ai;clear Ai;refine hI.mono ?_;rintro _ w4 ⟨rfl,hb4⟩;have hc9:=h6.box.below hb4 h6.box.lt
    replace Aa:=Aa.step (aC.of hb4)
    clear hI h6 hb4;have Ab:=Aa.rs.res;have A0:=Ab.lt;have Aw:=Aa.tok;have A1:=Aw.lt;have A3:=hc9.lt;have HR:=Jh Aa hc9;obtain⟨Ac,Af,Ad,Ag,Ae,Ah⟩:=Ab.n3 rfl;obtain⟨Aj,Am,Ak,An,Al,Ao⟩:=Aw.n3 rfl;obtain⟨Ap,At,Aq,Au,As,Av⟩:=hc9.n3 rfl;clear Aa hc9 Ab Aw;go_wp2;obtain⟨Aa,hc9⟩:=HR.out;have Ax:=Aa.rs;have hq:=((Ax.res.setI 0 (.string qW)).setI 1 (.string t.text)).setI 2 (.slice none 0 0);obtain⟨hx,hy,hz⟩:=hq.m3 rfl;refine bodyPost_ret (v:=.agg #[.string qW,.string t.text,.slice none 0 0]) (by simp[results,Tryz.results236,go_sem,hx,hy,hz]) rfl ?_;have Az:=Ax.fin [.string qW,.string t.text,.slice none 0 0];have Ay:=Ax.prc hc9 [.string qW,.string t.text,.slice none 0 0];show XP g (.slice (some ⟨tb,A4,none⟩) l.length c0) k _ w _ (ai w4 w.heap.size 0 [.string qW,.string t.text,.slice none 0 0]);rw[A2.out];exact⟨Az,Ay,_,_,_,_,_,rfl,fun _=>ae.leaf _ _ qW t.text⟩
  ·have Ch:(t.kind==1)=false:=by rw[beq_eq_false_iff_ne];exact k1
   rw[if_neg k1] at Ai;have K1:=Hh k1;clear k1 AQ
   by_cases k2:t.kind=2
   ·rw[if_pos k2] at Ai
    have kb:(t.kind==2)=true:=by rw[beq_iff_eq];exact k2
    have A2:=Hh Ai;have H9:=Hh (h2.box.setI 1 (.int .i64 ((k:Int)+1)));have K2:=Hh k2;have hc9:=h2.box;have Bi:=Hh (Aa.step ((aC.refl g w2).set 1 (.int .i64 ((k:Int)+1))));clear Ai k2 h2;have Ab:=Aa.rs.res;have A0:=Ab.lt;have Aw:=Aa.tok;have A1:=Aw.lt;have A3:=hc9.lt;have HR:=Jh Aa hc9;obtain⟨Ac,Af,Ad,Ag,Ae,Ah⟩:=Ab.n3 rfl;obtain⟨Aj,Am,Ak,An,Al,Ao⟩:=Aw.n3 rfl;obtain⟨Ap,At,Aq,Au,As,Av⟩:=hc9.n3 rfl;clear Aa hc9 Ab Aw;go_wp2;obtain⟨Aa,hc9⟩:=HR.out;clear HR A0 A1 A3 Ac Ad Ae Af Ag Ah Aj Ak Al Am An Ao Ap Aq As At Au Av;clear Aa hc9;have Ax:=Bi.out.rs;have hc9:jl (w2.setCell ⟨g,1,none⟩ (.int .i64 ((k:Int)+1))) g (.slice (some ⟨tb,A4,none⟩) l.length c0) ((k+1:Nat)) 0:=H9.out;have hq:=((Ax.res.setI 0 (.string y8)).setI 1 (.string t.text)).setI 2 (.slice none 0 0);obtain⟨hx,hy,hz⟩:=hq.m3 rfl;refine bodyPost_ret (v:=.agg #[.string y8,.string t.text,.slice none 0 0]) (by simp[results,Tryz.results236,go_sem,hx,hy,hz]) rfl ?_
    have Az:=Ax.fin [.string y8,.string t.text,.slice none 0 0];have Ay:=Ax.prc hc9 [.string y8,.string t.text,.slice none 0 0];show XP g (.slice (some ⟨tb,A4,none⟩) l.length c0) k _ w _ (ai (w2.setCell ⟨g,1,none⟩ (.int .i64 ((k:Int)+1))) w.heap.size 0 [.string y8,.string t.text,.slice none 0 0]);rw[A2.out];exact⟨Az,Ay,_,_,_,_,_,rfl,fun _=>ae.leaf _ _ y8 t.text⟩
   ·have Ci:(t.kind==2)=false:=by rw[beq_eq_false_iff_ne];exact k2
    rw[if_neg k2] at Ai;have K2:=Hh k2;clear k2
    by_cases k3:t.kind=3
    ·rw[if_pos k3] at Ai
     have kb:(t.kind==3)=true:=by rw[beq_iff_eq];exact k3
     have K3:=Hh k3;have AR:=Ar t.text w2 Bf h2.tab;rcases zJ t.text with ⟨hq1,xs,e,hq2,hq3⟩|⟨xs,hq1,hq2⟩
     ·rw[hq1] at Ai
      rw[hq2] at AR;have A2:=Hh Ai;have BN:(e != 0)=true:=by simpa using hq3
      have hc9:=h2.box;have H2:=Hh h2;clear Ai hq1 hq2 hq3 k3 h2;have Ab:=Aa.rs.res;have A0:=Ab.lt;have Aw:=Aa.tok;have A1:=Aw.lt;have A3:=hc9.lt;have HR:=Jh Aa hc9;obtain⟨Ac,Af,Ad,Ag,Ae,Ah⟩:=Ab.n3 rfl;obtain⟨Aj,Am,Ak,An,Al,Ao⟩:=Aw.n3 rfl;obtain⟨Ap,At,Aq,Au,As,Av⟩:=hc9.n3 rfl;clear Aa hc9 Ab Aw;go_wp2_with fail;refine AR.mono ?_;rintro _ w3 ⟨rfl,hb3⟩;obtain⟨Aa,hc9⟩:=HR.out;clear HR A0 A1 A3 Ac Ad Ae Af Ag Ah Aj Ak Al Am An Ao Ap Aq As At Au Av
      replace Aa:=Aa.step (aC.of hb3)
      replace hc9:=jl.below' hc9 hb3
      have hN:=Br w3 g _ (k:Nat) 3 hc9;clear hb3 AR hc9;go_wp2_with fail;refine hN.mono ?_;rintro _ w4 ⟨rfl,hc9,hs4⟩
      replace Aa:=Aa.step hs4
      clear hN hs4;have Ab:=Aa.rs.res;have A0:=Ab.lt;have Aw:=Aa.tok;have A1:=Aw.lt;have A3:=hc9.lt;have HR:=Jh Aa hc9;obtain⟨Ac,Af,Ad,Ag,Ae,Ah⟩:=Ab.n3 rfl;obtain⟨Aj,Am,Ak,An,Al,Ao⟩:=Aw.n3 rfl;obtain⟨Ap,At,Aq,Au,As,Av⟩:=hc9.n3 rfl;clear Aa hc9 Ab Aw;go_wp2;obtain⟨Aa,hc9⟩:=HR.out;have Ax:=Aa.rs;have hq:=((Ax.res.setI 0 (.string ⟨#[]⟩)).setI 1 (.string ⟨#[]⟩)).setI 2 (.slice none 0 0);obtain⟨hx,hy,hz⟩:=hq.m3 rfl;refine bodyPost_ret (v:=.agg #[.string ⟨#[]⟩,.string ⟨#[]⟩,.slice none 0 0]) (by simp[results,Tryz.results236,go_sem,hx,hy,hz]) rfl ?_;have Az:=Ax.fin [.string ⟨#[]⟩,.string ⟨#[]⟩,.slice none 0 0];have Ay:=Ax.prc hc9 [.string ⟨#[]⟩,.string ⟨#[]⟩,.slice none 0 0];show XP g (.slice (some ⟨tb,A4,none⟩) l.length c0) k _ w _ (ai w4 w.heap.size 0 [.string ⟨#[]⟩,.string ⟨#[]⟩,.slice none 0 0]);rw[A2.out];exact⟨Az,Ay,_,_,_,_,_,rfl,fun h=>by cases h⟩
     ·rw[hq1] at Ai
      rw[hq2] at AR;have A2:=Hh Ai;have hc9:=h2.box;clear Ai hq1 hq2 k3 h2;have Ab:=Aa.rs.res;have A0:=Ab.lt;have Aw:=Aa.tok;have A1:=Aw.lt;have A3:=hc9.lt;have HR:=Jh Aa hc9;obtain⟨Ac,Af,Ad,Ag,Ae,Ah⟩:=Ab.n3 rfl;obtain⟨Aj,Am,Ak,An,Al,Ao⟩:=Aw.n3 rfl;obtain⟨Ap,At,Aq,Au,As,Av⟩:=hc9.n3 rfl;clear Aa hc9 Ab Aw;go_wp2_with fail;refine AR.mono ?_;rintro _ w3 ⟨rfl,hb3⟩;obtain⟨Aa,hc9⟩:=HR.out;clear HR A0 A1 A3 Ac Ad Ae Af Ag Ah Aj Ak Al Am An Ao Ap Aq As At Au Av
      replace Aa:=Aa.step (aC.of hb3)
      replace hc9:=jl.below' hc9 hb3
      have H9:=Hh (hc9.setI 1 (.int .i64 ((k:Int)+1)));have Bi:=Hh (Aa.step ((aC.refl g w3).set 1 (.int .i64 ((k:Int)+1))));clear hb3 AR;have Ab:=Aa.rs.res;have A0:=Ab.lt;have Aw:=Aa.tok;have A1:=Aw.lt;have A3:=hc9.lt;have HR:=Jh Aa hc9;obtain⟨Ac,Af,Ad,Ag,Ae,Ah⟩:=Ab.n3 rfl;obtain⟨Aj,Am,Ak,An,Al,Ao⟩:=Aw.n3 rfl;obtain⟨Ap,At,Aq,Au,As,Av⟩:=hc9.n3 rfl;clear Aa hc9 Ab Aw;go_wp2;obtain⟨Aa,hc9⟩:=HR.out;clear HR A0 A1 A3 Ac Ad Ae Af Ag Ah Aj Ak Al Am An Ao Ap Aq As At Au Av;clear Aa hc9;have Ax:=Bi.out.rs;have hc9:jl (w3.setCell ⟨g,1,none⟩ (.int .i64 ((k:Int)+1))) g (.slice (some ⟨tb,A4,none⟩) l.length c0) ((k+1:Nat)) 0:=H9.out;have hq:=((Ax.res.setI 0 (.string pM)).setI 1 (.string xs)).setI 2 (.slice none 0 0);obtain⟨hx,hy,hz⟩:=hq.m3 rfl;refine bodyPost_ret (v:=.agg #[.string pM,.string xs,.slice none 0 0]) (by simp[results,Tryz.results236,go_sem,hx,hy,hz]) rfl ?_
      have Az:=Ax.fin [.string pM,.string xs,.slice none 0 0];have Ay:=Ax.prc hc9 [.string pM,.string xs,.slice none 0 0];show XP g (.slice (some ⟨tb,A4,none⟩) l.length c0) k _ w _ (ai (w3.setCell ⟨g,1,none⟩ (.int .i64 ((k:Int)+1))) w.heap.size 0 [.string pM,.string xs,.slice none 0 0]);rw[A2.out];exact⟨Az,Ay,_,_,_,_,_,rfl,fun _=>ae.leaf _ _ pM xs⟩
    ·have Cj:(t.kind==3)=false:=by rw[beq_eq_false_iff_ne];exact k3
     rw[if_neg k3] at Ai;have K3:=Hh k3;clear k3;have AE:=Hh Ai;clear Ai;have hI:=mU w2 g _ l k AJ h2;have hc9:=h2.box;have Ab:=Aa.rs.res;have A0:=Ab.lt;have Aw:=Aa.tok;have A1:=Aw.lt;have A3:=hc9.lt;have HR:=Jh Aa hc9;obtain⟨Ac,Af,Ad,Ag,Ae,Ah⟩:=Ab.n3 rfl;obtain⟨Aj,Am,Ak,An,Al,Ao⟩:=Aw.n3 rfl;obtain⟨Ap,At,Aq,Au,As,Av⟩:=hc9.n3 rfl;clear Aa hc9 Ab Aw;go_wp2_with fail;obtain⟨Aa,hc9⟩:=HR.out;clear HR A0 A1 A3 Ac Ad Ae Af Ag Ah Aj Ak Al Am An Ao Ap Aq As At Au Av;clear hc9;have Ai:=AE.out;clear AE
     by_cases s1:bO (l.drop k) AJ=true
     ·rw[if_pos s1] at Ai
      rw[s1] at hI
      have AD:(aj m (.many pq) (l.drop k) d).2.2≠-1:=by
       have A5:=hne;rw[Ai] at A5;exact iI (g:=aj m (.many pq) (l.drop k) d) A5
      have AH:=fun w3 h3=>hM w3 g (.slice (some ⟨tb,A4,none⟩) l.length c0) l k d pq h3 (bD s1) hd (.inr rfl) AD;generalize aj m (.many pq) (l.drop k) d=r1 at *;obtain⟨x1,n1,e1⟩:=r1;simp only at AH AD;have A2:=Hh Ai;clear Ai;refine hI.mono ?_;rintro _ w4 ⟨rfl,hb4⟩;have h4:=h2.step hb4
      replace Aa:=Aa.step (aC.of hb4)
      clear hI h2 hb4;have BS:=Aa.rs.save.size;have B3:=Aa.rs.res.lt;go_wp2_with fail;refine (AH w4 h4).mono ?_;rintro _ w5 ⟨hs5,hc9,ya,yn,yc,rfl,hX5⟩
      replace Aa:=Aa.step hs5
      have B7:=Hh hX5;clear hs5 h4 AH hX5;have Ab:=Aa.rs.res;have A0:=Ab.lt;have Aw:=Aa.tok;have A1:=Aw.lt;have A3:=hc9.lt;have HR:=Jh Aa hc9;obtain⟨Ac,Af,Ad,Ag,Ae,Ah⟩:=Ab.n3 rfl;obtain⟨Aj,Am,Ak,An,Al,Ao⟩:=Aw.n3 rfl;obtain⟨Ap,At,Aq,Au,As,Av⟩:=hc9.n3 rfl;clear Aa hc9 Ab Aw;go_wp2;obtain⟨Aa,hc9⟩:=HR.out;have Ax:=Aa.rs;have hq:=((Ax.res.setI 0 (.string kJ)).setI 1 (.string ⟨#[]⟩)).setI 2 (.slice ya yn yc);obtain⟨hx,hy,hz⟩:=hq.m3 rfl;refine bodyPost_ret (v:=.agg #[.string kJ,.string ⟨#[]⟩,.slice ya yn yc]) (by simp[results,Tryz.results236,go_sem,hx,hy,hz]) rfl ?_;have Az:=Ax.fin [.string kJ,.string ⟨#[]⟩,.slice ya yn yc];have Ay:=Ax.prc hc9 [.string kJ,.string ⟨#[]⟩,.slice ya yn yc];show XP g (.slice (some ⟨tb,A4,none⟩) l.length c0) k _ w _ (ai w5 w.heap.size 0 [.string kJ,.string ⟨#[]⟩,.slice ya yn yc]);have Ai:=A2.out
      by_cases he:e1=0
      ·subst he
       rw[bL (by rfl)] at Ai;rw[Ai];exact⟨Az,Ay,_,_,_,_,_,rfl,fun _=>ae.keep (Nat.le_of_lt B3) B3 (B7.out rfl kJ ⟨#[]⟩)⟩
      ·rw[bf (by exact he)] at Ai
       rw[Ai];exact⟨Az,Ay,_,_,_,_,_,rfl,fun h=>absurd h he⟩
     ·have Bl:bO (l.drop k) AJ=false:=by simpa using s1
      rw[if_neg s1] at Ai;rw[Bl] at hI;have AE:=Hh Ai;clear Ai;refine hI.mono ?_;rintro _ w4 ⟨rfl,hb4⟩;have h4:=h2.step hb4
      replace Aa:=Aa.step (aC.of hb4)
      clear hI h2 hb4;have hI:=mU w4 g _ l k AC h4;have hc9:=h4.box;have Ab:=Aa.rs.res;have A0:=Ab.lt;have Aw:=Aa.tok;have A1:=Aw.lt;have A3:=hc9.lt;have HR:=Jh Aa hc9;obtain⟨Ac,Af,Ad,Ag,Ae,Ah⟩:=Ab.n3 rfl;obtain⟨Aj,Am,Ak,An,Al,Ao⟩:=Aw.n3 rfl;obtain⟨Ap,At,Aq,Au,As,Av⟩:=hc9.n3 rfl;clear Aa hc9 Ab Aw;go_wp2_with fail;obtain⟨Aa,hc9⟩:=HR.out;clear HR A0 A1 A3 Ac Ad Ae Af Ag Ah Aj Ak Al Am An Ao Ap Aq As At Au Av;clear hc9;have Ai:=AE.out;clear AE
      by_cases s2:bO (l.drop k) AC=true
      ·rw[if_pos s2] at Ai
       rw[s2] at hI
       by_cases hd6:64<=d
       ·rw[if_pos hd6] at Ai
        have A2:=Hh Ai;clear Ai;refine hI.mono ?_;rintro _ w5 ⟨rfl,hb5⟩;have h5:=h4.step hb5
        replace Aa:=Aa.step (aC.of hb5)
        clear hI h4 hb5;have hN:=qA w5 g _ k d h5.box hd6;go_wp2_with fail;refine hN.mono ?_;rintro _ w6 ⟨rfl,hc9,A7⟩
        replace Aa:=Aa.step A7
        clear hN A7 h5;have Ab:=Aa.rs.res;have A0:=Ab.lt;have Aw:=Aa.tok;have A1:=Aw.lt;have A3:=hc9.lt;have HR:=Jh Aa hc9;obtain⟨Ac,Af,Ad,Ag,Ae,Ah⟩:=Ab.n3 rfl;obtain⟨Aj,Am,Ak,An,Al,Ao⟩:=Aw.n3 rfl;obtain⟨Ap,At,Aq,Au,As,Av⟩:=hc9.n3 rfl;clear Aa hc9 Ab Aw;go_wp2;obtain⟨Aa,hc9⟩:=HR.out;have Ax:=Aa.rs;have hq:=((Ax.res.setI 0 (.string ⟨#[]⟩)).setI 1 (.string ⟨#[]⟩)).setI 2 (.slice none 0 0);obtain⟨hx,hy,hz⟩:=hq.m3 rfl;refine bodyPost_ret (v:=.agg #[.string ⟨#[]⟩,.string ⟨#[]⟩,.slice none 0 0]) (by simp[results,Tryz.results236,go_sem,hx,hy,hz]) rfl ?_;have Az:=Ax.fin [.string ⟨#[]⟩,.string ⟨#[]⟩,.slice none 0 0];have Ay:=Ax.prc hc9 [.string ⟨#[]⟩,.string ⟨#[]⟩,.slice none 0 0];show XP g (.slice (some ⟨tb,A4,none⟩) l.length c0) k _ w _ (ai w6 w.heap.size 0 [.string ⟨#[]⟩,.string ⟨#[]⟩,.slice none 0 0]);rw[A2.out];exact⟨Az,Ay,_,_,_,_,_,rfl,fun h=>by cases h⟩
       ·rw[if_neg hd6] at Ai
        simp only[List.drop_drop] at Ai
        have AD:(aj m .choice (l.drop (k+1)) (d+1)).2.2≠-1:=by
         have A5:=hne;rw[Ai] at A5;exact iI (g:=dL 1 (aj m .choice (l.drop (k+1)) (d+1))) A5
        have Ba:=(fq m .choice (l.drop (k+1)) (d+1) (by simp only[Nt.okX]) AD).1;rw[List.length_drop] at Ba;have Bh:=fun w3 h3=>hC w3 g (.slice (some ⟨tb,A4,none⟩) l.length c0) l (k+1) (d+1) h3 (by omega) AD;rw[show ((d+1:Nat):Int)=(d:Int)+1 by omega] at Bh;generalize aj m .choice (l.drop (k+1)) (d+1)=r1 at *;obtain⟨x1,n1,e1⟩:=r1;simp only at Ba AD;have A2:=Hh Ai;clear Ai;refine hI.mono ?_;rintro _ w5 ⟨rfl,hb5⟩;have h5:=h4.step hb5
        replace Aa:=Aa.step (aC.of hb5)
        clear hI h4 hb5;have hN:=nU w5 g _ k d h5.box (by omega) (by omega);go_wp2_with fail;refine hN.mono ?_;rintro _ w6 ⟨rfl,AX,A7⟩;have h6:=h5.go A7 AX AB
        replace Aa:=Aa.step A7
        have Cf:=Aa.rs.save.size;have B4:=Aa.rs.res.lt;clear hN A7 h5 AX;go_wp2_with fail;refine (Bh w6 h6).mono ?_;rintro _ w7 ⟨hs7,hc7,o2,t2,a2,m2,c2,rfl,hX7⟩;simp only at hc7 hX7
        replace Aa:=Aa.step hs7
        have Bq:e1=0->oV w7 g (.slice (some ⟨tb,A4,none⟩) l.length c0) l (k+1+n1):=fun he=>by
         subst he;exact h6.go hs7 hc7 (by omega)
        have Cg:=hs7.size;clear hs7 h6 Bh;have AS:Below w7.heap.size w7 (w7.alloc (.cells #[.string o2,.string t2,.slice a2 m2 c2] 52)):=(Below.refl _ _).alloc lz _;have AZ:=aa.new w7 #[.string o2,.string t2,.slice a2 m2 c2] 52;have H8:=Jh (Aa.step (aC.of AS)) (And.intro (jl.below' hc7 AS) (And.intro (fun he=>(Bq he).step AS) (And.intro AZ (fun he=>ae.below AS x1 _ (hX7 he)))));clear AS AZ hX7 Bq Aa hc7;go_wp2_with fail;obtain⟨Aa,hc9,Bs,AZ,Bt⟩:=H8.out;clear H8;generalize w7.alloc (.cells #[.string o2,.string t2,.slice a2 m2 c2] 52)=w8 at *;have Ai:=A2.out
        have hN:∃(kk:Nat) (ee:Int),Calls Tryz.prog 221 #[.pointer (some ⟨g,0,none⟩),.string ql] w8 (fun r w'=>r=.returned (.tuple #[])/\jl w' g (.slice (some ⟨tb,A4,none⟩) l.length c0) (kk:Nat) ee/\aC g w8 w')/\k<=kk/\
          ((ee=0/\e1=0/\R=(x1,kk-k,0))\/(ee≠0/\R=(aQ,kk-k,ee))):=by
         by_cases he:e1=0
         ·subst he
          have A9:R=(if bO (l.drop (k+(1+n1))) ql=false then cO (l.drop (k+(1+n1))) (1+n1) else (x1,1+n1+1,0)):=by
           rw[Ai,bL (by rfl)];rfl
          have hN:=wE w8 g _ l (k+1+n1) ql (Bs rfl);rw[show k+(1+n1)=k+1+n1 by omega] at A9
          by_cases s3:bO (l.drop (k+1+n1)) ql=false
          ·rw[if_pos s3,r9] at A9
           rw[s3,if_neg (by simp),if_neg (by simp)] at hN;refine⟨k+1+n1,_,hN,by omega,.inr ⟨o7 _,?_⟩⟩;rw[A9,show k+1+n1-k=1+n1 by omega]
          ·have BU:bO (l.drop (k+1+n1)) ql=true:=by simpa using s3
           rw[if_neg s3] at A9;rw[BU,if_pos rfl,if_pos rfl] at hN;refine⟨k+1+n1+1,_,hN,by omega,.inl ⟨rfl,rfl,?_⟩⟩;rw[A9,show k+1+n1+1-k=1+n1+1 by omega]
         ·rw[bf (by exact he)] at Ai
          refine⟨k+1+n1,e1,xQ w8 g _ _ e1 ql hc9 he ⟨_,_,_,rfl⟩,by omega,.inr ⟨he,?_⟩⟩;rw[Ai];exact Prod.ext rfl (Prod.ext (by simp only[dL];omega) rfl)
        obtain⟨kk,ee,hN,BX,A6⟩:=hN;refine hN.mono ?_;rintro _ w9 ⟨rfl,hc10,hs10⟩;have Bk:=hs10.cells AZ (by omega)
        have Bc:e1=0->ae (fun b=>w6.heap.size<=b) w9 x1 (dQ o2 t2 (.slice a2 m2 c2)):=fun he=>
         ae.move hs10.size (fun b hb hlt=>hs10.2 b hlt (by omega)) (fun b hb _=>hb) x1 _ (Bt he)
        replace Aa:=Aa.step hs10
        replace hc9:=hc10
        have HC:=Jh A6 Bc;have BF:=Bk.lt;clear hs10 AZ Bt Bs hc10 A6 Bc hN Ai A2;obtain⟨Bw,Bz,Bx,B0,By,B1⟩:=Bk.n3 rfl;clear Bk;have Ab:=Aa.rs.res;have A0:=Ab.lt;have Aw:=Aa.tok;have A1:=Aw.lt;have A3:=hc9.lt;have HR:=Jh Aa hc9;obtain⟨Ac,Af,Ad,Ag,Ae,Ah⟩:=Ab.n3 rfl;obtain⟨Aj,Am,Ak,An,Al,Ao⟩:=Aw.n3 rfl;obtain⟨Ap,At,Aq,Au,As,Av⟩:=hc9.n3 rfl;clear Aa hc9 Ab Aw;go_wp2;obtain⟨Aa,hc9⟩:=HR.out;have Ax:=Aa.rs;have hq:=((Ax.res.setI 0 (.string o2)).setI 1 (.string t2)).setI 2 (.slice a2 m2 c2);obtain⟨hx,hy,hz⟩:=hq.m3 rfl;refine bodyPost_ret (v:=.agg #[.string o2,.string t2,.slice a2 m2 c2]) (by simp[results,Tryz.results236,go_sem,hx,hy,hz]) rfl ?_;have Az:=Ax.fin [.string o2,.string t2,.slice a2 m2 c2];have Ay:=Ax.prc hc9 [.string o2,.string t2,.slice a2 m2 c2]
        show XP g (.slice (some ⟨tb,A4,none⟩) l.length c0) k _ w _ (ai w9 w.heap.size 0 [.string o2,.string t2,.slice a2 m2 c2]);obtain⟨A6,Bc⟩:=HC.out;have B2:k+(kk-k)=kk:=by omega
        rcases A6 with ⟨he0,he1,A8⟩|⟨he,A8⟩
        ·subst he0
         rw[A8];exact⟨Az,by show jl _ g _ ((k+(kk-k):Nat)) 0;rw[B2];exact Ay,_,_,_,_,_,rfl,fun _=>ae.keep (Nat.le_of_lt B4) B4 (Bc he1)⟩
        ·rw[A8]
         exact⟨Az,by show jl _ g _ ((k+(kk-k):Nat)) ee;rw[B2];exact Ay,_,_,_,_,_,rfl,fun h=>absurd h he⟩
      ·have BT:bO (l.drop k) AC=false:=by simpa using s2
       rw[if_neg s2,r9] at Ai;rw[BT] at hI;have Bb:yO (l.drop k)≠0:=o7 _;refine hI.mono ?_;rintro _ w5 ⟨rfl,hb5⟩;have h5:=h4.step hb5
       replace Aa:=Aa.step (aC.of hb5)
       have hW:=o6 w5 g _ l k h5;generalize yO (l.drop k)=ee at *;have A2:=Jh Ai Bb;clear hI h4 hb5 Ai Bb h5;go_wp2_with fail;refine hW.mono ?_;rintro _ w6 ⟨rfl,hc9,A7⟩
       replace Aa:=Aa.step A7
       clear hW A7;have Ab:=Aa.rs.res;have A0:=Ab.lt;have Aw:=Aa.tok;have A1:=Aw.lt;have A3:=hc9.lt;have HR:=Jh Aa hc9;obtain⟨Ac,Af,Ad,Ag,Ae,Ah⟩:=Ab.n3 rfl;obtain⟨Aj,Am,Ak,An,Al,Ao⟩:=Aw.n3 rfl;obtain⟨Ap,At,Aq,Au,As,Av⟩:=hc9.n3 rfl;clear Aa hc9 Ab Aw;go_wp2;obtain⟨Aa,hc9⟩:=HR.out;have Ax:=Aa.rs;have hq:=((Ax.res.setI 0 (.string ⟨#[]⟩)).setI 1 (.string ⟨#[]⟩)).setI 2 (.slice none 0 0);obtain⟨hx,hy,hz⟩:=hq.m3 rfl;refine bodyPost_ret (v:=.agg #[.string ⟨#[]⟩,.string ⟨#[]⟩,.slice none 0 0]) (by simp[results,Tryz.results236,go_sem,hx,hy,hz]) rfl ?_;have Az:=Ax.fin [.string ⟨#[]⟩,.string ⟨#[]⟩,.slice none 0 0];have Ay:=Ax.prc hc9 [.string ⟨#[]⟩,.string ⟨#[]⟩,.slice none 0 0];show XP g (.slice (some ⟨tb,A4,none⟩) l.length c0) k _ w _ (ai w6 w.heap.size 0 [.string ⟨#[]⟩,.string ⟨#[]⟩,.slice none 0 0]);rw[A2.out.1];exact⟨Az,Ay,_,_,_,_,_,rfl,fun e=>absurd e A2.out.2⟩
theorem lm(nt:Nt)(l:List ag)(d:Nat):(aj 0 nt l d).2.2 = -1:=by rw[aj]
theorem Jj:∀m,oK m/\DW m/\BA m/\LH m/\FD m/\LK m:=by
 intro m
 induction m using Nat.strongRecOn with
 |ind m ih=>
  cases m with
  |zero=>
   refine⟨?_,?_,?_,?_,?_,?_⟩
   ·intro w g lv l k d _ _ hne;exact absurd (lm _ _ _) hne
   ·intro w g lv l k d n bp bd bt _ _ _ _ _ hne;exact absurd (lm _ _ _) hne
   ·intro w g lv l k d _ _ hne;exact absurd (lm _ _ _) hne
   ·intro w g lv l k d _ _ hne;exact absurd (lm _ _ _) hne
   ·intro w g lv l k d _ _ hne;exact absurd (lm _ _ _) hne
   ·intro w g lv l k d s _ _ _ _ hne;exact absurd (lm _ _ _) hne
  |succ m=>
   have hm:=ih m (Nat.lt_succ_self m);have hc:∀j,j<=m->oK j:=fun j hj=>(ih j (by omega)).1;have ht:∀j,j<=m->DW j:=fun j hj=>(ih j (by omega)).2.1;exact⟨DI m hm.2.1 hm.1,Hd m hm.2.2.1 ht,Eg m hm.2.2.1 hm.2.2.2.1,Iw m hm.2.2.2.2.1 hc,EF m hm.2.2.2.2.2 hm.1,IK m hc⟩
def gH(l:List ag):fw:=if 1000<l.length then (aQ,1000,4) else if (aj (ib .choice l) .choice l 0).2.2=0 then aj (ib .choice l) .choice l 0 else (aQ,(aj (ib .choice l) .choice l 0).2)
theorem Mh(l:List ag):(gH l).2.2=0->(gH l).2.1<=l.length:=by
 unfold gH;have hf:=nO (ib .choice l) .choice l 0 lz (by simp only[Nt.okX]);split
 ·intro h;cases h
 ·split
  ·intro _;exact hf.2.1
  ·next h=>intro h2;exact absurd h2 h
def Om(w:World)(r:fw)(e:Ending)(w':World):Prop:=
 Below w.heap.size w w'/\∃o t a n c,e=.returned (.tuple #[Pz o t (.slice a n c),.int .i64 (r.2.1:Nat),.int .i64 r.2.2])/\ae (fun b=>w.heap.size<=b) w' r.1 (dQ o t (.slice a n c))
theorem ze(w:World)(lv:Value)(l:List ag)(h:aH w lv l)(ho:∀b,lv.ownBlock=some b->b<w.heap.size)(hT:Tab w)(hTg:1<w.heap.size)(hs:l.length<=1000000)(hsh:∀t∈l,t.text.size<=1048576) :
  Calls Tryz.prog 162 #[lv] w (Om w (gH l)):=by
 obtain⟨a0,c0,rfl,A3,Ay,-⟩:=h.len;unfold maxLen at Ay
 by_cases hbig:1000<l.length
 ·have hR:gH l=(aQ,1000,4):=by unfold gH;rw[if_pos hbig]
  have hq:=aa.new w fP 52;have HR:=Hh hR;clear hR;go_enter Tryz.func162,Tryz.ntmps162;go_wp2;obtain⟨hx,hy,hz⟩:=hq.m3 rfl;refine bodyPost_ret (v:=.tuple #[.agg #[.string ⟨#[]⟩,.string ⟨#[]⟩,.slice none 0 0],.int .i64 1000,.int .i64 4]) (by simp[results,Tryz.results162,go_sem,hx,hy,hz]) rfl ?_;rw[HR.out];exact⟨(Below.refl _ w).alloc lz _,_,_,_,_,_,rfl,ae.leaf _ _ _ _⟩
 ·have hf:=nO (ib .choice l) .choice l 0 lz (by simp only[Nt.okX])
  have hR:gH l=if (aj (ib .choice l) .choice l 0).2.2=0 then aj (ib .choice l) .choice l 0 else (aQ,(aj (ib .choice l) .choice l 0).2):=by unfold gH;rw[if_neg hbig]
  have Ah:=(Jj (ib .choice l)).1;have Aq:=hf.1;have Aa:Below w.heap.size w ((w.alloc (.cells fP 52)).alloc (.cells #[.slice a0 l.length c0,.int .i64 0,.int .i64 0] 220)):=((Below.refl _ w).alloc lz _).alloc (by simp) _;have Af:=(aa.new w fP 52).alloc (.cells #[.slice a0 l.length c0,.int .i64 0,.int .i64 0] 220);have Ae:=aa.new (w.alloc (.cells fP 52)) #[.slice a0 l.length c0,.int .i64 0,.int .i64 0] 220;simp only[World.size_alloc] at Ae
  have Ai:oV ((w.alloc (.cells fP 52)).alloc (.cells #[.slice a0 l.length c0,.int .i64 0,.int .i64 0] 220)) (w.heap.size+1) (.slice a0 l.length c0) l 0:=
   ⟨Ae,h.below Aa lz,fun b hb=>by have:=ho b hb;omega,Nat.zero_le _,hs,fun j hj=>(Aa.cell hTg).trans (hT j hj),by omega,hsh⟩
  have Ad:=Ah _ _ _ l 0 0 Ai (by omega) (by rw[List.drop_zero];exact Aq);rw[List.drop_zero] at Ad;have Az:=hf.2.1;generalize aj (ib .choice l) .choice l 0=r at *;obtain⟨x1,n1,e1⟩:=r;simp only at hR Aq Az;have HR:=Hh hR;clear hR Ah Ai Ae hf;go_enter Tryz.func162,Tryz.ntmps162;go_wp2_with fail;generalize (w.alloc (.cells fP 52)).alloc (.cells #[.slice a0 l.length c0,.int .i64 0,.int .i64 0] 220)=w2 at *;refine Ad.mono ?_;rintro _ w3 ⟨hs3,hc3,o,t,a,n,c,rfl,hX⟩;simp only[Nat.zero_add] at hc3 hX;have Ab:=hs3.cells Af (by omega);have A6:=Af.lt;have A5:=Aa.size;have HB:=Jh Aa (And.intro hs3 hX);clear Af Aa hs3 hX Ad h ho;have A4:=Ab.lt;have A2:=hc3.lt;have Aj:=Hh Ab;have A0:=Hh hc3;obtain⟨Ar,Au,As,Av,At,Aw⟩:=Ab.n3 rfl;obtain⟨Ak,An,Al,Ao,Am,Ap⟩:=hc3.n3 rfl;clear Ab hc3
  by_cases he:e1=0
  ·subst he
   go_wp2_with fail;go_region
   go_wp2;have Ag:=((((((Aj.out.setI 0 (.string o)).setI 1 (.string t)).setI 2 (.slice a n c)).setI 0 (.string o)).setI 1 (.string t)).setI 2 (.slice a n c)).drew;obtain⟨hx,hy,hz⟩:=Ag.m3 rfl;refine bodyPost_ret (v:=.tuple #[.agg #[.string o,.string t,.slice a n c],.int .i64 (n1:Nat),.int .i64 0]) (by simp[results,Tryz.results162,go_sem,hx,hy,hz]) rfl ?_;obtain⟨Aa,hs3,hX⟩:=HB.out;have Ac:=(aL w.heap.size w.heap.size lz [.string o,.string t,.slice a n c] 0 _ _ (aL w.heap.size w.heap.size lz [.string o,.string t,.slice a n c] 0 _ _ (hs3.chain Aa (Nat.le_succ _)))).drew;show Om w _ _ ((ai (ai w3 w.heap.size 0 [.string o,.string t,.slice a n c]) w.heap.size 0 [.string o,.string t,.slice a n c]).drew)
   have Ax:ae (fun b=>w.heap.size<=b) (ai (ai w3 w.heap.size 0 [.string o,.string t,.slice a n c]) w.heap.size 0 [.string o,.string t,.slice a n c]) x1 (dQ o t (.slice a n c)):=by
    refine ae.move (P:=fun b=>w2.heap.size<=b) (w:=w3) ?_ (fun b hb _=>?_) (fun b hb _=>?_) x1 _ (hX trivial)
    ·rw[aB,aB];exact Nat.le_refl _
    ·rw[aK _ _ _ _ _ (by omega),aK _ _ _ _ _ (by omega)]
    ·show w.heap.size<=b
     omega
   rw[HR.out,if_pos trivial];generalize ai (ai w3 w.heap.size 0 [.string o,.string t,.slice a n c]) w.heap.size 0 [.string o,.string t,.slice a n c]=w9 at *;exact⟨Ac,o,t,a,n,c,rfl,ae.below (Below.refl _ _).drew x1 _ Ax⟩
  ·have A1:(e1 != 0)=true:=by simpa using he
   go_wp2_with fail;go_region
   go_wp2;have Ag:=((((((Aj.out.setI 0 (.string o)).setI 1 (.string t)).setI 2 (.slice a n c)).setI 0 (.string ⟨#[]⟩)).setI 1 (.string ⟨#[]⟩)).setI 2 (.slice none 0 0)).drew;obtain⟨hx,hy,hz⟩:=Ag.m3 rfl;refine bodyPost_ret (v:=.tuple #[.agg #[.string ⟨#[]⟩,.string ⟨#[]⟩,.slice none 0 0],.int .i64 (n1:Nat),.int .i64 e1]) (by simp[results,Tryz.results162,go_sem,hx,hy,hz]) rfl ?_;obtain⟨Aa,hs3,hX⟩:=HB.out;have Ac:=(aL w.heap.size w.heap.size lz [.string ⟨#[]⟩,.string ⟨#[]⟩,.slice none 0 0] 0 _ _ (aL w.heap.size w.heap.size lz [.string o,.string t,.slice a n c] 0 _ _ (hs3.chain Aa (Nat.le_succ _)))).drew;show Om w _ _ ((ai (ai w3 w.heap.size 0 [.string o,.string t,.slice a n c]) w.heap.size 0 [.string ⟨#[]⟩,.string ⟨#[]⟩,.slice none 0 0]).drew);rw[HR.out,if_neg he];exact⟨Ac,_,_,_,_,_,rfl,ae.leaf _ _ _ _⟩
end Go.Proofs.YtbcdaaobbebooaaGreatDoor
