/- Laws that TidyWell rests on; conditions: those that each names. -/
import Derived.Test.YtgmpmolfcaihfaaGreatDoorWge
import Derived.Deep.MidRow
set_option linter.unusedSimpArgs false
set_option linter.unusedVariables false
set_option maxRecDepth 100000
set_option maxHeartbeats 20000000
open And renaming intro→cE
open Array renaming getElem?_eq_getElem→pS,getElem?_set_ne→gi
open Bool renaming and_eq_true→cP,false_or→j0,or_eq_true→gd,true_and→ie
open Go renaming Addr→pC,Calls→cJ,IntKind→eC,Oper→oX,TypeId→ff,Value→cq,World→cd,bodyPost_end→gh,bodyPost_ret→bj,heap_setCell_other→tG,maxLen→cV,results→cD,step_append_lies→s7,wpList→gE
open Go.Addr renaming add_lit→iS
open Go.Ending renaming returned→bk
open Go.IntKind renaming i64→ar
open Go.IntWalk renaming i64_in→cU
open Go.Obj renaming cells→aE
open Go.Proofs.Tryz renaming prog→bh,results24→sY,results52→pP,results9→vx,underlying30→sy,underlying55→mA
open Go.Region renaming wanted→mw
open Go.Result renaming andThen→sC
open Go.RowKit renaming Below→cj,intOf→cR
open Go.RowKit.Below renaming refl→ba
open Go.Value renaming agg→ew,bool→cG,int→ao,ownBlock→ev,pointer→cx,slice→an,slice→iN,string→al,string→fx,tuple→dr
open Go.Value.slice renaming injEq→fS
open Go.World renaming cell?_alloc_new→fL,ownsRow_nil→ir,setCell→rh,size_alloc→cF
open Go.World.ownsRow renaming form→yy,lt→cy
open List renaming any_cons→th,append_assoc→ef,append_nil→eI,concat_eq_append→hU,cons_append→cf,drop_eq_getElem_cons→cg,drop_of_length_le→fg,drop_zero→dd,eq_nil_of_length_eq_zero→cC,eq_nil_or_concat→gS,filter_cons_of_neg→jx,filter_cons_of_pos→e8,flatMap_append→fp,flatMap_cons→fb,getElem?_cons_succ→ft,getElem?_cons_zero→fs,getElem?_eq_getElem→br,getElem?_eq_some_iff→fv,getElem?_take→j7,getElem_cons_zero→eg,getElem_map→ju,getElem_mem→cH,length_append→cm,length_cons→bc,length_drop→bm,length_map→cW,length_nil→cY,length_pos_iff→ey,length_replicate→ve,length_singleton→eh,length_take→c8,map_append→eJ,map_cons→cI,map_map→ix,map_nil→ke,mem_append→cX,mem_cons→cL,mem_map_of_mem→gw,mem_map→j8,mem_of_mem_take→mu,mem_singleton→de,nil_append→cM,pairwise_append→sX,sum_nil→E2,take_append_drop→el,take_length→eR,take_succ_eq_append_getElem→e9,take_zero→fz
open Nat renaming add_zero→eA,le_refl→cA,le_succ_of_le→u3,le_succ→pA,le_trans→dy,lt_of_lt_of_le→cT,mul_le_mul_right→vA,mul_self_sub_mul_self_eq→wj,zero_add→df,zero_le→ck
open Option renaming getD_some→jz,isSome_iff_exists→rB,map_eq_some_iff→eH,none→aq,some→aw
open Option.some renaming injEq→du,inj→dt
open Prod.mk renaming injEq→n9
namespace Go.Proofs.YtgmpmolfcaihfaaGreatDoor
open Go.RowKit Go.Tab
variable{l:Bs}{Q:Exit->Act->cd->Prop}{e o size:Int}{cs os ts xs:List cq}{R:List aB}{L:List aK}{row toks:List ae}{st:List bX}{C:List nI}{B B2 Bg H M W b cap cap3 g g3 j k m n ob oc sz:Nat}{P:Nat->Prop}{a:Option pC}{rb:Option Nat}{p:Prop}{E:ff}{a0 a1 a2 a3 a4 a5 a6 v:cq}{W' w w' w3 w4 w5:cd}{r:aB}{t:ae}{x:bX}{c:nI}
theorem D5(g:Nat)(oa:Option pC)(n oc:Nat)(t:ae)(r:List ae)(lv:cq)(stop:Int)(last:Bool)(w:cd)(h:jL w g (an oa n oc) 0 0)(hr:aP w lv (t::r))(ho:∀b,lv.ownBlock=aw b->b<w.heap.size)(hT:jF w)(hn:(t::r).length<=900000)(hsh:∀u∈(t::r),u.text.size<=1048576)(hq:∀u∈(t::r),u.kind=3->lm u.text≠aq)(hB:nT t mZ=true\/¬t.kind=1) :
  cJ bh 52 #[cx (aw ⟨g,0,aq⟩),jH lv stop last] w (mX g (an oa n oc) (bn n (t::r) stop last) w):=by
 obtain⟨ra,rc,rfl,AI,AJ,-⟩:=hr.len;obtain⟨N,hN⟩:=exq ((t::r).length);have A6:N<=(t::r).length/\(t::r).length<=N:=by omega
 rw[<-hN] at hr AI ho ⊢;unfold cV at AJ;have HN:=Hh hN;clear hN;obtain⟨R,hR⟩:=exq (bn n (t::r) stop last);have HR:=Hh hR;rw[<-hR];clear hR;have Aj:=h.lt;have AD:cj w.heap.size w ((w.alloc (aE (eG (an ra N rc) stop last) 65)).alloc (aE ai.toArray 48)):=((ba _ w).alloc lz _).alloc (by simp) _;have kA:=(aa.new w (eG (an ra N rc) stop last) 65).alloc (aE ai.toArray 48);have kB:=aa.new (w.alloc (aE (eG (an ra N rc) stop last) 65)) ai.toArray 48;simp only[cF] at kB;have AE:((w.alloc (aE (eG (an ra N rc) stop last) 65)).alloc (aE ai.toArray 48)).heap.size=w.heap.size+2:=by simp
 have HS:=Hh (show Vi w ((w.alloc (aE (eG (an ra N rc) stop last) 65)).alloc (aE ai.toArray 48)) (eG (an ra N rc) stop last) from ⟨AD,kA,kB,by rw[AE];exact cA _⟩);have H0:=Jh h (cE hr (cE ho hT));clear AD kA kB AE h hr ho hT;simp only[bc] at A6 hn;have Bd:1<=N:=by omega
 have Be:((N:Int)==0)=false:=by rw[Fc];omega
 obtain⟨bb,ob,he,AK,c0,c1,c2⟩:=(H0.out.2.1.below HS.out.1 lz).get (j:=0) (by simp);cases he
 simp only[Nat.zero_mul,eA,eg] at c0 c1 c2;have A7:=rP t mZ ((w.alloc (aE (eG (an (aw ⟨bb,ob,aq⟩) N rc) stop last) 65)).alloc (aE ai.toArray 48));have Ab:=HR.out;simp only[bn] at Ab;rw[sG] at Ab;have AC:=Hh Ab;clear Ab HR;have Bb:=Jh hsh hq;have Bg:=hsh t (by simp);clear hsh hq;simp only[fo] at A7;go_in;go_wp2_with fail;refine A7.mono ?_;generalize (w.alloc (aE (eG (an (aw ⟨bb,ob,aq⟩) N rc) stop last) 65)).alloc (aE ai.toArray 48)=w1 at *;clear A7 c0 c1 c2 AK;rintro _ w2 ⟨rfl,hb2⟩;have Ai:=Hh (HS.out.step hb2);clear hb2 HS;have Ab:=AC.out;clear AC
 by_cases hsg:nT t mZ=true
 .rw[E4 hsg] at Ab
  rw[hsg];clear hsg
  by_cases h1:n=1
  .rw[E4 h1] at Ab
   have AM:((n:Int)==1)=true:=by rw[beq_iff_eq];omega
   have Al:=Hh Ab;clear Ab h1;have Ao:=(H0.out.1.below Ai.out.1 Aj).cell 0 _ rfl;have An:=(H0.out.1.below Ai.out.1 Aj).lt;obtain⟨Aa,k0,k1,AB⟩:=Ai.out;have hL:=kJ g (an oa n oc) (t::r) (an (aw ⟨bb,ob,aq⟩) N rc) stop last (0) _ (H0.out.1.below Aa Aj) (H0.out.2.1.below Aa lz) (by simp;omega);rw[<-Al.out,show (((0:Nat)):Int)=0 from rfl] at hL;have H9:Hid (BA R=0/\DR R=bR):=Hh (by rw[Al.out];exact kK _ _ _ _);simp only[jH] at hL;have A8:=k0.lt;have An:=(H0.out.1.below Aa Aj).lt;have Ao:=(H0.out.1.below Aa Aj).cell 0 _ rfl;obtain⟨Ac,Af,Ad,Ag,Ae,Ah⟩:=k0.n3 rfl;clear Aa k0 k1;go_wp2_with fail;refine hL.mono ?_;clear hL Ac Ad Ae Af Ag Ah Ao An;rintro _ w4 ⟨rfl,hs4,p4⟩;obtain⟨Aa,k0,k1,-⟩:=Ai.out;have q4:=hs4.cells k1 (by omega);have A9:=q4.lt;have Ak:=Jh p4 ((aF.of Aa).trans hs4);have Am:=Hh q4;obtain⟨Ar,Ay,As,Az,At,A0,Au,A1,Av,A2,Aw,A3,Ax,-⟩:=q4.n7 rfl
   have A4:=q4.frozen 6;clear q4 p4 hs4 Aa k0 k1;go_wp2_with fail;have Ap:=Am.out.put ai 0;obtain⟨y0,y1,y2,y3,y4,y5,y6⟩:=Ap.m7 rfl;simp only[aj] at y0 y1 y2 y3 y4 y5 y6;refine bj (v:=dr #[ao ar 0,ew #[cG false,al ⟨#[]⟩,al ⟨#[]⟩,al ⟨#[]⟩,an aq 0 0,an aq 0 0,an aq 0 0]]) (by simp[cD,pP,go_sem,y0,y1,y2,y3,y4,y5,y6]) rfl ?_;show mX g (an oa n oc) R w _ (aj w4 (w.heap.size+1) 0 ai);exact⟨Ak.out.2.setAllNew (by omega) _,Ak.out.1.setAllOther (by omega),ai,by rw[H9.out.1],(by rw[H9.out.2];exact aX.zero _ _),rfl⟩
  .rw[E6 h1] at Ab
   have AM:((n:Int)==1)=false:=by rw[Fc];omega
   simp only[bc] at Ab
   by_cases h2:1<r.length+1
   .rw[E4 h2] at Ab
    have hd:decide ((1:Int)<(N:Int))=true:=by rw[decide_eq_true_iff];omega
    have Al:=Hh Ab;clear Ab h1 h2;obtain⟨Aa,k0,k1,AB⟩:=Ai.out;have hL:=kJ g (an oa n oc) (t::r) (an (aw ⟨bb,ob,aq⟩) N rc) stop last (1) _ (H0.out.1.below Aa Aj) (H0.out.2.1.below Aa lz) (by simp;omega);rw[<-Al.out,show (((1:Nat)):Int)=1 from rfl] at hL;have H9:Hid (BA R=0/\DR R=bR):=Hh (by rw[Al.out];exact kK _ _ _ _);simp only[jH] at hL;have A8:=k0.lt;have An:=(H0.out.1.below Aa Aj).lt;have Ao:=(H0.out.1.below Aa Aj).cell 0 _ rfl;obtain⟨Ac,Af,Ad,Ag,Ae,Ah⟩:=k0.n3 rfl;clear Aa k0 k1;go_wp2_with fail;refine hL.mono ?_;clear hL Ac Ad Ae Af Ag Ah Ao An;rintro _ w4 ⟨rfl,hs4,p4⟩;obtain⟨Aa,k0,k1,-⟩:=Ai.out;have q4:=hs4.cells k1 (by omega);have A9:=q4.lt;have Ak:=Jh p4 ((aF.of Aa).trans hs4);have Am:=Hh q4;obtain⟨Ar,Ay,As,Az,At,A0,Au,A1,Av,A2,Aw,A3,Ax,A4⟩:=q4.n7 rfl;clear q4 p4 hs4 Aa k0 k1;go_wp2_with fail;have Ap:=Am.out.put ai 0
    obtain⟨y0,y1,y2,y3,y4,y5,y6⟩:=Ap.m7 rfl;simp only[aj] at y0 y1 y2 y3 y4 y5 y6;refine bj (v:=dr #[ao ar 0,ew #[cG false,al ⟨#[]⟩,al ⟨#[]⟩,al ⟨#[]⟩,an aq 0 0,an aq 0 0,an aq 0 0]]) (by simp[cD,pP,go_sem,y0,y1,y2,y3,y4,y5,y6]) rfl ?_;show mX g (an oa n oc) R w _ (aj w4 (w.heap.size+1) 0 ai);exact⟨Ak.out.2.setAllNew (by omega) _,Ak.out.1.setAllOther (by omega),ai,by rw[H9.out.1],(by rw[H9.out.2];exact aX.zero _ _),rfl⟩
   .rw[E6 h2] at Ab
    have hd:decide ((1:Int)<(N:Int))=false:=by rw[decide_eq_false_iff_not];omega
    have Al:=Hh Ab;have H9:Hid (BA R=5/\DR R=bR):=Hh (by rw[Al.out];exact⟨rfl,rfl⟩);clear Ab h1 h2;obtain⟨Aa,k0,k1,AB⟩:=Ai.out;have A5:=H0.out.1.below Aa Aj;have Ao:=A5.cell 0 _ rfl;have An:=A5.lt;have A8:=k0.lt;have A9:=k1.lt;have p4:jL w2 g (an oa n oc) (Ki R).1 (Ki R).2:=by rw[Al.out];exact A5
    have Ak:=Jh p4 (aF.of (g:=g) Aa);have Am:=Hh k1;obtain⟨Ac,Af,Ad,Ag,Ae,Ah⟩:=k0.n3 rfl;obtain⟨AN,AU,AO,AV,AP,AW,AQ,AX,AR,AY,AS,AZ,AT,Ba⟩:=k1.n7 rfl;clear Aa k0 k1 A5 p4;go_wp2_with fail;have Ap:=Am.out.put ai 0;obtain⟨y0,y1,y2,y3,y4,y5,y6⟩:=Ap.m7 rfl;simp only[aj] at y0 y1 y2 y3 y4 y5 y6;refine bj (v:=dr #[ao ar 5,ew #[cG false,al ⟨#[]⟩,al ⟨#[]⟩,al ⟨#[]⟩,an aq 0 0,an aq 0 0,an aq 0 0]]) (by simp[cD,pP,go_sem,y0,y1,y2,y3,y4,y5,y6]) rfl ?_;show mX g (an oa n oc) R w _ (aj w2 (w.heap.size+1) 0 ai);exact⟨Ak.out.2.setAllNew (by omega) _,Ak.out.1.setAllOther (by omega),ai,by rw[H9.out.1],(by rw[H9.out.2];exact aX.zero _ _),rfl⟩
 .rw[E6 hsg] at Ab
  have Aq:nT t mZ=false:=by simpa using hsg
  have AA:=hsg;rw[Aq];clear hsg Aq;obtain⟨Bc,Bh,AG,AL,c0,c1,c2⟩:=(H0.out.2.1.below Ai.out.1 lz).get (j:=0) (by simp);cases AG
  simp only[Nat.zero_mul,eA,eg] at c0 c1 c2
  by_cases hk1:t.kind=1
  .exact absurd hk1 (by exact hB.resolve_left AA)
  .rw[E4 (by simpa using hk1)] at Ab
   have Bf:(t.kind != 1)=true:=by simpa using hk1
   have Al:=Hh Ab;have AH:=Ai.out.2.1.lt;have AF:=Ai.out.2.1.cell 0 _ rfl;clear Ab hk1;obtain⟨Aa,k0,k1,AB⟩:=Ai.out;have hL:=kJ g (an oa n oc) (t::r) (an (aw ⟨bb,ob,aq⟩) N rc) stop last (0) _ (H0.out.1.below Aa Aj) (H0.out.2.1.below Aa lz) (by simp;omega);rw[<-Al.out,show (((0:Nat)):Int)=0 from rfl] at hL;have H9:Hid (BA R=0/\DR R=bR):=Hh (by rw[Al.out];exact kK _ _ _ _);simp only[jH] at hL;have A8:=k0.lt;have An:=(H0.out.1.below Aa Aj).lt;have Ao:=(H0.out.1.below Aa Aj).cell 0 _ rfl;obtain⟨Ac,Af,Ad,Ag,Ae,Ah⟩:=k0.n3 rfl;clear Aa k0 k1;go_wp2_with fail;refine hL.mono ?_;clear hL Ac Ad Ae Af Ag Ah Ao An;rintro _ w4 ⟨rfl,hs4,p4⟩;obtain⟨Aa,k0,k1,-⟩:=Ai.out;have q4:=hs4.cells k1 (by omega);have A9:=q4.lt;have Ak:=Jh p4 ((aF.of Aa).trans hs4);have Am:=Hh q4;obtain⟨Ar,Ay,As,Az,At,A0,Au,A1,Av,A2,Aw,A3,Ax,A4⟩:=q4.n7 rfl;clear q4 p4 hs4 Aa k0 k1
   go_wp2_with fail;have Ap:=Am.out.put ai 0;obtain⟨y0,y1,y2,y3,y4,y5,y6⟩:=Ap.m7 rfl;simp only[aj] at y0 y1 y2 y3 y4 y5 y6;refine bj (v:=dr #[ao ar 0,ew #[cG false,al ⟨#[]⟩,al ⟨#[]⟩,al ⟨#[]⟩,an aq 0 0,an aq 0 0,an aq 0 0]]) (by simp[cD,pP,go_sem,y0,y1,y2,y3,y4,y5,y6]) rfl ?_;show mX g (an oa n oc) R w _ (aj w4 (w.heap.size+1) 0 ai);exact⟨Ak.out.2.setAllNew (by omega) _,Ak.out.1.setAllOther (by omega),ai,by rw[H9.out.1],(by rw[H9.out.2];exact aX.zero _ _),rfl⟩
theorem QL(g:Nat)(B:Option pC)(n C:Nat)(row:List ae)(lv:cq)(stop:Int)(last:Bool)(w:cd)(h:jL w g (an B n C) 0 0)(A:aP w lv row)(u:∀b,lv.ownBlock=aw b->b<w.heap.size)(i:jF w)(j:row.length<=900000)(f:∀t∈row,t.text.size<=1048576)(x:∀t∈row,t.kind=3->lm t.text≠aq) :
  cJ bh 52 #[cx (aw ⟨g,0,aq⟩),jH lv stop last] w (mX g (an B n C) (bn n row stop last) w):=by
 cases row with
 |nil=>exact QK g B n C lv stop last w h A u i j f x
 |cons t r=>
  by_cases D:nT t mZ=true
  .exact D5 g B n C t r lv stop last w h A u i j f x (.inl D)
  .by_cases E:t.kind=1
   .exact QJ g B n C t r lv stop last w h A u i j f x (by simpa using D) E
   .exact D5 g B n C t r lv stop last w h A u i j f x (.inr E)
def Si(xs:List cq):Nat->List cq->List cq
 |_,[]=>xs
 |o,v::r=>Si (xs.set o v) (o+1) r
theorem rQ:∀(vs zs ts:List cq),zs.length=vs.length->Si (ts++zs) ts.length vs=ts++vs
 |[],[],ts,_=>rfl
 |[],_::_,_,h=>by simp at h
 |_::_,[],_,h=>by simp at h
 | v::r,z::zs,ts,h=>by
  have ih:=rQ r zs (ts++[v]) (by simpa using h);simp only[cm,bc,cY,ef,cf,cM] at ih;rw[Si,List.set_append_right _ _ lz,Nat.sub_self,List.set_cons_zero];exact ih
theorem qf{base g n cap size:Nat}{e:ff}:∀(vs:List cq) (o:Nat) {w:cd} {xs:List cq},w.ownsRow base e size (an (aw ⟨g,0,aq⟩) n cap) n xs->(w.setCells g o vs).ownsRow base e size (an (aw ⟨g,0,aq⟩) n cap) n (Si xs o vs)
 |[],_,_,_,h=>h
 |v::r,o,_,_,h=>qf r (o+1) (h.stored o v).1
theorem mP(g:Nat):∀(vs:List cq) (o:Nat) (w:cd),w.grownBy (w.setCells g o vs) (aw g)
 |[],_,w=>⟨rfl,rfl,rfl,cA _,fun _ _ _=>rfl⟩
 |v::r,o,w=>cd.grownBy.trans (b:=w.setCell ⟨g,o,aq⟩ v) ⟨rfl,rfl,rfl,by simp[rh],fun k _ hk=>tG w ⟨g,o,aq⟩ k v (fun e=>hk (by simp[e]))⟩ (mP g r (o+1) _)
section
variable {P:Program}
end
theorem uZ:∀u∈ai,u.oneCell'=true:=by
 intro u a;simp[ai] at a
 rcases a with rfl|rfl|rfl|rfl|rfl|rfl|rfl<;>rfl
theorem Le(w:cd)(f:w.heap.size=n)(j:Nat)(u:cq)(b:ai[j]?=aw u):(w.alloc (aE ai.toArray 48)).cell? ⟨n,j,aq⟩=aw u:=by
 subst f;rw[fL]
 simpa using b
theorem Gn(w:cd)(a b:Obj):((w.alloc a).alloc b).heap.size=w.heap.size+2:=by
 rw[cF,cF]
theorem U6{base:Nat}(o:Obj)(hb:base<=w.heap.size)(h1:w.ownsRow base 48 7 v k ts)(h2:w.ownsRow base 48 7 (an (aw ⟨ob,0,aq⟩) n oc) n os) :
  (((w.alloc o).alloc (aE ai.toArray 48)).drew.drew.ownsRow base 48 7 v k ts)/\(((w.alloc o).alloc (aE ai.toArray 48)).drew.drew.ownsRow base 48 7 (an (aw ⟨ob,0,aq⟩) n oc) n os)/\
  (∀(j:Nat) (u:cq),ai[j]?=aw u->((w.alloc o).alloc (aE ai.toArray 48)).drew.drew.cell? ⟨w.heap.size+1,j,aq⟩=aw u)/\base<=((w.alloc o).alloc (aE ai.toArray 48)).drew.drew.heap.size/\((w.alloc o).alloc (aE ai.toArray 48)).drew.drew.heap.size=w.heap.size+2/\cj w.heap.size w ((w.alloc o).alloc (aE ai.toArray 48)).drew.drew:=
 ⟨show ((w.alloc o).alloc (aE ai.toArray 48)).ownsRow _ _ _ _ _ _ from (h1.alloc _).alloc _,show ((w.alloc o).alloc (aE ai.toArray 48)).ownsRow _ _ _ _ _ _ from (h2.alloc _).alloc _,
  fun j u hu=>Le (w.alloc o) (cF w _) j u hu,dy hb (dy (Nat.le_add_right _ 2) (Nat.le_of_eq (Gn w o (aE ai.toArray 48)).symm)),Gn w o _,((((ba _ w).alloc lz _).alloc (by simp) _).drew).drew⟩
theorem iK{base:Nat}(h:w.ownsRow base 48 7 (an (aw ⟨g,0,aq⟩) (k+1) cap) (k+1) (ts++ai))(n:ts.length=k*7)(j:Nat)(u:cq)(b:ai[j]?=aw u):w.cell? ⟨g,k*7+j,aq⟩=aw u:=by
 have c:j<7:=(fv.1 b).1;rw[h.cellAt _ (by omega),List.getElem?_append_right (by omega),show k*7+j-ts.length=j by omega];exact b
theorem Fb{base:Nat}(h:w.ownsRow base 48 7 (an (aw ⟨g,0,aq⟩) (k+1) cap) (k+1) (ts++ai))(hl:ts.length=k*7):w.cell? ⟨g,k*7,aq⟩=aw (cG false):=iK h hl 0 _ rfl
theorem TK(h:v.ownBlock=aw g\/g=H)(hH:H=n+2)(hne:v.ownBlock≠aw ob)(hl:ob<n):¬g=ob/\(v.ownBlock=aw g\/g=n+2):=
 ⟨fun e=>h.elim (fun q=>hne (by rw[q,e])) (fun q=>by omega),h.imp id (fun q=>q.trans hH)⟩
def RQ(base ob oc M k:Nat)(os ts xs:List cq)(tv:cq)(w:cd)(r:Ending)(w':cd):Prop:=
 r=bk (dr #[])/\∃g2 cap2,w'.ownsRow base 48 7 (an (aw ⟨g2,0,aq⟩) (k+1) cap2) (k+1) (ts++xs)/\
  w'.ownsRow base 48 7 (an (aw ⟨ob,0,aq⟩) (M+1) oc) (M+1) (os.set (M*7+6) (an (aw ⟨g2,0,aq⟩) (k+1) cap2))/\
  (tv.ownBlock=aw g2\/w.heap.size<=g2)/\cj 0 w w'/\(∀b,b<w.heap.size->b≠ob->tv.ownBlock≠aw b->w'.heap[b]?=w.heap[b]?)
section
variable {base ob oc M N k g3 cap3:Nat} {os ts xs:List cq} {tv:cq} {w W w3:cd}
theorem Ji{b:Nat}(hat:tv.ownBlock=aw g3\/g3=w.heap.size+2)(h1:b<w.heap.size)(h2:tv.ownBlock≠aw b):b≠g3:=fun e=>hat.elim (fun q=>h2 (by rw[q,e])) (fun q=>by omega)
theorem RH(R:xs.length=7)(J:N=M+1)(I:ts.length=k*7)(B:¬g3=ob)(E:cj w.heap.size w W)(K:w3.ownsRow base 48 7 (an (aw ⟨g3,0,aq⟩) (k+1) cap3) (k+1) (ts++ai))(D:W.grownBy w3 tv.ownBlock)(A:tv.ownBlock=aw g3\/g3=w.heap.size+2)(O:w3.ownsRow base 48 7 (an (aw ⟨ob,0,aq⟩) N oc) N os):RQ base ob oc M k os ts xs tv w (bk (dr #[])) ((w3.setCells g3 (k*7) xs).setCell ⟨ob,M*7+6,aq⟩ (an (aw ⟨g3,0,aq⟩) (k+1) cap3)):=by
 subst J;have C:=qf xs (k*7) K;rw[<-I,rQ xs ai ts (by rw[R];rfl),I] at C;have u:=mP g3 xs (k*7) w3;have F:=O.kept u (.inr (fun e=>B (by simpa [ev] using e.symm)));obtain⟨G,z⟩:=F.stored (M*7+6) (an (aw ⟨g3,0,aq⟩) (k+1) cap3);refine⟨rfl,g3,cap3,C.kept z (.inr (fun e=>B (by simpa [ev] using e))),G,A.imp id (fun q=>by omega),?_,fun b hb1 hb2 hb3=>?_⟩
 .exact ((((E.mono (ck _)).grown D (ck _) (fun _ _=>ck _)).grown u (ck _) (fun _ _=>ck _)).grown z (ck _) (fun _ _=>ck _))
 .have S:=E.size
  have T:=D.size;have U:=u.size;rw[z.block b (by omega) (fun e=>hb2 (dt e)),u.block b (by omega) (fun e=>Ji A hb1 hb3 (dt e)),D.block b (by omega) (fun e=>hb3 e.symm)];exact E.block b hb1
theorem RG(O:xs.length=7)(I:N=M+1)(H:ts.length=k*7)(B:¬g3=ob)(E:cj w.heap.size w W)(J:w3.ownsRow base 48 7 (an (aw ⟨g3,0,aq⟩) (k+1) cap3) (k+1) (ts++ai))(D:W.grownBy w3 tv.ownBlock)(A:tv.ownBlock=aw g3\/g3=w.heap.size+2)(K:w3.ownsRow base 48 7 (an (aw ⟨ob,0,aq⟩) N oc) N os):RQ base ob oc M k os ts xs tv w (bk (dr #[])) ((w3.setCell ⟨ob,M*7+6,aq⟩ (an (aw ⟨g3,0,aq⟩) (k+1) cap3)).setCells g3 (k*7) xs):=by
 subst I;obtain⟨F,u⟩:=K.stored (M*7+6) (an (aw ⟨g3,0,aq⟩) (k+1) cap3);have C:=qf xs (k*7) (J.kept u (.inr (fun e=>B (by simpa [ev] using e))));rw[<-H,rQ xs ai ts (by rw[O];rfl),H] at C;have z:=mP g3 xs (k*7) (w3.setCell ⟨ob,M*7+6,aq⟩ (an (aw ⟨g3,0,aq⟩) (k+1) cap3));refine⟨rfl,g3,cap3,C,F.kept z (.inr (fun e=>B (by simpa [ev] using e.symm))),A.imp id (fun q=>by omega),?_,fun b hb1 hb2 hb3=>?_⟩
 .exact ((((E.mono (ck _)).grown D (ck _) (fun _ _=>ck _)).grown u (ck _) (fun _ _=>ck _)).grown z (ck _) (fun _ _=>ck _))
 .have R:=E.size
  have S:=D.size;have T:=u.size;rw[z.block b (by omega) (fun e=>Ji A hb1 hb3 (dt e)),u.block b (by omega) (fun e=>hb2 (dt e)),D.block b (by omega) (fun e=>hb3 e.symm)];exact E.block b hb1
theorem U5{a0 a1 a2 a3 a4 a5 a6:Value}(HN:N=M+1)(hL:ts.length=k*7)(hne:¬g3=ob)(h1:w3.ownsRow base 48 7 (an (aw ⟨g3,0,aq⟩) (k+1) cap3) (k+1) (ts++ai))(h2:W.grownBy w3 tv.ownBlock)(hat:tv.ownBlock=aw g3\/g3=w.heap.size+2)(h3:w3.ownsRow base 48 7 (an (aw ⟨ob,0,aq⟩) N oc) N os)(hW:cj w.heap.size w W):RQ base ob oc M k os ts [a0,a1,a2,a3,a4,a5,a6] tv w (bk (dr #[])) ((((((((w3.setCell ⟨g3,k*7,aq⟩ a0).setCell ⟨g3,k*7+1,aq⟩ a1).setCell ⟨g3,k*7+2,aq⟩ a2).setCell ⟨g3,k*7+3,aq⟩ a3).setCell ⟨g3,k*7+4,aq⟩ a4).setCell ⟨g3,k*7+5,aq⟩ a5).setCell ⟨g3,k*7+6,aq⟩ a6).setCell ⟨ob,M*7+6,aq⟩ (an (aw ⟨g3,0,aq⟩) (k+1) cap3)):=
 RH (xs:=[a0,a1,a2,a3,a4,a5,a6]) rfl HN hL hne hW h1 h2 hat h3
theorem U4{a0 a1 a2 a3 a4 a5 a6:Value}(HN:N=M+1)(hL:ts.length=k*7)(hne:¬g3=ob)(h1:w3.ownsRow base 48 7 (an (aw ⟨g3,0,aq⟩) (k+1) cap3) (k+1) (ts++ai))(h2:W.grownBy w3 tv.ownBlock)(hat:tv.ownBlock=aw g3\/g3=w.heap.size+2)(h3:w3.ownsRow base 48 7 (an (aw ⟨ob,0,aq⟩) N oc) N os)(hW:cj w.heap.size w W):RQ base ob oc M k os ts [a0,a1,a2,a3,a4,a5,a6] tv w (bk (dr #[])) ((((((((w3.setCell ⟨ob,M*7+6,aq⟩ (an (aw ⟨g3,0,aq⟩) (k+1) cap3)).setCell ⟨g3,k*7,aq⟩ a0).setCell ⟨g3,k*7+1,aq⟩ a1).setCell ⟨g3,k*7+2,aq⟩ a2).setCell ⟨g3,k*7+3,aq⟩ a3).setCell ⟨g3,k*7+4,aq⟩ a4).setCell ⟨g3,k*7+5,aq⟩ a5).setCell ⟨g3,k*7+6,aq⟩ a6):=
 RG (xs:=[a0,a1,a2,a3,a4,a5,a6]) rfl HN hL hne hW h1 h2 hat h3
end
theorem TM(g U oc M k base:Nat)(a e:Int)(os ts:List cq)(tv:cq)(xb:Bool)(xn xo xs:E7)(va:Option pC)(vn vc:Nat)(la:Option pC)(ln lc:Nat)(ia:Option pC)(ik ic:Nat)(w:cd)(h:jL w g (an (aw ⟨U,0,aq⟩) (M+1) oc) a e)(F:w.ownsRow base 48 7 (an (aw ⟨U,0,aq⟩) (M+1) oc) (M+1) os)(ht:os[M*7+6]?=aw tv)(I:w.ownsRow base 48 7 tv k ts)(T:tv.ownBlock≠aw U)(hgo:g≠U)(hgt:tv.ownBlock≠aw g)(hM:M<=1000000)(hk:k<=1000000)(hb:base<=w.heap.size) :
  cJ bh 53 #[cx (aw ⟨g,0,aq⟩),ew #[cG xb,al xn,al xo,al xs,an va vn vc,an la ln lc,an ia ik ic]] w (RQ base U oc M k os ts [cG xb,al xn,al xo,al xs,an va vn vc,an la ln lc,an ia ik ic] tv w):=by
 obtain⟨J,O,rfl⟩:∃J O,tv=an J k O:=by
  rcases I.2 with ⟨R,h2⟩|⟨g',W,cur,R,-⟩
  .exact⟨aq,0,by rw[R,h2]⟩
  .exact⟨_,_,R⟩
 obtain⟨i0,Ag,Ad⟩:=eH.1 Tryz.infoItm;simp only[n9] at Ad;obtain⟨Ai,Aj,Ak⟩:=Ad;have Ap:=h.lt;have Ah:=(cy F U rfl).2;obtain⟨N,S⟩:=exq (M+1);have Ae:N<=M+1/\M+1<=N:=by omega
 rw[<-S] at h F;have V:=Hh S;clear S;have Am:(N:Int)-1=(M:Int):=by omega
 have Al:M<N:=by omega
 have An:w.cell? ⟨U,M*7+6,aq⟩=aw (an J k O):=by rw[F.cellAt _ (by omega)];exact ht
 have Ao:w.frozen? ⟨U,M*7+6,aq⟩=false:=F.frozenAt _;have P:=Jh h (cE F I);have Ar:=h.cell 0 _ rfl;clear h F I;go_in;go_wp2_with fail;have C:=Hh P.out.2.2.1;have E:=Hh (U6 (aE #[cG xb,al xn,al xo,al xs,an va vn vc,an la ln lc,an ia ik ic] 48) hb P.out.2.2 P.out.2.1);have Aq:(k:Int)<(k:Int)+1:=by omega
 go_region
 all_goals
  go_wp2_with fail
 go_region_law (first
  |(refine s7 _ rfl _ _ 30 rfl base 48 i0 _ 7 128 sy Ag Ai Aj Ak rfl (by decide) (an J k O) k ts (by rfl) (by exact E.out.1) ⟨w.heap.size+1,0,aq⟩ 1 1 ai (by rfl) rfl (by intro j u hu;rw[iS,df];exact E.out.2.2.1 j u hu) uZ (by omega) (by unfold cV;omega) (by omega) (by exact E.out.2.2.2.1) _ rfl ?_;intro g3 cap3 w3 A B D X;have Ab:=E.out.2.1.kept B (.inr (fun e=>T e.symm));have Az:=(Ab.cellAt (M*7+6) (by omega)).trans ht;have A0:=Ab.frozenAt (M*7+6);have m0:=Fb A C.out;have As:=A.frozenAt (k*7);have m1:=iK A C.out 1 _ rfl;have At:=A.frozenAt (k*7+1);have m2:=iK A C.out 2 _ rfl;have Au:=A.frozenAt (k*7+2);have m3:=iK A C.out 3 _ rfl;have Av:=A.frozenAt (k*7+3);have m4:=iK A C.out 4 _ rfl;have Aw:=A.frozenAt (k*7+4);have m5:=iK A C.out 5 _ rfl;have Ax:=A.frozenAt (k*7+5);have m6:=iK A C.out 6 _ rfl;have Ay:=A.frozenAt (k*7+6);have Aa:=TK D E.out.2.2.2.2.1 T Ah;have Ac:=Aa.1;have Af:¬U=g3:=fun e=>Ac e.symm;have HG:=Jh A (cE B (cE Aa.2 Ab));clear A B D Ab Aa))
 all_goals
  refine gh (v:=dr #[]) (by simp[cD,Tryz.results53,go_sem]) rfl ?_
 all_goals
  obtain⟨Y,q2,q3,q4⟩:=HG.out
  first
   |(with_reducible refine U5 V.out C.out Ac Y q2 q3 q4 ?_)
   |(with_reducible refine U4 V.out C.out Ac Y q2 q3 q4 ?_)
  exact E.out.2.2.2.2.2
theorem lX.fresh(h:aX P w x cs)(i:cs[6]?=aw (an aq 0 0)):lX P B w ⟨x,cs,an aq 0 0⟩:=by
 obtain⟨b,n,e,r,Ab⟩:=x;unfold aX at h;obtain⟨z,A,u,lv,a,Aa,rfl,f,g,-⟩:=h.open;simp only[ft,fs,du,fS] at i;obtain⟨rfl,j,rfl⟩:=i;obtain rfl:=cC j;exact⟨b,n,e,r,z,A,u,lv,[],rfl,rfl,f,g,ir _ _ _ _,fun s hs=>by cases hs⟩
theorem lX.itm{Q:Nat->Prop}(h:lX P B w c)(H:∀k,P k->k<w.heap.size->Q k)(hi:∀k,c.iv.ownBlock=aw k->Q k):aX Q w c.x c.cs:=by
 obtain⟨b,n,e,ls,vo,vt,vk,lv,L,R,S,T,U,D,V⟩:=h;rw[R,S];have G:∀s∈L,aX Q w s.1 s.2:=fun s hs=>aX.move lz (fun _ _ _=>rfl) H _ _ (V s hs)
 have W:∀cs∈L.map (·.2),cs.length=7:=fun cs hcs=>by
  obtain⟨s,hs,rfl⟩:=j8.1 hcs;exact oJ.len7 (G s hs)
 have Ab:OX B w c.iv (L.map (·.2)):=⟨by rw[cW,<-List.flatMap_def];exact D,W⟩;have N:=af.move lz (fun _ _ _=>rfl) H e _ T;have O:=U.move (Q:=Q) lz (fun _ _ _=>rfl) H
 have Aa:∃a cap,c.iv=an a L.length cap/\L.length<=cap/\cap<=cV/\(a=aq->cap=0)/\∀x,a=aw x->x.spot=aq/\c.iv.ownBlock=aw x.block:=by
  rcases D.2 with ⟨A,C⟩|⟨g,cap,M,A,-,-,C,E,-⟩
  .exact⟨aq,0,by rw[A,C],by rw[C];exact cA _,ck _,fun _=>rfl,fun x hx=>by cases hx⟩
  .exact⟨_,cap,A,C,E,(fun h=>by cases h),fun x hx=>by cases hx;exact⟨rfl,by rw[A];rfl⟩⟩
 obtain⟨a,cap,A,C,E,Z,q5⟩:=Aa;unfold aX;simp only[oJ];refine⟨vo,vt,vk,lv,a,cap,by rw[A,cW],N,O,by rw[cW];exact C,E,Z,fun x hx hne=>?_⟩;obtain⟨r1,K⟩:=q5 x hx;refine⟨r1,⟨(cy D _ K).2,hi _ K⟩,kP.make _ _ (fun k hk=>?_)⟩;rw[cW] at hk;rw[A] at Ab;obtain⟨g,F,-,-,Y,-⟩:=Ab.cellAt (k:=k) (by simpa using hk);rw[hx] at F;cases F
 refine⟨L[k].2,fun j u hu=>?_,?_⟩
 .rw[df]
  exact Y j u (by simpa using hu)
 .rw[ju]
  exact G _ (cH hk)
theorem pK.push{g2 cap2:Nat}(h:pK B g rb w v C)(F:lX (Dm B g rb v C) B w c)(j:c.iv.ownBlock=aq)(E:w'.ownsRow B 48 7 (an (aw ⟨g2,0,aq⟩) (C.length+1) cap2) (C.length+1) (C.flatMap (·.cs)++c.cs))(i:v.ownBlock=aw g2\/w.heap.size<=g2)(u:w.heap.size<=w'.heap.size)(D:∀b,b<w.heap.size->v.ownBlock≠aw b->b≠g->w'.heap[b]?=w.heap[b]?):pK B g rb w' (an (aw ⟨g2,0,aq⟩) (C.length+1) cap2) (C++[c]):=by
 have A:∀b,Dm B g rb v C b->b<w.heap.size->Dm B g rb (an (aw ⟨g2,0,aq⟩) (C.length+1) cap2) (C++[c]) b:=fun b hb hl=>by
  refine⟨hb.1,hb.2.1,hb.2.2.1,fun e=>?_,fun d hd=>?_⟩
  .simp only[ev,du] at e
   subst e;exact i.elim hb.2.2.2.1 (fun q=>by omega)
  .rcases cX.1 hd with hd|hd
   .exact hb.2.2.2.2 d hd
   .simp at hd;subst hd;rw[j];simp
 have z:∀b,Dm B g rb v C b->b<w.heap.size->w'.heap[b]?=w.heap[b]?:=fun b hb hl=>D b hl hb.2.2.2.1 hb.2.1
 have Aa:∀d∈C,∀b,d.iv.ownBlock=aw b->b≠g2:=fun d hd b e q=>by
  subst q;exact i.elim (h.apart.one d hd b e).1 (fun q=>by have:=(h.lt (.inr ⟨d,hd,e⟩)).2;omega)
 refine⟨cT h.gl u,fun b e=>cT (h.rl b e) u,by simpa using E,⟨fun e=>?_,fun b e e2=>?_,h.apart.rg,fun d hd b e=>?_,?_⟩,fun d hd=>?_⟩
 .simp only[ev,du] at e
  subst e;exact i.elim h.apart.vg (fun q=>by have:=h.gl;omega)
 .simp only[ev,du] at e
  subst e;exact i.elim (fun q=>h.apart.vr _ q e2) (fun q=>by have:=h.rl _ e2;omega)
 .rcases cX.1 hd with hd|hd
  .exact⟨fun q=>by simp only[ev,du] at q;exact Aa d hd b e q.symm,(h.apart.one d hd b e).2⟩
  .simp at hd;subst hd;rw[j] at e;cases e
 .rw[sX]
  refine⟨h.apart.two,by simp,fun d _ d2 hd2 b _=>?_⟩;simp at hd2;subst hd2;rw[j];simp
 .rcases cX.1 hd with hd|hd
  .exact (h.all d hd).move u z A (fun b e=>D b (h.lt (.inr ⟨d,hd,e⟩)).2 (h.apart.one d hd b e).1 (h.apart.one d hd b e).2.1)
  .simp at hd;subst hd
   exact F.move u z A (fun b e=>by rw[j] at e;cases e)
theorem pK.pop(h:pK B g rb w (an (aw ⟨ob,0,aq⟩) (C.length+1) cap) (C++[c]))(V:0<C.length)(z:w.heap.size<=w'.heap.size)(v:∀b,b<w.heap.size->b≠g->w'.heap[b]?=w.heap[b]?) :
  pK B g rb w' (an (aw ⟨ob,0,aq⟩) C.length cap) C/\aX (Dm B g rb (an (aw ⟨ob,0,aq⟩) C.length cap) C) w' c.x c.cs:=by
 have u:∀d∈C,d.cs.length=7:=fun d hd=>(h.all d (by simp[hd])).len
 have F:∀b,Dm B g rb (an (aw ⟨ob,0,aq⟩) (C.length+1) cap) (C++[c]) b->b<w.heap.size->Dm B g rb (an (aw ⟨ob,0,aq⟩) C.length cap) C b:=fun b hb hl=>
  ⟨hb.1,hb.2.1,hb.2.2.1,hb.2.2.2.1,fun d hd=>hb.2.2.2.2 d (by simp[hd])⟩
 have E:∀b,Dm B g rb (an (aw ⟨ob,0,aq⟩) (C.length+1) cap) (C++[c]) b->b<w.heap.size->w'.heap[b]?=w.heap[b]?:=fun b hb hl=>v b hl hb.2.1
 have Aa:w.ownsRow B 48 7 (an (aw ⟨ob,0,aq⟩) C.length cap) C.length (C.flatMap (·.cs)):=by
  have G:=h.row;rw[show (C++[c]).length=C.length+1 by simp] at G;obtain⟨U,R⟩:=G;refine⟨mQ C u,?_⟩;rcases R with ⟨q,-⟩|⟨S,D,j,q,J,L,T,M,N,O⟩
  .cases q
  .cases q
   refine .inr ⟨_,_,j,rfl,J,L,by omega,M,N,?_⟩;have:=congrArg (List.take (C.length*7)) O;rw[List.take_take,fp,List.take_append_of_le_length (by rw[mQ C u];exact cA _),List.take_of_length_le (l:=C.flatMap _) (by rw[mQ C u];exact cA _)] at this;rw[<-this]
   congr 1
   omega
 have A:=h.apart.two;rw[sX] at A;refine⟨⟨cT h.gl z,fun b e=>cT (h.rl b e) z,cZ Aa (fun k e=>v k (h.lt (.inl e)).2 (fun q=>h.apart.vg (by subst q;exact e))),⟨h.apart.vg,h.apart.vr,h.apart.rg,fun d hd b e=>h.apart.one d (by simp[hd]) b e,A.1⟩,fun d hd=>?_⟩,?_⟩
 .exact (h.all d (by simp[hd])).move z E F (fun b e=>v b (h.lt (.inr ⟨d,by simp[hd],e⟩)).2 (h.apart.one d (by simp[hd]) b e).2.1)
 .have H:lX (Dm B g rb (an (aw ⟨ob,0,aq⟩) C.length cap) C) B w' c:=(h.all c (by simp)).move z E F (fun b e=>v b (h.lt (.inr ⟨c,by simp,e⟩)).2 (h.apart.one c (by simp) b e).2.1)
  refine H.itm (fun _ q _=>q) (fun b e=>?_);have i:=h.apart.one c (by simp) b e;exact⟨(h.lt (.inr ⟨c,by simp,e⟩)).1,i.2.1,i.2.2,i.1,fun d hd e2=>A.2.2 d hd c (by simp) b e2 e⟩
def mY(B:Nat)(rb:Option Nat)(w w':cd):Prop:=cj B w w'/\∀b,rb=aw b->w'.heap[b]?=w.heap[b]?
theorem mY.trans{a b c:cd}(h:mY B rb a b)(hs:B<=a.heap.size)(k:mY B rb b c):mY B rb a c:=⟨h.1.trans k.1,fun x e=>(k.2 x e).trans (h.2 x e)⟩
theorem Jj(a e:Int)(h:pK B g rb w v (C++[c]))(Q:jL w g v a e)(R:aX (Dm B g rb v (C++[c])) w x xs)(hn:C.length<=1000000)(H:c.x.items.length<=1000000)(hB:B<=w.heap.size) :
  cJ bh 53 #[cx (aw ⟨g,0,aq⟩),ew xs.toArray] w fun r w'=>r=bk (dr #[])/\∃c',c'.x=c.x.add x/\pK B g rb w' v (C++[c'])/\jL w' g v a e/\mY B rb w w':=by
 have O:∀d∈C,d.cs.length=7:=fun d hd=>(h.all d (by simp[hd])).len;have P:=h.all c (by simp);obtain⟨bb,n,ex,ls,vo,vt,vk,lv,L,q1,q2,q3,q4,J,q6⟩:=P;have Ad:L.length<=1000000:=by rw[q1] at H;simpa [bX.items] using H
 have Ab:=h.row;rw[show (C++[c]).length=C.length+1 by simp] at Ab
 obtain⟨u,G,Aa,rfl,-⟩:∃u G,∃Aa:Array cq,v=an (aw ⟨u,0,aq⟩) (C.length+1) G/\True:=by
  rcases Ab.2 with ⟨-,q⟩|⟨N,i,Aa,q,-⟩
  .omega
  .exact⟨N,i,Aa,q,trivial⟩
 obtain⟨xn,xo,xt,va,vn,vc,V,Z,W,S,U,T,rfl⟩:=aX.shape7 R;have E:=h.apart.one c (by simp);have Ac:=(IM C c O 6).trans (h.all c (by simp)).cell6;refine (TM g u G C.length L.length B a e ((C++[c]).flatMap (·.cs)) (L.flatMap (·.2)) c.iv x.block xn xo xt va vn vc V Z W S U T w Q Ab Ac J (fun q=>(E u q).1 rfl) (fun q=>h.apart.vg (by rw[q];rfl)) (fun q=>(E g q).2.1 rfl) hn Ad hB).mono ?_;rintro _ w' ⟨rfl,g2,cap2,r1,r2,r3,D,r5⟩;have F:∀b,b<w.heap.size->(iN (aw ⟨u,0,aq⟩) (C.length+1) G).ownBlock≠aw b->c.iv.ownBlock≠aw b->w'.heap[b]?=w.heap[b]?:=fun b hb h1 h2=>r5 b hb (fun q=>h1 (by rw[q];rfl)) h2;refine⟨rfl,_,rfl,pK.add h R J r1 r2 r3 D.size F,?_,?_,fun b eb=>?_⟩
 .exact (F g h.gl h.apart.vg (fun q=>(E g q).2.1 rfl)).trans Q
 .exact⟨D.os,D.tape,D.output,D.size,fun k H=>F k (by omega) (fun q=>by have:=(h.lt (.inl q)).1;omega) (fun q=>by have:=(h.lt (.inr ⟨c,by simp,q⟩)).1;omega)⟩
 .exact F b (h.rl b eb) (fun q=>h.apart.vr b q eb) (fun q=>(E b q).2.2 eb)
def CG(B g n g3 cap3:Nat)(a e:Int)(os xs:List cq)(v:cq)(W W':cd):Prop:=
 W'.ownsRow B 48 7 (an (aw ⟨g3,0,aq⟩) (n+1) cap3) (n+1) (os++xs)/\jL W' g (an (aw ⟨g3,0,aq⟩) (n+1) cap3) a e/\(v.ownBlock=aw g3\/g3=W.heap.size)/\cj 0 W W'/\∀b,b<W.heap.size->v.ownBlock≠aw b->b≠g->W'.heap[b]?=W.heap[b]?
section
variable {B g n g3 cap3:Nat} {a e:Int} {os xs:List cq} {v:cq} {W w3:cd}
theorem NI(J:xs.length=7)(E:os.length=n*7)(z:¬g3=g)(F:w3.ownsRow B 48 7 (an (aw ⟨g3,0,aq⟩) (n+1) cap3) (n+1) (os++ai))(C:W.grownBy w3 v.ownBlock)(u:v.ownBlock=aw g3\/g3=W.heap.size)(H:aa w3 g #[v,ao ar a,ao ar e] 60):CG B g n g3 cap3 a e os xs v W ((w3.setCells g3 (n*7) xs).setCell ⟨g,0,aq⟩ (an (aw ⟨g3,0,aq⟩) (n+1) cap3)):=by
 have A:=qf xs (n*7) F;rw[<-E,rQ xs ai os (by rw[J];rfl),E] at A;have c:=mP g3 xs (n*7) w3;have D:=(H.kept c (fun q=>z (dt q).symm)).setI 0 (an (aw ⟨g3,0,aq⟩) (n+1) cap3);have o:(w3.setCells g3 (n*7) xs).grownBy ((w3.setCells g3 (n*7) xs).setCell ⟨g,0,aq⟩ (an (aw ⟨g3,0,aq⟩) (n+1) cap3)) (aw g):=⟨rfl,rfl,rfl,by simp[rh],fun k _ hk=>tG _ ⟨g,0,aq⟩ k _ (fun q=>hk (by simp[q]))⟩;refine⟨A.kept o (.inr (fun q=>z (by simpa [ev] using q))),D,u,(((ba 0 W).grown C (ck _) (fun _ _=>ck _)).grown c (ck _) (fun _ _=>ck _)).grown o (ck _) (fun _ _=>ck _),fun b hb h4 h5=>?_⟩;have K:=C.size;have M:=c.size;rw[o.block b (by omega) (fun q=>h5 (dt q)),c.block b (by omega) (fun q=>u.elim (fun r=>h4 (r.trans q.symm)) (fun r=>by have:=dt q;omega)),C.block b hb (fun q=>h4 q.symm)]
theorem NH(K:xs.length=7)(E:os.length=n*7)(z:¬g3=g)(F:w3.ownsRow B 48 7 (an (aw ⟨g3,0,aq⟩) (n+1) cap3) (n+1) (os++ai))(C:W.grownBy w3 v.ownBlock)(u:v.ownBlock=aw g3\/g3=W.heap.size)(J:aa w3 g #[v,ao ar a,ao ar e] 60):CG B g n g3 cap3 a e os xs v W ((w3.setCell ⟨g,0,aq⟩ (an (aw ⟨g3,0,aq⟩) (n+1) cap3)).setCells g3 (n*7) xs):=by
 have c:w3.grownBy (w3.setCell ⟨g,0,aq⟩ (an (aw ⟨g3,0,aq⟩) (n+1) cap3)) (aw g):=⟨rfl,rfl,rfl,by simp[rh],fun k _ hk=>tG _ ⟨g,0,aq⟩ k _ (fun q=>hk (by simp[q]))⟩;have A:=qf xs (n*7) (F.kept c (.inr (fun q=>z (by simpa [ev] using q))));rw[<-E,rQ xs ai os (by rw[K];rfl),E] at A;have o:=mP g3 xs (n*7) (w3.setCell ⟨g,0,aq⟩ (an (aw ⟨g3,0,aq⟩) (n+1) cap3));have D:=(J.setI 0 (an (aw ⟨g3,0,aq⟩) (n+1) cap3)).kept o (fun q=>z (dt q).symm);refine⟨A,D,u,(((ba 0 W).grown C (ck _) (fun _ _=>ck _)).grown c (ck _) (fun _ _=>ck _)).grown o (ck _) (fun _ _=>ck _),fun b hb h4 h5=>?_⟩;have M:=C.size;have N:=c.size;rw[o.block b (by omega) (fun q=>u.elim (fun r=>h4 (r.trans q.symm)) (fun r=>by have:=dt q;omega)),c.block b (by omega) (fun q=>h5 (dt q)),C.block b hb (fun q=>h4 q.symm)]
theorem LG{a0 a1 a2 a3 a4 a5 a6:Value}(hL:os.length=n*7)(hne:¬g3=g)(h1:w3.ownsRow B 48 7 (an (aw ⟨g3,0,aq⟩) (n+1) cap3) (n+1) (os++ai))(h2:W.grownBy w3 v.ownBlock)(hat:v.ownBlock=aw g3\/g3=W.heap.size)(h3:aa w3 g #[v,ao ar a,ao ar e] 60):CG B g n g3 cap3 a e os [a0,a1,a2,a3,a4,a5,a6] v W ((((((((w3.setCell ⟨g3,n*7,aq⟩ a0).setCell ⟨g3,n*7+1,aq⟩ a1).setCell ⟨g3,n*7+2,aq⟩ a2).setCell ⟨g3,n*7+3,aq⟩ a3).setCell ⟨g3,n*7+4,aq⟩ a4).setCell ⟨g3,n*7+5,aq⟩ a5).setCell ⟨g3,n*7+6,aq⟩ a6).setCell ⟨g,0,aq⟩ (an (aw ⟨g3,0,aq⟩) (n+1) cap3)):=
 NI (xs:=[a0,a1,a2,a3,a4,a5,a6]) rfl hL hne h1 h2 hat h3
theorem LF{a0 a1 a2 a3 a4 a5 a6:Value}(hL:os.length=n*7)(hne:¬g3=g)(h1:w3.ownsRow B 48 7 (an (aw ⟨g3,0,aq⟩) (n+1) cap3) (n+1) (os++ai))(h2:W.grownBy w3 v.ownBlock)(hat:v.ownBlock=aw g3\/g3=W.heap.size)(h3:aa w3 g #[v,ao ar a,ao ar e] 60):CG B g n g3 cap3 a e os [a0,a1,a2,a3,a4,a5,a6] v W ((((((((w3.setCell ⟨g,0,aq⟩ (an (aw ⟨g3,0,aq⟩) (n+1) cap3)).setCell ⟨g3,n*7,aq⟩ a0).setCell ⟨g3,n*7+1,aq⟩ a1).setCell ⟨g3,n*7+2,aq⟩ a2).setCell ⟨g3,n*7+3,aq⟩ a3).setCell ⟨g3,n*7+4,aq⟩ a4).setCell ⟨g3,n*7+5,aq⟩ a5).setCell ⟨g3,n*7+6,aq⟩ a6):=
 NH (xs:=[a0,a1,a2,a3,a4,a5,a6]) rfl hL hne h1 h2 hat h3
end
theorem LH{a:Int}(hb:B<=w.heap.size)(h1:w.ownsRow B 48 7 v n os)(h2:jL w g v a e) :
  ((w.alloc (aE ai.toArray 48)).drew.ownsRow B 48 7 v n os)/\(aa (w.alloc (aE ai.toArray 48)).drew g #[v,ao ar a,ao ar e] 60)/\
  (∀(j:Nat) (u:cq),ai[j]?=aw u->(w.alloc (aE ai.toArray 48)).drew.cell? ⟨w.heap.size,j,aq⟩=aw u)/\B<=(w.alloc (aE ai.toArray 48)).drew.heap.size/\(w.alloc (aE ai.toArray 48)).drew.heap.size=w.heap.size+1/\cj w.heap.size w (w.alloc (aE ai.toArray 48)).drew:=
 have hA:cj w.heap.size w (w.alloc (aE ai.toArray 48)).drew:=((ba _ w).alloc lz _).drew
 ⟨show (w.alloc (aE ai.toArray 48)).ownsRow _ _ _ _ _ _ from h1.alloc _,h2.below hA h2.lt,fun j u hu=>Le w rfl j u hu,dy hb hA.size,cF w _,hA⟩
theorem Ha(h:v.ownBlock=aw g3\/g3=H)(hH:H=n+1)(hne:v.ownBlock≠aw g)(hl:g<n):¬g3=g:=fun e=>h.elim (fun q=>hne (by rw[q,e])) (fun q=>by omega)
theorem pK.inn(h:pK B g rb w v C)(hB:B<=w.heap.size)(b:Nat)(hb:w.heap.size<=b):Dm B g rb v C b:=
 ⟨dy hB hb,fun e=>by have:=h.gl;omega,fun e=>by have:=h.rl b e;omega,fun e=>by have:=(h.lt (.inl e)).2;omega,fun c hc e=>by have:=(h.lt (.inr ⟨c,hc,e⟩)).2;omega⟩
theorem pK.below(h:pK B g rb w v C)(hb:cj w.heap.size w w'):pK B g rb w' v C:=
 h.keep hb.size (fun b hl _ _=>hb.block b hl) (fun b e=>⟨.inl e,cT (h.rl b e) hb.size⟩)
theorem pK.save(h:pK B g rb w v C)(hb:aF g w w'):pK B g rb w' v C:=
 h.keep hb.1.size (fun b hl h1 _=>hb.2 b hl h1) (fun b e=>⟨.inl e,cT (h.rl b e) hb.1.size⟩)
def MJ(B g:Nat)(rb:Option Nat)(r:List bX×Int×Int)(w:cd)(e:Ending)(w':cd):Prop:=
 e=bk (dr #[])/\∃v',VZ B g rb w' v' r.1/\jL w' g v' r.2.1 r.2.2/\mY B rb w w'
theorem NE{o:Obj}(h:pK B g rb w v C)(u:B<=w.heap.size)(G:B<=g)(i:aF g (w.alloc o) w4)(D:aX (fun b=>(w.alloc o).heap.size<=b) w4 x xs) :
  pK B g rb w4 v C/\aX (Dm B g rb v C) w4 x xs/\mY B rb w w4:=by
 have f:cj w.heap.size w (w.alloc o):=(ba _ w).alloc lz _;have r:=h.below f;refine⟨r.save i,aX.move lz (fun _ _ _=>rfl) (fun b hb _=>r.inn (dy u f.size) b hb) _ _ D,?_,fun b e=>?_⟩
 .exact (f.mono u).trans ⟨i.1.os,i.1.tape,i.1.output,i.1.size,fun k hk=>i.2 k (by have:=f.size;omega) (by omega)⟩
 .exact (i.2 b (by have:=h.rl b e;have:=f.size;omega) (fun q=>h.apart.rg (by rw[e,q]))).trans (f.block b (h.rl b e))
theorem DC{a:Int}(h:pK B g rb w4 v C/\jL w4 g v a e/\aX (Dm B g rb v C) w4 x xs/\mY B rb w w4/\p)(hb:cj w4.heap.size w4 w5)(hB:B<=w.heap.size) :
  pK B g rb w5 v C/\jL w5 g v a e/\aX (Dm B g rb v C) w5 x xs/\mY B rb w w5:=
 ⟨h.1.below hb,h.2.1.below hb h.1.gl,aX.below hb _ _ h.2.2.1,h.2.2.2.1.trans hB ⟨hb.mono (dy hB h.2.2.2.1.1.size),fun b e=>hb.block b (h.1.rl b e)⟩⟩
theorem DK{W:cd}{a:Int}(h:pK B g rb w5 (an (aw ⟨ob,0,aq⟩) (C.length+1) oc) (C++[c])/\jL w5 g (an (aw ⟨ob,0,aq⟩) (C.length+1) oc) a e/\aX (Dm B g rb (an (aw ⟨ob,0,aq⟩) (C.length+1) oc) (C++[c])) w5 x xs/\mY B rb w w5)(O:B<=g)(J:xs[6]?=aw (an aq 0 0))(N:n=C.length+1)(H:os=(C++[c]).flatMap (·.cs))(F:B<=w.heap.size)(j:cj w5.heap.size w5 W)(P:W.heap.size=w5.heap.size+1)(M:CG B g n g3 cap3 a e os xs (an (aw ⟨ob,0,aq⟩) n oc) W W') :
  pK B g rb W' (an (aw ⟨g3,0,aq⟩) (C.length+1+1) cap3) ((C++[c])++[⟨x,xs,an aq 0 0⟩])/\jL W' g (an (aw ⟨g3,0,aq⟩) (C.length+1+1) cap3) a e/\mY B rb w W':=by
 subst N;subst H;obtain⟨e1,z,A,i,D⟩:=M;have o:∀b,b<w5.heap.size->(iN (aw ⟨ob,0,aq⟩) (C.length+1) oc).ownBlock≠aw b->b≠g->W'.heap[b]?=w5.heap[b]?:=fun b hb h1 h2=>(D b (by omega) h1 h2).trans (j.block b hb);have Aa:w5.heap.size<=W'.heap.size:=by have:=i.size;omega
 have u:(C++[c]).length=C.length+1:=by simp
 have Ab:=dy F h.2.2.2.1.size;have v:=pK.push (g2:=g3) (cap2:=cap3) (c:=⟨x,xs,an aq 0 0⟩) h.1 (lX.fresh h.2.2.1 J) rfl (by rw[u];exact e1) (A.imp id (fun q=>by omega)) Aa o;rw[u] at v;refine⟨v,z,h.2.2.2.trans F ⟨⟨(i.os).trans j.os,(i.tape).trans j.tape,(i.output).trans j.output,Aa,fun k hk=>o k (by omega) (fun q=>by have:=(h.1.lt (.inl q)).1;omega) (fun q=>?_)⟩,fun b eb=>o b (h.1.rl b eb) (fun q=>h.1.apart.vr b q eb) (fun q=>h.1.apart.rg (by rw[eb,q]))⟩⟩;omega
theorem KW{W:cd}(h:pK B g rb w5 (an (aw ⟨ob,0,aq⟩) (C.length+1) oc) (C++[c])/\jL w5 g (an (aw ⟨ob,0,aq⟩) (C.length+1) oc) 0 0/\aX (Dm B g rb (an (aw ⟨ob,0,aq⟩) (C.length+1) oc) (C++[c])) w5 x xs/\mY B rb w w5)(u:B<=g)(k:xs[6]?=aw (an aq 0 0))(v:n=C.length+1)(a:os=(C++[c]).flatMap (·.cs))(o:B<=w.heap.size)(r:cj w5.heap.size w5 W)(z:W.heap.size=w5.heap.size+1)(q:CG B g n g3 cap3 0 0 os xs (an (aw ⟨ob,0,aq⟩) n oc) W W') :
  MJ B g rb (eF ((C++[c]).map (·.x)) (.begins x)) w (bk (dr #[])) W':=by
 obtain⟨f,i,j⟩:=DK h u k v a o r z q;exact⟨rfl,_,⟨_,by simp[eF],f⟩,i,j⟩
theorem lX.shape(h:lX P B w c):∃(b:Bool) (n vo vt:E7) (va:Option pC) (vn vc:Nat) (la:Option pC) (ln lc:Nat) (ia:Option pC) (k cap:Nat),c.cs=[cG b,al n,al vo,al vt,an va vn vc,an la ln lc,an ia k cap]:=by
 obtain⟨b,n,e,A,vo,vt,C,lv,L,-,i,u,x,z,-⟩:=h;obtain⟨va,vn,vc,rfl⟩:=Ef u;obtain⟨la,lc,rfl,-⟩:=x.1.len;rcases z.2 with ⟨q,-⟩|⟨g,cap,j,q,-⟩
 .rw[q] at i;exact⟨_,_,_,_,_,_,_,_,_,_,_,_,_,i⟩
 .rw[q] at i;exact⟨_,_,_,_,_,_,_,_,_,_,_,_,_,i⟩
theorem Pi(h:pK B g rb w (an (aw ⟨ob,0,aq⟩) (C.length+1) oc) (C++[c]))(j:Nat)(u:cq)(o:c.cs[j]?=aw u):w.cell? ⟨ob,C.length*7+j,aq⟩=aw u:=by
 have k:∀d∈C,d.cs.length=7:=fun d hd=>(h.all d (by simp[hd])).len;have q:j<7:=by have:=(fv.1 o).1;rw[(h.all c (by simp)).len] at this;exact this
 have Aa:=h.row;rw[show (C++[c]).length=C.length+1 by simp] at Aa;rw[Aa.cellAt _ (by omega),IM C c k j,o]
theorem JU{a:Int}(h:pK B g rb w4 v C/\jL w4 g v a e/\p/\mY B rb w w4)(hb:cj w4.heap.size w4 w5)(hB:B<=w.heap.size) :
  pK B g rb w5 v C/\jL w5 g v a e/\True/\mY B rb w w5:=
 ⟨h.1.below hb,h.2.1.below hb h.1.gl,trivial,h.2.2.2.trans hB ⟨hb.mono (dy hB h.2.2.2.1.size),fun b e=>hb.block b (h.1.rl b e)⟩⟩
theorem IU{wc:cd}(h:pK B g rb wc (an (aw ⟨ob,0,aq⟩) (C.length+1) oc) (C++[c])/\jL wc g (an (aw ⟨ob,0,aq⟩) (C.length+1) oc) 0 0/\p/\mY B rb w wc)(v:0<C.length)(P:c.cs=xs)(S:C.length<=900001)(D:∀d∈C,d.x.items.length<=900000)(u:B<=w.heap.size)(W:B<=g)(T:m=C.length) :
  cJ bh 53 #[cx (aw ⟨g,0,aq⟩),ew xs.toArray] (wc.setCell ⟨g,0,aq⟩ (an (aw ⟨ob,0,aq⟩) m oc)).drew fun e w'=>e=bk (dr #[])/\MJ B g rb (eF ((C++[c]).map (·.x)) .fin) w (bk (dr #[])) w':=by
 subst T;subst P;have Aa:wc.heap.size<=(wc.setCell ⟨g,0,aq⟩ (an (aw ⟨ob,0,aq⟩) C.length oc)).drew.heap.size:=by show _<=(wc.setCell _ _).heap.size;simp[rh]
 have A:∀b,b<wc.heap.size->b≠g->(wc.setCell ⟨g,0,aq⟩ (an (aw ⟨ob,0,aq⟩) C.length oc)).drew.heap[b]?=wc.heap[b]?:=fun b _ hb=>tG wc ⟨g,0,aq⟩ b _ hb;obtain⟨M,O⟩:=h.1.pop (w':=(wc.setCell ⟨g,0,aq⟩ (an (aw ⟨ob,0,aq⟩) C.length oc)).drew) v Aa A;have Q:jL (wc.setCell ⟨g,0,aq⟩ (an (aw ⟨ob,0,aq⟩) C.length oc)).drew g (an (aw ⟨ob,0,aq⟩) C.length oc) 0 0:=h.2.1.setI 0 _;have Ac:mY B rb wc (wc.setCell ⟨g,0,aq⟩ (an (aw ⟨ob,0,aq⟩) C.length oc)).drew:=⟨⟨rfl,rfl,rfl,Aa,fun k D=>A k (cT D (dy u h.2.2.2.1.size)) (by omega)⟩,fun b eb=>A b (h.1.rl b eb) (fun q=>h.1.apart.rg (by rw[eb,q]))⟩;have Ab:=dy u h.2.2.2.1.size;generalize (wc.setCell ⟨g,0,aq⟩ (an (aw ⟨ob,0,aq⟩) C.length oc)).drew=V at *;rcases gS C with rfl|⟨E,d,i⟩
 .simp at v
 .rw[hU] at i
  subst i;refine (Jj 0 0 M Q O (by simp at S;omega) (dy (D d (by simp)) (by omega)) (dy Ab Aa)).mono ?_;rintro _ w' ⟨rfl,G,H,s2,R,k2⟩;refine⟨rfl,rfl,_,⟨E++[G],?_,s2⟩,R,(h.2.2.2.trans u Ac).trans u k2⟩;simp only[eF,eJ,cI,ke,List.dropLast_concat,List.getLast?_concat,jz,H];exact kN _ _ _
theorem MP{P:Program}{code:Code}{a:Act}{W:cd}{Pr:cd->Prop}(h:Pr W)(k:∀z,Pr z->Code.wp P code Q a z):Code.wp P code Q a W:=k W h
theorem PQ(B g:Nat)(rb:Option Nat)(v:cq)(C:List nI)(c:nI)(row:List ae)(lv:cq)(stop:Int)(last:Bool)(w:cd)(hS:pK B g rb w v (C++[c]))(h:jL w g v 0 0)(hr:aP w lv row)(ho:∀b,lv.ownBlock=aw b->b<w.heap.size)(hT:jF w)(hn:row.length<=900000)(hsh:∀t∈row,t.text.size<=1048576)(hq:∀t∈row,t.kind=3->lm t.text≠aq)(hC:C.length<=900000)(hk:∀d∈C++[c],d.x.items.length<=900000)(hB:B<=w.heap.size)(hg:B<=g) :
  cJ bh 24 #[cx (aw ⟨g,0,aq⟩),jH lv stop last] w (MJ B g rb (bP ((C++[c]).map (·.x)) row stop last) w):=by
 obtain⟨ob,oc,rfl⟩:∃ob oc,v=an (aw ⟨ob,0,aq⟩) (C.length+1) oc:=by
  have Bd:=hS.row;rw[show (C++[c]).length=C.length+1 by simp] at Bd;obtain⟨g',A7,q,-⟩:=yy Bd (by omega);exact⟨g',A7,q⟩
 rw[j3];have hA:cj w.heap.size w (w.alloc (aE #[lv,ao ar stop,cG last] 65)):=(ba _ w).alloc lz _;have hK:=QL g (aw ⟨ob,0,aq⟩) (C.length+1) oc row lv stop last _ (h.below hA hS.gl) (hr.below hA lz) (fun b e=>cT (ho b e) hA.size) (hT.below hA) hn hsh hq;rw[show ((C++[c]).map (·.x)).length=C.length+1 by simp];have HF:Hid (bn (C.length+1) row stop last=.fin->0<C.length):=Hh (fun q=>by have:=tX q;omega);generalize bn (C.length+1) row stop last=R at *;obtain⟨la,lc,rfl,By,Bz,-⟩:=hr.len;have HH:=Jh hS (cE hB (cE hg (cE hC hk)));clear hS h hr ho hT hn hsh hq hC hk hB hA;generalize row.length=N at *;simp only[jH] at hK;go_in;go_wp2_with fail;refine hK.mono ?_;clear hK;rintro _ w4 ⟨hsv,p4,cs,rfl,hin,hi6⟩;obtain⟨h4,A4,Bc⟩:=NE HH.out.1 HH.out.2.1 HH.out.2.2.1 hsv hin;obtain⟨xn,xo,xt,va,vn,vc,Ar,ln,As,ia,ik,ic,rfl⟩:=aX.shape7 hin;simp only[ft,fs,du,fS] at hi6;obtain⟨rfl,rfl,rfl⟩:=hi6;clear hsv hin;have HX:=Jh h4 (cE p4 (cE A4 (cE Bc trivial)));clear h4 p4 A4 Bc;generalize (DR R).block=xb at *;go_wp2_with (with_reducible first|refine bv ?_)
 refine Stop.out ?_;refine az rfl 48 _ _ rfl rfl _ rfl #[cG xb,al xn,al xo,al xt,an va vn vc,an Ar ln As,an aq 0 0] rfl _ _ (aa.new w4 ai.toArray 48) rfl (by kernel_rfl) (SF _ _ _ _ _ _ _ _ _ _ _ _ _) ?_;rw[cd.setRow_alloc_new];have Ba:cj w4.heap.size w4 (w4.alloc (aE #[cG xb,al xn,al xo,al xt,an va vn vc,an Ar ln As,an aq 0 0] 48)):=(ba _ w4).alloc lz _;have Aq:aa (w4.alloc (aE #[cG xb,al xn,al xo,al xt,an va vn vc,an Ar ln As,an aq 0 0] 48)) w4.heap.size #[cG xb,al xn,al xo,al xt,an va vn vc,an Ar ln As,an aq 0 0] 48:=aa.new w4 #[cG xb,al xn,al xo,al xt,an va vn vc,an Ar ln As,an aq 0 0] 48;have HX:=Hh (DC HX.out Ba HH.out.2.1);have Bx:=Aq.lt;generalize w4.alloc (aE #[cG xb,al xn,al xo,al xt,an va vn vc,an Ar ln As,an aq 0 0] 48)=w5 at *;have HQ:=Hh Aq;clear Ba
 cases R with
 |wrong a e=>
  simp only[BA];clear Aq;go_wp2_with fail;refine gh (v:=dr #[]) (by simp[cD,sY,go_sem]) rfl ?_;exact⟨rfl,_,⟨_,rfl,HX.out.1⟩,HX.out.2.1,HX.out.2.2.2⟩
 |empty=>
  simp only[BA];clear Aq;go_wp2_with fail;refine gh (v:=dr #[]) (by simp[cD,sY,go_sem]) rfl ?_;exact⟨rfl,_,⟨_,rfl,HX.out.1⟩,HX.out.2.1,HX.out.2.2.2⟩
 |attr x=>
  simp only[BA];have hC:=Jj _ _ HX.out.1 HX.out.2.1 HX.out.2.2.1 (dy HH.out.2.2.2.1 (by omega)) (dy (HH.out.2.2.2.2 c (by simp)) (by omega)) (dy HH.out.2.1 HX.out.2.2.2.1.size);obtain⟨Ac,Aj,Ad,Ak,Ae,Al,Af,Am,Ag,An,Ah,Ao,Ai,Ap⟩:=Aq.n7 rfl;clear Aq;go_wp2_with fail;refine hC.mono ?_;clear hC;rintro _ w6 ⟨rfl,c2,e2,s2,p2,k2⟩;have H6:=Jh e2 (cE s2 (cE p2 k2));clear e2 s2 p2 k2 Ac Ad Ae Af Ag Ah Ai Aj Ak Al Am An Ao Ap;go_wp2_with fail;refine gh (v:=dr #[]) (by simp[cD,sY,go_sem]) rfl ?_;refine⟨rfl,_,⟨C++[c2],?_,H6.out.2.1⟩,H6.out.2.2.1,HX.out.2.2.2.trans HH.out.2.1 H6.out.2.2.2⟩;simp only[eF,eJ,cI,ke,H6.out.1];exact kN _ _ _
 |begins x=>
  simp only[BA];obtain⟨Ac,Aj,Ad,Ak,Ae,Al,Af,Am,Ag,An,Ah,Ao,Ai,Ap⟩:=Aq.n7 rfl;clear Aq;obtain⟨i0,A9,A3⟩:=eH.1 Tryz.infoItm;simp only[n9] at A3;obtain⟨AF,AG,AH⟩:=A3
  obtain⟨n,os,v,HV,Bv,HL,Aa,A0,A1⟩:∃(n:Nat) (os:List cq) (v:cq),Hid (n=C.length+1/\os=(C++[c]).flatMap (·.cs)/\v=an (aw ⟨ob,0,aq⟩) n oc)/\n<=1000000/\Hid (os.length=n*7)/\
    Hid (((w5.alloc (aE ai.toArray 48)).drew.ownsRow B 48 7 (an (aw ⟨ob,0,aq⟩) n oc) n os)/\(aa (w5.alloc (aE ai.toArray 48)).drew g #[an (aw ⟨ob,0,aq⟩) n oc,ao ar 0,ao ar 0] 60)/\
    (∀(j:Nat) (u:cq),ai[j]?=aw u->(w5.alloc (aE ai.toArray 48)).drew.cell? ⟨w5.heap.size,j,aq⟩=aw u)/\B<=(w5.alloc (aE ai.toArray 48)).drew.heap.size/\(w5.alloc (aE ai.toArray 48)).drew.heap.size=w5.heap.size+1/\cj w5.heap.size w5 (w5.alloc (aE ai.toArray 48)).drew)/\
    w5.cell? ⟨g,0,aq⟩=aw (an (aw ⟨ob,0,aq⟩) n oc)/\¬ob=g:=by
   have hr:=HX.out.1.row;rw[show (C++[c]).length=C.length+1 by simp] at hr;exact⟨_,_,_,Hh ⟨rfl,rfl,rfl⟩,by have:=HH.out.2.2.2.1;omega,Hh hr.1,Hh (LH (dy HH.out.2.1 HX.out.2.2.2.1.size) hr HX.out.2.1),HX.out.2.1.cell 0 _ rfl,fun q=>HX.out.1.apart.vg (by rw[q];rfl)⟩
  have Az:=HX.out.1.gl;have Bb:(n:Int)<(n:Int)+1:=by omega
  go_wp2_with fail
  go_region_law (first
   |(refine s7 _ rfl _ _ 30 rfl B 48 i0 _ 7 128 sy A9 AF AG AH rfl (by decide) (an (aw ⟨ob,0,aq⟩) n oc) n os (by rfl) (by exact Aa.out.1) ⟨w5.heap.size,0,aq⟩ 1 1 ai (by rfl) rfl (by intro j u hu;rw[iS,df];exact Aa.out.2.2.1 j u hu) uZ (by omega) (by unfold cV;omega) (by omega) (by exact Aa.out.2.2.2.1) _ rfl ?_;intro g3 cap3 w3 hown3 hgrow3 hat3 hlt3;have Av:=Aa.out.2.1.kept hgrow3 (fun q=>A1 (dt q).symm);obtain⟨Bm,Bn⟩:=Av.n1 rfl;have m0:=Fb hown3 HL.out;have Bf:=hown3.frozenAt (n*7);have m1:=iK hown3 HL.out 1 _ rfl;have Bg:=hown3.frozenAt (n*7+1);have m2:=iK hown3 HL.out 2 _ rfl;have Bh:=hown3.frozenAt (n*7+2);have m3:=iK hown3 HL.out 3 _ rfl;have Bi:=hown3.frozenAt (n*7+3);have m4:=iK hown3 HL.out 4 _ rfl;have Bj:=hown3.frozenAt (n*7+4);have m5:=iK hown3 HL.out 5 _ rfl;have Bk:=hown3.frozenAt (n*7+5);have m6:=iK hown3 HL.out 6 _ rfl;have Bl:=hown3.frozenAt (n*7+6);have Au:=Ha hat3 Aa.out.2.2.2.2.1 (fun q=>A1 (dt q)) Az;have A8:¬g=g3:=fun e=>Au e.symm;have HG:=Jh hown3 (cE hgrow3 (cE hat3 Av));clear hown3 hgrow3 hat3 Av))
  all_goals
   go_wp2_with fail
  all_goals
   refine gh (v:=dr #[]) (by simp[cD,sY,go_sem]) rfl ?_
  all_goals
   obtain⟨q1,q2,q3,q4⟩:=HG.out;refine KW (g3:=g3) (cap3:=cap3) (xs:=[cG xb,al xn,al xo,al xt,an va vn vc,an Ar ln As,an aq 0 0]) HX.out HH.out.2.2.1 rfl HV.out.1 HV.out.2.1 HH.out.2.1 Aa.out.2.2.2.2.2 Aa.out.2.2.2.2.1 ?_
   first
    |with_reducible exact LG HL.out Au q1 q2 q3 q4
    |with_reducible exact LF HL.out Au q1 q2 q3 q4
 |bare x=>
  simp only[BA];obtain⟨Ac,Aj,Ad,Ak,Ae,Al,Af,Am,Ag,An,Ah,Ao,Ai,Ap⟩:=Aq.n7 rfl;clear Aq;obtain⟨i0,A9,A3⟩:=eH.1 Tryz.infoItm;simp only[n9] at A3;obtain⟨AF,AG,AH⟩:=A3
  obtain⟨n,os,v,HV,Bv,HL,Aa,A0,A1⟩:∃(n:Nat) (os:List cq) (v:cq),Hid (n=C.length+1/\os=(C++[c]).flatMap (·.cs)/\v=an (aw ⟨ob,0,aq⟩) n oc)/\n<=1000000/\Hid (os.length=n*7)/\
    Hid (((w5.alloc (aE ai.toArray 48)).drew.ownsRow B 48 7 (an (aw ⟨ob,0,aq⟩) n oc) n os)/\(aa (w5.alloc (aE ai.toArray 48)).drew g #[an (aw ⟨ob,0,aq⟩) n oc,ao ar 0,ao ar 0] 60)/\
    (∀(j:Nat) (u:cq),ai[j]?=aw u->(w5.alloc (aE ai.toArray 48)).drew.cell? ⟨w5.heap.size,j,aq⟩=aw u)/\B<=(w5.alloc (aE ai.toArray 48)).drew.heap.size/\(w5.alloc (aE ai.toArray 48)).drew.heap.size=w5.heap.size+1/\cj w5.heap.size w5 (w5.alloc (aE ai.toArray 48)).drew)/\
    w5.cell? ⟨g,0,aq⟩=aw (an (aw ⟨ob,0,aq⟩) n oc)/\¬ob=g:=by
   have hr:=HX.out.1.row;rw[show (C++[c]).length=C.length+1 by simp] at hr;exact⟨_,_,_,Hh ⟨rfl,rfl,rfl⟩,by have:=HH.out.2.2.2.1;omega,Hh hr.1,Hh (LH (dy HH.out.2.1 HX.out.2.2.2.1.size) hr HX.out.2.1),HX.out.2.1.cell 0 _ rfl,fun q=>HX.out.1.apart.vg (by rw[q];rfl)⟩
  have Az:=HX.out.1.gl;have Bb:(n:Int)<(n:Int)+1:=by omega
  go_wp2_with fail
  go_region_law (first
   |(refine s7 _ rfl _ _ 30 rfl B 48 i0 _ 7 128 sy A9 AF AG AH rfl (by decide) (an (aw ⟨ob,0,aq⟩) n oc) n os (by rfl) (by exact Aa.out.1) ⟨w5.heap.size,0,aq⟩ 1 1 ai (by rfl) rfl (by intro j u hu;rw[iS,df];exact Aa.out.2.2.1 j u hu) uZ (by omega) (by unfold cV;omega) (by omega) (by exact Aa.out.2.2.2.1) _ rfl ?_;intro g3 cap3 w3 hown3 hgrow3 hat3 hlt3;have Av:=Aa.out.2.1.kept hgrow3 (fun q=>A1 (dt q).symm);obtain⟨Bm,Bn⟩:=Av.n1 rfl;have m0:=Fb hown3 HL.out;have Bf:=hown3.frozenAt (n*7);have m1:=iK hown3 HL.out 1 _ rfl;have Bg:=hown3.frozenAt (n*7+1);have m2:=iK hown3 HL.out 2 _ rfl;have Bh:=hown3.frozenAt (n*7+2);have m3:=iK hown3 HL.out 3 _ rfl;have Bi:=hown3.frozenAt (n*7+3);have m4:=iK hown3 HL.out 4 _ rfl;have Bj:=hown3.frozenAt (n*7+4);have m5:=iK hown3 HL.out 5 _ rfl;have Bk:=hown3.frozenAt (n*7+5);have m6:=iK hown3 HL.out 6 _ rfl;have Bl:=hown3.frozenAt (n*7+6);have Au:=Ha hat3 Aa.out.2.2.2.2.1 (fun q=>A1 (dt q)) Az;have A8:¬g=g3:=fun e=>Au e.symm;have HG:=Jh hown3 (cE hgrow3 (cE hat3 Av));clear hown3 hgrow3 hat3 Av))
  all_goals go_upto_region 10 with fail
  all_goals
   obtain⟨q1,q2,q3,q4⟩:=HG.out
   refine MP (Pr:=CG B g n g3 cap3 0 0 os [cG xb,al xn,al xo,al xt,an va vn vc,an Ar ln As,an aq 0 0] (an (aw ⟨ob,0,aq⟩) n oc) (w5.alloc (aE ai.toArray 48)).drew) (by
    first
     |with_reducible exact LG HL.out Au q1 q2 q3 q4
     |with_reducible exact LF HL.out Au q1 q2 q3 q4) (fun wc hE=>?_)
   clear q1 q2 q3 q4 HG m0 m1 m2 m3 m4 m5 m6 Bf Bg Bh Bi Bj Bk Bl Bm Bn;obtain⟨p1,p2,p3⟩:=DK HX.out HH.out.2.2.1 rfl HV.out.1 HV.out.2.1 HH.out.2.1 Aa.out.2.2.2.2.2 Aa.out.2.2.2.2.1 hE;have Be:(nI.mk (DR (pO.bare x)) [cG xb,al xn,al xo,al xt,an va vn vc,an Ar ln As,an aq 0 0] (an aq 0 0)).x=x:=rfl;generalize (nI.mk (DR (pO.bare x)) [cG xb,al xn,al xo,al xt,an va vn vc,an Ar ln As,an aq 0 0] (an aq 0 0))=c9 at *;have Bp:=Hh Be;clear Be;have AA:(C++[c]).length=C.length+1:=by simp
   rw[<-AA] at p1 p2;have AX:=Jh p1 (cE p2 (cE trivial p3));have AW:=Hh AA;clear p1 p2 p3 hE AA A0 A1 Az Bb;clear Ac Ad Ae Af Ag Ah Ai Aj Ak Al Am An Ao Ap;have HX:=AX;clear AX;obtain⟨tb,tn,tO,tt,ta,t1,t2,Ay,t3,t4,Ax,t5,t6,At⟩:=(HX.out.1.all c9 (by simp)).shape
   obtain⟨n2,m,HV,Bs,Bw,Bt,A0,f0,f1,f2,f3,f4,f5,f6⟩:∃(n2 m:Nat),Hid (n2=(C++[c]).length+1/\m=(C++[c]).length)/\m<=1000000/\(n2:Int)-1=(m:Int)/\m<n2/\wc.cell? ⟨g,0,aq⟩=aw (an (aw ⟨g3,0,aq⟩) n2 cap3)/\wc.cell? ⟨g3,m*7,aq⟩=aw (cG tb)/\wc.cell? ⟨g3,m*7+1,aq⟩=aw (al tn)/\wc.cell? ⟨g3,m*7+2,aq⟩=aw (al tO)/\
     wc.cell? ⟨g3,m*7+3,aq⟩=aw (al tt)/\wc.cell? ⟨g3,m*7+4,aq⟩=aw (an ta t1 t2)/\wc.cell? ⟨g3,m*7+5,aq⟩=aw (an Ay t3 t4)/\wc.cell? ⟨g3,m*7+6,aq⟩=aw (an Ax t5 t6):=by
    have ht:=Pi HX.out.1;rw[At] at ht;exact⟨_,_,Hh ⟨rfl,rfl⟩,by have:=HH.out.2.2.2.1;rw[AW.out];omega,by omega,by omega,HX.out.2.1.cell 0 _ rfl,ht 0 _ rfl,ht 1 _ rfl,ht 2 _ rfl,ht 3 _ rfl,ht 4 _ rfl,ht 5 _ rfl,ht 6 _ rfl⟩
   have Az:=HX.out.1.gl;have A5:=Jh At trivial;have AB:g3<wc.heap.size:=(HX.out.1.lt (.inl rfl)).2;clear At;go_cut [6] (fun x wk=>∃p6:Nat,x=cx (aw ⟨p6,0,aq⟩)/\aa wk p6 #[cG tb,al tn,al tO,al tt,an ta t1 t2,an Ay t3 t4,an Ax t5 t6] 48/\¬p6=g/\cj wc.heap.size wc wk)
   case first=>
    go_region
    all_goals go_wp2_with fail
    all_goals go_meet
    all_goals exact⟨_,rfl,(aa.new _ _ _).drew,by omega,((ba _ _).alloc lz _).drew⟩
   obtain⟨p6,rfl,k6,AC,A2⟩:=hcut;have Ab:=Hh (JU ⟨HX.out.1,HX.out.2.1,trivial,HX.out.2.2.2⟩ A2 HH.out.2.1);obtain⟨Aw,AE⟩:=Ab.out.2.1.n1 rfl;have Br:=Ab.out.1.gl
   have Bu:m<=cap3:=by
    have hr:=Ab.out.1.row;rcases hr.2 with ⟨q,-⟩|⟨_,_,_,q,-,-,q3,-⟩
    .cases q
    .injection q with _ q1 q2
     have:=HV.out;omega
   have Bq:=k6.lt;rw[<-HV.out.1] at Aw;have Bo:=Hh k6;have AD:¬g=p6:=fun e=>AC e.symm;clear A0 f0 f1 f2 f3 f4 f5 f6 A2;obtain⟨AI,AP,AJ,AQ,AK,AR,AL,AS,AM,AT,AN,AU,AO,AV⟩:=k6.n7 rfl;clear k6;go_wp2_with fail;go_region
   all_goals go_wp2_with fail
   all_goals
    have hA:=IU (xs:=[cG tb,al tn,al tO,al tt,an ta t1 t2,an Ay t3 t4,an Ax t5 t6]) ⟨Ab.out.1,Ab.out.2.1,Ab.out.2.2.1,Ab.out.2.2.2⟩ (by simp) A5.out.1 (by have:=HH.out.2.2.2.1;rw[AW.out];omega) HH.out.2.2.2.2 HH.out.2.1 HH.out.2.2.1 HV.out.2;refine hA.mono ?_;clear hA;rintro _ w9 ⟨rfl,hR9⟩;have A6:=Hh hR9;clear hR9;go_wp2_with fail;refine gh (v:=dr #[]) (by simp[cD,sY,go_sem]) rfl ?_;have hR9:=A6.out;rw[eJ (l₁:=C++[c]),cI,ke,AZ,Bp.out] at hR9;exact hR9
 |fin=>
  simp only[BA];have AY:=HF.out rfl;obtain⟨tb,tn,tO,tt,ta,t1,t2,Ay,t3,t4,Ax,t5,t6,At⟩:=(HX.out.1.all c (by simp)).shape
  obtain⟨n,m,HV,Bs,Bw,Bt,A0,f0,f1,f2,f3,f4,f5,f6⟩:∃(n m:Nat),Hid (n=C.length+1/\m=C.length)/\m<=1000000/\(n:Int)-1=(m:Int)/\m<n/\w5.cell? ⟨g,0,aq⟩=aw (an (aw ⟨ob,0,aq⟩) n oc)/\w5.cell? ⟨ob,m*7,aq⟩=aw (cG tb)/\w5.cell? ⟨ob,m*7+1,aq⟩=aw (al tn)/\w5.cell? ⟨ob,m*7+2,aq⟩=aw (al tO)/\
    w5.cell? ⟨ob,m*7+3,aq⟩=aw (al tt)/\w5.cell? ⟨ob,m*7+4,aq⟩=aw (an ta t1 t2)/\w5.cell? ⟨ob,m*7+5,aq⟩=aw (an Ay t3 t4)/\w5.cell? ⟨ob,m*7+6,aq⟩=aw (an Ax t5 t6):=by
   have ht:=Pi HX.out.1;rw[At] at ht;exact⟨_,_,Hh ⟨rfl,rfl⟩,by have:=HH.out.2.2.2.1;omega,by omega,by omega,HX.out.2.1.cell 0 _ rfl,ht 0 _ rfl,ht 1 _ rfl,ht 2 _ rfl,ht 3 _ rfl,ht 4 _ rfl,ht 5 _ rfl,ht 6 _ rfl⟩
  have Az:=HX.out.1.gl;have A5:=Jh At AY;have AB:ob<w5.heap.size:=(HX.out.1.lt (.inl rfl)).2;clear Aq At AY;go_upto_region 10 with fail
  go_cut [6] (fun x wc=>∃p6:Nat,x=cx (aw ⟨p6,0,aq⟩)/\aa wc p6 #[cG tb,al tn,al tO,al tt,an ta t1 t2,an Ay t3 t4,an Ax t5 t6] 48/\¬p6=g/\cj w5.heap.size w5 wc)
  case first=>
   go_region
   all_goals go_wp2_with fail
   all_goals go_meet
   all_goals exact⟨_,rfl,(aa.new _ _ _).drew,by omega,((ba _ _).alloc lz _).drew⟩
  obtain⟨p6,rfl,k6,AC,A2⟩:=hcut;have Ab:=Hh (DC (p:=True) ⟨HX.out.1,HX.out.2.1,HX.out.2.2.1,HX.out.2.2.2,trivial⟩ A2 HH.out.2.1);obtain⟨Aw,AE⟩:=Ab.out.2.1.n1 rfl;have Br:=Ab.out.1.gl
  have Bu:m<=oc:=by
   have hr:=Ab.out.1.row;rcases hr.2 with ⟨q,-⟩|⟨_,_,_,q,-,-,q3,-⟩
   .cases q
   .injection q with _ q1 q2
    have:=HV.out;omega
  have Bq:=k6.lt;rw[<-HV.out.1] at Aw;have Bo:=Hh k6;have AD:¬g=p6:=fun e=>AC e.symm;clear A0 f0 f1 f2 f3 f4 f5 f6 A2;obtain⟨AI,AP,AJ,AQ,AK,AR,AL,AS,AM,AT,AN,AU,AO,AV⟩:=k6.n7 rfl;clear k6;go_wp2_with fail;go_region
  all_goals go_wp2_with fail
  all_goals
   have hA:=IU (xs:=[cG tb,al tn,al tO,al tt,an ta t1 t2,an Ay t3 t4,an Ax t5 t6]) ⟨Ab.out.1,Ab.out.2.1,Ab.out.2.2.1,Ab.out.2.2.2⟩ A5.out.2 A5.out.1 (u3 HH.out.2.2.2.1) (fun d hd=>HH.out.2.2.2.2 d (by simp[hd])) HH.out.2.1 HH.out.2.2.1 HV.out.2;refine hA.mono ?_;clear hA;rintro _ w9 ⟨rfl,hR9⟩;have A6:=Hh hR9;clear hR9;go_wp2_with fail;refine gh (v:=dr #[]) (by simp[cD,sY,go_sem]) rfl ?_;exact A6.out
def Small(m:Nat)(st:List bX):Prop:=st≠[]/\st.length<=m+1/\∀x∈st,x.items.length<=m
theorem Small.le(h:Small m st)(hk:m<=k):Small k st:=⟨h.1,dy h.2.1 (by omega),fun x hx=>dy (h.2.2 x hx) hk⟩
def pO.leaf:pO->Prop
 |.attr x=>x.items=[]
 |.begins x=>x.items=[]
 |.bare x=>x.items=[]
 |_=>True
theorem ku(row:List ae)(stop:Int)(last:Bool)(i:Nat):(fF row stop last i).leaf:=by
 obtain⟨a,e,-,h⟩:=fG row stop last i;rw[h];trivial
theorem Kn(n:Nat)(row:List ae)(stop:Int)(last:Bool):(bn n row stop last).leaf:=by
 cases row with
 |nil=>trivial
 |cons t r=>
  simp only[bn];split
  .split
   .exact ku ..
   .split
    .exact ku ..
    .trivial
  .split
   .exact ku ..
   .split
    .unfold lK
     split
     .exact ku ..
     .split
      .rfl
      .split<;>trivial
    .unfold gQ
     simp only;split
     .exact ku ..
     .split
      .split<;>trivial
      .split
       .rfl
       .split
        .exact ku ..
        .split
         .exact ku ..
         .rfl
def pO.calm:pO->Prop
 |.wrong a e=>e=0->a=0
 |_=>True
theorem ky(row:List ae)(stop:Int)(last:Bool)(i:Nat):(fF row stop last i).calm:=by
 obtain⟨a,e,b,h⟩:=fG row stop last i;rw[h];exact fun q=>absurd q b
theorem Kq(n:Nat)(row:List ae)(stop:Int)(last:Bool):(bn n row stop last).calm:=by
 cases row with
 |nil=>trivial
 |cons t r=>
  simp only[bn];split
  .split
   .exact ky ..
   .split
    .exact ky ..
    .trivial
  .split
   .exact ky ..
   .split
    .unfold lK
     split
     .exact ky ..
     .split
      .trivial
      .next b a=>
       split
       .exact fun q=>absurd q a
       .exact fun _=>rfl
    .unfold gQ
     simp only;split
     .exact ky ..
     .split
      .split
       .exact fun q=>by cases q
       .exact fun _=>rfl
      .split
       .trivial
       .split
        .exact ky ..
        .split
         .exact ky ..
         .trivial
theorem JV{stop:Int}{last:Bool}(h:(bP st row stop last).2.2=0):(bP st row stop last).2.1=0:=by
 rw[j3] at h ⊢;have b:=Kq st.length row stop last
 revert h b
 cases bn st.length row stop last with
 |wrong a e=>intro h b;exact b h
 |_=>intro _ _;rfl
theorem nH:∀(st:List bX) (x:bX) (m:Nat),(∀y∈st,y.items.length<=m)->∀y∈jK st x,y.items.length<=m+1
 |[],_,_,_,y,hy=>by cases hy
 | [t],x,m,h,y,hy=>by
  simp only[jK,de] at hy;subst hy;rw[bX.add_items,cm];have:=h t (by simp)
  simpa using this
 | t::u::r,x,m,h,y,hy=>by
  simp only[jK,cL] at hy;rcases hy with rfl|hy
  .exact u3 (h _ (by simp))
  .exact nH (u::r) x m (fun z hz=>h z (by simp at hz ⊢;exact .inr hz)) y hy
theorem GQ(h:Small m st)(row:List ae)(stop:Int)(last:Bool):Small (m+1) (bP st row stop last).1:=by
 refine⟨rV h.1 row stop last,?_⟩;rw[j3];have b:=Kn st.length row stop last
 revert b
 cases bn st.length row stop last with
 |wrong a e=>intro _;exact (h.le (pA m)).2
 |empty=>intro _;exact (h.le (pA m)).2
 |attr x=>intro _;exact⟨by simp only[eF];rw[jv];have:=h.2.1;omega,nH _ _ _ h.2.2⟩
 |begins x=>
  intro b;refine⟨by simp only[eF,cm,eh];have:=h.2.1;omega,fun y hy=>?_⟩;simp only[eF,cX,de] at hy;rcases hy with hy|rfl
  .exact u3 (h.2.2 y hy)
  .simp only[pO.leaf] at b
   rw[b];exact ck _
 |bare x=>intro _;exact⟨by simp only[eF];rw[jv];have:=h.2.1;omega,nH _ _ _ h.2.2⟩
 |fin=>
  intro _;refine⟨by simp only[eF];rw[jv,List.length_dropLast];have:=h.2.1;omega,nH _ _ _ (fun y hy=>h.2.2 y (List.dropLast_subset st hy))⟩
theorem Gf:Small 0 [bR]:=⟨by simp,by simp,fun x hx=>by simp at hx;subst hx;simp[bR,bX.items]⟩
def jY(size:Int)(toks:List ae)(k:Nat)(st:List bX)(row:List ae):Prop:=cz size toks [bR] []=cz size (toks.drop k) st row
theorem jY.zero(size:Int)(toks:List ae):jY size toks 0 [bR] []:=rfl
section
variable {size:Int} {toks:List ae} {k:Nat} {st:List bX} {row:List ae}
theorem jY.open(h:jY size toks k st row)(a:k<toks.length):cz size toks [bR] []=(if toks[k].kind=6\/toks[k].kind=7 then cz size (toks.drop (k+1)) st row
  else if toks[k].kind=5 then
   (if (bP st row toks[k].pos false).2.2≠0 then ([],(bP st row toks[k].pos false).2) else cz size (toks.drop (k+1)) (bP st row toks[k].pos false).1 [])
  else cz size (toks.drop (k+1)) st (row++[toks[k]])):=by
 unfold jY at h;rw[h,cg a,cz]
theorem jY.skip(h:jY size toks k st row)(b:k<toks.length)(a:toks[k].kind=6\/toks[k].kind=7):jY size toks (k+1) st row:=by
 have:=h.open b;rw[E4 a] at this;exact this
theorem jY.bad(h:jY size toks k st row)(f:k<toks.length)(b:toks[k].kind=5)(c:(bP st row toks[k].pos false).2.2≠0):cz size toks [bR] []=([],(bP st row toks[k].pos false).2):=by
 have:=h.open f;rw[E6 (by omega),E4 b,E4 c] at this;exact this
theorem jY.line(h:jY size toks k st row)(c:k<toks.length)(b:toks[k].kind=5)(f:(bP st row toks[k].pos false).2.2=0):jY size toks (k+1) (bP st row toks[k].pos false).1 []:=by
 have:=h.open c;rw[E6 (by omega),E4 b,E6 (by omega)] at this;exact this
theorem jY.tok(h:jY size toks k st row)(c:k<toks.length)(a:toks[k].kind≠5)(b:¬(toks[k].kind=6\/toks[k].kind=7)):jY size toks (k+1) st (row++[toks[k]]):=by
 have:=h.open c;rw[E6 b,E6 a] at this;exact this
theorem jY.last(h:jY size toks k st row)(a:toks.length<=k):cz size toks [bR] []=(if (bP st row size true).2.2≠0 then ([],(bP st row size true).2)
  else if 1<(bP st row size true).1.length then ([],size,2)
  else (((bP st row size true).1.head?.getD bR).items,-1,0)):=by
 unfold jY at h;rw[h,List.drop_eq_nil_of_le a,cz]
end
open Go.RowKit Go.Tab
def VI(R:List bX×Int×Int)(w:cd)(e:Ending)(w':cd):Prop:=(∃v,e=bk (dr #[v,ao ar R.2.1,ao ar R.2.2])/\oD w' v R.1)/\cj w.heap.size w w'
theorem oD.nil:oD w (an aq 0 0) []:=⟨aq,0,rfl,cA _,ck _,fun _=>rfl,fun x h=>by cases h⟩
theorem MK.items{t:bX}(h:MK w t cs)(j:cs[6]?=aw v):oD w v t.items:=by
 obtain⟨b,n,e,u,Ab⟩:=t;obtain⟨z,A,x,lv,a,Aa,rfl,-,-,f,g,i,r⟩:=oJ.open h;simp only[ft,fs,du] at j;subst j;exact⟨a,Aa,rfl,f,g,i,r⟩
structure Gb(toks:List ae)(size:Int)(B g k:Nat)(C:List nI)(row:List ae)(rv v:cq)(w wr:cd):Prop where
 st:pK B g rv.ownBlock wr v C
 box:jL wr g v 0 0
 own:aS B wr rv row
 kept:cj B w wr
 big:B<=wr.heap.size
 rest:jY size toks k (C.map (·.x)) row
 small:Small k (C.map (·.x))
 len:row.length<=k
 mem:∀t∈row,t∈toks
section
variable {toks:List ae} {size:Int} {B g k:Nat} {C:List nI} {row:List ae} {rv v:cq} {w wr:cd}
theorem Gb.below{w':World}(h:Gb toks size B g k C row rv v w wr)(hb:cj wr.heap.size wr w'):Gb toks size B g k C row rv v w w':=
 ⟨h.st.below hb,h.box.below hb h.st.gl,h.own.below hb lz,h.kept.trans (hb.mono h.big),dy h.big hb.size,h.rest,h.small,h.len,h.mem⟩
theorem Gb.skip(h:Gb toks size B g k C row rv v w wr)(hk:k<toks.length)(h6:toks[k].kind=6\/toks[k].kind=7):Gb toks size B g (k+1) C row rv v w wr:=
 ⟨h.st,h.box,h.own,h.kept,h.big,h.rest.skip hk h6,h.small.le (pA k),u3 h.len,h.mem⟩
theorem Gb.tok{g3 n cap3:Nat}{w3:World}(h:Gb toks size B g k C row rv v w wr)(i:k<toks.length)(z:toks[k].kind≠5)(A:¬(toks[k].kind=6\/toks[k].kind=7))(j:aS B w3 (an (aw ⟨g3,0,aq⟩) n cap3) (row++[toks[k]]))(f:wr.grownBy w3 rv.ownBlock)(o:rv.ownBlock=aw g3\/g3=wr.heap.size)(u:g3<w3.heap.size) :
  Gb toks size B g (k+1) C (row++[toks[k]]) (an (aw ⟨g3,0,aq⟩) n cap3) v w w3:=by
 have Ab:∀b,rv.ownBlock=aw b->B<=b/\b<wr.heap.size:=cy h.own;have Aa:∀b,b<wr.heap.size->b≠g->rv.ownBlock≠aw b->w3.heap[b]?=wr.heap[b]?:=fun b hb _ hn=>f.block b hb (fun e=>hn e.symm);refine⟨h.st.keep f.size Aa (fun b e=>?_),?_,j,h.kept.trans ⟨f.os,f.tape,f.output,f.size,fun b hb=>f.block b (cT hb h.big) (fun e=>by have:=(Ab b e.symm).1;omega)⟩,dy h.big f.size,h.rest.tok i z A,h.small.le (pA k),by rw[cm];simpa using h.len,fun t ht=>?_⟩
 .simp only[ev,du] at e
  subst e;exact⟨o.imp id (fun q=>by omega),u⟩
 .exact h.box.kept f (fun e=>h.st.apart.rg e.symm)
 .rcases cX.1 ht with ht|ht
  .exact h.mem t ht
  .simp at ht;subst ht;exact cH i
theorem aS.none{a:Option Addr}{n cap:Nat}{base:Nat}{l:List ae}(h:aS base w (an a n cap) l):aS base w (an a 0 cap) []:=by
 obtain⟨u,d⟩:=h;refine⟨rfl,?_⟩;rcases d with ⟨d,-⟩|⟨g,f,c,o,k,q,v,i,j,x⟩
 .cases d;exact .inl ⟨rfl,rfl⟩
 .cases o;exact .inr ⟨_,_,c,rfl,k,q,ck _,i,j,by simp⟩
theorem aS.capB{a:Option Addr}{n cap:Nat}{base:Nat}{l:List ae}(h:aS base w (an a n cap) l):n=l.length/\n<=cap/\cap<=cV:=by
 obtain⟨o,c⟩:=h;rcases c with ⟨c,d⟩|⟨g,f,i,k,v,x,d,j,q,u⟩
 .cases c;exact⟨d.symm,cA _,ck _⟩
 .cases k;exact⟨rfl,d,j⟩
theorem Gb.line{a:Option Addr}{n cap:Nat}{w3:World}(h:Gb toks size B g k C row (an a n cap) v w wr)(z:k<toks.length)(u:toks[k].kind=5)(o:(bP (C.map (·.x)) row toks[k].pos false).2.2=0){v3:cq}{C3:List nI}{e1:Int}(f:(bP (C.map (·.x)) row toks[k].pos false).1=C3.map (·.x))(q:pK B g (iN a n cap).ownBlock w3 v3 C3)(i:jL w3 g v3 e1 (bP (C.map (·.x)) row toks[k].pos false).2.2)(j:e1=0)(c:mY B (iN a n cap).ownBlock wr w3) :
  Gb toks size B g (k+1) C3 [] (an a 0 cap) v3 w w3:=by
 rw[o] at i;subst j;have Aa:(iN a 0 cap).ownBlock=(iN a n cap).ownBlock:=by cases a<;>rfl
 exact⟨by rw[Aa];exact q,i,(h.own.moved (fun b e=>c.2 b e)).none,h.kept.trans c.1,dy h.big c.1.size,by rw[<-f];exact h.rest.line z u o,by rw[<-f];exact GQ h.small _ _ _,ck _,fun t ht=>by cases ht⟩
end
section
variable {P:Program} {w:cd} {ops:Array oX} {rest:List oX} {o:oX} {a:Act} {Q:Exit->Act->cd->Prop}
theorem oK(c:mw o (yielded ops a.tmps)=true)(x hi:Operand)(t:ff)(C:Nat)(u:o.op=.slice t x aq (aw hi) aq)(f:P.underlying t=aw (.slice (P.elem t)))(v:(P.info? (P.elem t)).map (fun i=>i.size)=aw C)(b:Option pC)(n cap:Nat)(A:a.eval x=an b n cap)(k:eC)(j:a.eval hi=ao k 0)(q:gE P ops Q rest (a.put o.dst (an b 0 cap)) w):gE P ops Q (o::rest) a w:=by
 refine iB c fun K hK'=>?_;have Aa:=run_slice_h (P:=P) w t b n cap f k 0 (by omega) (by omega);unfold oX.wp;simp only[execOp,u,A,j,Option.map_some,Option.map_none,Sem.run_bind,run_sliceAt_slice (P:=P) w t _ _ _ _ f,Aa,wF v,sC,Sem.run_pure,oX.upon_value,Int.toNat_zero]
 have e1:sliced b 0 0 cap C=an b 0 cap:=by
  unfold sliced
  cases b with
  |none=>simp
  |some y=>simp[pC.add]
 rw[e1];exact hK' _ _ q
theorem uM(v:mw o (yielded ops a.tmps)=true)(l c:Operand)(t:ff)(x:o.op=.makeSlice t l c)(e:ff)(bytes size:Nat)(z:cq)(H:P.underlying t=aw (.slice e))(hi:(P.info? e).map (fun i=>(i.zero,i.size,i.bytes))=aw (aw z,size,bytes))(J I:eC)(n:Nat)(F:a.eval l=ao J (n:Int))(E:a.eval c=ao I (n:Int))(L:bytes*n<=281474976710656)(G:n<=cV)(D:gE P ops Q rest (a.put o.dst (an (aw ⟨w.heap.size,0,Option.none⟩) n n)) (w.alloc (aE (madeCells z.cells (n*size)) e))):gE P ops Q (o::rest) a w:=by
 obtain⟨i,Ac,Aa⟩:=eH.1 hi;simp only[n9] at Aa;obtain⟨C,A,u⟩:=Aa;refine iB v fun K hK'=>?_
 have Ab:(i.bytes:Int)*(n:Int)<=281474976710656:=by
  have h:((i.bytes*n:Nat):Int)<=281474976710656:=by rw[u];omega
  rwa [Int.natCast_mul] at h
 have j:=run_make (P:=P) w t e i z H Ac C J I n n (by omega) (Int.le_refl _) Ab (by simp[cV] at G;omega);simp only[Int.toNat_natCast,A] at j;unfold oX.wp;simp[execOp,x,F,E,j,sC]
 exact hK' _ _ D
end
theorem Gb.start(toks:List ae)(size:Int)(w:cd) :
  Gb toks size w.heap.size (w.heap.size+1) 0 [⟨bR,ai,an aq 0 0⟩] [] (an aq 0 0) (an (aw ⟨w.heap.size,0,aq⟩) 1 1) w
   ((w.alloc (aE ai.toArray 48)).alloc (aE #[an (aw ⟨w.heap.size,0,aq⟩) 1 1,ao ar 0,ao ar 0] 60)):=by
 have j:cj w.heap.size w ((w.alloc (aE ai.toArray 48)).alloc (aE #[an (aw ⟨w.heap.size,0,aq⟩) 1 1,ao ar 0,ao ar 0] 60)):=((ba _ w).alloc lz _).alloc (by simp) _;have g:=aa.new (w.alloc (aE ai.toArray 48)) #[an (aw ⟨w.heap.size,0,aq⟩) 1 1,ao ar 0,ao ar 0] 60;rw[cF] at g
 have Aa:((w.alloc (aE ai.toArray 48)).alloc (aE #[an (aw ⟨w.heap.size,0,aq⟩) 1 1,ao ar 0,ao ar 0] 60)).ownsRow w.heap.size 48 7 (an (aw ⟨w.heap.size,0,aq⟩) 1 1) 1 ai:=by
  refine World.ownsRow.alloc (w:=w.alloc (aE ai.toArray 48)) ⟨rfl,.inr ⟨w.heap.size,1,ai.toArray,rfl,cA _,?_,cA _,by unfold cV;omega,rfl,rfl⟩⟩ _;exact aa.new w ai.toArray 48
 refine⟨⟨by simp,fun b e=>(by cases e),Aa,⟨?_,fun b _ e=>(by cases e),(fun e=>by cases e),fun c g b e=>?_,by simp⟩,fun c g=>?_⟩,g,aS.nil,j,j.size,jY.zero size toks,Gf,cA _,fun t ht=>by cases ht⟩
 .simp only[ev,ne_eq,du];omega
 .simp at g;subst g;cases e
 .simp at g;subst g
  exact lX.fresh (aX.zero _ _) rfl
theorem pK.end(h:pK B g rb w v C)(i:¬1<C.length)(k:C≠[]) :
  ∃ob oc iv,v=an (aw ⟨ob,0,aq⟩) 1 oc/\w.cell? ⟨ob,6,aq⟩=aw iv/\oD w iv ((C.map (·.x)).head?.getD bR).items:=by
 obtain⟨c,rfl⟩:∃c,C=[c]:=by
  match C,i,k with
  |[c],_,_=>exact⟨c,rfl⟩
  |_::_::_,i,_=>simp at i
 have f:=h.all c (by simp);obtain⟨ob,oc,q,-⟩:=yy h.row (by simp);have j:v=an (aw ⟨ob,0,aq⟩) 1 oc:=q;subst j;have Aa:=h.row;refine⟨ob,oc,c.iv,rfl,?_,?_⟩
 .have:=Aa.cellAt 6 (by simp)
  rw[this]
  simpa using f.cell6
 .exact MK.items (aX.at _ _ (f.itm (Q:=fun _=>True) (fun _ _ _=>trivial) (fun _ _=>trivial))) f.cell6
theorem DF{rv:cq}{wr:cd}(h:Gb toks size B g k C row rv v w wr)(stop:Int)(last:Bool)(A:jF wr)(E:k<=800000)(u:B<=g)(o:∀t∈toks,t.text.size<=1048576)(D:∀t∈toks,t.kind=3->lm t.text≠aq) :
  cJ bh 24 #[cx (aw ⟨g,0,aq⟩),jH rv stop last] wr (MJ B g rv.ownBlock (bP (C.map (·.x)) row stop last) wr):=by
 rcases gS C with rfl|⟨i,c,f⟩
 .exact absurd rfl h.small.1
 .rw[hU] at f
  subst f;have j:=h.small.2.1;simp only[cW,cm,eh] at j
  exact PQ B g rv.ownBlock v i c row rv stop last wr h.st h.box h.own.toks (fun b e=>(cy h.own b e).2) A (by have:=h.len;omega) (fun t ht=>o t (h.mem t ht)) (fun t ht=>D t (h.mem t ht)) (by omega)
   (fun d hd=>by have:=h.small.2.2 d.x (j8.2 ⟨d,hd,rfl⟩);omega) h.big u
theorem iE{ops:Array oX}{rest:List oX}{o:oX}{a:Act}(D:o.guard=aq)(s x:Operand)(L:o.op=.call { callee:=.builtin .append,args:=#[s,x],argTypes:=#[55,55] })(base:Nat)(l:List ae)(t:ae)(B:aS base w (a.eval s) l)(g:Nat)(N:a.eval x=an (aw ⟨g,0,aq⟩) 1 1)(J:aa w g #[ao ar t.kind,al t.text,ao ar t.pos] 62)(O:l.length<=1000000)(v:base<=w.heap.size)(H:Nat)(G:w.heap.size=H)(I:∀gb cap w',aS base w' (an (aw ⟨gb,0,aq⟩) (l.length+1) cap) (l++[t])->w.grownBy w' (a.eval s).ownBlock->((a.eval s).ownBlock=aw gb\/gb=H)->gb<w'.heap.size->
   gE bh ops Q rest (a.put o.dst (an (aw ⟨gb,0,aq⟩) (l.length+1) cap)) w'):gE bh ops Q (o::rest) a w:=by
 obtain⟨i,Aa,Ab,Ac,Ad⟩:=info_parts Tryz.infoTok;refine wpList_append_lies w D s x 55 L base 62 i _ 3 32 mA Aa Ab Ac Ad rfl (by decide) (a.eval s) l.length (l.flatMap lM) rfl B ⟨g,0,aq⟩ 1 1 (lM t) N rfl ?_ (Ae t) (by omega) (by unfold cV;omega) (by omega) v H G ?_
 .intro j u F
  rw[iS,df];exact J.cell _ _ (by simpa [lM] using F)
 .intro gb cap w' f C q A
  exact I gb cap w' (by unfold aS;simpa using f) C q A
theorem uX(s:E7)(w:cd)(hT:jF w)(hs:s.size<=800000):cJ bh 9 #[al s] w (VI (aT s.data.toList) w):=by
 have hL:=xh s w hT (by omega);obtain⟨A4,As⟩:=Iq s.data.toList
 have Av:∀t∈(mK s.data.toList).1,t.kind=3->lm t.text≠aq:=by
  have:=xm s.data.toList.length s.data.toList 0 lz;unfold mK;split
  .exact this
  .intro t ht
   cases ht
 have AL:s.data.toList.length=s.size:=aM s;rw[AL] at A4 As;have hR:aT s.data.toList=(if (mK s.data.toList).2.2≠0 then ([],(mK s.data.toList).2) else cz s.size (mK s.data.toList).1 [bR] []):=by unfold aT;rw[AL]
 rw[hR];generalize mK s.data.toList=X at *;obtain⟨Aa,AR,er⟩:=X;simp only at hL A4 As Av ⊢;clear hR AL;obtain⟨R,AH⟩:=exq ((if er≠0 then (([]:List bX),AR,er) else cz s.size Aa [bR] []));rw[<-AH];have AO:=Hh AH;clear AH;have HT:=Jh As Av;clear As Av;go_in;go_wp2_with fail;refine hL.mono ?_;clear hL;rintro _ w1 ⟨tv,rfl,hown,hb1⟩
 by_cases he:er=0
 .subst he
  have AI:=hT.below hb1;have AK:=AI.utf.pos;have AC:=hown.toks;obtain⟨ta,tc,rfl⟩:=hown.len;have Ay:=Jh hb1 AI;have Be:=Hh AC;have AP:Hid (R=cz s.size Aa [bR] []):=Hh (by rw[AO.out,E6 (fun q=>q rfl)]);clear hown AC hb1 AI AK hT;obtain⟨G,hG⟩:=exq (w1.heap.size+1);have HG:=Hh hG;go_wp2_with (with_reducible first|refine l8 ?_)
  refine Stop.out ?_;refine uM rfl _ _ _ rfl 48 128 7 _ sy Tryz.infoItm _ _ 1 rfl rfl (by omega) (by unfold cV;omega) ?_;rw[show madeCells (cq.agg #[cG false,al ⟨#[]⟩,al ⟨#[]⟩,al ⟨#[]⟩,an aq 0 0,an aq 0 0,an aq 0 0]).cells (1*7)=ai.toArray by kernel_rfl];go_wp2_with fail;rw[<-hG];have An:=Gb.start Aa s.size w1;rw[<-hG] at An;clear hG;go_loopw [7,9,25] (fun rv _ i wr=>∃(k:Nat) (C:List nI) (row:List ae) (v:cq),k<=Aa.length/\i=ao ar (k:Int)/\Gb Aa s.size w1.heap.size G k C row rv v w1 wr) (fun _ _ i _=>Aa.length-(cR i).toNat)
  .exact⟨0,_,[],_,ck _,rfl,An⟩
  clear An;obtain⟨k,C,row,v,hk,rfl,hI⟩:=hrel;have AB:=jF.below Ay.out.2 hI.kept;have Bi:G<wr.heap.size:=hI.st.gl;have Bl:w1.heap.size<=wr.heap.size:=hI.big;obtain⟨ra,rc,rfl⟩:=hI.own.len
  by_cases hkl:k<Aa.length
  .obtain⟨bb,Bm,rfl,Bj,q0,q1,q2⟩:=(Be.out.below hI.kept lz).get hkl
   have hA:cj wr.heap.size wr (wr.alloc (aE #[ao ar Aa[k].kind,al Aa[k].text,ao ar Aa[k].pos] 62)):=(ba _ wr).alloc lz _;have Az:=hI.below hA;have Ar:=aa.new wr #[ao ar Aa[k].kind,al Aa[k].text,ao ar Aa[k].pos] 62;have HS:=Hh (fun h6=>Az.skip hkl h6);have HR:=Jh (fun stop last=>DF Az stop last (AB.below hA) (by omega) (by have:=HG.out;omega) (fun t ht=>dy (HT.out.1 t ht) (by omega)) HT.out.2) (cE hI Az);have Ao:=hI.box;clear hI Az AB hA;have A1:∃kd tx ps,Aa[k].kind=kd/\Aa[k].text=tx/\Aa[k].pos=ps:=⟨_,_,_,rfl,rfl,rfl⟩;obtain⟨kd,tx,ps,A3,A8,A6⟩:=A1;have HK:=Jh A3 (cE A8 A6);rw[A3,A8,A6] at Ar;rw[A3] at q0;rw[A8] at q1;rw[A6] at q2;have HQ:Hid (wr.alloc (aE #[ao ar Aa[k].kind,al Aa[k].text,ao ar Aa[k].pos] 62)=wr.alloc (aE #[ao ar kd,al tx,ao ar ps] 62)):=Hh (by rw[A3,A8,A6]);clear A3 A8 A6
   by_cases h6:kd=6\/kd=7
   .have hS:=HS.out (by rw[HK.out.1];exact h6)
    rw[HQ.out] at hS;have AQ:=Hh hS;obtain⟨Ab,Ae,Ac,Af,Ad,Ag⟩:=Ao.n3 rfl;clear hS HS HR Ao Ar;rcases h6 with rfl|rfl
    .have e5:((6:Int) != 5)=true:=by decide
     go_wp2;go_roundw
     .exact⟨k+1,C,row,v,hkl,by go_num,AQ.out⟩
     simp[cR];omega
    .go_wp2_with fail
     go_roundw
     .exact⟨k+1,C,row,v,hkl,by go_num,AQ.out⟩
     simp[cR];omega
   .by_cases h5:kd=5
    .subst h5
     have Aw:=HR.out.1 ps false;obtain⟨RR,AG⟩:=exq (bP (C.map (·.x)) row ps false);rw[<-AG] at Aw;rw[HQ.out] at Aw;have Ap:=Hh AG;obtain⟨Ab,Ae,Ac,Af,Ad,Ag⟩:=Ao.n3 rfl;clear AG Ao h6;have e6:((5:Int)==6)=false:=by decide
     have e7:((5:Int)==7)=false:=by decide
     go_wp2_with fail;refine Aw.mono ?_;clear Aw Ar Ab Ac Ad Ae Af Ag;rintro _ w3 ⟨rfl,v3,⟨C3,hC3,hS3⟩,hP3,hK3⟩;have AU:G<w3.heap.size:=hS3.gl;have AJ:=HR.out.2.1.own.capB;obtain⟨-,Bb,A2⟩:=AJ;unfold cV at A2
     by_cases he5:RR.2.2=0
     .have hz:RR.2.1=0:=by rw[Ap.out] at he5 ⊢;exact JV he5
      rw[he5,hz] at hP3
      have hL:Hid (Gb Aa s.size w1.heap.size G (k+1) C3 [] (an ra 0 rc) v3 w1 w3):=Hh (by
       have Az:=HR.out.2.2;have h9:RR=bP (C.map (·.x)) row Aa[k].pos false:=by rw[HK.out.2.2];exact Ap.out
       rw[h9] at he5 hC3;refine Az.line hkl HK.out.1 he5 hC3 hS3 (e1:=0) ?_ rfl (by rw[HQ.out];exact hK3)
       rw[he5];exact hP3)
      obtain⟨Ah,Ak,Ai,Al,Aj,Am⟩:=hP3.n3 rfl;clear hP3 hC3 hS3 hK3 HR HS he5 hz Ap HQ;go_wp2_with (with_reducible first|refine j6 ?_)
      refine Stop.out ?_;refine oK rfl _ _ _ 3 rfl mA (by kernel_rfl) ra row.length rc rfl _ rfl ?_;go_wp2;go_roundw
      .exact⟨k+1,C3,[],v3,hkl,by go_num,hL.out⟩
      simp[cR];omega
     .have At:Hid (R=([],RR.2)):=Hh (by
       have h9:RR=bP (C.map (·.x)) row Aa[k].pos false:=by rw[HK.out.2.2];exact Ap.out
       rw[AP.out,h9]
       exact HR.out.2.1.rest.bad hkl HK.out.1 (by rw[<-h9];exact he5))
      have A0:Hid (cj w.heap.size w w3):=Hh (Ay.out.1.trans ((HR.out.2.1.kept.trans ((ba _ wr).alloc HR.out.2.1.big (aE #[ao ar 5,al tx,ao ar ps] 62) |>.trans hK3.1)).mono Ay.out.1.size));have AD:(RR.2.2 != 0)=true:=by simpa using he5
      have Bf:Hid (RR.2=(RR.2.1,RR.2.2)):=Hh rfl;clear hC3 hS3 hK3 HR HS Ap HQ he5;generalize RR.2.1=pa at *;generalize RR.2.2=pe at *;obtain⟨Ah,Ak,Ai,Al,Aj,Am⟩:=hP3.n3 rfl;clear hP3;go_wp2_with (with_reducible first|refine j6 ?_)
      refine Stop.out ?_;refine oK rfl _ _ _ 3 rfl mA (by kernel_rfl) ra row.length rc rfl _ rfl ?_;go_wp2_with fail;go_quiet (fail)
      go_wp2_with fail;refine bj (v:=dr #[an aq 0 0,ao ar pa,ao ar pe]) (by simp[cD,vx,go_sem]) rfl ?_;rw[At.out,Bf.out];exact⟨⟨_,rfl,oD.nil⟩,ag A0.out _⟩
    .have AT:Aa[k].kind≠5/\¬(Aa[k].kind=6\/Aa[k].kind=7):=by rw[HK.out.1];exact⟨h5,h6⟩
     have e5:(kd==5)=false:=by simpa using h5
     have e6:(kd==6)=false:=by simp at h6 ⊢;omega
     have e7:(kd==7)=false:=by simp at h6 ⊢;omega
     have AN:=Hh AT;have A7:aS w1.heap.size (wr.alloc (aE #[ao ar kd,al tx,ao ar ps] 62)) (an ra row.length rc) row:=by rw[<-HQ.out];exact HR.out.2.2.own
     have Bk:=HR.out.2.1.len;obtain⟨Ab,Ae,Ac,Af,Ad,Ag⟩:=Ao.n3 rfl;clear Ao AT h5 h6;go_wp2_with (with_reducible first|refine aL ?_)
     refine Stop.out ?_
     refine iE rfl _ _ rfl w1.heap.size row ⟨kd,tx,ps⟩ (by exact A7.alloc _) (wr.heap.size+1) (by first|rfl|simp) (by
      have:=aa.new (wr.alloc (aE #[ao ar kd,al tx,ao ar ps] 62)) #[ao ar kd,al tx,ao ar ps] 62;rw[cF] at this
      exact this) (by omega) (by simp;omega) (wr.heap.size+2) (by simp) ?_
     intro g3 cap3 w3 hown3 hg3 hat3 hlt3
     have AF:Hid (Gb Aa s.size w1.heap.size G (k+1) C (row++[Aa[k]]) (an (aw ⟨g3,0,aq⟩) (row.length+1) cap3) v w1 w3):=Hh (by
      have A9:=HR.out.2.2;rw[HQ.out] at A9;have A9:=A9.below ((ba _ _).alloc lz (aE #[ao ar kd,al tx,ao ar ps] 62))
      have AC:Aa[k]=⟨kd,tx,ps⟩:=by
       obtain⟨z1,z2,z3⟩:=HK.out;rw[<-z1,<-z2,<-z3]
      have A5:aS w1.heap.size w3 (an (aw ⟨g3,0,aq⟩) (row.length+1) cap3) (row++[Aa[k]]):=by rw[AC];exact hown3
      exact A9.tok hkl AN.out.1 AN.out.2 A5 hg3 (hat3.imp id (fun q=>by simpa using q)) hlt3)
     have Ao:=AF.out.box;have AU:G<w3.heap.size:=AF.out.st.gl;clear hown3 hg3 hat3 hlt3 A7 Ar HR HQ HS q0 q1 q2 Ab Ac Ad Ae Af Ag;obtain⟨Ab,Ae,Ac,Af,Ad,Ag⟩:=Ao.n3 rfl;clear Ao;go_wp2;go_roundw
     .exact⟨k+1,C,_,v,hkl,by go_num,by simpa using AF.out⟩
     simp[cR];omega
  .obtain rfl:k=Aa.length:=by omega
   have Aw:=DF hI s.size true AB (by omega) (by have:=HG.out;omega) (fun t ht=>dy (HT.out.1 t ht) (by omega)) HT.out.2;have Aq:=hI.rest.last lz;have Bd:=rV hI.small.1 row s.size true;have HI:=Hh hI;rw[<-AP.out] at Aq;have Ao:=hI.box;generalize bP (C.map (·.x)) row s.size true=RR at *;have Ap:=Jh Aq Bd;clear hI AB Aq Bd;obtain⟨Ab,Ae,Ac,Af,Ad,Ag⟩:=Ao.n3 rfl;clear Ao;go_wp2_with fail;refine Aw.mono ?_;clear Aw Ab Ac Ad Ae Af Ag;rintro _ w3 ⟨rfl,v3,⟨C3,hC3,hS3⟩,hP3,hK3⟩;have AU:G<w3.heap.size:=hS3.gl;have A0:Hid (cj w.heap.size w w3):=Hh (Ay.out.1.trans ((HI.out.kept.trans hK3.1).mono Ay.out.1.size));clear HI hK3
   by_cases he5:RR.2.2=0
   .have AM:C3≠[]:=fun e=>Ap.out.2 (by rw[hC3,e];rfl)
    have Ax:=Ap.out.1;rw[E6 (fun q=>q he5),hC3] at Ax;rw[he5] at hP3;generalize RR.2.1=pa at *;clear Ap he5
    by_cases hn:1<C3.length
    .rw[E4 (by simpa using hn)] at Ax
     have AA:=Hh Ax;obtain⟨ob,oc,Bg,-⟩:=yy hS3.row (by omega);subst Bg;have hF:=uz G _ _ _ s.size 2 w3 hP3;have hm:(1:Int)<(C3.length:Int):=by omega
     generalize C3.length=n3 at *;obtain⟨Ah,Ak,Ai,Al,Aj,Am⟩:=hP3.n3 rfl;clear hP3 hS3 hC3 AM hn Ax;go_wp2_with fail;refine hF.mono ?_;clear hF Ah Ai Aj Ak Al Am;rintro _ w4 ⟨rfl,hP4,hw4⟩
     have AE:Hid (cj w.heap.size w w4):=Hh (by
      rw[hw4];have h1:=HG.out;have h2:=Ay.out.1.size
      exact (A0.out.setCell (p:=⟨G,1,aq⟩) (by show w.heap.size<=G;omega) _).setCell (p:=⟨G,2,aq⟩) (by show w.heap.size<=G;omega) _)
     have Bh:G<w4.heap.size:=hP4.lt;obtain⟨AV,AY,AW,AZ,AX,Ba⟩:=hP4.n3 rfl;clear hP4 hw4;have e2:((2:Int) != 0)=true:=by decide
     go_wp2_with fail;go_quiet (fail)
     go_wp2_with fail;refine bj (v:=dr #[an aq 0 0,ao ar s.size,ao ar 2]) (by simp[cD,vx,go_sem]) rfl ?_;rw[AA.out];exact⟨⟨_,rfl,oD.nil⟩,ag AE.out _⟩
    .rw[E6 (by simpa using hn)] at Ax
     obtain⟨ob,oc,iv,rfl,Bc,Au⟩:=hS3.end hn AM;have AA:=Jh Ax Au;obtain⟨ia,ic,rfl,-⟩:=Au.len;generalize ((C3.map (·.x)).head?.getD bR).items=its at *;obtain⟨Ah,Ak,Ai,Al,Aj,Am⟩:=hP3.n3 rfl;clear hP3 hS3 hC3 AM hn Ax Au;go_wp2_with fail;refine bj (v:=dr #[an ia its.length ic,ao ar (-1),ao ar 0]) (by simp[cD,vx,go_sem]) rfl ?_;rw[AA.out.1];exact⟨⟨_,rfl,AA.out.2⟩,A0.out⟩
   .have At:Hid (R=([],RR.2.1,RR.2.2)):=Hh (by rw[Ap.out.1,E4 he5])
    have AD:(RR.2.2 != 0)=true:=by simpa using he5
    have AS:(RR.2.2==0)=false:=by simpa using he5
    clear hC3 hS3 Ap he5;generalize RR.2.1=pa at *;generalize RR.2.2=pe at *;obtain⟨Ah,Ak,Ai,Al,Aj,Am⟩:=hP3.n3 rfl;clear hP3;go_wp2_with fail;go_quiet (fail)
    go_wp2_with fail;refine bj (v:=dr #[an aq 0 0,ao ar pa,ao ar pe]) (by simp[cD,vx,go_sem]) rfl ?_;rw[At.out];exact⟨⟨_,rfl,oD.nil⟩,ag A0.out _⟩
 .have e0:(er != 0)=true:=by simpa using he
  go_wp2_with fail;refine gh (v:=dr #[an aq 0 0,ao ar AR,ao ar er]) (by simp[cD,vx,go_sem]) rfl ?_;rw[AO.out,E4 he];exact⟨⟨_,rfl,oD.nil⟩,hb1⟩
theorem BI:∀(k:Nat) (l:Bs) (p:Nat),l.length<=k->(∀t∈(aC l p).1,0<=t.pos/\t.pos<=(p+l.length:Nat))/\-1<=(aC l p).2.1/\(aC l p).2.1<=(p+l.length:Nat)
 | 0,l,p,h=>by
  obtain rfl:=cC (Nat.le_zero.1 h);rw[dM];exact⟨fun t ht=>(by cases ht),by simp,by simp only;omega⟩
 | k+1,[],p,_=>by
  rw[dM];exact⟨fun t ht=>(by cases ht),by simp,by simp only;omega⟩
 | k+1,c::r,p,h=>by
  simp only[bc] at h ⊢
  by_cases hb:aN c=true
  .rw[bV hb]
   obtain⟨h1,h2,h3⟩:=BI k r (p+1) (by omega);exact⟨fun t ht=>by have:=h1 t ht;omega,h2,by omega⟩
  .have hb:aN c=false:=by simpa using hb
   cases ho:dY (c::r) with
   |bad off e=>
    rw[fw hb ho];have:=Hw ho;simp only[bc] at this;exact⟨fun t ht=>(by cases ht),by simp only;omega,by simp only;omega⟩
   |tok kd sz=>
    have i:=dC ho;rw[dE hb ho];simp only[bc] at i;obtain⟨h1,h2,h3⟩:=BI k ((c::r).drop sz) (p+sz) (by rw[bm,bc];omega);rw[bm,bc] at h1 h3;refine⟨fun t ht=>?_,h2,by simp only at h3 ⊢;omega⟩;rcases cL.1 ht with rfl|ht
    .simp only;omega
    .have:=h1 t ht;omega
open Go.RowKit Go.Tab
def uY(B:Nat)(w:cd)(v:cq)(L:List aK):Prop:=
 ∃D:List (kE×aK),D.map (·.2)=L/\w.ownsRow B 78 4 v D.length (D.flatMap qb)/\∀d∈D,aS B w (dS d.1) d.2.toks
theorem wR(h:w.ownsRow B E sz v n xs)(o:B2<=B):w.ownsRow B2 E sz v n xs:=by
 obtain⟨i,f⟩:=h;refine⟨i,?_⟩;rcases f with f|⟨g,cap,c,j,k,r⟩
 .exact .inl f
 .exact .inr ⟨g,cap,c,j,by omega,r⟩
theorem uY.nil(B:Nat)(w:cd):uY B w (an aq 0 0) []:=⟨[],rfl,ir _ _ _ _,fun d hd=>by cases hd⟩
theorem uY.base(h:uY B w v L)(g:B2<=B):uY B2 w v L:=by
 obtain⟨D,a,c,f⟩:=h;exact⟨D,a,wR c g,fun d hd=>(f d hd).base_le g⟩
theorem uK.rows{gr go gl:Nat}{lv:cq}{D:List (kE×aK)}{cur:kE}{fr hi dp:Int}(h:uK B gr go gl w lv D cur toks fr hi dp o):uY B w lv (D.map (·.2)):=⟨D,rfl,h.own,fun d hd=>(h.fin d hd).1⟩
theorem uK.start(g:cd):uK g.heap.size (g.heap.size+1) (g.heap.size+2) g.heap.size
  (((g.alloc (aE #[an aq 0 0] 75)).alloc (aE #[an aq 0 0,ao ar 0,ao ar 0,ao ar 0] 78)).alloc (aE #[ao ar 0] 3)) (an aq 0 0) [] (aq,0,0) [] 0 0 0 0:=by
 have c1:=((aa.new g #[an aq 0 0] 75).alloc (aE #[an aq 0 0,ao ar 0,ao ar 0,ao ar 0] 78)).alloc (aE #[ao ar 0] 3);have b:=(aa.new (g.alloc (aE #[an aq 0 0] 75)) #[an aq 0 0,ao ar 0,ao ar 0,ao ar 0] 78).alloc (aE #[ao ar 0] 3);have f:=aa.new ((g.alloc (aE #[an aq 0 0] 75)).alloc (aE #[an aq 0 0,ao ar 0,ao ar 0,ao ar 0] 78)) #[ao ar 0] 3;simp only[cF] at b f;exact⟨b,f,c1,ir _ _ _ _,(by simp[ev]),aS.nil,(fun d hd=>by cases hd),by omega⟩
theorem QB(l:Bs):∀t∈(mK l).1,0<=t.pos/\t.pos<=(l.length:Nat):=by
 have:=(BI l.length l 0 lz).1;rw[df] at this;unfold mK;split
 .exact this
 .intro t a;cases a
theorem Ri(o:Int)(l:List ae)(m:Nat)(h : -(m:Int)<=o/\o<=m) : -((m+1:Nat):Int)<=dn o l/\dn o l<=((m+1:Nat):Int):=by
 unfold dn eB;split<;>split<;>omega
theorem JQ{l:List ae}(a:k<l.length)(h:l[k].kind≠5)(b:List ae)(fr o:Int):gF size (l.drop k) b fr o=gF size (l.drop (k+1)) (b++[l[k]]) fr o:=by
 rw[cg a,gF,E6 h]
theorem Nw{l:List ae}(a:k<l.length)(h:l[k].kind=5)(b:List ae)(fr o:Int):gF size (l.drop k) b fr o=mo o b fr l[k].pos::gF size (l.drop (k+1)) [] (l[k].pos+1) (dn o b):=by
 rw[cg a,gF,E4 h]
structure V5(w1:cd)(size:Int)(R:List aK)(toks:List ae)(k:Nat)(w:cd)(lv:cq)(D:List (kE×aK))(cur:kE)(ct:List ae)(fr hi dp o:Int):Prop where
 s:uK w1.heap.size (w1.heap.size+1) (w1.heap.size+2) w1.heap.size w lv D cur ct fr hi dp o
 b:cj w1.heap.size w1 w
 r:R=D.map (·.2)++gF size (toks.drop k) ct fr o
 n:D.length+ct.length<=k
 o : -(D.length:Int)<=o/\o<=D.length
 f:0<=fr/\fr<=size+1
theorem BB(s:E7)(w:cd)(hT:jF w)(hs:s.size<=800000):cJ bh 35 #[al s] w fun e w'=>∃v,e=bk v/\uY w.heap.size w' v (aA s.data.toList)/\cj w.heap.size w w':=by
 have hL:=xh s w hT (by omega);have A0:s.data.toList.length=s.size:=aM s;have An:=QB s.data.toList;have As:=(Iq s.data.toList).1;obtain⟨R,hR⟩:=exq (aA s.data.toList);rw[<-hR];unfold aA at hR;rw[A0] at An As hR;generalize mK s.data.toList=X at *;obtain⟨Aa,A8,er⟩:=X;simp only at hL As An hR;have HR:=Hh hR;have HP:=Hh An;clear hR An A0;go_in;go_wp2_with fail;refine hL.mono ?_;clear hL;rintro _ w1 ⟨tv,rfl,J,hb1⟩
 by_cases he:er=0
 .subst he
  have A4:Hid (R=gF s.size Aa [] 0 0):=Hh (by rw[HR.out,E4 rfl]);have A1:=J.toks;obtain⟨ta,tc,rfl⟩:=J.len;have Ap:=Hh hb1;have A2:=Hh A1;have Az:=uK.start w1;have Ax:=Hh Az;clear J A1 hb1 hT HR Az;obtain⟨G,hG⟩:=exq w1.heap.size;go_wp2;go_loopw [24] (fun i wr=>∃(k:Nat) (lv:cq) (D:List (kE×aK)) (cur:kE) (ct:List ae) (fr hi dp o:Int),k<=Aa.length/\i=ao ar (k:Int)/\V5 w1 s.size R Aa k wr lv D cur ct fr hi dp o) (fun i _=>Aa.length-(cR i).toNat)
  .exact⟨0,_,_,_,[],0,0,0,0,ck _,rfl,Ax.out,by (with_reducible repeat' first|refine Below.setCell ?_ ?_ _|refine Below.alloc ?_ ?_ _|refine Below.drew ?_|refine ag ?_ _|assumption|exact ba _ _|(simp only[cF,World.size_setCell,World.size_drew];first|done|omega)|omega),by rw[A4.out,dd];rfl,cA _,by simp,by omega⟩
  clear Ax;obtain⟨k,lv,D,cur,ct,fr,hi,dp,o,hk,rfl,H⟩:=hrel;have A7:=H.b.size
  by_cases O:k<Aa.length
  .obtain⟨b,AB,rfl,Av,hq⟩:=gD (A2.out.below H.b lz) O
   obtain⟨q0,q1,q2⟩:=hq wr (ba _ _);have A6:=HP.out Aa[k] (cH O);have HE:=Hh (fun h=>Nw (size:=s.size) O h ct fr o);have HS:=Hh (fun h=>JQ (size:=s.size) O h ct fr o);have Au:=fP wr Aa[k];generalize Aa[k]=t at *;have h1:=H.s.below Au;have Ay:=H.b.trans (Au.mono A7);obtain⟨kd,tx,ps⟩:=t;simp only at q0 q1 q2 A6 HE HS;have C:=Jh H (cE h1 Ay);have hr:=H.s.r;have ho:=H.s.o;have W:=H.s.l;have lr:=hr.lt;have lo:=ho.lt;have ll:=W.lt;obtain⟨Ab,Ah,Ae,Ai,Af,Aj,Ag,Ak⟩:=hr.n4 rfl;obtain⟨Al,Am⟩:=ho.n1 rfl;obtain⟨Ac,Ad⟩:=W.n1 rfl;clear hr ho W;clear hq Au H h1 Ay
   by_cases h5:kd=5
   .subst h5
    have Aq:=yS C.out.2.1 ps (by omega) (by have:=C.out.1.o;have:=C.out.1.n;omega) (by have:=C.out.1.n;omega) (by have:=C.out.1.n;omega);go_wp2_with fail;refine Aq.mono ?_;rintro _ w3 ⟨rfl,⟨lv3,h3⟩,U⟩
    have HN:Hid (V5 w1 s.size R Aa (k+1) w3 lv3 (D++[(cur,mo o ct fr ps)]) (aq,0,0) [] (ps+1) 0 0 (dn o ct)):=Hh (by
     refine⟨h3,C.out.2.2.trans U,?_,?_,?_,by omega⟩
     .rw[C.out.1.r,HE.out (by trivial)];simp
     .have:=C.out.1.n;simp;omega
     .have:=Ri o ct D.length C.out.1.o
      simpa using this)
    clear Aq h3 U Ab Ae Af Ag Ah Ai Aj Ak Al Am Ac Ad lr lo ll q0 q1 q2;go_wp2;go_roundw
    .exact⟨k+1,_,_,_,_,_,_,_,_,O,by go_num,HN.out⟩
    simp[cR];omega
   .have e5:(kd==5)=false:=by simpa using h5
    obtain⟨ca,cn,cc⟩:=cur;obtain⟨a',c',e'⟩:=C.out.1.s.tk.len;simp only[dS,fS] at e';obtain⟨rfl,rfl,rfl⟩:=e';have H2:=Hh (C.out.2.1.below (fP _ ⟨kd,tx,ps⟩));have Ao:=H2.out.tk;have Aq:=C.out.1.n;simp only[dS] at Ab Ao;have A5:=Hh (HS.out h5);clear h5 HS HE;go_wp2_with (with_reducible first|refine aL ?_)
    refine Stop.out ?_
    refine iE rfl _ _ rfl w1.heap.size ct ⟨kd,tx,ps⟩ (by exact Ao) (wr.heap.size+1) (by first|rfl|simp) (by
     have:=aa.new (wr.alloc (aE #[ao ar kd,al tx,ao ar ps] 62)) #[ao ar kd,al tx,ao ar ps] 62;rw[cF] at this
     exact this) (by omega) (by simp;omega) (wr.heap.size+2) (by simp) ?_
    intro g3 cap3 w3 Z hg3 hat3 hlt3;have hN:=H2.out.tok hg3 Z (hat3.imp id (fun q=>by simp;omega))
    have HN:Hid (V5 w1 s.size R Aa (k+1) (w3.setCell ⟨w1.heap.size+1,0,aq⟩ (an (aw ⟨g3,0,aq⟩) (ct.length+1) cap3)) lv D (aw ⟨g3,0,aq⟩,ct.length+1,cap3) (ct++[⟨kd,tx,ps⟩]) fr hi dp o):=Hh (by
     refine⟨hN,?_,?_,?_,C.out.1.o,C.out.1.f⟩
     .have hA:=(C.out.2.2.alloc (by simp;omega) (kV ⟨kd,tx,ps⟩)).grown hg3 (by simp;omega) (fun j e=>(cy Ao j e).1)
      exact hA.setCell (by show w1.heap.size<=w1.heap.size+1;omega) _
     .rw[C.out.1.r,A5.out]
     .simp;omega)
    have hr:=H2.out.r.kept hg3 (fun e=>(H2.out.cur_fresh _ e.symm).2.1 rfl);clear Ao hg3 Z hat3 hN Ab Ae Af Ag Ah Ai Aj Ak Al Am Ac Ad lr lo ll q0 q1 q2;have lr:=hr.lt;obtain⟨Ab,Ah,Ae,Ai,Af,Aj,Ag,Ak⟩:=hr.n4 rfl;clear hr;go_wp2;go_roundw
    .exact⟨k+1,_,_,_,_,_,_,_,_,O,by go_num,HN.out⟩
    simp[cR];omega
  .obtain rfl:k=Aa.length:=by omega
   have At:=H.r;rw[List.drop_length,gF] at At;have C:=Hh H;have A9:=H.f;have Aw:=Hh At;have hr:=H.s.r;have ho:=H.s.o;have W:=H.s.l;have lr:=hr.lt;have lo:=ho.lt;have ll:=W.lt;obtain⟨Ab,Ah,Ae,Ai,Af,Aj,Ag,Ak⟩:=hr.n4 rfl;obtain⟨Al,Am⟩:=ho.n1 rfl;obtain⟨Ac,Ad⟩:=W.n1 rfl;clear hr ho W;clear H At
   by_cases Av:fr<(s.size:Int)
   .have Aq:=yS C.out.s s.size (by omega) (by have:=C.out.o;have:=C.out.n;omega) (by have:=C.out.n;omega) (by have:=C.out.n;omega)
    have Ar:=Aw;rw[E4 Av] at Ar;go_wp2_with fail;refine Aq.mono ?_;rintro _ w3 ⟨rfl,⟨lv3,h3⟩,U⟩;have HN:=Jh h3 (C.out.b.trans U);clear Aq U Ab Ae Af Ag Ah Ai Aj Ak Al Am Ac Ad lr lo ll;have W:=h3.l;have ll:=W.lt;obtain⟨Ac,Ad⟩:=W.n1 rfl;clear h3 W;go_wp2;go_ret;refine⟨_,rfl,?_,Ap.out.trans (HN.out.2.mono Ap.out.size)⟩;have:=HN.out.1.rows.base (B2:=w.heap.size) (by have:=Ap.out.size;omega);rw[Ar.out]
    simpa using this
   .have Ar:=Aw
    rw[E6 Av] at Ar;go_wp2;go_ret;refine⟨_,rfl,?_,Ap.out.trans (C.out.b.mono Ap.out.size)⟩;have:=C.out.s.rows.base (B2:=w.heap.size) (by have:=Ap.out.size;omega);rw[Ar.out]
    simpa using this
 .have AA:(er != 0)=true:=by simpa using he
  have Ap:=Hh hb1;have A3:Hid (R=[]):=Hh (by rw[HR.out,E6 he]);clear J hb1 he HR;go_wp2;go_ret;rw[A3.out];exact⟨_,rfl,uY.nil _ _,Ap.out⟩
theorem IP:∀(D:List (kE×aK)) (j:Nat) (h:j<D.length),(D.flatMap qb)[j*4]?=aw (dS D[j].1)/\(D.flatMap qb)[j*4+1]?=aw (ao ar D[j].2.lo)/\(D.flatMap qb)[j*4+2]?=aw (ao ar D[j].2.hi)/\(D.flatMap qb)[j*4+3]?=aw (ao ar D[j].2.dep)
 |p::l,0,_=>by simp[qb]
 | p::l,j+1,h=>by
  have ih:=IP l j (by simpa using h);have e1:(j+1)*4=j*4+4:=by omega
  rw[e1]
  simpa [qb] using ih
def iQ(B:Nat)(w:cd)(v:cq)(L:List aK):Prop:=
 ∃a cap,v=an a L.length cap/\L.length<=cap/\cap<=cV/\(a=aq->cap=0)/\
  ∀x,a=aw x->L≠[]->x.spot=aq/\x.block<w.heap.size/\∀j (h:j<L.length),∃s:kE,aS B w (dS s) L[j].toks/\w.cell? ⟨x.block,x.off+j*4,aq⟩=aw (dS s)/\
   w.cell? ⟨x.block,x.off+j*4+1,aq⟩=aw (ao ar L[j].lo)/\w.cell? ⟨x.block,x.off+j*4+2,aq⟩=aw (ao ar L[j].hi)/\w.cell? ⟨x.block,x.off+j*4+3,aq⟩=aw (ao ar L[j].dep)
theorem iQ.nil:iQ B w (an aq 0 0) []:=⟨aq,0,rfl,cA _,ck _,fun _=>rfl,fun x hx=>by cases hx⟩
theorem uY.at(h:uY B w v L):iQ B w v L:=by
 obtain⟨D,rfl,Aa,E⟩:=h;have Ab:=cy Aa;obtain⟨G,z⟩:=Aa;rcases z with ⟨rfl,f⟩|⟨g,cap,c,rfl,I,F,f,A,H,C⟩
 .have:D=[]:=cC f
  subst this;exact iQ.nil
 .refine⟨_,cap,by rw[cW],by rw[cW];exact f,A,(fun h=>by cases h),fun x hx _=>?_⟩
  cases hx
  refine⟨rfl,(Ab g rfl).2,fun j hj=>?_⟩;rw[cW] at hj;obtain⟨i,k,q,u⟩:=IP D j hj;rw[<-C,j7,E4 (by omega)] at i k q u;rw[ju];refine⟨D[j].1,E D[j] (cH hj),?_,?_,?_,?_⟩
  all_goals rw[cell_of_row w g _ c 78 (0,0) F]
  .simpa using i
  .simpa using k
  .simpa using q
  .simpa using u
theorem iQ.below(h:iQ B w v L)(c:cj w.heap.size w w'):iQ B w' v L:=by
 obtain⟨a,Aa,rfl,i,o,q,r⟩:=h;refine⟨a,Aa,rfl,i,o,q,fun x hx hl=>?_⟩;obtain⟨g,g2,g3⟩:=r x hx hl;refine⟨g,cT g2 c.size,fun j hj=>?_⟩;obtain⟨s,q0,u,A,C,D⟩:=g3 j hj;exact⟨s,q0.below c lz,(c.cell (p:=⟨x.block,x.off+j*4,aq⟩) g2).trans u,(c.cell (p:=⟨x.block,x.off+j*4+1,aq⟩) g2).trans A,(c.cell (p:=⟨x.block,x.off+j*4+2,aq⟩) g2).trans C,(c.cell (p:=⟨x.block,x.off+j*4+3,aq⟩) g2).trans D⟩
theorem iQ.len(h:iQ B w v L):∃a cap,v=an a L.length cap/\L.length<=cap/\cap<=cV/\(a=aq->cap=0):=by
 obtain⟨a,cap,b,c,f,g,-⟩:=h;exact⟨a,cap,b,c,f,g⟩
theorem iQ.get(h:iQ B w (an a n cap) L)(v:j<L.length) :
  ∃b off,∃s:kE,a=aw ⟨b,off,aq⟩/\b<w.heap.size/\aS B w (dS s) L[j].toks/\w.cell? ⟨b,off+j*4,aq⟩=aw (dS s)/\
   w.cell? ⟨b,off+j*4+1,aq⟩=aw (ao ar L[j].lo)/\w.cell? ⟨b,off+j*4+2,aq⟩=aw (ao ar L[j].hi)/\w.cell? ⟨b,off+j*4+3,aq⟩=aw (ao ar L[j].dep):=by
 obtain⟨z,Aa,u,A,C,g,k⟩:=h;cases u
 cases a with
 |none=>have:=g rfl;omega
 |some x=>
  obtain⟨b,off,D⟩:=x;obtain⟨rfl,g2,g3⟩:=k _ rfl (by intro c;subst c;simp at v);obtain⟨s,q⟩:=g3 j v;exact⟨b,off,s,rfl,g2,q⟩
theorem VS:∀x:kE,(dS x).oneCell'=true:=fun _=>rfl
theorem Tryz.infoSlT:(Tryz.prog.info? 55).map (fun i=>(i.zero,i.size,i.bytes))=aw (aw (an aq 0 0),1,24):=by kernel_rfl
def mr(B:Nat)(w:cd)(v:cq)(L:List (List ae)):Prop:=
 ∃ss:List kE,RowOf dS w v ss/\ss.length=L.length/\∀j (h1:j<ss.length) (h2:j<L.length),aS B w (dS ss[j]) L[j]
theorem mr.nil:mr B w (an aq 0 0) []:=⟨[],RowOf.nil,rfl,fun j h=>by cases h⟩
theorem mr.below{L:List (List ae)}(h:mr B w v L)(g:cj w.heap.size w w'):mr B w' v L:=by
 obtain⟨i,a,c,f⟩:=h;exact⟨i,a.below g lz,c,fun j q1 q2=>(f j q1 q2).below g lz⟩
theorem mr.len{L:List (List ae)}(h:mr B w v L):∃a cap,v=an a L.length cap/\L.length<=cap/\cap<=cV/\(a=aq->cap=0):=by
 obtain⟨f,b,c,-⟩:=h;rw[<-c];exact b.len
theorem mr.get{L:List (List ae)}(h:mr B w (an a n cap) L)(u:j<L.length) :
  ∃b off,∃s:kE,a=aw ⟨b,off,aq⟩/\b<w.heap.size/\aS B w (dS s) L[j]/\w.cell? ⟨b,off+j,aq⟩=aw (dS s):=by
 obtain⟨o,g,q,i⟩:=h;obtain⟨b,off,rfl,Aa,k⟩:=g.at (j:=j) (by omega);exact⟨b,off,o[j]'(by omega),rfl,Aa,i j (by omega) u,k j (by omega)⟩
theorem SE(w:cd)(s:kE)(E:ff):RowOf dS (w.alloc (aE #[dS s] E)) (an (aw ⟨w.heap.size,0,aq⟩) 1 1) [s]:=by
 refine⟨_,1,rfl,cA _,by decide,(fun h=>by cases h),fun x hx _=>?_⟩;cases hx
 refine⟨rfl,by simp,fun j hj=>?_⟩;obtain rfl:j=0:=by simpa using hj
 rw[fL];rfl
theorem Kj(s:E7)(w:cd)(hT:jF w)(hs:s.size<=800000)(hn:(aA s.data.toList).length<=1000000):cJ bh 12 #[al s] w fun e w'=>∃v,e=bk v/\mr w.heap.size w' v ((aA s.data.toList).map (·.toks))/\cj w.heap.size w w':=by
 have Y:=BB s w hT hs;generalize aA s.data.toList=L at *;go_in;go_wp2_with fail;refine Y.mono ?_;clear Y;rintro _ J ⟨rv,rfl,X,K⟩;have V:=X.at;obtain⟨ra,rc,rfl,Al,Aj,-⟩:=V.len;unfold cV at Aj;have HA:=Hh V;have Ah:=Hh K;clear V X K;go_wp2;go_loopw [3,9] (fun lv i wr=>∃(k:Nat) (ss:List kE),k<=L.length/\i=ao ar (k:Int)/\aI dS 55 J.heap.size wr lv ss/\ss.length=k/\(∀j (h1:j<ss.length) (h2:j<L.length),aS w.heap.size J (dS ss[j]) L[j].toks)/\cj J.heap.size J wr) (fun _ i _=>L.length-(cR i).toNat)
 .exact⟨0,[],ck _,rfl,aI.nil,rfl,(fun j h=>by cases h),ba _ _⟩
 obtain⟨k,ss,hk,rfl,Aa,Ab,Ad,x⟩:=hrel;have Am:=x.size
 by_cases P:k<L.length
 .obtain⟨b,Ae,s0,rfl,Ac,ht,q0,q1,q2,q3⟩:=HA.out.get P
  obtain⟨C,H,G⟩:=s0;have Ak:b<wr.heap.size:=by omega
  have r0:=(x.cell (p:=⟨b,Ae+k*4,aq⟩) Ac).trans q0;have r1:=(x.cell (p:=⟨b,Ae+k*4+1,aq⟩) Ac).trans q1;have r2:=(x.cell (p:=⟨b,Ae+k*4+2,aq⟩) Ac).trans q2;have r3:=(x.cell (p:=⟨b,Ae+k*4+3,aq⟩) Ac).trans q3;simp only[dS] at r0
  have HS:Hid (∀j (h1:j<(ss++[(C,H,G)]).length) (h2:j<L.length),aS w.heap.size J (dS (ss++[(C,H,G)])[j]) L[j].toks):=Hh (fun j h1 h2=>by
   by_cases Z:j<ss.length
   .rw[List.getElem_append_left Z];exact Ad j Z h2
   .have:j=k:=by simp at h1;omega
    subst this;rw[List.getElem_append_right (by omega)]
    simpa [Ab] using ht)
  generalize L[k].lo=lo at *;generalize L[k].hi=hi at *;generalize L[k].dep=dep at *;have Q:=Hh x;have HO:=Hh Aa;have Ai:=Hh Ab;obtain⟨oa,oc,rfl,-⟩:=Aa.row.len;clear q0 q1 q2 q3 ht Ad Aa x Ab;go_wp2_with (with_reducible first|refine aL ?_)
  refine Stop.out ?_;have Af:=Q.out.alloc Q.out.size (aE #[an C H G,ao ar lo,ao ar hi,ao ar dep] 78);have Ag:=Ai.out
  refine fA (f:=dS) rfl _ _ 40 rfl J.heap.size 55 24 (an aq 0 0) Tryz.underlying40 Tryz.infoSlT rfl VS ss [(C,H,G)] (by exact (HO.out.alloc _).alloc _) (by
    have q:=SE (wr.alloc (aE #[an C H G,ao ar lo,ao ar hi,ao ar dep] 78)) (C,H,G) 55;simp only[cF] at q
    exact q) (by simp;unfold cV;omega) (by simp;omega) (by simp;omega) J (by exact Af.alloc Af.size _) ?_
  intro v2 w2 u M W;obtain⟨An,Ao,rfl,-⟩:=u.row.len;have U:=Jh u M;clear u M W Af Ag;go_wp2;go_roundw
  .exact⟨k+1,ss++[(C,H,G)],P,by go_num,by have q:=U.out.1;simp only[cm,eh] at q;exact q,by rw[cm,Ai.out];rfl,HS.out,U.out.2⟩
  simp[cR];omega
 .obtain rfl:k=L.length:=by omega
  have Q:=Hh x;obtain⟨oa,oc,rfl,-⟩:=Aa.row.len
  have U:Hid (mr w.heap.size wr (an oa ss.length oc) (L.map (·.toks))):=Hh ⟨ss,Aa.row,by simpa using Ab,fun j h1 h2=>by
   rw[ju]
   exact (Ad j h1 (by simpa using h2)).below x lz⟩
  clear Aa Ad x Ab;go_wp2;go_ret;exact⟨_,rfl,U.out,Ah.out.trans (Q.out.mono Ah.out.size)⟩
def oF(d:kE×aB):List cq:=[dS d.1,ao ar d.2.dep]
def Jq(B:Nat)(w:cd)(v:cq)(R:List aB):Prop:=
 ∃D:List (kE×aB),D.map (·.2)=R/\w.ownsRow B 68 2 v D.length (D.flatMap oF)/\∀d∈D,aS B w (dS d.1) d.2.toks
theorem Jq.len(h:Jq B w v R):∃a cap,v=an a R.length cap/\R.length<=cap/\cap<=cV:=by
 obtain⟨D,rfl,Aa,-⟩:=h;obtain⟨k,i⟩:=Aa;rcases i with ⟨rfl,c⟩|⟨g,cap,f,rfl,o,u,c,j,-⟩
 .rw[cW,c];exact⟨aq,0,rfl,cA _,ck _⟩
 .rw[cW];exact⟨_,cap,rfl,c,j⟩
theorem O8{cs:Array cq}{t:ff}(h:rE B g w w')(a:w.heap[k]?=aw (aE cs t (0,0)))(b:k≠g)(f:t≠5):w'.heap[k]?=w.heap[k]?:=by
 rw[a];exact h.cells (cs:=cs) (t:=t) a b f
theorem J9(h:w.ownsRow B E sz v n xs)(j:BW Bg w g l)(i:rE Bg g w w')(b:E≠36)(f:E≠5):w'.ownsRow B E sz v n xs:=by
 refine cZ h fun k e=>?_;obtain⟨cs,a⟩:=EZ h k e;exact O8 i a (j.ne a b) f
theorem wS{t:List ae}(h:aS B w v t)(hw:BW Bg w g l)(hr:rE Bg g w w'):aS B w' v t:=J9 h hw hr (by decide) (by decide)
theorem Jq.wr(h:Jq B w v R)(i:BW Bg w g l)(f:rE Bg g w w'):Jq B w' v R:=by
 obtain⟨D,a,b,c⟩:=h;exact⟨D,a,J9 b i f (by decide) (by decide),fun d hd=>wS (c d hd) i f⟩
theorem Ee:∀(D:List (kE×aB)) (j:Nat) (h:j<D.length),(D.flatMap oF)[j*2]?=aw (dS D[j].1)/\(D.flatMap oF)[j*2+1]?=aw (ao ar D[j].2.dep)
 |p::l,0,_=>by simp[oF]
 | p::l,j+1,h=>by
  have ih:=Ee l j (by simpa using h);have e1:(j+1)*2=j*2+2:=by omega
  rw[e1]
  simpa [oF] using ih
theorem Jq.get{c:Nat}(h:Jq B w (an a n c) R)(u:j<R.length) :
  ∃b,∃s:kE,a=aw ⟨b,0,aq⟩/\b<w.heap.size/\aS B w (dS s) R[j].toks/\w.cell? ⟨b,j*2,aq⟩=aw (dS s)/\w.cell? ⟨b,j*2+1,aq⟩=aw (ao ar R[j].dep):=by
 obtain⟨D,rfl,Aa,z⟩:=h;rw[cW] at u;have Ab:=cy Aa;obtain⟨C,f⟩:=Aa;rcases f with ⟨f,v⟩|⟨g,cap,i,f,H,A,v,F,G,x⟩
 .omega
 .cases f
  obtain⟨k,o⟩:=Ee D j u;rw[<-x,j7,E4 (by omega)] at k o;rw[ju];refine⟨g,D[j].1,rfl,(Ab g rfl).2,z D[j] (cH u),?_,?_⟩
  all_goals rw[cell_of_row w g _ i 68 (0,0) A]
  .simpa using k
  .simpa using o
def CB(B:Nat)(w:cd):Prop:=∀W,cj B w W->Tab W
theorem CB.go(h:CB B w)(hb:cj B w w'):CB B w':=fun W hW=>h W (hb.trans hW)
theorem CB.out(h:CB B w):Tab w:=h w (ba _ _)
theorem UV(s:E7):KO (scan (bs s) 0)=fJ s.data.toList:=rfl
structure Dn(r:aB):Prop where
 d:0<=r.dep/\r.dep<=1000000
 l:r.toks.length<=1000000
 s:(dw r.toks r.ind 0 r.toks.length).length<=1000000
theorem Mh(r:aB):r.eq<=r.toks.length:=by
 unfold aB.eq
 cases h:gK r.toks with
 |none=>exact ck _
 |some i=>exact Nat.le_of_lt (iq h).2
theorem Dn.head(h:Dn r):(bz r).length<=1000000:=dy (Hm (Mh r)) h.s
theorem Tryz.infoStrZ:(Tryz.prog.info? 9).map (fun i=>(i.zero,i.size,i.bytes))=aw (aw (al ⟨#[]⟩),1,16):=by kernel_rfl
theorem Tryz.infoIntZ:(Tryz.prog.info? 3).map (fun i=>(i.zero,i.size,i.bytes))=aw (aw (ao ar 0),1,8):=by kernel_rfl
theorem MQ(a:k<R.length):kU (R.take (k+1))=max (kU (R.take k)) (fJ (bz R[k])):=by
 unfold kU;rw[e9 a,List.foldl_append];rfl
theorem uu(l:Bs):fJ l<=l.length:=by
 unfold fJ;split
 .have:=Ar (nb l).length (nb l) 0 lz
  rw[kr] at this;exact this
 .omega
theorem zY(h:r∈R):fJ (bz r)<=kU R:=by
 have c:∀(l:List aB) (a:Nat),a<=l.foldl (fun m r=>max m (fJ (bz r))) a/\∀x∈l,fJ (bz x)<=l.foldl (fun m r=>max m (fJ (bz r))) a:=by
  intro l
  induction l with
  |nil=>intro a;exact⟨cA _,fun x hx=>by cases hx⟩
  |cons y l ih=>
   intro a;obtain⟨d,b⟩:=ih (max a (fJ (bz y)));rw[List.foldl_cons];refine⟨by omega,fun x hx=>?_⟩;rcases cL.1 hx with rfl|hx
   .omega
   .exact b x hx
 exact (c R 0).2 r h
theorem EE(h:∀r∈R,Dn r):kU R<=1000000:=by
 have c:∀(l:List aB) (a:Nat),a<=1000000->(∀r∈l,Dn r)->l.foldl (fun m r=>max m (fJ (bz r))) a<=1000000:=by
  intro l
  induction l with
  |nil=>intro a b _;exact b
  |cons r l ih=>
   intro a b h;refine ih _ ?_ (fun x hx=>h x (by simp[hx]));have f:=uu (bz r);have g:=(h r (by simp)).head;show max a (fJ (bz r))<=1000000;omega
 exact c R 0 (by omega) h
structure F5(B B0 g:Nat)(w:cd)(hb:Nat)(M N:Array cq)(rb:Nat)(s:kE)(dep:Int)(toks:List ae)(L:Bs)(W:cd):Prop where
 bw:BW B W g L
 m:aa W hb M 9
 n:aa W (hb+1) N 3
 r:aa W rb #[dS s,ao ar dep] 68
 t:aS B0 W (dS s) toks
 p:rE B g w W
section
variable {B B0 g hb rb:Nat} {w W W':cd} {M N:Array cq} {s:kE} {dep:Int} {toks:List ae} {L L':Bs}
theorem F5.wr(h:F5 B B0 g w hb M N rb s dep toks L W)(hw:BW B W' g L')(hp:rE B g W W'):F5 B B0 g w hb M N rb s dep toks L' W':=
 ⟨hw,hp.cells h.m (h.bw.ne h.m (by decide)) (by decide),hp.cells h.n (h.bw.ne h.n (by decide)) (by decide),hp.cells h.r (h.bw.ne h.r (by decide)) (by decide),wS h.t h.bw hp,h.p.trans hp⟩
theorem F5.below(h:F5 B B0 g w hb M N rb s dep toks L W)(hq:cj W.heap.size W W'):F5 B B0 g w hb M N rb s dep toks L W':=
 h.wr (h.bw.below hq) (rE.of hq (by have:=h.bw.lt;have:=h.bw.1;omega))
theorem F5.put(h:F5 B B0 g w hb M N rb s dep toks L W)(k:List E7)(q:L.length+(jJ k).length<=1000000000)(u:k.length<=10) :
  cJ bh 29 #[cx (aw ⟨g,0,aq⟩),an (aw ⟨W.heap.size,0,aq⟩) k.length k.length] (W.alloc (aE (k.map fx).toArray 9)) fun e w'=>e=bk (dr #[])/\F5 B B0 g w hb M N rb s dep toks (L++jJ k) w':=by
 have f:=h.below ((ba _ W).alloc lz (aE (k.map fx).toArray 9));refine (zJ k f.bw (aa.new W _ _) q u).mono ?_;rintro _ w' ⟨rfl,i,j⟩;exact⟨rfl,f.wr i j⟩
end
theorem Oa(c:k<R.length):(R.take (k+1)).flatMap (ib W)=(R.take k).flatMap (ib W)++ib W R[k]:=by
 rw[e9 c,fp];simp
theorem S9(k:Nat):((R.take k).flatMap (ib W)).length<=(R.flatMap (ib W)).length:=by
 conv=>rhs;rw[<-el k R,fp,cm]
 omega
structure Ws(R:List aB)(k:Nat)(M N:Array cq):Prop where
 m:M.size=R.length
 n:N.size=R.length
 h:∀j (h:j<R.length),j<k->M[j]?=aw (al (au (bz R[j])))/\N[j]?=aw (ao ar (fJ (bz R[j]):Nat))
theorem OT{B0:Nat}(R:List aB)(v:cq)(hW:BW B w g l)(hR:Jq B0 w v R)(hF:∀r∈R,Dn r/\(gK r.toks).isSome=true)(hn:R.length<=1000000)(hl:l.length+(pI R).length<=500000000)(hT:CB B w) :
  cJ bh 27 #[cx (aw ⟨g,0,aq⟩),v] w fun e w'=>e=bk (dr #[])/\BW B w' g (l++pI R)/\rE B g w w':=by
 obtain⟨ra,rc,rfl,AA,Au⟩:=hR.len;unfold cV at Au;have hB:B<=w.heap.size:=by have:=hW.lt;have:=hW.1;omega
 have H0:=Jh hW (cE hR hT);have HF:=Hh hF;have HL:=Hh hl;clear hW hR hT hF hl;go_in;go_wp2_with (with_reducible first|refine l8 ?_)
 refine Stop.out ?_;refine q8 rfl _ _ _ rfl 9 16 1 _ Tryz.underlying46 Tryz.infoStrZ _ _ R.length rfl rfl (by omega) (by unfold cV;omega) ?_;rintro M0 w1 hM0 rfl;rw[Nat.mul_one] at hM0;go_wp2_with (with_reducible first|refine l8 ?_)
 refine Stop.out ?_;refine q8 rfl _ _ _ rfl 3 8 1 _ Tryz.underlying27 Tryz.infoIntZ _ _ R.length rfl rfl (by omega) (by unfold cV;omega) ?_;rintro N0 w2 hN0 rfl;rw[Nat.mul_one] at hN0;have AN:cj w.heap.size w (w.alloc (aE M0 9)):=(ba _ w).alloc lz _;have AO:=AN.alloc (by simp) (aE N0 3);have AA:=(aa.new w M0 9).alloc (aE N0 3);have Au:=aa.new (w.alloc (aE M0 9)) N0 3;simp only[cF] at Au;have HS:=Jh AO (cE AA (cE Au (cE hM0 hN0)));clear AN AO AA Au hM0 hN0;go_wp2;go_loopw [6,20] (fun wd i wr=>∃(k:Nat) (M N:Array cq),k<=R.length/\i=ao ar (k:Int)/\wd=ao ar (kU (R.take k):Nat)/\Ws R k M N/\aa wr w.heap.size M 9/\aa wr (w.heap.size+1) N 3/\cj w.heap.size w wr) (fun _ i _=>R.length-(cR i).toNat)
 .exact⟨0,M0,N0,ck _,rfl,rfl,⟨HS.out.2.2.2.1,HS.out.2.2.2.2,fun j _ h=>by omega⟩,HS.out.2.1,HS.out.2.2.1,HS.out.1⟩
 clear HS;obtain⟨k,M,N,hk,rfl,rfl,hH,hM,hN,hb⟩:=hrel;have Bl:=hb.size;have Bg:=hM.lt;have Bh:=hN.lt
 by_cases hkl:k<R.length
 .have Ar:=H0.out.2.1.wr H0.out.1 (rE.of hb hB)
  obtain⟨b,s,rfl,Bb,Ab,q0,q1⟩:=Ar.get hkl;obtain⟨sa,sn,sc⟩:=s;obtain⟨Ac,At⟩:=HF.out R[k] (cH hkl);have Ax:=MQ hkl
  have Aj:gK R[k].toks=aw R[k].eq:=by
   unfold aB.eq;obtain⟨i,hi⟩:=rB.1 At;rw[hi];rfl
  have AR:=Mh R[k];have AC:kU R<=1000000:=EE (fun r hr=>(HF.out r hr).1);have AH:Hid (∀j (h:j<R.length),j=k->R[j]=R[k]):=Hh (fun j h e=>by subst e;rfl);generalize R[k]=r at *
  have Am:∀W,cj wr.heap.size wr W->cJ bh 28 #[ew #[an sa sn sc,ao ar r.dep]] W fun e w'=>e=bk (ao ar (r.eq:Nat))/\cj W.heap.size W w':=fun W hW=>by
   have:=Al W _ r.toks r.dep ((Ab.below hW lz).toks) Ac.l;rw[Aj] at this;exact this
  have A1:∀W,cj wr.heap.size wr W->cJ bh 30 #[ew #[an sa sn sc,ao ar r.dep],ao ar 0,ao ar (r.eq:Nat)] W fun e w'=>e=bk (al (au (bz r)))/\cj W.heap.size W w':=fun W hW=>
   vC W _ r.toks r.dep 0 r.eq ((Ab.below hW lz).toks) Ac.d (ck _) AR Ac.l (by have:=Ac.head;show (bz r).length<=_;omega)
  have AP:=uu (bz r);have AQ:=Ac.head;have Ah:Hid (KO (scan (bs (au (bz r))) 0)=fJ (bz r)/\(au (bz r)).size=(bz r).length):=Hh ⟨rfl,by show (bz r).toArray.size=_;simp⟩;have A8:=fun W (hW:cj w.heap.size w W)=>EA (au (bz r)) W ((H0.out.2.2.go (hW.mono hB)).out) (by rw[Ah.out.2];omega);rw[Ah.out.1] at A8;have HI:=Jh hH (cE hM (cE hN hb));have HW:=Hh Ax;generalize (scan (bs (au (bz r))) 0).2.isNone=vb at *
  have AW:Hid (∀(hm:k<M.size) (hn:k<N.size),Ws R (k+1) (M.set k (al (au (bz r))) hm) (N.set k (ao ar (fJ (bz r):Nat)) hn)):=Hh (fun hm hn=>by
   refine⟨by simpa using hH.m,by simpa using hH.n,fun j hj hjk=>?_⟩
   by_cases e:j=k
   .subst e
    rw[AH.out j hj rfl];simp
   .rw[gi _ (fun q=>e q.symm),gi _ (fun q=>e q.symm)]
    exact hH.h j hj (by omega))
  generalize au (bz r)=hd at *;generalize fJ (bz r)=cn at *;generalize r.eq=eq at *;generalize r.dep=dep at *;have A3:k<M.size:=by rw[hH.m];exact hkl
  have AB:k<N.size:=by rw[hH.n];exact hkl
  have i1:(0:Int)<=(k:Int):=by omega
  have i2:(k:Int)<(R.length:Int):=by omega
  have Bm:kU (R.take k)<=1000000:=EE (fun x hx=>(HF.out x (mu hx)).1);clear Ar Ab Ac At Aj AR hH hM hN hb AH Ax;simp only[dS] at q0;have Ai:cj wr.heap.size wr (wr.alloc (aE #[an sa sn sc,ao ar dep] 68)):=(ba _ wr).alloc lz _;have AI:=aa.new wr #[an sa sn sc,ao ar dep] 68;have HA:=Jh Ai AI;have H5:Hid (∀W,cj wr.heap.size wr W->aa W w.heap.size M 9/\aa W (w.heap.size+1) N 3/\cj w.heap.size w W):=Hh fun W hW=>⟨HI.out.2.1.below hW HI.out.2.1.lt,HI.out.2.2.1.below hW HI.out.2.2.1.lt,av HI.out.2.2.2 hW⟩;clear Ai AI AC;go_upto_region 6 with fail
  obtain⟨g0,g1⟩:=HA.out.2.m2 rfl;have AT:=HA.out.1.drew;go_cut [] (fun wc=>∃w6,cj wr.heap.size wr w6/\aa w6 wr.heap.size #[an sa sn sc,ao ar dep] 68/\wc=w6.setCell ⟨w.heap.size,k,aq⟩ (al hd))
  case first=>
   go_region_held3 (fun w'=>w'.cell? ⟨wr.heap.size,0,aq⟩=aw (an sa sn sc)/\w'.cell? ⟨wr.heap.size,1,aq⟩=aw (ao ar dep)) (first|(with_reducible exact⟨g0,g1⟩)|(with_reducible exact⟨g70,g71⟩)|(with_reducible exact⟨g60,g61⟩)|(with_reducible exact⟨g50,g51⟩)|go_keep) (first
    |(go_at_call 30;(with_reducible refine (A1 _ hx5).mono ?_);rintro _ w6 ⟨rfl,hb6⟩;have Ay:=av hx5 hb6;have Az:=hy5.below hb6 hy5.lt;obtain⟨g60,g61⟩:=Az.m2 rfl;have AE:=(H5.out w6 Ay).1;have Bi:=AE.lt;have c6:=AE.cell k _ (pS A3);have f6:=AE.frozen k;have AU:=Az.setOther ⟨w.heap.size,k,aq⟩ (al hd) (by show w.heap.size≠wr.heap.size;omega);have g70:=AU.cell 0 _ rfl;have g71:=AU.cell 1 _ rfl)
    |(go_at_call 28;(with_reducible refine (Am _ AT).mono ?_);rintro _ w5 ⟨rfl,hb5⟩;have hx5:=av AT hb5;have hy5:=HA.out.2.drew.below hb5 HA.out.2.lt;have g50:=hy5.cell 0 _ rfl;have g51:=hy5.cell 1 _ rfl))
   all_goals
    go_wp2_with fail;go_meet
    exact⟨w6,Ay,Az,rfl⟩
  obtain⟨w6,Ay,Az,rfl⟩:=hcut;have h6:=H5.out w6 Ay;have A0:=h6.1.set k A3 (al hd);have An:=h6.2.1.setOther ⟨w.heap.size,k,aq⟩ (al hd) (by show w.heap.size≠w.heap.size+1;omega);have hb6:=h6.2.2.setCell (p:=⟨w.heap.size,k,aq⟩) lz (al hd);have H6:=Jh A0 (cE An hb6);have c6:=A0.cell k (al hd) (by simp);have d6:=An.cell k _ (pS AB);have e6:=An.frozen k;have l6:=A0.lt;have l7:=An.lt;have Ak:=A8 _ hb6;have Bn:max ((kU (R.take k):Nat):Int) ((cn:Nat):Int)=((kU (R.take (k+1)):Nat):Int):=by rw[HW.out];omega
  clear Ay Az h6 A0 An hb6 H5 A8 Am A1;go_wp2_with fail;refine Ak.mono ?_;rintro _ _ ⟨rfl,rfl⟩;clear Ak;go_wp2;go_roundw
  .exact⟨k+1,_,_,hkl,by go_num,rfl,AW.out A3 AB,H6.out.1.setOther ⟨w.heap.size+1,k,aq⟩ _ (by show w.heap.size+1≠w.heap.size;omega),H6.out.2.1.set k AB _,H6.out.2.2.setCell (p:=⟨w.heap.size+1,k,aq⟩) (by show w.heap.size<=w.heap.size+1;omega) _⟩
  simp[cR];omega
 .obtain rfl:k=R.length:=by omega
  rw[eR];have A9:=rE.of (g:=g) hb hB;have H1:=Jh (H0.out.1.below hb) (cE (H0.out.2.1.wr H0.out.1 A9) (cE (H0.out.2.2.go (hb.mono hB)) A9));have HM:=Jh hH (cE hM hN);have AC:kU R<=1000000:=EE (fun r hr=>(HF.out r hr).1);have As:pI R=R.flatMap (ib (kU R)):=rfl;have A5:=Hh As;obtain⟨WD,A2⟩:=exq (kU R);rw[<-A2] at A5 AC ⊢;have Bf:=Hh A2;have AV:Hid (∀j (h:j<R.length),fJ (bz R[j])<=WD):=Hh (fun j h=>by rw[A2];exact zY (cH h));clear hH hM hN hb A9 As A2 hkl hk;obtain⟨wq,AD⟩:=exq wr;have HQ:=Hh AD;rw[<-AD] at H1 HM;clear AD;go_wp2;go_loopw [52] (fun i wr=>∃(k:Nat),k<=R.length/\i=ao ar (k:Int)/\BW B wr g (l++(R.take k).flatMap (ib WD))/\rE B g wq wr) (fun i _=>R.length-(cR i).toNat)
  .exact⟨0,ck _,rfl,by rw[fz,List.flatMap_nil,eI,<-HQ.out];exact H1.out.1,by rw[<-HQ.out];exact rE.refl _ _ _⟩
  obtain⟨k,hk,rfl,Af,hp⟩:=hrel
  by_cases hkl:k<R.length
  .have Ar:=H1.out.2.1.wr H1.out.1 hp
   obtain⟨b,s,rfl,Bb,Ab,q0,q1⟩:=Ar.get hkl;obtain⟨sa,sn,sc⟩:=s;obtain⟨Ac,At⟩:=HF.out R[k] (cH hkl)
   have Aj:gK R[k].toks=aw R[k].eq:=by
    unfold aB.eq;obtain⟨i,hi⟩:=rB.1 At;rw[hi];rfl
   have Ae:=(iq Aj).2;obtain⟨tb,Aa,rfl,Be,-,-,-⟩:=Ab.toks.get Ae;obtain⟨m0,n0⟩:=HM.out.1.h k hkl hkl;have Bc:=AV.out k hkl;have Av:=Oa (W:=WD) hkl;have Ag:=S9 (R:=R) (W:=WD) (k+1);have Ba:=HL.out;rw[A5.out] at Ba;have AP:=uu (bz R[k]);have AQ:=Ac.head
   have A4:sn=R[k].toks.length:=by
    obtain⟨a',c',e'⟩:=Ab.len;simp only[dS,fS] at e';exact e'.2.1
   have AJ:ib WD R[k]=bz R[k]++(iR (WD-fJ (bz R[k])+1)++(kG (R[k].toks[R[k].eq]'Ae)++(dw R[k].toks R[k].ind (R[k].eq+1) R[k].toks.length++[10]))):=by
    unfold ib;rw[br Ae];rfl
   rw[AJ] at Av
   have AM:F5 B B0 g wq w.heap.size M N wr.heap.size (aw ⟨tb,Aa,aq⟩,sn,sc) R[k].dep R[k].toks (l++(R.take k).flatMap (ib WD)) (wr.alloc (aE #[an (aw ⟨tb,Aa,aq⟩) sn sc,ao ar R[k].dep] 68)):=by
    have Ai:cj wr.heap.size wr (wr.alloc (aE #[an (aw ⟨tb,Aa,aq⟩) sn sc,ao ar R[k].dep] 68)):=(ba _ wr).alloc lz _;refine⟨Af.below Ai,(hp.cells HM.out.2.1 (H1.out.1.ne HM.out.2.1 (by decide)) (by decide)).alloc _,(hp.cells HM.out.2.2 (H1.out.1.ne HM.out.2.2 (by decide)) (by decide)).alloc _,aa.new _ _ _,Ab.below Ai lz,hp.trans (rE.of Ai (by have:=Af.lt;have:=Af.1;omega))⟩
   have hX:∀W L,F5 B B0 g wq w.heap.size M N wr.heap.size (aw ⟨tb,Aa,aq⟩,sn,sc) R[k].dep R[k].toks L W->W.cell? ⟨tb,Aa+R[k].eq*3+1,aq⟩=aw (al R[k].toks[R[k].eq].text)/\tb<W.heap.size:=fun W L h=>by
    obtain⟨b',o',e',AY,-,AZ,-⟩:=h.t.toks.get Ae;cases e'
    exact⟨AZ,AY⟩
   have Am:∀W L,F5 B B0 g wq w.heap.size M N wr.heap.size (aw ⟨tb,Aa,aq⟩,sn,sc) R[k].dep R[k].toks L W->cJ bh 28 #[ew #[an (aw ⟨tb,Aa,aq⟩) sn sc,ao ar R[k].dep]] W fun e w'=>e=bk (ao ar (R[k].eq:Nat))/\F5 B B0 g wq w.heap.size M N wr.heap.size (aw ⟨tb,Aa,aq⟩,sn,sc) R[k].dep R[k].toks L w':=fun W L h=>by
    have:=Al W _ R[k].toks R[k].dep h.t.toks Ac.l;rw[Aj] at this;refine this.mono ?_;rintro _ w' ⟨rfl,hb'⟩;exact⟨rfl,h.below hb'⟩
   have AS:(dw R[k].toks R[k].ind (R[k].eq+1) R[k].toks.length).length<=500000000:=by
    have:=Ag;rw[Av] at this;simp only[cm] at this;omega
   have A1:∀W L,F5 B B0 g wq w.heap.size M N wr.heap.size (aw ⟨tb,Aa,aq⟩,sn,sc) R[k].dep R[k].toks L W->cJ bh 30 #[ew #[an (aw ⟨tb,Aa,aq⟩) sn sc,ao ar R[k].dep],ao ar ((R[k].eq:Int)+1),ao ar (sn:Nat)] W fun e w'=>e=bk (al (au (dw R[k].toks R[k].ind (R[k].eq+1) R[k].toks.length)))/\F5 B B0 g wq w.heap.size M N wr.heap.size (aw ⟨tb,Aa,aq⟩,sn,sc) R[k].dep R[k].toks L w':=fun W L h=>by
    rw[A4,show ((R[k].eq:Int)+1)=((R[k].eq+1:Nat):Int) by omega];have h2:=h;rw[A4] at h2;refine (vC W _ R[k].toks R[k].dep (R[k].eq+1) R[k].toks.length h2.t.toks Ac.d Ae lz Ac.l AS).mono ?_;rintro _ w' ⟨rfl,hb'⟩;rw[A4] at h;exact⟨rfl,h.below hb'⟩
   have A7:Hid (((R.take k).flatMap (ib WD)).length+((bz R[k]).length+((WD-fJ (bz R[k])+1)+((R[k].toks[R[k].eq]'Ae).text.data.toList.length+((dw R[k].toks R[k].ind (R[k].eq+1) R[k].toks.length).length+1))))<=(R.flatMap (ib WD)).length):=Hh (by
    have:=Ag;rw[Av] at this
    simpa [iR] using this)
   have AF:Hid ((R.take (k+1)).flatMap (ib WD)=(R.take k).flatMap (ib WD)++(bz R[k]++(iR (WD-fJ (bz R[k])+1)++((R[k].toks[R[k].eq]'Ae).text.data.toList++(dw R[k].toks R[k].ind (R[k].eq+1) R[k].toks.length++[10]))))):=Hh Av;have AX:=Hh AM;have Bd:R[k].eq<sn:=by omega
   have Bk:sn<=1000000:=by have:=Ac.l;omega
   have Ah:Hid ((au (bz R[k])).data.toList=bz R[k]):=Hh rfl;have AG:Hid ((au (dw R[k].toks R[k].ind (R[k].eq+1) R[k].toks.length)).data.toList=dw R[k].toks R[k].ind (R[k].eq+1) R[k].toks.length):=Hh rfl;clear Ar Ab At Aj Av Ag A4 AJ AM AS Ac hp Af;generalize R[k].toks=toks at *;generalize R[k].ind=ind at *;generalize bz R[k]=HB at *;generalize R[k].dep=dep at *;generalize R[k].eq=eq at *;generalize toks[eq].text=tx at *;generalize dw toks ind (eq+1) toks.length=PB at *;generalize au HB=hd at *;generalize au PB=pr at *;generalize fJ HB=cn at *;obtain⟨Ad,Aw⟩:=exq (WD-cn+1);have k5:eC.i64.wrap ((WD:Int)-(cn:Int))=(WD:Int)-(cn:Int):=cU _ (by omega);have k6:eC.i64.wrap ((WD:Int)-(cn:Int)+1)=(Ad:Int):=by rw[cU _ (by omega)];omega
   rw[<-Aw] at A7 AF;have Bj:Ad<=1000001:=by omega
   have Aq:=fun W=>JI Ad W (by omega);have A6:Hid ((O0 Ad).data.toList=iR Ad/\(O0 Ad).size=Ad):=Hh ⟨rfl,Ap Ad⟩;generalize O0 Ad=sp at *;simp only[dS] at q0;have A3:=HM.out.1.m;have i1:(0:Int)<=(k:Int):=by omega
   have i2:(k:Int)<(R.length:Int):=by omega
   have i3:(0:Int)<=(eq:Int):=by omega
   have i4:(eq:Int)<(sn:Int):=by omega
   clear Ae Be Bd Bc AP AQ Aw;go_wp2_with fail;refine (Am _ _ AX.out).mono ?_;rintro _ w4 ⟨rfl,h4⟩;have H4:=Hh h4;have a0:=h4.m.cell k _ m0;have a1:=h4.n.cell k _ n0;have a2:=h4.r.cell 0 (an (aw ⟨tb,Aa,aq⟩) sn sc) rfl;have a3:=h4.r.cell 1 _ rfl;obtain⟨a4,a5⟩:=hX _ _ h4;have a6:=h4.m.lt;have a7:=h4.n.lt;have a8:=h4.r.lt;have H5:Hid (∀W,cj w4.drew.heap.size w4.drew W->F5 B B0 g wq w.heap.size M N wr.heap.size (aw ⟨tb,Aa,aq⟩,sn,sc) dep toks (l++(R.take k).flatMap (ib WD)) W):=Hh fun W hW=>H4.out.below (((ba _ w4).drew).trans hW)
   have Ao:∀W,F5 B B0 g wq w.heap.size M N wr.heap.size (aw ⟨tb,Aa,aq⟩,sn,sc) dep toks (l++(R.take k).flatMap (ib WD)) W->cJ bh 29 #[cx (aw ⟨g,0,aq⟩),an (aw ⟨W.heap.size,0,aq⟩) 3 3] (W.alloc (aE #[al hd,al sp,al tx] 9)) fun e w'=>e=bk (dr #[])/\F5 B B0 g wq w.heap.size M N wr.heap.size (aw ⟨tb,Aa,aq⟩,sn,sc) dep toks ((l++(R.take k).flatMap (ib WD))++jJ [hd,sp,tx]) w':=fun W h=>h.put [hd,sp,tx] (by
    have e:(jJ [hd,sp,tx]).length=HB.length+(Ad+tx.data.toList.length):=by simp[jJ,Ah.out,A6.out.1,iR]
    have:=A7.out;rw[e,cm]
    omega) (by simp)
   clear h4 Am;go_upto_region 14 with fail
   go_cut [] (fun wc=>F5 B B0 g wq w.heap.size M N wr.heap.size (aw ⟨tb,Aa,aq⟩,sn,sc) dep toks ((l++(R.take k).flatMap (ib WD))++jJ [hd,sp,tx]) wc)
   case first=>
    go_region_held3 (fun w'=>w'.cell? ⟨w.heap.size,k,aq⟩=aw (al hd)/\w'.cell? ⟨w.heap.size+1,k,aq⟩=aw (ao ar (cn:Nat))/\w'.cell? ⟨wr.heap.size,0,aq⟩=aw (an (aw ⟨tb,Aa,aq⟩) sn sc)/\w'.cell? ⟨tb,Aa+eq*3+1,aq⟩=aw (al tx)) (first|(with_reducible exact⟨a0,a1,a2,a4⟩)|(with_reducible exact⟨g60,g61,g62,g64⟩)|(with_reducible exact⟨g50,g51,g52,g54⟩)|go_keep) (first
     |(go_at_call 29;(refine (Ao _ hx5).mono ?_);rintro _ w6 ⟨rfl,h6⟩;have g60:=h6.m.cell k _ m0;have g61:=h6.n.cell k _ n0;have g62:=h6.r.cell 0 (an (aw ⟨tb,Aa,aq⟩) sn sc) rfl;have g64:=(hX _ _ h6).1)
     |(go_at_call 55;(with_reducible refine (Aq _).mono ?_);rintro _ w5 ⟨rfl,hb5⟩;have hx5:=H5.out w5 hb5;have g50:=hx5.m.cell k _ m0;have g51:=hx5.n.cell k _ n0;have g52:=hx5.r.cell 0 (an (aw ⟨tb,Aa,aq⟩) sn sc) rfl;obtain⟨g54,z5⟩:=hX _ _ hx5;have z6:=hx5.m.lt;have z7:=hx5.n.lt;have z8:=hx5.r.lt))
    all_goals
     go_wp2_with fail;go_meet
     exact h6
   have h7:=hcut;have a2:=h7.r.cell 0 (an (aw ⟨tb,Aa,aq⟩) sn sc) rfl;have a3:=h7.r.cell 1 _ rfl;have a8:=h7.r.lt;have AL:=A1 _ _ h7;clear hcut h7 Ao H5 Aq a0 a1 a4 a5 a6 a7;go_wp2_with fail;refine AL.mono ?_;rintro _ w8 ⟨rfl,h8⟩
   have AK:=h8.put [pr,⟨#[10]⟩] (by
    have e1:(jJ [hd,sp,tx]).length=HB.length+(Ad+tx.data.toList.length):=by simp[jJ,Ah.out,A6.out.1,iR]
    have e2:(jJ [pr,⟨#[10]⟩]).length=PB.length+1:=by simp[jJ,AG.out]
    have:=A7.out;rw[e2,cm,cm,e1]
    omega) (by simp)
   clear AL h8;go_wp2_with fail;refine AK.mono ?_;rintro _ w9 ⟨rfl,h9⟩
   have HN:Hid (BW B w9 g (l++(R.take (k+1)).flatMap (ib WD))/\rE B g wq w9):=Hh ⟨by
    have e:l++(R.take (k+1)).flatMap (ib WD)=(l++(R.take k).flatMap (ib WD))++jJ [hd,sp,tx]++jJ [pr,⟨#[10]⟩]:=by
     rw[AF.out];simp[jJ,Ah.out,A6.out.1,AG.out]
    rw[e]
    exact h9.bw,h9.p⟩
   clear AK h9;go_wp2;go_roundw
   .exact⟨k+1,hkl,by go_num,HN.out.1,HN.out.2⟩
   simp[cR];omega
  .obtain rfl:k=R.length:=by omega
   rw[eR] at Af;have HN:Hid (BW B wr g (l++pI R)/\rE B g w wr):=Hh ⟨by rw[A5.out];exact Af,H1.out.2.2.2.trans hp⟩;clear Af hp;go_wp2_with fail;refine gh (v:=dr #[]) (by simp[cD,Tryz.results27,go_sem]) rfl ?_;exact⟨rfl,HN.out.1,HN.out.2⟩
def nQ(r:List ae):Nat:=(r.map fun t=>1+(kG t).length).sum
def Lg(l:List (List ae)):Nat:=(l.map nQ).sum
theorem wo(a b:List ae):nQ (a++b)=nQ a+nQ b:=by simp[nQ]
theorem kS(t:ae)(r:List ae):nQ (t::r)=1+(kG t).length+nQ r:=by simp[nQ]
theorem rH(r:List ae)(l:List (List ae)):Lg (r::l)=nQ r+Lg l:=by simp[Lg]
theorem ED(r:List ae):r.length<=nQ r:=by
 induction r with
 |nil=>exact cA _
 |cons t r ih=>rw[kS,bc];omega
theorem R4{r:List ae}(h:t∈r):(kG t).length<=nQ r:=by
 induction r with
 |nil=>cases h
 |cons u r ih=>
  rw[kS];rcases cL.1 h with rfl|h
  .omega
  .have:=ih h;omega
theorem Fv:∀(k:Nat) (l:Bs) (p:Nat),l.length<=k->nQ (aC l p).1<=2*l.length
 | 0,l,p,h=>by
  obtain rfl:=cC (Nat.le_zero.1 h);exact cA _
 |k+1,[],p,_=>cA _
 | k+1,c::r,p,h=>by
  simp only[bc] at h
  by_cases hb:aN c=true
  .rw[bV hb]
   have:=Fv k r (p+1) (by omega);simp only[bc];omega
  .have hb':aN c=false:=by simpa using hb
   cases ho:dY (c::r) with
   |bad off e=>rw[fw hb' ho];simp[nQ]
   |tok kd sz=>
    rw[dE hb' ho];have i:=dC ho;have:=Fv k ((c::r).drop sz) (p+sz) (by rw[bm,bc];omega);rw[bm] at this;rw[kS];simp only[kG,au,c8,bc] at this i ⊢;omega
theorem AQ(size:Int):∀(toks cur:List ae) (fr o:Int),Lg ((gF size toks cur fr o).map (·.toks))<=nQ cur+nQ toks/\(gF size toks cur fr o).length<=toks.length+1/\∀r∈gF size toks cur fr o,r.toks.length<=cur.length+toks.length
 | [],cur,fr,o=>by
  rw[gF];split
  .refine⟨by simp[Lg,mo],by simp,fun r hr=>?_⟩
   rw[de.1 hr];simp[mo]
  .exact⟨by simp[Lg],by simp,fun r hr=>by cases hr⟩
 | t::toks,cur,fr,o=>by
  rw[gF,kS,bc];split
  .obtain⟨h1,h2,h3⟩:=AQ size toks [] (t.pos+1) (dn o cur)
   rw[cI,rH,bc];have e:(mo o cur fr t.pos).toks=cur:=rfl;rw[e];refine⟨by simp only[nQ,ke,E2] at h1 ⊢;omega,by omega,fun r hr=>?_⟩;rcases cL.1 hr with rfl|hr
   .rw[e];omega
   .have:=h3 r hr;simp only[cY] at this;omega
  .obtain⟨h1,h2,h3⟩:=AQ size toks (cur++[t]) fr o
   rw[wo,kS] at h1;refine⟨by simp only[nQ,ke,E2] at h1 ⊢;omega,by omega,fun r hr=>?_⟩;have:=h3 r hr;simp only[cm,bc,cY] at this;omega
theorem mH(l:Bs):Lg ((aA l).map (·.toks))<=2*l.length/\(aA l).length<=l.length+1/\∀r∈aA l,r.toks.length<=l.length:=by
 unfold aA mK;split
 .have h:=AQ l.length (aC l 0).1 [] 0 0
  have b:=Fv l.length l 0 lz;have c:=oh l.length l 0 lz;refine⟨?_,?_,fun r hr=>?_⟩
  .have:=h.1
   simp only[nQ,ke,E2] at this b ⊢;simp only[if_true] at this ⊢;omega
  .have:=h.2.1;simp only[if_true] at this ⊢;omega
  .have:=h.2.2 r (by simpa using hr)
   simp only[cY] at this;omega
 .exact⟨by simp[Lg],by simp,fun r hr=>by cases hr⟩
theorem I1:∀l:List (List ae),Lg (bq l)=Lg l
 |[]=>rfl
 |[]::l=>by rw[bq,rH,I1 l];simp[nQ]
 |(t::q)::l=>rfl
theorem UD(r:List ae)(l:List (List ae)):nQ (rf r l).1+Lg (rf r l).2<=nQ r+Lg l:=by
 unfold rf;split
 .cases hd:bq l with
  |nil=>exact cA _
  |cons x q=>
   have h:=I1 l;rw[hd,rH] at h;simp only;split
   .simp only[wo];omega
   .exact cA _
 .exact cA _
theorem FP:∀(n:Nat) (gap:Bool) (l:List (List ae)),(∀f∈eu n gap l,nQ f.toks<=Lg l)/\(eu n gap l).length<=l.length
 |0,_,l=>⟨fun f hf=>(by cases hf),ck _⟩
 |n+1,_,[]=>⟨fun f hf=>(by cases hf),ck _⟩
 | n+1,gap,[]::l=>by
  obtain⟨h1,h2⟩:=FP n true l;rw[eu];exact⟨fun f hf=>by have:=h1 f hf;rw[rH];omega,by simp only[bc];omega⟩
 | n+1,gap,(t::q)::l=>by
  obtain⟨h1,h2⟩:=FP n false (rf (t::q) l).2;have h3:=UD (t::q) l;have h4:=Fx (t::q) l;rw[eu,rH];refine⟨fun f hf=>?_,by simp only[bc];omega⟩;rcases cL.1 hf with rfl|hf
  .simp only;omega
  .have:=h1 f hf;omega
theorem LQ{M:Nat}:∀(l:List rG) (d:Int) (pv:Option Bool),(∀f∈l,nQ f.toks<=M)->(∀r∈iL l d pv,nQ r.toks<=M)/\(iL l d pv).length<=2*l.length
 |[],_,_,_=>⟨fun r hr=>(by cases hr),cA _⟩
 | f::l,d,pv,h=>by
  obtain⟨h1,h2⟩:=LQ l (dn d f.toks) (aw (jy f.toks)) fun g hg=>h g (by simp[hg]);rw[iL,cm,bc,bc];refine⟨fun r hr=>?_,?_⟩
  .rcases cX.1 hr with hr|hr
   .split at hr
    .rw[de.1 hr];simp[nQ]
    .cases hr
   .rcases cL.1 hr with rfl|hr
    .exact h f (by simp)
    .exact h1 r hr
  .split
   .simp only[eh];omega
   .simp only[cY];omega
theorem wC(l:List (List ae)):(∀r∈di l,nQ r.toks<=Lg l)/\(di l).length<=2*l.length:=by
 unfold di;have h:=FP l.length false l;have b:=LQ (eu l.length false l) 0 aq h.1;exact⟨b.1,by omega⟩
theorem rZ(row:List ae)(ind:Nat):∀k,k<=row.length->(dw row ind 0 k).length<=ind+nQ (row.take k)
 |0,_=>by rw[yw];exact ck _
 | k+1,h=>by
  have ih:=rZ row ind k (by omega);have hk:k<row.length:=h;rw[Ho (ck _) hk,List.take_add_one,br hk,wo,cm,cm];have e:nQ (aw row[k]).toList=1+(kG row[k]).length:=by simp[nQ]
  rw[e];unfold nu;split
  .next b=>
   subst b;rw[yw];simp only[iR,ve,cY,fz];omega
  .have:=zT row k
   simp only[iR,ve];omega
theorem qL(row:List ae)(ind:Nat):(dw row ind 0 row.length).length<=ind+nQ row:=by
 have:=rZ row ind row.length lz
 rwa [eR] at this
theorem OI(l:List (Nat×ae))(k:Nat):(fu (l.drop k)).length<=(fu l).length:=by
 have:=xJ (l.take k) (l.drop k);rw[el] at this;rw[this,cm];omega
theorem P5(row:List ae)(ind fr a:Nat):(dw row ind fr a).length<=(dw row ind 0 a).length:=by
 unfold dw;rw[dd];exact OI _ _
theorem rU(h:(aT l).2.2=0):∀r∈di ((aA l).map (·.toks)),0<=r.dep/\r.dep<=64:=by
 obtain⟨d,x,g⟩:=N8 h;obtain⟨b,c⟩:=tH (jR l) [bR] [x] (by simp) (by simp) g;have j:=Ff (jR l).length false (jR l) 0 aq b c (by omega);intro r k
 have:=j (VL r) (by
  rw[<-show di (jR l)=iL (eu (jR l).length false (jR l)) (0:Nat) aq from rfl,<-R9 d]
  exact gw k)
 exact this
theorem PI(h:(aT l).2.2=0)(j:l.length<=400000):∀r∈di ((aA l).map (·.toks)),Dn r:=by
 intro r b;have c:=rU h r b;have g:=(wC ((aA l).map (·.toks))).1 r b;have f:=(mH l).1;refine⟨⟨c.1,by omega⟩,by have:=ED r.toks;omega,?_⟩;have:=qL r.toks r.ind;unfold aB.ind at this ⊢;omega
theorem Oe(j:r.ind+nQ r.toks<=M)(k:W<=M):(ib W r).length<=4*M+2:=by
 have f:=qL r.toks r.ind
 have c:(bz r).length<=M:=dy (rZ r.toks r.ind r.eq (Mh r)) (by
  have:=wo (r.toks.take r.eq) (r.toks.drop r.eq);rw[el] at this
  omega)
 have g:=P5 r.toks r.ind (r.eq+1) r.toks.length
 have i:(kG (r.toks[r.eq]?.getD ⟨0,⟨#[]⟩,0⟩)).length<=M:=by
  cases hq:r.toks[r.eq]? with
  |none=>exact ck _
  |some t=>have:=R4 (List.mem_of_getElem? hq);simp only[jz];omega
 unfold ib;simp only[cm,iR,ve,eh];omega
theorem PN(c:r.ind+nQ r.toks<=M):(zm r).length<=4*M+2:=by
 have b:=qL r.toks r.ind;unfold zm;simp only[cm,eh];omega
theorem R5(run:List aB)(h:∀r∈run,r.ind+nQ r.toks<=M):kU run<=M:=by
 unfold kU
 have g:∀(l:List aB) (a:Nat),a<=M->(∀r∈l,r.ind+nQ r.toks<=M)->l.foldl (fun m r=>max m (fJ (bz r))) a<=M:=by
  intro l
  induction l with
  |nil=>intro a b _;exact b
  |cons r l ih=>
   intro a b c;refine ih _ (Nat.max_le.2 ⟨b,?_⟩) fun q hq=>c q (by simp[hq]);have i:=c r (by simp);have f:=uu (bz r);have j:=rZ r.toks r.ind r.eq (Mh r);have:=wo (r.toks.take r.eq) (r.toks.drop r.eq);rw[el] at this;unfold bz at f ⊢;omega
 exact g run 0 (ck _) h
theorem Jf(run:List aB)(h:∀r∈run,r.ind+nQ r.toks<=M):(pI run).length<=run.length*(4*M+2):=by
 unfold pI;have b:=R5 run h;generalize kU run=W at *
 induction run with
 |nil=>exact ck _
 |cons r run ih=>
  rw[fb,cm,bc,Nat.succ_mul];have:=Oe (h r (by simp)) b;have:=ih fun q hq=>h q (by simp[hq]);omega
theorem yh{M:Nat}:∀(l run:List aB),(∀r∈l,r.ind+nQ r.toks<=M)->(∀r∈run,r.ind+nQ r.toks<=M)->(ja l run).length<=(l.length+run.length)*(4*M+2)
 |[],run,_,h=>by rw[ja,cY,df];exact Jf run h
 | r::l,run,h1,h2=>by
  have hr:=h1 r (by simp);have hl:∀q∈l,q.ind+nQ q.toks<=M:=fun q hq=>h1 q (by simp[hq]);rw[ja];split
  .have:=yh l (run++[r]) hl (fun q hq=>by
    rcases cX.1 hq with hq|hq
    .exact h2 q hq
    .rw[de.1 hq];exact hr)
   rw[cm,eh] at this;rw[bc,show l.length+1+run.length=l.length+(run.length+1) by omega];exact this
  .have e1:=Jf run h2
   have e2:=PN hr;have e3:=yh l [] hl (fun q hq=>by cases hq);rw[cY,eA] at e3;rw[cm,cm,bc,Nat.add_mul,Nat.add_mul,Nat.one_mul];omega
theorem M8(h:(aT l).2.2=0):(iC ((aA l).map (·.toks))).length<=(2*(l.length+1))*(4*(128+2*l.length)+2):=by
 have g:=mH l;have c:=wC ((aA l).map (·.toks));have f:=rU h
 have:=yh (M:=128+2*l.length) (di ((aA l).map (·.toks))) [] (fun r hr=>by
  have a:=c.1 r hr;have b:=f r hr;unfold aB.ind
  omega) (fun q hq=>by cases hq)
 rw[cY,eA] at this;unfold iC;refine dy this (vA _ ?_);have:=c.2;rw[cW] at this;omega
def Dj(r:List ae):Nat:=(r.map fun t=>(kG t).length).sum
theorem Mv(a b:List ae):Dj (a++b)=Dj a+Dj b:=by simp[Dj]
theorem xK(t:ae)(r:List ae):Dj (t::r)=(kG t).length+Dj r:=by simp[Dj]
theorem O6{r:List ae}(h:∀t∈r,kG t≠[]):nQ r<=2*Dj r:=by
 induction r with
 |nil=>exact cA _
 |cons t r ih=>
  have:=ey.2 (h t (by simp));have:=ih (fun u hu=>h u (by simp[hu]));rw[kS,xK];omega
theorem zR:∀(k:Nat) (l:Bs) (p:Nat),l.length<=k->Dj (aC l p).1<=l.length
 |_,[],p,_=>cA _
 |0,c::r,p,h=>by simp at h
 | k+1,c::r,p,h=>by
  simp only[bc] at h
  by_cases hb:aN c=true
  .rw[bV hb]
   have:=zR k r (p+1) (by omega);simp only[bc];omega
  .have hb':aN c=false:=by simpa using hb
   cases ho:dY (c::r) with
   |bad off e=>rw[fw hb' ho];simp[Dj]
   |tok kd sz=>
    rw[dE hb' ho];have i:=dC ho;have:=zR k ((c::r).drop sz) (p+sz) (by rw[bm,bc];omega);rw[bm] at this;rw[xK];simp only[kG,au,c8,bc] at this i ⊢;omega
def Kh(r:List ae):Nat:=if r=[] then 0 else Dj r+1
def CQ(l:List (List ae)):Nat:=(l.map Kh).sum
theorem fT(r:List ae)(l:List (List ae)):CQ (r::l)=Kh r+CQ l:=by simp[CQ]
theorem Qn(r:List ae):Kh r<=Dj r+1:=by unfold Kh;split<;>omega
theorem PK(l:Bs):∀(p:Nat) (o:Int),(aC l p).2.2=0->CQ ((jb (jX l) p o).map (·.toks))<=l.length+1:=by
 refine um (P:=fun l=>∀(p:Nat) (o:Int),(aC l p).2.2=0->CQ ((jb (jX l) p o).map (·.toks))<=l.length+1) ?_ ?_ l
 .intro a f p o _
  rw[oz a f,jb]
  by_cases j:a=[]
  .subst j;exact ck _
  .rw[E6 j]
   have q:=zR a.length a p lz;have k:=Qn (aC a p).1;show CQ [(aC a p).1]<=_;rw[fT];simp only[CQ,ke,E2];omega
 .intro a b f i p o h
  obtain⟨q,k,v⟩:=ql a b p h;rw[o6 a b f]
  obtain⟨x,r,u⟩:∃x r,jX b=x::r:=by
   cases hc:jX b with
   |nil=>exact absurd hc (FR b)
   |cons x r=>exact⟨x,r,rfl⟩
  have i:=i (p+a.length+1) (dn o (aC a p).1) k;rw[u] at i ⊢;rw[jb,cI,fT];have A:=zR a.length a p lz;have B:=Qn (aC a p).1;have e:(mo o (aC a p).1 p ((p+a.length:Nat):Int)).toks=(aC a p).1:=rfl;rw[e,cm,bc];omega
theorem I4:∀l:List (List ae),CQ (bq l)=CQ l
 |[]=>rfl
 |[]::l=>by rw[bq,fT,I4 l];simp[Kh]
 |(t::q)::l=>rfl
theorem UF(t:ae)(q:List ae)(l:List (List ae)):Kh (rf (t::q) l).1+CQ (rf (t::q) l).2<=Kh (t::q)+CQ l:=by
 unfold rf;split
 .cases hd:bq l with
  |nil=>exact cA _
  |cons x r=>
   have h:=I4 l;have b:=(iP hd).1;rw[hd,fT] at h;simp only;split
   .simp only[Kh,cf,reduceCtorEq,if_false,b] at h ⊢
    rw[<-cf,Mv];omega
   .exact cA _
 .exact cA _
theorem FO:∀(n:Nat) (gap:Bool) (l:List (List ae)),CQ ((eu n gap l).map (·.toks))<=CQ l/\∀f∈eu n gap l,f.toks≠[]
 |0,_,l=>⟨ck _,fun f hf=>(by cases hf)⟩
 |n+1,_,[]=>⟨ck _,fun f hf=>(by cases hf)⟩
 | n+1,gap,[]::l=>by
  obtain⟨h1,h2⟩:=FO n true l;rw[eu,fT];exact⟨by omega,h2⟩
 | n+1,gap,(t::q)::l=>by
  obtain⟨h1,h2⟩:=FO n false (rf (t::q) l).2;have h3:=UF t q l;rw[eu,fT,cI,fT];simp only;refine⟨by omega,fun f hf=>?_⟩;rcases cL.1 hf with rfl|hf
  .simp only
   unfold rf;split
   .split
    .split<;>simp
    .simp
   .simp
  .exact h2 f hf
theorem Qo:∀(F:List rG) (d:Int) (pv:Option Bool),(∀f∈F,f.toks≠[])->CQ ((iL F d pv).map (·.toks))=CQ (F.map (·.toks))/\(iL F d pv).length<=2*F.length/\((∀f∈F,2<=Kh f.toks)->2*F.length<=CQ (F.map (·.toks)))
 |[],_,_,_=>⟨rfl,cA _,fun _=>ck _⟩
 | f::F,d,pv,h=>by
  obtain⟨h1,h2,h3⟩:=Qo F (dn d f.toks) (aw (jy f.toks)) fun g hg=>h g (by simp[hg]);rw[iL,cI,fT,cm,bc,bc];refine⟨?_,?_,fun hm=>by have:=h3 fun g hg=>hm g (by simp[hg]);have:=hm f (by simp);omega⟩
  .rw[eJ,cI]
   split
   .show CQ ([]::f.toks::_)=_
    rw[fT,fT,h1];simp[Kh]
   .show CQ (f.toks::_)=_
    rw[fT,h1]
  .split
   .simp only[eh];omega
   .simp only[cY];omega
theorem LP:∀(F:List rG) (d:Int) (pv:Option Bool),∀f∈F,∃r∈iL F d pv,r.toks=f.toks
 |[],_,_=>by intro f hf;cases hf
 | g::F,d,pv=>by
  intro f hf;rw[iL];rcases cL.1 hf with rfl|hf
  .exact⟨⟨f.toks,eB d f.toks⟩,by simp,rfl⟩
  .obtain⟨r,h1,h2⟩:=LP F (dn d g.toks) (aw (jy g.toks)) f hf
   exact⟨r,by simp[h1],h2⟩
theorem Cn{g:Nat->Nat}{ind e w:Nat}(k:∀j,g j<=1+(if j=0 then ind else 0)+(if j=e then w else 0)):∀(i:Nat) (l:List ae),(fu (jP g i l)).length<=nQ l+(if i=0 then ind else 0)+(if i<=e then w else 0)
 |i,[]=>by simp[jP,fu]
 | i,t::l=>by
  have ih:=Cn k (i+1) l;have h:=k i;rw[jP,gB,cm,cm,kS];have hs:(iR (g i)).length=g i:=by simp[iR]
  show (iR (g i)).length+((kG t).length+(fu (jP g (i+1) l)).length)<=_;rw[hs];rw[E6 (show ¬i+1=0 by omega)] at ih
  by_cases b:i=e
  .subst b
   rw[E4 rfl] at h;rw[E6 (by omega)] at ih;rw[E4 lz];omega
  .rw[E6 b] at h
   by_cases c:i+1<=e
   .rw[E4 c] at ih
    rw[E4 (show i<=e by omega)];omega
   .rw[E6 c] at ih
    omega
def Vw(r:aB):Nat:=131+nQ r.toks
def sP(r:aB):Bool:=(gK r.toks).isSome
theorem Qy{x:Nat×aB}(c:x.2.ind<=128)(i:x.1<=W):(qj x).length<=Vw x.2+(if sP x.2 then W else 0):=by
 obtain⟨w,r⟩:=x;simp only at c i;unfold qj eY zt Vw sP;rw[cm,eh]
 cases he:gK r.toks with
 |none=>
  have:=Cn (g:=gW w r) (ind:=r.ind) (e:=0) (w:=0) (fun j=>by
   unfold gW nu;rw[he,E6 (by simp)];have:=zT r.toks j
   split<;>simp<;>omega) 0 r.toks
  simp at this ⊢
  omega
 |some e=>
  have:=Cn (g:=gW w r) (ind:=r.ind) (e:=e) (w:=w) (fun j=>by
   unfold gW nu;rw[he];have:=zT r.toks j
   by_cases b:e=j
   .subst b
    simp
    omega
   .rw[E6 (by intro q;cases q;exact b rfl)]
    split<;>omega) 0 r.toks
  simp at this ⊢
  omega
theorem Lh(run:List aB)(W:Nat)(h:∀r∈run,fJ (bz r)<=W):kU run<=W:=by
 have d:∀(q:List aB) (a:Nat),a<=W->(∀r∈q,fJ (bz r)<=W)->q.foldl (fun m r=>max m (fJ (bz r))) a<=W:=by
  intro q
  induction q with
  |nil=>intro a b _;exact b
  |cons r q ih=>intro a b c;exact ih _ (Nat.max_le.2 ⟨b,c r (by simp)⟩) (fun y hy=>c y (by simp[hy]))
 exact d run 0 (ck _) h
theorem Pd:∀(l run:List aB) (W:Nat),(∀r∈run++l,sP r=true->fJ (bz r)<=W)->(∀r∈run,sP r=true)->∀x∈Jo l run,x.1<=W
 | [],run,W,h,hr=>by
  intro x hx;rw[Jo] at hx;obtain⟨r,h1,rfl⟩:=j8.1 hx;exact Lh run W (fun r hm=>h r (by simp[hm]) (hr r hm))
 | r::l,run,W,h,hr=>by
  intro x hx;rw[Jo] at hx;split at hx
  .next he=>
   exact Pd l (run++[r]) W (fun y hy=>h y (by simpa using hy)) (fun y hy=>by
    rcases cX.1 hy with hy|hy
    .exact hr y hy
    .rw[de.1 hy];exact he) x hx
  .rcases cX.1 hx with hx|hx
   .obtain⟨r,h1,rfl⟩:=j8.1 hx
    exact Lh run W (fun r hm=>h r (by simp[hm]) (hr r hm))
   .rcases cL.1 hx with rfl|hx
    .exact ck _
    .exact Pd l [] W (fun y hy=>h y (by simp at hy;simp[hy])) (fun y hy=>by cases hy) x hx
theorem DU{W:Nat}:∀l:List (Nat×aB),(∀x∈l,x.2.ind<=128/\x.1<=W)->(l.flatMap qj).length<=((l.map (·.2)).map Vw).sum+((l.map (·.2)).filter sP).length*W
 |[],_=>ck _
 | x::l,h=>by
  have ih:=DU l (fun y hy=>h y (by simp[hy]));have h1:=Qy (h x (by simp)).1 (h x (by simp)).2;rw[fb,cm,cI,cI,List.sum_cons]
  cases ha:sP x.2 with
  |true=>
   rw[ha,E4 rfl] at h1;rw[e8 ha,bc,Nat.succ_mul];omega
  |false=>
   rw[ha,E6 (by decide)] at h1;rw[jx (by rw[ha];decide)];omega
theorem Rj:∀l:List aB,(∀r∈l,∀t∈r.toks,kG t≠[])->(l.map Vw).sum<=131*l.length+2*CQ (l.map (·.toks))
 |[],_=>cA _
 | r::l,h=>by
  have ih:=Rj l (fun q hq=>h q (by simp[hq]));have h1:=O6 (h r (by simp));rw[cI,List.sum_cons,cI,fT,bc];have h3:Vw r=131+nQ r.toks:=rfl
  have h2:Dj r.toks<=Kh r.toks:=by
   unfold Kh;split
   .next e=>rw[e];exact cA _
   .omega
  omega
theorem VB(h:sP r=true)(A:∀t∈r.toks,kG t≠[])(H:r.ind<=128):2<=Dj r.toks/\fJ (bz r)<=128+2*(Dj r.toks-1):=by
 obtain⟨e,i⟩:=rB.1 h;have Aa:=iq i;have Ab:r.eq=e:=by unfold aB.eq;rw[i];rfl
 have x:r.toks=r.toks.take e++r.toks[e]::r.toks.drop (e+1):=by rw[<-cg Aa.2,el]
 have o:=congrArg Dj x;rw[Mv,xK] at o;have C:=ey.2 (A r.toks[e] (cH Aa.2));have E:=O6 (r:=r.toks.take e) (fun t q=>A t (mu q));have k:=ED (r.toks.take e);rw[c8] at k;have F:=rZ r.toks r.ind e (by omega);have c:=uu (bz r);unfold bz at c ⊢;rw[Ab] at c ⊢;omega
theorem MB:∀l:List aB,(∀r∈l,sP r=true->2<=Dj r.toks/\fJ (bz r)<=128+2*(Dj r.toks-1))->(∀r∈l,sP r=true->r.toks≠[])->
  ∃W,(∀r∈l,sP r=true->fJ (bz r)<=W)/\((l.filter sP).length=0\/∃b,2<=b/\W<=128+2*(b-1)/\3*((l.filter sP).length-1)+(b+1)<=CQ (l.map (·.toks)))
 |[],_,_=>⟨0,(fun r hr=>by cases hr),.inl rfl⟩
 | r::l,h,h0=>by
  obtain⟨W,h1,h2⟩:=MB l (fun q hq=>h q (by simp[hq])) (fun q hq=>h0 q (by simp[hq]))
  cases ha:sP r with
  |false=>
   refine⟨W,fun q hq hqa=>?_,?_⟩
   .rcases cL.1 hq with rfl|hq
    .rw[ha] at hqa;cases hqa
    .exact h1 q hq hqa
   .rw[jx (by rw[ha];decide),cI,fT]
    rcases h2 with h2|⟨b,q1,q2,q3⟩
    .exact .inl h2
    .exact .inr ⟨b,q1,q2,by omega⟩
  |true=>
   obtain⟨g1,g2⟩:=h r (by simp) ha;have hm:Kh r.toks=Dj r.toks+1:=by unfold Kh;rw[E6 (h0 r (by simp) ha)]
   rcases h2 with h2|⟨b,q1,q2,q3⟩
   .have f:∀q∈l,sP q=false:=fun q hq=>by
     cases hqa:sP q with
     |false=>rfl
     |true=>
      have:q∈l.filter sP:=List.mem_filter.2 ⟨hq,hqa⟩;rw[cC h2] at this;cases this
    refine⟨fJ (bz r),fun q hq hqa=>?_,.inr ⟨Dj r.toks,g1,g2,?_⟩⟩
    .rcases cL.1 hq with rfl|hq
     .exact cA _
     .rw[f q hq] at hqa;cases hqa
    .rw[e8 ha,bc,cI,fT,hm]
     omega
   .refine⟨max W (fJ (bz r)),fun q hq hqa=>?_,.inr ?_⟩
    .rcases cL.1 hq with rfl|hq
     .exact Nat.le_max_right _ _
     .exact dy (h1 q hq hqa) (Nat.le_max_left _ _)
    .rw[e8 ha,bc,cI,fT,hm]
     by_cases i:W<=fJ (bz r)
     .exact⟨Dj r.toks,g1,by rw[Nat.max_eq_right i];exact g2,by omega⟩
     .exact⟨b,q1,by rw[Nat.max_eq_left (by omega)];exact q2,by omega⟩
theorem Sn(A:2<=b)(B:W<=128+2*(b-1))(C:3*(k-1)+(b+1)<=n)(D:n<=1501):k*W<=500000:=by
 have z:b<=1500:=by omega
 have p:3*k<=n+2-b:=by omega
 have u:3*(k*W)<=(n+2-b)*(126+2*b):=by
  rw[<-Nat.mul_assoc];exact Nat.mul_le_mul p (by omega)
 have v:(n+2-b)*(126+2*b)<=(1503-b)*(126+2*b):=vA _ (by omega)
 have x:(1503-b)*(126+2*b)<=1500000:=by
  obtain⟨c,j⟩:=exq (1503-b);have e:126+2*b=3132-2*c:=by omega
  rw[<-j,e]
  by_cases h:c<=783
  .obtain⟨d,g⟩:∃d,c+d=783:=⟨783-c,by omega⟩
   have:3132-2*c=1566+2*d:=by omega
   rw[this];have f:c*(1566+2*d)=2*(c*(783+d)):=by rw[Nat.mul_left_comm];congr 1;omega
   have i:c*(783+d)<=783*783:=by
    have:c=783-d:=by omega
    rw[this,Nat.mul_comm,<-wj];omega
   rw[f];omega
  .obtain⟨d,g⟩:∃d,c=783+d:=⟨c-783,by omega⟩
   have:3132-2*c=1566-2*d:=by omega
   rw[this,g]
   by_cases o:d<=783
   .have f:(783+d)*(1566-2*d)=2*((783+d)*(783-d)):=by rw[Nat.mul_left_comm];congr 1;omega
    have i:(783+d)*(783-d)<=783*783:=by
     rw[<-wj];omega
    rw[f];omega
   .have:1566-2*d=0:=by omega
    rw[this];omega
 omega
theorem Ag(h:(aT l).2.2=0)(hl:l.length<=1500):(iC ((aA l).map (·.toks))).length<=750000:=by
 obtain⟨I,h2,h3,-⟩:=vB h;have F:=Kk h;have Ab:=rU h;have Af:=PK l 0 0 F;rw[<-fK F] at Af;generalize (aA l).map (·.toks)=L at *;obtain⟨s1,s2⟩:=nR L
 have Aa:∀r∈di L,(∀t∈r.toks,kG t≠[])/\r.ind<=128:=fun r hr=>by
  refine⟨fun t ht=>?_,by have:=Ab r hr;unfold aB.ind;omega⟩;rw[<-s2] at hr;obtain⟨x,v,rfl⟩:=j8.1 hr;obtain⟨c,q,e,-⟩:=pX ((I x v).1.told t ht);rw[e];simp
 obtain⟨e1,E⟩:=FO L.length false L;obtain⟨V,m2,m3⟩:=Qo (eu L.length false L) 0 aq E;have H:di L=iL (eu L.length false L) 0 aq:=rfl;rw[<-H] at V m2;have N:CQ ((di L).map (·.toks))<=1501:=by omega
 have Ai:=m3 fun f hf=>by
  obtain⟨r,hr,e⟩:=LP _ 0 aq f hf;rw[<-H] at hr;have Ac:=E f hf;unfold Kh;rw[E6 Ac]
  cases hft:f.toks with
  |nil=>exact absurd hft Ac
  |cons t q=>
   have:=ey.2 ((Aa r hr).1 t (by rw[e,hft];simp));rw[xK];omega
 have Ae:(di L).length<=1501:=by omega
 obtain⟨W,w1,D⟩:=MB (di L) (fun r hr ha=>VB ha (Aa r hr).1 (Aa r hr).2) (fun r hr ha e=>by
  unfold sP at ha;rw[e] at ha
  cases ha)
 have S:=Pd (di L) [] W (fun r hr=>w1 r (by simpa using hr)) (fun r hr=>by cases hr);have J:=DU (W:=W) (lT L) (fun x v=>⟨(Aa x.2 (by rw[<-s2];exact gw v)).2,S x v⟩);rw[<-s1,s2] at J;have Ah:=Rj (di L) (fun r hr=>(Aa r hr).1)
 have Aj:((di L).filter sP).length*W<=500000:=by
  rcases D with D|⟨b,Y,Z,q3⟩
  .rw[D];omega
  .exact Sn Y Z (dy q3 N) lz
 have Ad:131*(di L).length+2*CQ ((di L).map (·.toks))<=131*1501+2*1501:=by omega
 omega
def cQ(r:aB):Nat:=fJ (bz r)
def fV:List (aB×Nat)->Int->Bool->Bool
 |[],_,near=>near
 | x::Z,col,near=>if sP x.1 then decide (1<=x.2)&&(decide (((cQ x.1+x.2:Nat):Int)=if col<0 then ((cQ x.1+x.2:Nat):Int) else col)&&
   fV Z (if col<0 then ((cQ x.1+x.2:Nat):Int) else col) ((if col<0 then false else near) || decide (x.2=1)))
  else near&&fV Z (-1) true
def wZ(x:aB×Nat):Nat×aB:=(if sP x.1 then cQ x.1+x.2-1 else 0,x.1)
theorem Ul{run:List aB}(h:∀r∈run,cQ r<=W)(c:∃r∈run,cQ r=W):kU run=W:=by
 refine Nat.le_antisymm (Lh run W h) ?_;obtain⟨r,b,e⟩:=c;have:=zY b;unfold cQ at e;omega
structure F6(run:List (aB×Nat))(C:Nat)(near:Bool):Prop where
 ne:run≠[]
 at_:∀x∈run,sP x.1=true
 col:∀x∈run,cQ x.1+x.2=C/\1<=x.2
 nr:near=true->∃x∈run,x.2=1
theorem F6.flush{run:List (aB×Nat)}{C:Nat}(h:F6 run C true):(run.map (·.1)).map (fun r=>(kU (run.map (·.1)),r))=run.map wZ:=by
 obtain⟨c,Aa,g⟩:=h.nr rfl;have i:=h.col c Aa
 have f:kU (run.map (·.1))=C-1:=by
  refine Ul (fun r hr=>?_) ⟨c.1,gw Aa,by omega⟩;obtain⟨x,b,rfl⟩:=j8.1 hr;have:=h.col x b;omega
 rw[f,ix];refine List.map_congr_left fun x b=>?_;have:=h.col x b;unfold wZ;rw[E4 (h.at_ x b)];simp only[Function.comp];rw[this.1]
theorem F6.snoc{run:List (aB×Nat)}{C:Nat}{near:Bool}(h:F6 run C near){x:aB×Nat}(f:sP x.1=true)(g:cQ x.1+x.2=C)(b:1<=x.2):F6 (run++[x]) C (near || decide (x.2=1)):=by
 refine⟨by simp,fun y hy=>?_,fun y hy=>?_,fun hn=>?_⟩
 .rcases cX.1 hy with hy|hy
  .exact h.at_ y hy
  .rw[de.1 hy];exact f
 .rcases cX.1 hy with hy|hy
  .exact h.col y hy
  .rw[de.1 hy];exact⟨g,b⟩
 .rw[gd] at hn
  rcases hn with hn|hn
  .obtain⟨y,hy,e⟩:=h.nr hn
   exact⟨y,by simp[hy],e⟩
  .exact⟨x,by simp,of_decide_eq_true hn⟩
theorem F6.one{x:aB×Nat}(ha:sP x.1=true)(h1:1<=x.2):F6 [x] (cQ x.1+x.2) (decide (x.2=1)):=
 ⟨by simp,fun y hy=>by rw[de.1 hy];exact ha,fun y hy=>by rw[de.1 hy];exact⟨rfl,h1⟩,fun hn=>⟨x,by simp,of_decide_eq_true hn⟩⟩
theorem qC:∀(Z run:List (aB×Nat)) (C:Nat) (near:Bool),(run=[]/\fV Z (-1) true=true)\/(F6 run C near/\fV Z C near=true)->Jo (Z.map (·.1)) (run.map (·.1))=(run++Z).map wZ
 | [],run,C,near,h=>by
  rw[ke,Jo,eI];rcases h with ⟨rfl,-⟩|⟨hr,hn⟩
  .rfl
  .rw[fV] at hn
   subst hn;exact hr.flush
 | x::Z,run,C,near,h=>by
  rw[cI,Jo]
  cases ha:sP x.1 with
  |true=>
   have ha2:(gK x.1.toks).isSome=true:=ha;rw[E4 ha2];have e:run.map (·.1)++[x.1]=(run++[x]).map (·.1):=by simp
   have b:run++x::Z=run++[x]++Z:=by simp
   rw[e,b];rcases h with ⟨rfl,hn⟩|⟨hr,hn⟩
   .rw[fV,E4 ha] at hn
    simp only[cP,decide_eq_true_eq] at hn;rw[E4 (by decide),E4 (by decide),j0] at hn;exact qC Z _ _ _ (.inr ⟨F6.one ha hn.1,hn.2.2⟩)
   .rw[fV,E4 ha] at hn
    simp only[cP,decide_eq_true_eq] at hn;rw[E6 (by omega),E6 (by omega)] at hn;exact qC Z _ C _ (.inr ⟨hr.snoc ha (by omega) hn.1,hn.2.2⟩)
  |false=>
   have ha2:¬(gK x.1.toks).isSome=true:=by
    have:(gK x.1.toks).isSome=false:=ha;rw[this];decide
   rw[E6 ha2];have f:wZ x=(0,x.1):=by unfold wZ;rw[E6 (by rw[ha];decide)]
   rw[eJ,cI,f];rcases h with ⟨rfl,hn⟩|⟨hr,hn⟩
   .rw[fV,E6 (by rw[ha];decide),ie] at hn
    have:=qC Z [] 0 true (.inl ⟨rfl,hn⟩);rw[ke,cM] at this;rw[this];rfl
   .rw[fV,E6 (by rw[ha];decide),cP] at hn
    obtain⟨rfl,hn⟩:=hn;have:=qC Z [] 0 true (.inl ⟨rfl,hn⟩);rw[ke,cM] at this;rw[this,hr.flush]
def zW(x:Nat×aB):aB×Nat:=(x.2,x.1-cQ x.2+1)
theorem Jb{W:Nat}(rest:List (aB×Nat)):∀(q:List aB) (near:Bool),(∀r∈q,sP r=true/\cQ r<=W)->fV ((q.map fun r=>zW (W,r))++rest) ((W+1:Nat):Int) near=fV rest ((W+1:Nat):Int) (near || q.any fun r=>decide (cQ r=W))
 |[],near,_=>by simp
 | r::q,near,h=>by
  obtain⟨h1,h2⟩:=h r (by simp);rw[cI,cf,fV];have e:cQ (zW (W,r)).1+(zW (W,r)).2=W+1:=by unfold zW;simp only;omega
  have i:sP (zW (W,r)).1=true:=h1;rw[E4 i,e,E6 (by omega),E6 (by omega),decide_eq_true rfl,ie,decide_eq_true (show 1<=(zW (W,r)).2 by unfold zW;simp),ie,Jb rest q _ (fun x hx=>h x (by simp[hx])),th]
  have f:decide ((zW (W,r)).2=1)=decide (cQ r=W):=by
   unfold zW;refine decide_eq_decide.2 ⟨fun q=>?_,fun q=>?_⟩<;>simp only at *<;>omega
  rw[f,Bool.or_assoc]
theorem Es(run:List aB)(rest:List (aB×Nat))(h:∀r∈run,sP r=true)(k:fV rest (-1) true=true)(D:∀x Z,rest=x::Z->sP x.1=false):fV ((run.map fun r=>zW (kU run,r))++rest) (-1) true=true:=by
 have Aa:∀C:Int,fV rest C true=true:=fun C=>by
  cases rest with
  |nil=>rfl
  |cons x Z=>
   have i:=D x Z rfl;rw[fV,E6 (by rw[i];decide)] at k ⊢;exact k
 cases run with
 |nil=>exact k
 |cons r q=>
  obtain⟨W,j⟩:=exq (kU (r::q));have Ab:∀x∈r::q,cQ x<=W:=fun x i=>by rw[j];exact zY i
  have Ac:(r::q).any (fun x=>decide (cQ x=W))=true:=by
   cases hany:(r::q).any (fun x=>decide (cQ x=W)) with
   |true=>rfl
   |false=>
    exfalso
    rw[List.any_eq_false] at hany
    have Ad:∀x∈r::q,cQ x<=W-1/\cQ x≠W:=fun x i=>by
     have v:=Ab x i;have A:¬cQ x=W:=by simpa using hany x i
     omega
    have:=Lh (r::q) (W-1) (fun x i=>(Ad x i).1);rw[<-j] at this;have Ae:=Ad r (by simp);have:W=0:=by omega
    omega
  rw[<-j,cI,cf,fV];have v:=Ab r (by simp);have e:cQ (zW (W,r)).1+(zW (W,r)).2=W+1:=by unfold zW;simp only;omega
  have z:sP (zW (W,r)).1=true:=h r (by simp);rw[E4 z,e,E4 (by decide),E4 (by decide),decide_eq_true rfl,ie,decide_eq_true (show 1<=(zW (W,r)).2 by unfold zW;simp),ie,j0,Jb rest q _ (fun x i=>⟨h x (by simp[i]),Ab x (by simp[i])⟩)]
  have u:decide ((zW (W,r)).2=1)=decide (cQ r=W):=by
   unfold zW;refine decide_eq_decide.2 ⟨fun q=>?_,fun q=>?_⟩<;>simp only at *<;>omega
  rw[u,<-th (f:=fun x=>decide (cQ x=W)),Ac];exact Aa _
theorem xW:∀(l run:List aB),(∀r∈run,sP r=true)->fV ((Jo l run).map zW) (-1) true=true
 | [],run,h=>by
  rw[Jo,ix];have:=Es run [] h rfl (fun x Z e=>by cases e)
  rwa [eI] at this
 | r::l,run,h=>by
  rw[Jo]
  by_cases he:(gK r.toks).isSome=true
  .rw[E4 he]
   exact xW l (run++[r]) (fun x hx=>by
    rcases cX.1 hx with hx|hx
    .exact h x hx
    .rw[de.1 hx];exact he)
  .rw[E6 he,eJ,ix,cI]
   have ha:sP r=false:=by
    cases hq:sP r with
    |false=>rfl
    |true=>exact absurd hq he
   refine Es run _ h ?_ (fun x Z e=>by cases e;exact ha);have b:(zW (0,r)).1=r:=rfl;rw[fV,b,E6 (by rw[ha];decide),ie];exact xW l [] (fun x hx=>by cases hx)
theorem qG(k:Nat):(iR k).length=k:=by simp[iR]
theorem FV{b:Bs}{n:Int}(h:qA b n=true):b=iR n.toNat/\0<=n:=by
 unfold qA at h;rw[cP,decide_eq_true_eq,decide_eq_true_eq] at h;have g:b.count 32=b.length:=by omega
 rw[List.count_eq_length] at g;refine⟨?_,by omega⟩;unfold iR;refine List.eq_replicate_iff.2 ⟨by omega,fun c hc=>(g c hc).symm⟩
theorem EL(k:Nat):qA (iR k) k=true:=by
 unfold qA;rw[qG,decide_eq_true rfl,ie];unfold iR;rw[List.count_replicate_self,decide_eq_true rfl]
theorem vH(l:Bs)(r:aK):∀(m i:Nat),iZ l r m i=true↔∀j,i<=j->j<i+m->(j:Int)=KI r\/qA (lQ l r j) (lF r.toks j)=true
 | 0,i=>by
  rw[iZ];exact⟨fun _ j h1 h2=>by omega,fun _=>rfl⟩
 | m+1,i=>by
  rw[iZ,cP,gd,decide_eq_true_eq,vH l r m (i+1)];constructor
  .rintro⟨h1,h2⟩ j hj hj2
   by_cases e:j=i
   .subst e;exact h1
   .exact h2 j (by omega) (by omega)
  .intro h
   exact⟨h i lz (by omega),fun j h1 h2=>h j (by omega) (by omega)⟩
theorem Ld(g:Nat->Nat):∀(toks:List ae) (k:Nat) (segs:List Bs),segs.length=toks.length+1->(∀j,j<toks.length->segs[j]?=aw (iR (g (k+j))))->segs[toks.length]?=aw []->uD segs toks=fu (jP g k toks)
 | [],k,segs,hl,_,h=>by
  cases segs with
  |nil=>simp at hl
  |cons s ss=>
   simp at h
   subst h;rfl
 | t::r,k,segs,hl,h,he=>by
  cases segs with
  |nil=>simp at hl
  |cons s ss=>
   have h0:=h 0 (by simp);simp at h0
   subst h0
   rw[uD,jP,gB,Ld g r (k+1) ss (by simpa using hl) (fun j hj=>by
    have:=h (j+1) (by simpa using hj);rw[ft] at this;rw[this]
    congr 2
    congr 1
    omega) (by simpa using he)]
structure lY(l:Bs)(r:aK):Prop where
 seg:CE l r.hi r.lo r.toks
 cut:∃q a z:Bs,l=q++(a++z)/\r.lo=(q.length:Nat)/\r.hi=((q.length+a.length:Nat):Int)/\uD (eX l r.hi r.lo r.toks) r.toks=a
theorem lY.of{q a z:Bs}(i:l=q++(a++z))(h:(aC a q.length).2.2=0):lY l (mo o (aC a q.length).1 (q.length:Nat) ((q.length+a.length:Nat):Int)):=by
 have:=xg a.length a q z q.length lz lz h (by rw[fg lz];intro c b;cases b);rw[<-i,fg lz,cM] at this;exact⟨this.1,q,a,z,i,rfl,rfl,this.2⟩
theorem lY.text{r:aK}(h:lY l r){g:Nat->Nat}(hg:∀i,i<r.toks.length->lQ l r i=iR (g i))(he:lQ l r r.toks.length=[]):uD (eX l r.hi r.lo r.toks) r.toks=fu (jP g 0 r.toks):=
 Ld g r.toks 0 _ (Dv _ _ _ _) (fun j hj=>by rw[kX l r j (by omega),hg j hj,df]) (by rw[kX l r _ lz,he])
def Ou:List Bs->List ae->Nat->Bs
 |s::ss,t::r,i+1=>s++(kG t++Ou ss r i)
 |s::_,_,_=>s
 |[],_,_=>[]
theorem O4:∀(segs:List Bs) (toks:List ae) (i:Nat),i<toks.length->∃rest,uD segs toks=Ou segs toks i++rest
 |[],toks,i,_=>⟨[],by cases toks<;>rfl⟩
 |s::ss,[],i,h=>by simp at h
 |s::ss,t::r,0,_=>⟨_,rfl⟩
 | s::ss,t::r,i+1,h=>by
  obtain⟨rest,e⟩:=O4 ss r i (by simpa using h);exact⟨rest,by rw[uD,Ou,e];simp⟩
theorem sK{a b:Int}(c:0<=a)(f:a<=b)(g:b<=l.length):((kQ l a b).length:Int)=b-a:=by
 unfold kQ;rw[bm,c8];omega
theorem QU{l:Bs}{hi:Int}:∀(toks:List ae) (fr:Int) (i:Nat) (h:i<toks.length),CE l hi fr toks->((Ou (eX l hi fr toks) toks i).length:Int)=toks[i].pos-fr
 |[],_,_,h,_=>by simp at h
 | t::r,fr,0,_,h=>by
  exact sK h.1 h.2.1 h.2.2.1
 | t::r,fr,i+1,h,hk=>by
  have ih:=QU r (t.pos+(t.text.size:Int)) i (by simpa using h) hk.2.2.2.2;have h1:=sK hk.1 hk.2.1 hk.2.2.1;rw[eX,Ou,cm,cm]
  have e:((kG t).length:Int)=(t.text.size:Int):=by
   have:=aM t.text;unfold kG;omega
  rw[List.getElem_cons_succ];omega
theorem QV(g:Nat->Nat):∀(toks:List ae) (k:Nat) (segs:List Bs) (i:Nat),i<toks.length->(∀j,j<=i->segs[j]?=aw (iR (g (k+j))))->Ou segs toks i=fu (jP g k (toks.take i))++iR (g (k+i))
 |[],_,_,_,h,_=>by simp at h
 | t::r,k,segs,0,_,h=>by
  have h0:=h 0 lz
  cases segs with
  |nil=>simp at h0
  |cons s ss=>
   simp at h0
   subst h0;rfl
 | t::r,k,segs,i+1,hi,h=>by
  have h0:=h 0 (ck _)
  cases segs with
  |nil=>simp at h0
  |cons s ss=>
   simp at h0
   subst h0
   rw[Ou,List.take_succ_cons,jP,gB,QV g r (k+1) ss i (by simpa using hi) (fun j hj=>by
    have:=h (j+1) (by omega);rw[ft] at this;rw[this]
    congr 3
    omega)]
   simp only[ef]
   congr 4
   congr 1
   omega
theorem lY.col{r:aK}(h:lY l r){g:Nat->Nat}{i:Nat}(hi:i<r.toks.length)(G:∀j,j<=i->lQ l r j=iR (g j)):kQ l r.lo (jh r i)=fu (jP g 0 (r.toks.take i))++iR (g i):=by
 obtain⟨q,a,z,C,v,E,x⟩:=h.cut;obtain⟨Ab,B⟩:=O4 (eX l r.hi r.lo r.toks) r.toks i hi;have F:=QU r.toks r.lo i hi h.seg;have f:=QV g r.toks 0 (eX l r.hi r.lo r.toks) i hi (fun j hj=>by rw[kX l r j (by omega),G j hj,df]);rw[df] at f;have Aa:jh r i=r.toks[i].pos:=by unfold jh;rw[br hi];rfl
 rw[<-f,Aa];generalize Ou (eX l r.hi r.lo r.toks) r.toks i=A at *;have e:r.toks[i].pos=((q.length+A.length:Nat):Int):=by omega
 rw[e,v,uq,C,<-x,B,ef];rw[zD (k:=A.length) (by simp),List.drop_left,eR]
def Vd(b:Bs):Prop:=(scan (nb b) 0).2=aq
theorem Vd.app{a b:Bs}(c:Vd a)(f:Vd b):Vd (a++b)/\fJ (a++b)=fJ a+fJ b:=by
 unfold Vd at c f;have h:=yR (nb a).length (nb a) (nb b) 0 lz (gN a) c;have i:=Aq (nb b).length (nb b) 0 (nb a).length lz;rw[i,<-vN] at h;have g:(scan (nb (a++b)) 0).2=aq:=by rw[h,f];rfl
 refine⟨g,?_⟩;unfold fJ;rw[g,c,f];simp only[Option.isNone_none,if_true];rw[h];simp
theorem zZ:∀b:Bs,(∀c∈b,c.toNat<128)->Vd b/\fJ b=b.length
 |[],_=>⟨rfl,rfl⟩
 | c::b,h=>by
  have hc:=h c (by simp);have ih:=zZ b (fun x hx=>h x (by simp[hx]));have h1:scan (fQ c.toNat) 0=([(0,c.toNat)],aq):=Py (by rw[dF];omega) 0;have h2:fQ c.toNat=nb [c]:=by unfold fQ;rw[E4 hc];rfl
  rw[h2] at h1;have g:Vd [c]:=by unfold Vd;rw[h1]
  have f:fJ [c]=1:=by unfold fJ;rw[h1];rfl
  have:=g.app ih.1;rw[List.singleton_append] at this;refine⟨this.1,?_⟩;rw[this.2,f,ih.2,bc,Nat.add_comm]
theorem Dp(k:Nat):Vd (iR k)/\fJ (iR k)=k:=by
 have:=zZ (iR k) (fun c hc=>by rw[List.eq_of_mem_replicate hc];decide)
 rwa [qG] at this
theorem IB{c:UInt8}(h:Ky c=true):c.toNat<128:=by
 unfold Ky lC dg Mo at h;simp only[gd,decide_eq_true_eq] at h;omega
theorem Ma:∀r:Bs,uF r=r.length->∀c∈r,Ky c=true
 |[],_,c,hc=>by cases hc
 | x::r,h,c,hc=>by
  rw[uF] at h;split at h
  .next hx=>
   rcases cL.1 hc with rfl|hc
   .exact hx
   .exact Ma r (by simpa using h) c hc
  .simp at h
theorem R7(E:xP t)(h:t.kind=1\/t.kind=7):Vd (kG t):=by
 obtain⟨c,r,Aa,k,e,z,D,f⟩:=E;rw[e] at f ⊢
 have Ab:∀(q:Bs) (k2 m:Nat),gp q k2=.tok k m->k=k2:=fun q k2 m h=>by
  unfold gp at h;split at h
  .cases h
  .injection h with h _;exact h.symm
 rw[cf] at f;rw[dY] at f;split at f
 .next j=>
  injection f with _ hn
  have hi:=FC r Aa (by simp only[bc] at hn;omega);refine (zZ (c::r) fun x hx=>?_).1;rcases cL.1 hx with rfl|hx
  .exact IB (by unfold Ky;rw[j];rfl)
  .exact IB (Ma r hi x hx)
 split at f
 .exfalso
  unfold nA at f;split at f
  .injection f with q _;omega
  .cases f
 split at f
 .exfalso
  unfold oG at f;split at f
  .injection f with q _;omega
  .cases f
 split at f
 .exfalso;injection f with q _;omega
 split at f
 .exfalso;have:=Ab _ _ _ f;omega
 split at f
 .unfold eT at f
  split at f
  .cases f
  .next m u=>
   split at f
   .cases f
   .have Ac:(c::r).length=m+4:=by
     have Ad:=oZ _ _ u;rw[bm] at Ad;unfold gp at f;split at f
     .cases f
     .injection f with _ hn
      rw[c8] at hn;omega
    have Ae:((c::(r++Aa)).take (m+4))=c::r:=by rw[<-Ac,<-cf,List.take_left]
    rw[Ae] at f;unfold gp at f;split at f
    .cases f
    .next g=>
     unfold CO at g;split at g
     .cases g
     .split at g
      .cases g
      .next v=>exact v
 split at f
 .cases f
 .exfalso;injection f with q _;omega
theorem EG(g:Nat->Nat):∀(l:List ae) (k:Nat),(∀t∈l,Vd (kG t))->Vd (fu (jP g k l))
 |[],_,_=>rfl
 | t::l,k,h=>by
  rw[jP,gB];exact ((Dp _).1.app ((h t (by simp)).app (EG g l (k+1) fun u hu=>h u (by simp[hu]))).1).1
end Go.Proofs.YtgmpmolfcaihfaaGreatDoor
