/- Laws that TidyWell rests on; conditions: those that each names. -/
import Derived.Test.YtgmpmolfcaihfaaGreatDoorWgc
set_option linter.unusedSimpArgs false
set_option linter.unusedVariables false
set_option maxRecDepth 100000
set_option maxHeartbeats 20000000
open And renaming intro→cE
open Bool renaming and_eq_true→cP,and_true→ot,not_eq_true→D4,or_eq_true→gd,or_true→qv,true_or→ur
open Go renaming World→cd,bodyPost_ret→bj,results→cD
open Go.IntKind renaming i64→ar
open Go.Lib renaming trimRightS→iu
open Go.Obj renaming cells→aE
open Go.Proofs.Tryz renaming results212→mj
open Go.RowKit.Below renaming refl→ba
open Go.Value renaming agg→ew,int→ao,slice→an,string→al,tuple→dr
open List renaming append_assoc→ef,append_nil→eI,concat_eq_append→hU,cons_append→cf,dropWhile_cons_of_neg→sD,drop_append_of_le_length→eo,drop_drop→c4,drop_eq_nil_of_le→ek,drop_left→gR,drop_length→ei,drop_succ_cons→ec,drop_zero→dd,eq_nil_of_length_eq_zero→cC,eq_nil_or_concat→gS,filter_append→r8,filter_cons_of_neg→jx,filter_cons_of_pos→e8,flatten_cons→re,getElem?_append_right→eK,getElem?_cons_zero→fs,getElem?_eq_getElem→br,getElem?_map→lR,getLast?_append→qT,getLast?_concat→eM,getLast?_eq_none_iff→s9,head?_cons→nj,length_append→cm,length_cons→bc,length_drop→bm,length_map→cW,length_nil→cY,length_pos_iff→ey,length_singleton→eh,length_take→c8,length→fh,map_append→eJ,map_cons→cI,map_drop→rp,map_map→ix,map_take→rj,mem_append→cX,mem_cons→cL,mem_singleton→de,nil_append→cM,not_mem_nil→fW,replicate_succ→tg,singleton_append→fc,take_add→od,take_left→fl,take_of_length_le→eS,take_succ_cons→cN,take_take→mz,take_zero→fz
open List.cons renaming injEq→fY
open Nat renaming add_comm→eV,add_zero→eA,le_of_lt→ph,le_refl→cA,le_zero→pj,min_eq_left→nh,zero_add→df
open Option renaming none→aq,some→aw
open Option.some renaming injEq→du
namespace Go.Proofs.YtgmpmolfcaihfaaGreatDoor
open Go.RowKit Go.Tab
variable{s:Bs}{v w:E7}{s2 stop:Int}{l m p r x y:List ae}{k n:Nat}{c:UInt8}{w':cd}{a b t:ae}{g:gq}{f:iA->Nat->gq}
theorem DI(s:E7):(lm s=aq/\∃x e,Bf (Bh (bs s))=dr #[al x,ao ar e]/\e≠0)\/∃x,lm s=aw x/\Bf (Bh (bs s))=dr #[al x,ao ar 0]:=by
 have o:bs s=nb s.data.toList:=rfl;have q:yP (nb s.data.toList):=gN _;have r:(nb s.data.toList).length=s.size:=by rw[<-o,ay]
 unfold lm Bh Bf;rw[o]
 by_cases c:(aW (nb s.data.toList)).2.2=0
 .have u:=(kg q c).2
  have Aa:¬(aW (nb s.data.toList)).2.2≠0:=fun h=>h c
  by_cases k:(aW (nb s.data.toList)).2.1=s.size
  .right
   have i:¬(aW (nb s.data.toList)).2.1<(nb s.data.toList).length:=by omega
   rw[E4 ⟨c,k⟩,E6 Aa,E6 i];exact⟨_,rfl,rfl⟩
  .left
   have i:(aW (nb s.data.toList)).2.1<(nb s.data.toList).length:=by omega
   have j:¬((aW (nb s.data.toList)).2.2=0/\(aW (nb s.data.toList)).2.1=s.size):=fun h=>k h.2;rw[E6 j,E6 Aa,E4 i];exact⟨rfl,_,_,rfl,by decide⟩
 .left
  have j:¬((aW (nb s.data.toList)).2.2=0/\(aW (nb s.data.toList)).2.1=s.size):=fun h=>c h.1;rw[E6 j,E4 c];exact⟨rfl,_,_,rfl,by simp only;omega⟩
structure Pm(w0:cd)(q tb g:Nat)(t:ae)(w:cd):Prop where
 rs:Rs w0 q g w
 tok:aa w tb #[ao ar t.kind,al t.text,ao ar t.pos] 62
 tbg:tb≠g
 tb0:w0.heap.size<=tb
 tbq:tb≠q
theorem Pm.step{w0 w:cd}{q tb g:Nat}(h:Pm w0 q tb g t w)(hs:aF g w w'):Pm w0 q tb g t w':=
 ⟨h.rs.step hs,hs.cells h.tok h.tbg,h.tbg,h.tb0,h.tbq⟩
theorem j5.below'{w:cd}{g:Nat}{lv:Value}{k e:Int}(h:j5 w g lv k e)(hb:Below w.heap.size w w'):j5 w' g lv k e:=aa.below h hb h.lt
theorem J6(m:Nat)(hM:RO m)(hC:qZ m):K6 (m+1):=by
 intro w g lv l k d h hd hne;obtain⟨a0,c0,rfl,BW,BD,-⟩:=h.toks.len;unfold maxLen at BD;have BV:=h.le;have BY:=h.small;have BT:=h.box.lt;have H0:=Hh h;have hR:=Rs.start h;have h1:=h.step ((ba _ w).alloc lz (aE gU 45));have B2:(w.alloc (aE gU 45)).heap.size=w.heap.size+1:=by simp
 obtain⟨R,A7⟩:=exq (ah (m+1) .prime (l.drop k) d);rw[<-A7] at hne ⊢;go_in;go_wp2_with fail;generalize w.alloc (aE gU 45)=w1 at hR h1 B2 ⊢;have A9:=h1.box;have Bg:=A9.lt
 by_cases hk:k=l.length
 .have hq:((k:Int)==(l.length:Int))=true:=by rw[beq_iff_eq];omega
  have hW:=fun n=>rJ (w1.drewN n) g _ l k (h1.step (dz w1.heap.size w1 n));rw[hk,ei,ah,vZ] at A7;have Br:l.drop k=[]:=by rw[hk,ei]
  rw[Br] at hW;have AY:CP []≠0:=rM _;generalize CP []=ee at *;have AN:=Jh A7 AY;clear A7 AY Br hk h1;obtain⟨AG,AJ,AH,AK,AI,AL⟩:=A9.n3 rfl;clear A9;go_quiet (fail)
  go_wp2_with fail;refine (hW _).mono ?_;rintro _ w2 ⟨rfl,hc9,hs2⟩;have Aw:=hR.step (((aF.refl g w1).drewN _).trans hs2);have Ab:=Aw.res;have Az:=Ab.lt;have HR:=Jh Aw hc9;clear hR hs2 hW AG AH AI AJ AK AL Aw hc9;obtain⟨Ac,Af,Ad,Ag,Ae,Ah⟩:=Ab.n3 rfl;clear Ab;go_wp2;obtain⟨Aw,hc9⟩:=HR.out;have hq:=((Aw.res.setI 0 (al ⟨#[]⟩)).setI 1 (al ⟨#[]⟩)).setI 2 (an aq 0 0);obtain⟨hx,hy,hz⟩:=hq.m3 rfl;refine bj (v:=ew #[al ⟨#[]⟩,al ⟨#[]⟩,an aq 0 0]) (by simp[cD,mj,go_sem,hx,hy,hz]) rfl ?_;have Ay:=Aw.fin [al ⟨#[]⟩,al ⟨#[]⟩,an aq 0 0];have Ax:=Aw.prc hc9 [al ⟨#[]⟩,al ⟨#[]⟩,an aq 0 0];show XP g (an a0 l.length c0) k _ w _ (aj w2 w.heap.size 0 [al ⟨#[]⟩,al ⟨#[]⟩,an aq 0 0]);rw[AN.out.1];exact⟨Ay,Ax,_,_,_,_,_,rfl,fun e=>absurd e AN.out.2⟩
 .have AA:k<l.length:=by omega
  have hq:((k:Int)==(l.length:Int))=false:=by rw[Fc];omega
  obtain⟨tb,A3,BO,Bd,Bj,Bk,Bl⟩:=aP.get h1.toks AA;have AV:l.drop k=l[k]::l.drop (k+1):=List.drop_eq_getElem_cons AA;rw[AV,ah,<-AV] at A7;have Bc:=h1.short _ (List.getElem_mem AA);cases BO
  generalize l[k]=t at *;have Bq:=A9;obtain⟨AD,AR,AE,AS,AQ,AT⟩:=Bq.n3 rfl;go_quiet (fail)
  go_wp2_with fail;have ha:∀(n b' o':Nat) (u:Value),b'<w1.heap.size->w1.cell? ⟨b',o',aq⟩=aw u->((w1.drewN n).alloc (aE #[ao ar 0,al ⟨#[]⟩,ao ar 0] 62)).cell? ⟨b',o',aq⟩=aw u:=fun n b' o' u h1 h2=>(World.cell?_alloc_past _ _ _ h1).trans h2;have B6:=fun n=>ha n _ _ _ Bg AD;have B7:=fun n=>ha n _ _ _ Bg AE;have B8:=fun n=>ha n _ _ _ Bd Bj;have B9:=fun n=>ha n _ _ _ Bd Bk;have BA:=fun n=>ha n _ _ _ Bd Bl;have hn:=fun n=>aa.new (w1.drewN n) #[ao ar 0,al ⟨#[]⟩,ao ar 0] 62;have BH:∀n,((w1.drewN n).alloc (aE #[ao ar 0,al ⟨#[]⟩,ao ar 0] 62)).cell? ⟨w1.heap.size,0,aq⟩=aw (ao ar 0):=fun n=>(hn n).cell 0 _ rfl;have BI:∀n,((w1.drewN n).alloc (aE #[ao ar 0,al ⟨#[]⟩,ao ar 0] 62)).cell? ⟨w1.heap.size,1,aq⟩=aw (al ⟨#[]⟩):=fun n=>(hn n).cell 1 _ rfl;have BJ:∀n,((w1.drewN n).alloc (aE #[ao ar 0,al ⟨#[]⟩,ao ar 0] 62)).cell? ⟨w1.heap.size,2,aq⟩=aw (ao ar 0):=fun n=>(hn n).cell 2 _ rfl;have BE:∀n,((w1.drewN n).alloc (aE #[ao ar 0,al ⟨#[]⟩,ao ar 0] 62)).frozen? ⟨w1.heap.size,0,aq⟩=false:=fun n=>(hn n).frozen 0;have BF:∀n,((w1.drewN n).alloc (aE #[ao ar 0,al ⟨#[]⟩,ao ar 0] 62)).frozen? ⟨w1.heap.size,1,aq⟩=false:=fun n=>(hn n).frozen 1;have BG:∀n,((w1.drewN n).alloc (aE #[ao ar 0,al ⟨#[]⟩,ao ar 0] 62)).frozen? ⟨w1.heap.size,2,aq⟩=false:=fun n=>(hn n).frozen 2
  have AN:=Hh A7;have H1:=Jh h1 (cE hR (cE Bc AV));clear A7 h1 hR Bc AV A9 H0;go_region
  have Ba:Below w1.heap.size w1 ((w1.drewN (nq+1)).alloc (aE #[ao ar t.kind,al t.text,ao ar t.pos] 62)):=(dz w1.heap.size w1 (nq+1)).alloc lz _;have Bb:=aa.new (w1.drewN (nq+1)) #[ao ar t.kind,al t.text,ao ar t.pos] 62;rw[show (w1.drewN (nq+1)).heap.size=w.heap.size+1 from B2] at Bb;generalize (w1.drewN (nq+1)).alloc (aE #[ao ar t.kind,al t.text,ao ar t.pos] 62)=w2 at Ba Bb ⊢;obtain⟨h1,hR,Bc,AV⟩:=H1.out;have h2:=h1.step Ba;have Aa:Pm w w.heap.size (w.heap.size+1) g t w2:=⟨hR.below Ba,Bb,by omega,by omega,by omega⟩;clear H1 h1 hR Ba Bb ha B6 B7 B8 B9 BA hn BH BI BJ BE BF BG Bj Bk Bl AD AE AQ AR AS AT Bq Bg Bd hq;have Ai:=AN.out
  by_cases k1:t.kind=1
  .rw[E4 k1] at Ai
   have kb:(t.kind==1)=true:=by rw[beq_iff_eq];exact k1
   have A6:aF g w2 (w2.setCell ⟨g,1,aq⟩ (ao ar ((k:Int)+1))):=(aF.refl g w2).set 1 _;have AU:j5 (w2.setCell ⟨g,1,aq⟩ (ao ar ((k:Int)+1))) g (an (aw ⟨tb,A3,aq⟩) l.length c0) ((k+1:Nat)) 0:=h2.box.setI 1 (ao ar ((k:Int)+1));have h6:rF (w2.setCell ⟨g,1,aq⟩ (ao ar ((k:Int)+1))) g (an (aw ⟨tb,A3,aq⟩) l.length c0) l (k+1):=h2.go A6 AU AA;have H6:=Jh (Aa.step A6) h6;have hc9:=h2.box;have K1:=Hh k1;have AC:=Hh Ai;clear A6 AU h6 h2 k1 AN Ai;have Ab:=Aa.rs.res;have Az:=Ab.lt;have Av:=Aa.tok;have A0:=Av.lt;have A2:=hc9.lt;have HR:=Jh Aa hc9;obtain⟨Ac,Af,Ad,Ag,Ae,Ah⟩:=Ab.n3 rfl;obtain⟨Aj,Am,Ak,An,Al,Ao⟩:=Av.n3 rfl;obtain⟨Ap,As,Aq,At,Ar,Au⟩:=hc9.n3 rfl;clear Aa hc9 Ab Av;go_wp2_with fail;obtain⟨Aa,hc9⟩:=HR.out;clear HR Az A0 A2 Ac Ad Ae Af Ag Ah Aj Ak Al Am An Ao Ap Aq Ar As At Au;clear Aa hc9
   obtain⟨Aa,h6⟩:=H6.out;clear H6;generalize w2.setCell ⟨g,1,aq⟩ (ao ar ((k:Int)+1))=w3 at *;have hI:=oW w3 g _ l (k+1) EO h6;have Ai:=AC.out;clear AC
   by_cases s1:cu (l.drop (k+1)) EO=true
   .rw[E4 s1] at Ai
    rw[s1] at hI
    have AB:(ah m (.many tF) (l.drop (k+1)) d).2.2≠-1:=by
     have A4:=hne;rw[Ai] at A4;exact jD (g:=eZ 1 (ah m (.many tF) (l.drop (k+1)) d)) A4
    have AF:=fun w3 h3=>hM w3 g (an (aw ⟨tb,A3,aq⟩) l.length c0) l (k+1) d tF h3 (bW s1) hd (.inl rfl) AB;generalize ah m (.many tF) (l.drop (k+1)) d=r1 at *;obtain⟨x1,n1,e1⟩:=r1;simp only at AF AB;have A1:=Hh Ai;clear Ai;refine hI.mono ?_;rintro _ w4 ⟨rfl,hb4⟩;have h4:=h6.step hb4
    replace Aa:=Aa.step (aF.of hb4)
    have B5:=AF w4.drew (h4.step ((ba _ _).drew));clear AF hI h6 hb4;have Bm:=Hh Aa;have Av:=Aa.tok;have A0:=Av.lt;have BP:=Aa.rs.save.size;clear Aa;obtain⟨Aj,Am,Ak,An,Al,Ao⟩:=Av.n3 rfl;go_wp2_with fail
    go_region_law (first
     |(go_simp;go_at_call 215;refine B5.mono ?_;rintro _ w5 ⟨hs5,hc5,ya,yn,yc,rfl,hX5⟩;have AM:=hs5.cells Av.drew (by omega);have BB:=AM.lt;have BS:=AM.cell 1 _ rfl;have Ab:=(Bm.out.step ((aF.refl g w4).drew.trans hs5)).rs.res;have Az:=Ab.lt;obtain⟨BX,BZ,BL,Ca,BM,Cb⟩:=Ab.n3 rfl;have H5:=Jh hs5 (cE hc5 hX5);clear hs5 hc5 hX5 Ab AM))
    all_goals
     go_wp2;obtain⟨hs5,hc9,hX5⟩:=H5.out;have BN:=(aF.refl g w4).drew.trans hs5;have Aw:=(Bm.out.step BN).rs;have hq:=((Aw.res.setI 0 (al mJ)).setI 1 (al t.text)).setI 2 (an ya yn yc);obtain⟨hx,hy,hz⟩:=hq.m3 rfl;refine bj (v:=ew #[al mJ,al t.text,an ya yn yc]) (by simp[cD,mj,go_sem,hx,hy,hz]) rfl ?_;have Ay:=Aw.fin [al mJ,al t.text,an ya yn yc];have Ax:=Aw.prc hc9 [al mJ,al t.text,an ya yn yc];show XP g (an (aw ⟨tb,A3,aq⟩) l.length c0) k _ w _ (aj w5 w.heap.size 0 [al mJ,al t.text,an ya yn yc]);have Ai:=A1.out;have B3:w.heap.size<w4.drew.heap.size:=by show w.heap.size<w4.heap.size;omega
     by_cases he:e1=0
     .subst he
      rw[cB (by rfl)] at Ai;simp only[eZ] at Ai;rw[Ai];rw[show k+1+n1=k+(1+n1) by omega] at Ax;exact⟨Ay,Ax,_,_,_,_,_,rfl,fun _=>af.keep (ph B3) B3 (hX5 rfl mJ t.text)⟩
     .rw[bA (by exact he)] at Ai
      simp only[eZ] at Ai;rw[Ai];rw[show k+1+n1=k+(1+n1) by omega] at Ax;exact⟨Ay,Ax,_,_,_,_,_,rfl,fun h=>absurd h he⟩
   .have Bi:cu (l.drop (k+1)) EO=false:=by simpa using s1
    rw[E6 s1] at Ai;rw[Bi] at hI;have A1:=Hh Ai;clear Ai;refine hI.mono ?_;rintro _ w4 ⟨rfl,hb4⟩;have hc9:=h6.box.below hb4 h6.box.lt
    replace Aa:=Aa.step (aF.of hb4)
    clear hI h6 hb4;have Ab:=Aa.rs.res;have Az:=Ab.lt;have Av:=Aa.tok;have A0:=Av.lt;have A2:=hc9.lt;have HR:=Jh Aa hc9;obtain⟨Ac,Af,Ad,Ag,Ae,Ah⟩:=Ab.n3 rfl;obtain⟨Aj,Am,Ak,An,Al,Ao⟩:=Av.n3 rfl;obtain⟨Ap,As,Aq,At,Ar,Au⟩:=hc9.n3 rfl;clear Aa hc9 Ab Av;go_wp2;obtain⟨Aa,hc9⟩:=HR.out;have Aw:=Aa.rs;have hq:=((Aw.res.setI 0 (al uS)).setI 1 (al t.text)).setI 2 (an aq 0 0);obtain⟨hx,hy,hz⟩:=hq.m3 rfl;refine bj (v:=ew #[al uS,al t.text,an aq 0 0]) (by simp[cD,mj,go_sem,hx,hy,hz]) rfl ?_;have Ay:=Aw.fin [al uS,al t.text,an aq 0 0];have Ax:=Aw.prc hc9 [al uS,al t.text,an aq 0 0];show XP g (an (aw ⟨tb,A3,aq⟩) l.length c0) k _ w _ (aj w4 w.heap.size 0 [al uS,al t.text,an aq 0 0]);rw[A1.out];exact⟨Ay,Ax,_,_,_,_,_,rfl,fun _=>af.leaf _ _ uS t.text⟩
  .have Ce:(t.kind==1)=false:=by rw[Fc];exact k1
   rw[E6 k1] at Ai;have K1:=Hh k1;clear k1 AN
   by_cases k2:t.kind=2
   .rw[E4 k2] at Ai
    have kb:(t.kind==2)=true:=by rw[beq_iff_eq];exact k2
    have A1:=Hh Ai;have H9:=Hh (h2.box.setI 1 (ao ar ((k:Int)+1)));have K2:=Hh k2;have hc9:=h2.box;have Bf:=Hh (Aa.step ((aF.refl g w2).set 1 (ao ar ((k:Int)+1))));clear Ai k2 h2;have Ab:=Aa.rs.res;have Az:=Ab.lt;have Av:=Aa.tok;have A0:=Av.lt;have A2:=hc9.lt;have HR:=Jh Aa hc9;obtain⟨Ac,Af,Ad,Ag,Ae,Ah⟩:=Ab.n3 rfl;obtain⟨Aj,Am,Ak,An,Al,Ao⟩:=Av.n3 rfl;obtain⟨Ap,As,Aq,At,Ar,Au⟩:=hc9.n3 rfl;clear Aa hc9 Ab Av;go_wp2;obtain⟨Aa,hc9⟩:=HR.out;clear HR Az A0 A2 Ac Ad Ae Af Ag Ah Aj Ak Al Am An Ao Ap Aq Ar As At Au;clear Aa hc9;have Aw:=Bf.out.rs;have hc9:j5 (w2.setCell ⟨g,1,aq⟩ (ao ar ((k:Int)+1))) g (an (aw ⟨tb,A3,aq⟩) l.length c0) ((k+1:Nat)) 0:=H9.out;have hq:=((Aw.res.setI 0 (al Da)).setI 1 (al t.text)).setI 2 (an aq 0 0);obtain⟨hx,hy,hz⟩:=hq.m3 rfl;refine bj (v:=ew #[al Da,al t.text,an aq 0 0]) (by simp[cD,mj,go_sem,hx,hy,hz]) rfl ?_
    have Ay:=Aw.fin [al Da,al t.text,an aq 0 0];have Ax:=Aw.prc hc9 [al Da,al t.text,an aq 0 0];show XP g (an (aw ⟨tb,A3,aq⟩) l.length c0) k _ w _ (aj (w2.setCell ⟨g,1,aq⟩ (ao ar ((k:Int)+1))) w.heap.size 0 [al Da,al t.text,an aq 0 0]);rw[A1.out];exact⟨Ay,Ax,_,_,_,_,_,rfl,fun _=>af.leaf _ _ Da t.text⟩
   .have Cf:(t.kind==2)=false:=by rw[Fc];exact k2
    rw[E6 k2] at Ai;have K2:=Hh k2;clear k2
    by_cases k3:t.kind=3
    .rw[E4 k3] at Ai
     have kb:(t.kind==3)=true:=by rw[beq_iff_eq];exact k3
     have K3:=Hh k3;have AO:=Ez t.text w2 Bc h2.tab;rcases DI t.text with ⟨hq1,xs,e,hq2,hq3⟩|⟨xs,hq1,hq2⟩
     .rw[hq1] at Ai
      rw[hq2] at AO;have A1:=Hh Ai;have BK:(e != 0)=true:=by simpa using hq3
      have hc9:=h2.box;have H2:=Hh h2;clear Ai hq1 hq2 hq3 k3 h2;have Ab:=Aa.rs.res;have Az:=Ab.lt;have Av:=Aa.tok;have A0:=Av.lt;have A2:=hc9.lt;have HR:=Jh Aa hc9;obtain⟨Ac,Af,Ad,Ag,Ae,Ah⟩:=Ab.n3 rfl;obtain⟨Aj,Am,Ak,An,Al,Ao⟩:=Av.n3 rfl;obtain⟨Ap,As,Aq,At,Ar,Au⟩:=hc9.n3 rfl;clear Aa hc9 Ab Av;go_wp2_with fail;refine AO.mono ?_;rintro _ w3 ⟨rfl,hb3⟩;obtain⟨Aa,hc9⟩:=HR.out;clear HR Az A0 A2 Ac Ad Ae Af Ag Ah Aj Ak Al Am An Ao Ap Aq Ar As At Au
      replace Aa:=Aa.step (aF.of hb3)
      replace hc9:=j5.below' hc9 hb3
      have hN:=FK w3 g _ (k:Nat) 3 hc9;clear hb3 AO hc9;go_wp2_with fail;refine hN.mono ?_;rintro _ w4 ⟨rfl,hc9,hs4⟩
      replace Aa:=Aa.step hs4
      clear hN hs4;have Ab:=Aa.rs.res;have Az:=Ab.lt;have Av:=Aa.tok;have A0:=Av.lt;have A2:=hc9.lt;have HR:=Jh Aa hc9;obtain⟨Ac,Af,Ad,Ag,Ae,Ah⟩:=Ab.n3 rfl;obtain⟨Aj,Am,Ak,An,Al,Ao⟩:=Av.n3 rfl;obtain⟨Ap,As,Aq,At,Ar,Au⟩:=hc9.n3 rfl;clear Aa hc9 Ab Av;go_wp2;obtain⟨Aa,hc9⟩:=HR.out;have Aw:=Aa.rs;have hq:=((Aw.res.setI 0 (al ⟨#[]⟩)).setI 1 (al ⟨#[]⟩)).setI 2 (an aq 0 0);obtain⟨hx,hy,hz⟩:=hq.m3 rfl;refine bj (v:=ew #[al ⟨#[]⟩,al ⟨#[]⟩,an aq 0 0]) (by simp[cD,mj,go_sem,hx,hy,hz]) rfl ?_;have Ay:=Aw.fin [al ⟨#[]⟩,al ⟨#[]⟩,an aq 0 0];have Ax:=Aw.prc hc9 [al ⟨#[]⟩,al ⟨#[]⟩,an aq 0 0];show XP g (an (aw ⟨tb,A3,aq⟩) l.length c0) k _ w _ (aj w4 w.heap.size 0 [al ⟨#[]⟩,al ⟨#[]⟩,an aq 0 0]);rw[A1.out];exact⟨Ay,Ax,_,_,_,_,_,rfl,fun h=>by cases h⟩
     .rw[hq1] at Ai
      rw[hq2] at AO;have A1:=Hh Ai;have hc9:=h2.box;clear Ai hq1 hq2 k3 h2;have Ab:=Aa.rs.res;have Az:=Ab.lt;have Av:=Aa.tok;have A0:=Av.lt;have A2:=hc9.lt;have HR:=Jh Aa hc9;obtain⟨Ac,Af,Ad,Ag,Ae,Ah⟩:=Ab.n3 rfl;obtain⟨Aj,Am,Ak,An,Al,Ao⟩:=Av.n3 rfl;obtain⟨Ap,As,Aq,At,Ar,Au⟩:=hc9.n3 rfl;clear Aa hc9 Ab Av;go_wp2_with fail;refine AO.mono ?_;rintro _ w3 ⟨rfl,hb3⟩;obtain⟨Aa,hc9⟩:=HR.out;clear HR Az A0 A2 Ac Ad Ae Af Ag Ah Aj Ak Al Am An Ao Ap Aq Ar As At Au
      replace Aa:=Aa.step (aF.of hb3)
      replace hc9:=j5.below' hc9 hb3
      have H9:=Hh (hc9.setI 1 (ao ar ((k:Int)+1)));have Bf:=Hh (Aa.step ((aF.refl g w3).set 1 (ao ar ((k:Int)+1))));clear hb3 AO;have Ab:=Aa.rs.res;have Az:=Ab.lt;have Av:=Aa.tok;have A0:=Av.lt;have A2:=hc9.lt;have HR:=Jh Aa hc9;obtain⟨Ac,Af,Ad,Ag,Ae,Ah⟩:=Ab.n3 rfl;obtain⟨Aj,Am,Ak,An,Al,Ao⟩:=Av.n3 rfl;obtain⟨Ap,As,Aq,At,Ar,Au⟩:=hc9.n3 rfl;clear Aa hc9 Ab Av;go_wp2;obtain⟨Aa,hc9⟩:=HR.out;clear HR Az A0 A2 Ac Ad Ae Af Ag Ah Aj Ak Al Am An Ao Ap Aq Ar As At Au;clear Aa hc9;have Aw:=Bf.out.rs;have hc9:j5 (w3.setCell ⟨g,1,aq⟩ (ao ar ((k:Int)+1))) g (an (aw ⟨tb,A3,aq⟩) l.length c0) ((k+1:Nat)) 0:=H9.out;have hq:=((Aw.res.setI 0 (al si)).setI 1 (al xs)).setI 2 (an aq 0 0);obtain⟨hx,hy,hz⟩:=hq.m3 rfl;refine bj (v:=ew #[al si,al xs,an aq 0 0]) (by simp[cD,mj,go_sem,hx,hy,hz]) rfl ?_
      have Ay:=Aw.fin [al si,al xs,an aq 0 0];have Ax:=Aw.prc hc9 [al si,al xs,an aq 0 0];show XP g (an (aw ⟨tb,A3,aq⟩) l.length c0) k _ w _ (aj (w3.setCell ⟨g,1,aq⟩ (ao ar ((k:Int)+1))) w.heap.size 0 [al si,al xs,an aq 0 0]);rw[A1.out];exact⟨Ay,Ax,_,_,_,_,_,rfl,fun _=>af.leaf _ _ si xs⟩
    .have Cg:(t.kind==3)=false:=by rw[Fc];exact k3
     rw[E6 k3] at Ai;have K3:=Hh k3;clear k3;have AC:=Hh Ai;clear Ai;have hI:=oW w2 g _ l k EP h2;have hc9:=h2.box;have Ab:=Aa.rs.res;have Az:=Ab.lt;have Av:=Aa.tok;have A0:=Av.lt;have A2:=hc9.lt;have HR:=Jh Aa hc9;obtain⟨Ac,Af,Ad,Ag,Ae,Ah⟩:=Ab.n3 rfl;obtain⟨Aj,Am,Ak,An,Al,Ao⟩:=Av.n3 rfl;obtain⟨Ap,As,Aq,At,Ar,Au⟩:=hc9.n3 rfl;clear Aa hc9 Ab Av;go_wp2_with fail;obtain⟨Aa,hc9⟩:=HR.out;clear HR Az A0 A2 Ac Ad Ae Af Ag Ah Aj Ak Al Am An Ao Ap Aq Ar As At Au;clear hc9;have Ai:=AC.out;clear AC
     by_cases s1:cu (l.drop k) EP=true
     .rw[E4 s1] at Ai
      rw[s1] at hI
      have AB:(ah m (.many rT) (l.drop k) d).2.2≠-1:=by
       have A4:=hne;rw[Ai] at A4;exact jD (g:=ah m (.many rT) (l.drop k) d) A4
      have AF:=fun w3 h3=>hM w3 g (an (aw ⟨tb,A3,aq⟩) l.length c0) l k d rT h3 (bW s1) hd (.inr rfl) AB;generalize ah m (.many rT) (l.drop k) d=r1 at *;obtain⟨x1,n1,e1⟩:=r1;simp only at AF AB;have A1:=Hh Ai;clear Ai;refine hI.mono ?_;rintro _ w4 ⟨rfl,hb4⟩;have h4:=h2.step hb4
      replace Aa:=Aa.step (aF.of hb4)
      clear hI h2 hb4;have BP:=Aa.rs.save.size;have B0:=Aa.rs.res.lt;go_wp2_with fail;refine (AF w4 h4).mono ?_;rintro _ w5 ⟨hs5,hc9,ya,yn,yc,rfl,hX5⟩
      replace Aa:=Aa.step hs5
      have B4:=Hh hX5;clear hs5 h4 AF hX5;have Ab:=Aa.rs.res;have Az:=Ab.lt;have Av:=Aa.tok;have A0:=Av.lt;have A2:=hc9.lt;have HR:=Jh Aa hc9;obtain⟨Ac,Af,Ad,Ag,Ae,Ah⟩:=Ab.n3 rfl;obtain⟨Aj,Am,Ak,An,Al,Ao⟩:=Av.n3 rfl;obtain⟨Ap,As,Aq,At,Ar,Au⟩:=hc9.n3 rfl;clear Aa hc9 Ab Av;go_wp2;obtain⟨Aa,hc9⟩:=HR.out;have Aw:=Aa.rs;have hq:=((Aw.res.setI 0 (al mI)).setI 1 (al ⟨#[]⟩)).setI 2 (an ya yn yc);obtain⟨hx,hy,hz⟩:=hq.m3 rfl;refine bj (v:=ew #[al mI,al ⟨#[]⟩,an ya yn yc]) (by simp[cD,mj,go_sem,hx,hy,hz]) rfl ?_;have Ay:=Aw.fin [al mI,al ⟨#[]⟩,an ya yn yc];have Ax:=Aw.prc hc9 [al mI,al ⟨#[]⟩,an ya yn yc];show XP g (an (aw ⟨tb,A3,aq⟩) l.length c0) k _ w _ (aj w5 w.heap.size 0 [al mI,al ⟨#[]⟩,an ya yn yc]);have Ai:=A1.out
      by_cases he:e1=0
      .subst he
       rw[cB (by rfl)] at Ai;rw[Ai];exact⟨Ay,Ax,_,_,_,_,_,rfl,fun _=>af.keep (ph B0) B0 (B4.out rfl mI ⟨#[]⟩)⟩
      .rw[bA (by exact he)] at Ai
       rw[Ai];exact⟨Ay,Ax,_,_,_,_,_,rfl,fun h=>absurd h he⟩
     .have Bi:cu (l.drop k) EP=false:=by simpa using s1
      rw[E6 s1] at Ai;rw[Bi] at hI;have AC:=Hh Ai;clear Ai;refine hI.mono ?_;rintro _ w4 ⟨rfl,hb4⟩;have h4:=h2.step hb4
      replace Aa:=Aa.step (aF.of hb4)
      clear hI h2 hb4;have hI:=oW w4 g _ l k EO h4;have hc9:=h4.box;have Ab:=Aa.rs.res;have Az:=Ab.lt;have Av:=Aa.tok;have A0:=Av.lt;have A2:=hc9.lt;have HR:=Jh Aa hc9;obtain⟨Ac,Af,Ad,Ag,Ae,Ah⟩:=Ab.n3 rfl;obtain⟨Aj,Am,Ak,An,Al,Ao⟩:=Av.n3 rfl;obtain⟨Ap,As,Aq,At,Ar,Au⟩:=hc9.n3 rfl;clear Aa hc9 Ab Av;go_wp2_with fail;obtain⟨Aa,hc9⟩:=HR.out;clear HR Az A0 A2 Ac Ad Ae Af Ag Ah Aj Ak Al Am An Ao Ap Aq Ar As At Au;clear hc9;have Ai:=AC.out;clear AC
      by_cases s2:cu (l.drop k) EO=true
      .rw[E4 s2] at Ai
       rw[s2] at hI
       by_cases hd6:64<=d
       .rw[E4 hd6] at Ai
        have A1:=Hh Ai;clear Ai;refine hI.mono ?_;rintro _ w5 ⟨rfl,hb5⟩;have h5:=h4.step hb5
        replace Aa:=Aa.step (aF.of hb5)
        clear hI h4 hb5;have hN:=uf w5 g _ k d h5.box hd6;go_wp2_with fail;refine hN.mono ?_;rintro _ w6 ⟨rfl,hc9,A6⟩
        replace Aa:=Aa.step A6
        clear hN A6 h5;have Ab:=Aa.rs.res;have Az:=Ab.lt;have Av:=Aa.tok;have A0:=Av.lt;have A2:=hc9.lt;have HR:=Jh Aa hc9;obtain⟨Ac,Af,Ad,Ag,Ae,Ah⟩:=Ab.n3 rfl;obtain⟨Aj,Am,Ak,An,Al,Ao⟩:=Av.n3 rfl;obtain⟨Ap,As,Aq,At,Ar,Au⟩:=hc9.n3 rfl;clear Aa hc9 Ab Av;go_wp2;obtain⟨Aa,hc9⟩:=HR.out;have Aw:=Aa.rs;have hq:=((Aw.res.setI 0 (al ⟨#[]⟩)).setI 1 (al ⟨#[]⟩)).setI 2 (an aq 0 0);obtain⟨hx,hy,hz⟩:=hq.m3 rfl;refine bj (v:=ew #[al ⟨#[]⟩,al ⟨#[]⟩,an aq 0 0]) (by simp[cD,mj,go_sem,hx,hy,hz]) rfl ?_;have Ay:=Aw.fin [al ⟨#[]⟩,al ⟨#[]⟩,an aq 0 0];have Ax:=Aw.prc hc9 [al ⟨#[]⟩,al ⟨#[]⟩,an aq 0 0];show XP g (an (aw ⟨tb,A3,aq⟩) l.length c0) k _ w _ (aj w6 w.heap.size 0 [al ⟨#[]⟩,al ⟨#[]⟩,an aq 0 0]);rw[A1.out];exact⟨Ay,Ax,_,_,_,_,_,rfl,fun h=>by cases h⟩
       .rw[E6 hd6] at Ai
        simp only[c4] at Ai
        have AB:(ah m .choice (l.drop (k+1)) (d+1)).2.2≠-1:=by
         have A4:=hne;rw[Ai] at A4;exact jD (g:=eZ 1 (ah m .choice (l.drop (k+1)) (d+1))) A4
        have AX:=(fZ m .choice (l.drop (k+1)) (d+1) (by simp only[Nt.okX]) AB).1;rw[bm] at AX;have Be:=fun w3 h3=>hC w3 g (an (aw ⟨tb,A3,aq⟩) l.length c0) l (k+1) (d+1) h3 (by omega) AB;rw[show ((d+1:Nat):Int)=(d:Int)+1 by omega] at Be;generalize ah m .choice (l.drop (k+1)) (d+1)=r1 at *;obtain⟨x1,n1,e1⟩:=r1;simp only at AX AB;have A1:=Hh Ai;clear Ai;refine hI.mono ?_;rintro _ w5 ⟨rfl,hb5⟩;have h5:=h4.step hb5
        replace Aa:=Aa.step (aF.of hb5)
        clear hI h4 hb5;have hN:=qm w5 g _ k d h5.box (by omega) (by omega);go_wp2_with fail;refine hN.mono ?_;rintro _ w6 ⟨rfl,AU,A6⟩;have h6:=h5.go A6 AU AA
        replace Aa:=Aa.step A6
        have Cc:=Aa.rs.save.size;have B1:=Aa.rs.res.lt;clear hN A6 h5 AU;go_wp2_with fail;refine (Be w6 h6).mono ?_;rintro _ w7 ⟨hs7,hc7,o2,t2,a2,m2,c2,rfl,hX7⟩;simp only at hc7 hX7
        replace Aa:=Aa.step hs7
        have Bn:e1=0->rF w7 g (an (aw ⟨tb,A3,aq⟩) l.length c0) l (k+1+n1):=fun he=>by
         subst he;exact h6.go hs7 hc7 (by omega)
        have Cd:=hs7.size;clear hs7 h6 Be;have AP:Below w7.heap.size w7 (w7.alloc (aE #[al o2,al t2,an a2 m2 c2] 45)):=(ba _ _).alloc lz _;have AW:=aa.new w7 #[al o2,al t2,an a2 m2 c2] 45;have H8:=Jh (Aa.step (aF.of AP)) (cE (j5.below' hc7 AP) (cE (fun he=>(Bn he).step AP) (cE AW (fun he=>af.below AP x1 _ (hX7 he)))));clear AP AW hX7 Bn Aa hc7;go_wp2_with fail;obtain⟨Aa,hc9,Bo,AW,Bp⟩:=H8.out;clear H8;generalize w7.alloc (aE #[al o2,al t2,an a2 m2 c2] 45)=w8 at *;have Ai:=A1.out
        have hN:∃(kk:Nat) (ee:Int),Calls Tryz.prog 183 #[.pointer (aw ⟨g,0,aq⟩),al tF] w8 (fun r w'=>r=.returned (dr #[])/\j5 w' g (an (aw ⟨tb,A3,aq⟩) l.length c0) (kk:Nat) ee/\aF g w8 w')/\k<=kk/\
          ((ee=0/\e1=0/\R=(x1,kk-k,0))\/(ee≠0/\R=(bf,kk-k,ee))):=by
         by_cases he:e1=0
         .subst he
          have A8:R=(if cu (l.drop (k+(1+n1))) tF=false then dJ (l.drop (k+(1+n1))) (1+n1) else (x1,1+n1+1,0)):=by
           rw[Ai,cB (by rfl)];rfl
          have hN:=zO w8 g _ l (k+1+n1) tF (Bo rfl);rw[show k+(1+n1)=k+1+n1 by omega] at A8
          by_cases s3:cu (l.drop (k+1+n1)) tF=false
          .rw[E4 s3,vZ] at A8
           rw[s3,E6 (by simp),E6 (by simp)] at hN;refine⟨k+1+n1,_,hN,by omega,.inr ⟨rM _,?_⟩⟩;rw[A8,show k+1+n1-k=1+n1 by omega]
          .have BR:cu (l.drop (k+1+n1)) tF=true:=by simpa using s3
           rw[E6 s3] at A8;rw[BR,E4 rfl,E4 rfl] at hN;refine⟨k+1+n1+1,_,hN,by omega,.inl ⟨rfl,rfl,?_⟩⟩;rw[A8,show k+1+n1+1-k=1+n1+1 by omega]
         .rw[bA (by exact he)] at Ai
          refine⟨k+1+n1,e1,Bu w8 g _ _ e1 tF hc9 he ⟨_,_,_,rfl⟩,by omega,.inr ⟨he,?_⟩⟩;rw[Ai];exact Prod.ext rfl (Prod.ext (by simp only[eZ];omega) rfl)
        obtain⟨kk,ee,hN,BU,A5⟩:=hN;refine hN.mono ?_;rintro _ w9 ⟨rfl,hc10,hs10⟩;have Bh:=hs10.cells AW (by omega)
        have AZ:e1=0->af (fun b=>w6.heap.size<=b) w9 x1 (fq o2 t2 (an a2 m2 c2)):=fun he=>
         af.move hs10.size (fun b hb hlt=>hs10.2 b hlt (by omega)) (fun b hb _=>hb) x1 _ (Bp he)
        replace Aa:=Aa.step hs10
        replace hc9:=hc10
        have HC:=Jh A5 AZ;have BC:=Bh.lt;clear hs10 AW Bp Bo hc10 A5 AZ hN Ai A1;obtain⟨Bs,Bw,Bt,Bx,Bv,By⟩:=Bh.n3 rfl;clear Bh;have Ab:=Aa.rs.res;have Az:=Ab.lt;have Av:=Aa.tok;have A0:=Av.lt;have A2:=hc9.lt;have HR:=Jh Aa hc9;obtain⟨Ac,Af,Ad,Ag,Ae,Ah⟩:=Ab.n3 rfl;obtain⟨Aj,Am,Ak,An,Al,Ao⟩:=Av.n3 rfl;obtain⟨Ap,As,Aq,At,Ar,Au⟩:=hc9.n3 rfl;clear Aa hc9 Ab Av;go_wp2;obtain⟨Aa,hc9⟩:=HR.out;have Aw:=Aa.rs;have hq:=((Aw.res.setI 0 (al o2)).setI 1 (al t2)).setI 2 (an a2 m2 c2);obtain⟨hx,hy,hz⟩:=hq.m3 rfl;refine bj (v:=ew #[al o2,al t2,an a2 m2 c2]) (by simp[cD,mj,go_sem,hx,hy,hz]) rfl ?_;have Ay:=Aw.fin [al o2,al t2,an a2 m2 c2];have Ax:=Aw.prc hc9 [al o2,al t2,an a2 m2 c2]
        show XP g (an (aw ⟨tb,A3,aq⟩) l.length c0) k _ w _ (aj w9 w.heap.size 0 [al o2,al t2,an a2 m2 c2]);obtain⟨A5,AZ⟩:=HC.out;have Bz:k+(kk-k)=kk:=by omega
        rcases A5 with ⟨he0,he1,A7⟩|⟨he,A7⟩
        .subst he0
         rw[A7];exact⟨Ay,by show j5 _ g _ ((k+(kk-k):Nat)) 0;rw[Bz];exact Ax,_,_,_,_,_,rfl,fun _=>af.keep (ph B1) B1 (AZ he1)⟩
        .rw[A7]
         exact⟨Ay,by show j5 _ g _ ((k+(kk-k):Nat)) ee;rw[Bz];exact Ax,_,_,_,_,_,rfl,fun h=>absurd h he⟩
      .have BQ:cu (l.drop k) EO=false:=by simpa using s2
       rw[E6 s2,vZ] at Ai;rw[BQ] at hI;have AY:CP (l.drop k)≠0:=rM _;refine hI.mono ?_;rintro _ w5 ⟨rfl,hb5⟩;have h5:=h4.step hb5
       replace Aa:=Aa.step (aF.of hb5)
       have hW:=rJ w5 g _ l k h5;generalize CP (l.drop k)=ee at *;have A1:=Jh Ai AY;clear hI h4 hb5 Ai AY h5;go_wp2_with fail;refine hW.mono ?_;rintro _ w6 ⟨rfl,hc9,A6⟩
       replace Aa:=Aa.step A6
       clear hW A6;have Ab:=Aa.rs.res;have Az:=Ab.lt;have Av:=Aa.tok;have A0:=Av.lt;have A2:=hc9.lt;have HR:=Jh Aa hc9;obtain⟨Ac,Af,Ad,Ag,Ae,Ah⟩:=Ab.n3 rfl;obtain⟨Aj,Am,Ak,An,Al,Ao⟩:=Av.n3 rfl;obtain⟨Ap,As,Aq,At,Ar,Au⟩:=hc9.n3 rfl;clear Aa hc9 Ab Av;go_wp2;obtain⟨Aa,hc9⟩:=HR.out;have Aw:=Aa.rs;have hq:=((Aw.res.setI 0 (al ⟨#[]⟩)).setI 1 (al ⟨#[]⟩)).setI 2 (an aq 0 0);obtain⟨hx,hy,hz⟩:=hq.m3 rfl;refine bj (v:=ew #[al ⟨#[]⟩,al ⟨#[]⟩,an aq 0 0]) (by simp[cD,mj,go_sem,hx,hy,hz]) rfl ?_;have Ay:=Aw.fin [al ⟨#[]⟩,al ⟨#[]⟩,an aq 0 0];have Ax:=Aw.prc hc9 [al ⟨#[]⟩,al ⟨#[]⟩,an aq 0 0];show XP g (an (aw ⟨tb,A3,aq⟩) l.length c0) k _ w _ (aj w6 w.heap.size 0 [al ⟨#[]⟩,al ⟨#[]⟩,an aq 0 0]);rw[A1.out.1];exact⟨Ay,Ax,_,_,_,_,_,rfl,fun e=>absurd e A1.out.2⟩
theorem ni(nt:Nt)(l:List ae)(d:Nat):(ah 0 nt l d).2.2 = -1:=by rw[ah]
theorem OQ:∀m,qZ m/\Jk m/\F4 m/\RL m/\K6 m/\RO m:=by
 intro m
 induction m using Nat.strongRecOn with
 |ind m ih=>
  cases m with
  |zero=>
   refine⟨?_,?_,?_,?_,?_,?_⟩
   .intro w g lv l k d _ _ b;exact absurd (ni _ _ _) b
   .intro w g lv l k d n z x A _ _ _ _ _ b;exact absurd (ni _ _ _) b
   .intro w g lv l k d _ _ b;exact absurd (ni _ _ _) b
   .intro w g lv l k d _ _ b;exact absurd (ni _ _ _) b
   .intro w g lv l k d _ _ b;exact absurd (ni _ _ _) b
   .intro w g lv l k d s _ _ _ _ b;exact absurd (ni _ _ _) b
  |succ m=>
   have q:=ih m (Nat.lt_succ_self m);have r:∀j,j<=m->qZ j:=fun j hj=>(ih j (by omega)).1;have u:∀j,j<=m->Jk j:=fun j hj=>(ih j (by omega)).2.1;exact⟨I9 m q.2.1 q.1,M9 m q.2.2.1 u,JC m q.2.2.1 q.2.2.2.1,NL m q.2.2.2.2.1 r,J6 m q.2.2.2.2.2 q.1,NZ m r⟩
def iI(l:List ae):gq:=if 1000<l.length then (bf,1000,4) else if (ah (je .choice l) .choice l 0).2.2=0 then ah (je .choice l) .choice l 0 else (bf,(ah (je .choice l) .choice l 0).2)
theorem SA(l:List ae):(iI l).2.2=0->(iI l).2.1<=l.length:=by
 unfold iI;have b:=qd (je .choice l) .choice l 0 lz (by simp only[Nt.okX]);split
 .intro h;cases h
 .split
  .intro _;exact b.2.1
  .next h=>intro a;exact absurd a h
def U9(w:cd)(r:gq)(e:Ending)(w':cd):Prop:=
 Below w.heap.size w w'/\∃o t a n c,e=.returned (dr #[Wl o t (an a n c),ao ar (r.2.1:Nat),ao ar r.2.2])/\af (fun b=>w.heap.size<=b) w' r.1 (fq o t (an a n c))
theorem De(w:cd)(lv:Value)(l:List ae)(h:aP w lv l)(ho:∀b,lv.ownBlock=aw b->b<w.heap.size)(hT:Tab w)(hTg:0<w.heap.size)(hs:l.length<=1000000)(hsh:∀t∈l,t.text.size<=1048576) :
  Calls Tryz.prog 121 #[lv] w (U9 w (iI l)):=by
 obtain⟨G,H,rfl,A3,Ay,-⟩:=h.len;unfold maxLen at Ay
 by_cases E:1000<l.length
 .have J:iI l=(bf,1000,4):=by unfold iI;rw[E4 E]
  have hq:=aa.new w gU 45;have S:=Hh J;clear J;go_in;go_wp2;obtain⟨L,M,N⟩:=hq.m3 rfl;refine bj (v:=dr #[ew #[al ⟨#[]⟩,al ⟨#[]⟩,an aq 0 0],ao ar 1000,ao ar 4]) (by simp[cD,Tryz.results121,go_sem,L,M,N]) rfl ?_;rw[S.out];exact⟨(ba _ w).alloc lz _,_,_,_,_,_,rfl,af.leaf _ _ _ _⟩
 .have W:=qd (je .choice l) .choice l 0 lz (by simp only[Nt.okX])
  have J:iI l=if (ah (je .choice l) .choice l 0).2.2=0 then ah (je .choice l) .choice l 0 else (bf,(ah (je .choice l) .choice l 0).2):=by unfold iI;rw[E6 E]
  have Ah:=(OQ (je .choice l)).1;have Aq:=W.1;have Aa:Below w.heap.size w ((w.alloc (aE gU 45)).alloc (aE #[an G l.length H,ao ar 0,ao ar 0] 184)):=((ba _ w).alloc lz _).alloc (by simp) _;have Af:=(aa.new w gU 45).alloc (aE #[an G l.length H,ao ar 0,ao ar 0] 184);have Ae:=aa.new (w.alloc (aE gU 45)) #[an G l.length H,ao ar 0,ao ar 0] 184;simp only[World.size_alloc] at Ae
  have Ai:rF ((w.alloc (aE gU 45)).alloc (aE #[an G l.length H,ao ar 0,ao ar 0] 184)) (w.heap.size+1) (an G l.length H) l 0:=
   ⟨Ae,h.below Aa lz,fun b hb=>by have:=ho b hb;omega,Nat.zero_le _,hs,fun j hj=>(Aa.cell hTg).trans (hT j hj),by omega,hsh⟩
  have Ad:=Ah _ _ _ l 0 0 Ai (by omega) (by rw[dd];exact Aq);rw[dd] at Ad;have Az:=W.2.1;generalize ah (je .choice l) .choice l 0=r at *;obtain⟨Y,n1,e1⟩:=r;simp only at J Aq Az;have S:=Hh J;clear J Ah Ai Ae W;go_in;go_wp2_with fail;generalize (w.alloc (aE gU 45)).alloc (aE #[an G l.length H,ao ar 0,ao ar 0] 184)=w2 at *;refine Ad.mono ?_;rintro _ O ⟨A,C,o,t,a,n,c,rfl,K⟩;simp only[df] at C K;have Ab:=A.cells Af (by omega);have A6:=Af.lt;have A5:=Aa.size;have HB:=Jh Aa (cE A K);clear Af Aa A K Ad h ho;have A4:=Ab.lt;have A2:=C.lt;have Aj:=Hh Ab;have A0:=Hh C;obtain⟨Ar,Au,As,Av,At,Aw⟩:=Ab.n3 rfl;obtain⟨Ak,An,Al,Ao,Am,Ap⟩:=C.n3 rfl;clear Ab C
  by_cases V:e1=0
  .subst V
   go_wp2_with fail;go_region
   go_wp2;have Ag:=((((((Aj.out.setI 0 (al o)).setI 1 (al t)).setI 2 (an a n c)).setI 0 (al o)).setI 1 (al t)).setI 2 (an a n c)).drew;obtain⟨L,M,N⟩:=Ag.m3 rfl;refine bj (v:=dr #[ew #[al o,al t,an a n c],ao ar (n1:Nat),ao ar 0]) (by simp[cD,Tryz.results121,go_sem,L,M,N]) rfl ?_;obtain⟨Aa,A,K⟩:=HB.out;have Ac:=(aZ w.heap.size w.heap.size lz [al o,al t,an a n c] 0 _ _ (aZ w.heap.size w.heap.size lz [al o,al t,an a n c] 0 _ _ (A.chain Aa (Nat.le_succ _)))).drew;show U9 w _ _ ((aj (aj O w.heap.size 0 [al o,al t,an a n c]) w.heap.size 0 [al o,al t,an a n c]).drew)
   have Ax:af (fun b=>w.heap.size<=b) (aj (aj O w.heap.size 0 [al o,al t,an a n c]) w.heap.size 0 [al o,al t,an a n c]) Y (fq o t (an a n c)):=by
    refine af.move (P:=fun b=>w2.heap.size<=b) (w:=O) ?_ (fun b hb _=>?_) (fun b hb _=>?_) Y _ (K trivial)
    .rw[aD,aD];exact cA _
    .rw[aR _ _ _ _ _ (by omega),aR _ _ _ _ _ (by omega)]
    .show w.heap.size<=b
     omega
   rw[S.out,E4 trivial];generalize aj (aj O w.heap.size 0 [al o,al t,an a n c]) w.heap.size 0 [al o,al t,an a n c]=w9 at *;exact⟨Ac,o,t,a,n,c,rfl,af.below (ba _ _).drew Y _ Ax⟩
  .have A1:(e1 != 0)=true:=by simpa using V
   go_wp2_with fail;go_region
   go_wp2;have Ag:=((((((Aj.out.setI 0 (al o)).setI 1 (al t)).setI 2 (an a n c)).setI 0 (al ⟨#[]⟩)).setI 1 (al ⟨#[]⟩)).setI 2 (an aq 0 0)).drew;obtain⟨L,M,N⟩:=Ag.m3 rfl;refine bj (v:=dr #[ew #[al ⟨#[]⟩,al ⟨#[]⟩,an aq 0 0],ao ar (n1:Nat),ao ar e1]) (by simp[cD,Tryz.results121,go_sem,L,M,N]) rfl ?_;obtain⟨Aa,A,K⟩:=HB.out;have Ac:=(aZ w.heap.size w.heap.size lz [al ⟨#[]⟩,al ⟨#[]⟩,an aq 0 0] 0 _ _ (aZ w.heap.size w.heap.size lz [al o,al t,an a n c] 0 _ _ (A.chain Aa (Nat.le_succ _)))).drew;show U9 w _ _ ((aj (aj O w.heap.size 0 [al o,al t,an a n c]) w.heap.size 0 [al ⟨#[]⟩,al ⟨#[]⟩,an aq 0 0]).drew);rw[S.out,E6 V];exact⟨Ac,_,_,_,_,_,rfl,af.leaf _ _ _ _⟩
inductive bX where
 |mk (block:Bool) (name:E7) (value:iA) (labels:List E7) (items:List bX):bX
variable{st:List bX}
def bX.block:bX->Bool
 |.mk b _ _ _ _=>b
def bX.name:bX->E7
 |.mk _ n _ _ _=>n
def bX.value:bX->iA
 |.mk _ _ v _ _=>v
def bX.labels:bX->List E7
 |.mk _ _ _ l _=>l
def bX.items:bX->List bX
 |.mk _ _ _ _ i=>i
def bR:bX:=.mk false ⟨#[]⟩ bf [] []
def bX.add:bX->bX->bX
 |.mk b n v l i,x=>.mk b n v l (i++[x])
inductive pO where
 |wrong (at_ e:Int):pO
 |empty:pO
 |attr (x:bX):pO
 |begins (x:bX):pO
 |bare (x:bX):pO
 |fin:pO
abbrev pg:E7:=⟨#[123]⟩
abbrev mZ:E7:=⟨#[125]⟩
abbrev Gc:E7:=⟨#[61]⟩
def fF(row:List ae)(stop:Int)(last:Bool)(i:Nat):pO:=match row[i]? with
 |some t=>.wrong t.pos 3
 |none=>if last then .wrong stop 2 else .wrong stop 3
def lK(row:List ae)(stop:Int)(last:Bool)(name:E7):pO:=
 if (iI (row.drop 2)).2.2=2\/((iI (row.drop 2)).2.2=0/\2+(iI (row.drop 2)).2.1<row.length) then fF row stop last (2+(iI (row.drop 2)).2.1)
 else if (iI (row.drop 2)).2.2=0 then .attr (.mk false name (iI (row.drop 2)).1 [] [])
 else match row[2+(iI (row.drop 2)).2.1]? with
  |some t=>.wrong t.pos (iI (row.drop 2)).2.2
  |none=>.wrong 0 0
def gH:List ae->List E7
 |[]=>[]
 |t::r=>if t.kind=3 then (lm t.text).getD ⟨#[]⟩::gH r else []
def gQ(n:Nat)(row:List ae)(stop:Int)(last:Bool)(name:E7):pO:=
 let ls:=gH (row.drop 1)
 let i:=1+ls.length
 let x:bX:=.mk true name bf ls []
 if cu (row.drop i) pg=false then fF row stop last i
 else if 64<n then (match row[i]? with|some t=>.wrong t.pos 5|none=>.wrong 0 0)
 else if row.length=i+1 then .begins x
 else if cu (row.drop (i+1)) mZ=false then fF row stop last (i+1)
 else if i+2<row.length then fF row stop last (i+2)
 else .bare x
def bn(n:Nat)(row:List ae)(stop:Int)(last:Bool):pO:=match row with
 |[]=>.empty
 |t::r=>
  if cu (t::r) mZ then (if n=1 then fF (t::r) stop last 0 else if 1<(t::r).length then fF (t::r) stop last 1 else .fin)
  else if t.kind≠1 then fF (t::r) stop last 0
  else if cu r Gc then lK (t::r) stop last t.text else gQ n (t::r) stop last t.text
def jK:List bX->bX->List bX
 |[],_=>[]
 |[t],x=>[t.add x]
 |t::u::r,x=>t::jK (u::r) x
def bP(st:List bX)(row:List ae)(stop:Int)(last:Bool):List bX×Int×Int:=match bn st.length row stop last with
 |.wrong a e=>(st,a,e)
 |.empty=>(st,0,0)
 |.attr x=>(jK st x,0,0)
 |.begins x=>(st++[x],0,0)
 |.bare x=>(jK st x,0,0)
 |.fin=>(jK st.dropLast (st.getLast?.getD bR),0,0)
def cz(size:Int):List ae->List bX->List ae->List bX×Int×Int
 |[],st,row=>
  if (bP st row size true).2.2≠0 then ([],(bP st row size true).2)
  else if 1<(bP st row size true).1.length then ([],size,2)
  else (((bP st row size true).1.head?.getD bR).items,-1,0)
 |t::r,st,row=>
  if t.kind=6\/t.kind=7 then cz size r st row
  else if t.kind=5 then
   (if (bP st row t.pos false).2.2≠0 then ([],(bP st row t.pos false).2) else cz size r (bP st row t.pos false).1 [])
  else cz size r st (row++[t])
def aT(l:Bs):List bX×Int×Int:=
 if (mK l).2.2≠0 then ([],(mK l).2) else cz l.length (mK l).1 [bR] []
theorem jv:∀(st:List bX) (x:bX),(jK st x).length=st.length
 |[],_=>rfl
 |[_],_=>rfl
 |_::u::r,x=>by simp only[jK,bc,jv (u::r) x]
theorem kN:∀(st:List bX) (t x:bX),jK (st++[t]) x=st++[t.add x]
 |[],_,_=>rfl
 |[a],t,x=>rfl
 | a::b::r,t,x=>by
  have:=kN (b::r) t x;simp only[cf,jK] at this ⊢;rw[this]
def eF(st:List bX):pO->List bX×Int×Int
 |.wrong a e=>(st,a,e)
 |.empty=>(st,0,0)
 |.attr x=>(jK st x,0,0)
 |.begins x=>(st++[x],0,0)
 |.bare x=>(jK st x,0,0)
 |.fin=>(jK st.dropLast (st.getLast?.getD bR),0,0)
theorem j3(st:List bX)(row:List ae)(stop:Int)(last:Bool):bP st row stop last=eF st (bn st.length row stop last):=by
 unfold bP eF;cases bn st.length row stop last<;>rfl
theorem AZ(st:List bX)(x:bX):eF (st++[x]) .fin=eF st (.bare x):=by simp[eF]
theorem tX{row:List ae}{last:Bool}(h:bn n row stop last=.fin):n≠1:=by
 intro e;subst e;unfold bn at h
 cases row with
 |nil=>cases h
 |cons t r=>
  simp only at h;split at h
  .simp only[if_true] at h
   unfold fF at h;simp only[fs] at h;cases h
  .split at h
   .unfold fF at h
    simp only[fs] at h;cases h
   .split at h
    .unfold lK fF at h
     repeat' split at h
     all_goals cases h
    .unfold gQ fF at h
     simp only at h;repeat' split at h
     all_goals cases h
def jX:Bs->List Bs
 |[]=>[[]]
 | c::l=>if c=10 then []::jX l else match jX l with
  |a::r=>(c::a)::r
  |[]=>[[c]]
theorem FR:∀l:Bs,jX l≠[]
 |[]=>by simp[jX]
 | c::l=>by
  rw[jX];split
  .simp
  .split<;>simp
theorem o6:∀(a b:Bs),10∉a->jX (a++10::b)=a::jX b
 |[],b,_=>by simp[jX]
 | c::a,b,h=>by
  simp only[cL,not_or] at h;rw[cf,jX,E6 (fun e=>h.1 e.symm),o6 a b h.2]
theorem oz:∀(a:Bs),10∉a->jX a=[a]
 |[],_=>rfl
 | c::a,h=>by
  simp only[cL,not_or] at h;rw[jX,E6 (fun e=>h.1 e.symm),oz a h.2]
theorem um{P:Bs->Prop}(f:∀a,10∉a->P a)(j:∀a b,10∉a->P b->P (a++10::b))(l:Bs):P l:=by
 have i:∀(k:Nat) (l:Bs),l.length<=k->P l:=by
  intro k
  induction k with
  |zero=>intro l d;rw[cC (pj.1 d)];exact f [] (by simp)
  |succ k ih=>
   intro l d
   by_cases h:10∈l
   .obtain⟨a,b,e,g⟩:=List.eq_append_cons_of_mem h
    rw[e];refine j a b g (ih b ?_);rw[e] at d;simp at d;omega
   .exact f l h
 exact i l.length l lz
def dX(r:List ae):List ae:=r.filter (fun t=>!dD t)
def jy(r:List ae):Bool:=match (dX r).getLast? with|some t=>bZ t pg|none=>false
def lW(r:List ae):Bool:=match dX r with|t::_=>bZ t mZ|[]=>false
structure aK where
 toks:List ae
 lo:Int
 hi:Int
 dep:Int
def eB(o:Int)(l:List ae):Int:=if lW l then o-1 else o
def mo(o:Int)(l:List ae)(lo hi:Int):aK:=⟨l,lo,hi,eB o l⟩
def dn(o:Int)(l:List ae):Int:=if jy l then eB o l+1 else eB o l
def gF(size:Int):List ae->List ae->Int->Int->List aK
 |[],cur,fr,o=>if fr<size then [mo o cur fr size] else []
 |t::r,cur,fr,o=>if t.kind=5 then mo o cur fr t.pos::gF size r [] (t.pos+1) (dn o cur) else gF size r (cur++[t]) fr o
def aA(l:Bs):List aK:=if (mK l).2.2=0 then gF l.length (mK l).1 [] 0 0 else []
def jb:List Bs->Nat->Int->List aK
 |[],_,_=>[]
 |[a],p,o=>if a=[] then [] else [mo o (aC a p).1 p ((p+a.length:Nat):Int)]
 |a::b::r,p,o=>mo o (aC a p).1 p ((p+a.length:Nat):Int)::jb (b::r) (p+a.length+1) (dn o (aC a p).1)
theorem AU(size:Int)(x:E7)(q:Int)(tb:List ae):∀(ta cur:List ae) (fr o:Int),(∀t∈ta,t.kind≠5)->gF size (ta++⟨5,x,q⟩::tb) cur fr o=mo o (cur++ta) fr q::gF size tb [] (q+1) (dn o (cur++ta))
 |[],cur,fr,o,_=>by simp only[cM,gF,if_true,eI]
 | t::ta,cur,fr,o,h=>by
  have h1:=h t (by simp);rw[cf,gF,E6 h1,AU size x q tb ta (cur++[t]) fr o (fun u hu=>h u (by simp[hu]))];simp
theorem AV(size:Int):∀(ta cur:List ae) (fr o:Int),(∀t∈ta,t.kind≠5)->gF size ta cur fr o=if fr<size then [mo o (cur++ta) fr size] else []
 |[],cur,fr,o,_=>by rw[gF,eI]
 | t::ta,cur,fr,o,h=>by
  have h1:=h t (by simp);rw[gF,E6 h1,AV size ta (cur++[t]) fr o (fun u hu=>h u (by simp[hu]))];simp
theorem NT{r:Bs}(h:dY (c::r)=.tok 5 n):c=10:=by
 refine Decidable.byContradiction fun hc=>?_;rw[dY] at h;split at h
 .cases h
 split at h
 .unfold nA at h;split at h<;>cases h
 split at h
 .unfold oG at h;split at h<;>cases h
 (try rw[E6 hc] at h)
 have a:∀(l:Bs) (k:Nat),gp l k=.tok 5 n->k=5:=fun l k hk=>by
  unfold gp at hk;split at hk
  .cases hk
  .injection hk
 split at h
 .exact absurd (a _ _ h) (by decide)
 split at h
 .unfold eT at h
  split at h
  .cases h
  .split at h
   .cases h
   .exact absurd (a _ _ h) (by decide)
 split at h<;>cases h
theorem iM:∀(k:Nat) (l:Bs) (p:Nat),l.length<=k->10∉l->∀t∈(aC l p).1,t.kind≠5
 |k,[],p,_,_=>by rw[dM];intro t ht;cases ht
 |0,c::r,p,hk,_=>by simp at hk
 | k+1,c::r,p,hk,h=>by
  simp only[bc] at hk;simp only[cL,not_or] at h
  cases hb:aN c with
  |true=>rw[bV hb];exact iM k r (p+1) (by omega) h.2
  |false=>
   cases ho:dY (c::r) with
   |bad o e=>rw[fw hb ho];intro t ht;cases ht
   |tok kd sz=>
    have hs:=dC ho;rw[dE hb ho];intro t ht;simp only[cL] at ht;rcases ht with rfl|ht
    .intro e
     have e:(kd:Int)=5:=e;obtain rfl:kd=5:=by omega
     exact h.1 (NT ho).symm
    .exact iM k _ _ (by rw[bm,bc];omega) (fun hm=>by
      rcases cL.1 (List.mem_of_mem_drop hm) with e|e
      .exact h.1 e
      .exact h.2 e) t ht
theorem ql(a b:Bs)(p:Nat)(h:(aC (a++10::b) p).2.2=0) :
  (aC a p).2.2=0/\(aC b (p+a.length+1)).2.2=0/\aC (a++10::b) p=((aC a p).1++⟨5,au [10],((p+a.length:Nat):Int)⟩::(aC b (p+a.length+1)).1,(aC b (p+a.length+1)).2):=by
 have c:=Fu a.length a p b lz h;have d:=Kr a.length a p b lz c;rw[d] at h;exact⟨c,h,d⟩
theorem JP(l:Bs):∀(p:Nat) (o:Int),(aC l p).2.2=0->gF ((p+l.length:Nat):Int) (aC l p).1 [] p o=jb (jX l) p o:=by
 refine um (P:=fun l=>∀(p:Nat) (o:Int),(aC l p).2.2=0->gF ((p+l.length:Nat):Int) (aC l p).1 [] p o=jb (jX l) p o) ?_ ?_ l
 .intro a i p o _
  rw[oz a i,jb,AV _ _ _ _ _ (iM a.length a p lz i),cM]
  by_cases k:a=[]
  .subst k
   rw[E6 (by simp),E4 rfl]
  .have:0<a.length:=ey.2 k
   rw[E4 (by omega),E6 k]
 .intro a b i j p o h
  obtain⟨A,q,u⟩:=ql a b p h;rw[u,o6 a b i]
  obtain⟨x,r,v⟩:∃x r,jX b=x::r:=by
   cases hc:jX b with
   |nil=>exact absurd hc (FR b)
   |cons x r=>exact⟨x,r,rfl⟩
  have j:=j (p+a.length+1) (dn o (aC a p).1) q;rw[v] at j ⊢;rw[jb,<-j];simp only;rw[AU _ _ _ _ _ _ _ _ (iM a.length a p lz i),cM];simp only[cm,bc];rw[show p+(a.length+(b.length+1))=p+a.length+1+b.length by omega]
  congr 1
theorem fK{l:Bs}(h:(aC l 0).2.2=0):aA l=jb (jX l) 0 0:=by
 have:=JP l 0 0 h;rw[df] at this;unfold aA mK;rw[E4 h];simp only[if_true];exact this
def jS:List ae->List ae->Bool->List (List ae)
 |[],cur,b=>if b then [cur] else []
 |t::r,cur,b=>if t.kind=5 then cur::jS r [] b else jS r (cur++[t]) b
theorem AO(x:E7)(q:Int)(tb:List ae)(bb:Bool):∀(ta cur:List ae),(∀t∈ta,t.kind≠5)->jS (ta++⟨5,x,q⟩::tb) cur bb=(cur++ta)::jS tb [] bb
 |[],cur,_=>by simp only[cM,jS,if_true,eI]
 | t::ta,cur,h=>by
  have h1:=h t (by simp);rw[cf,jS,E6 h1,AO x q tb bb ta (cur++[t]) (fun u hu=>h u (by simp[hu]))];simp
theorem AP(bb:Bool):∀(ta cur:List ae),(∀t∈ta,t.kind≠5)->jS ta cur bb=if bb then [cur++ta] else []
 |[],cur,_=>by rw[jS,eI]
 | t::ta,cur,h=>by
  have h1:=h t (by simp);rw[jS,E6 h1,AP bb ta (cur++[t]) (fun u hu=>h u (by simp[hu]))];simp
def mG(l:Bs):Bool:=match l.getLast? with|some c=>c != 10|none=>false
theorem Na{a:Bs}(h:10∉a):mG a=decide (a≠[]):=by
 unfold mG
 cases hl:a.getLast? with
 |none=>rw[s9.1 hl];rfl
 |some c=>
  have b:c∈a:=List.mem_of_getLast? hl;rw[decide_eq_true (by rintro rfl;cases hl)];simp only[bne_iff_ne,ne_eq];rintro rfl;exact h b
theorem Pp(a b:Bs):mG (a++10::b)=mG b:=by
 unfold mG;rw[qT,List.getLast?_cons];cases b.getLast?<;>rfl
theorem GH(l:Bs):∀(p:Nat) (o:Int),(aC l p).2.2=0->jS (aC l p).1 [] (mG l)=(jb (jX l) p o).map (·.toks):=by
 refine um (P:=fun l=>∀(p:Nat) (o:Int),(aC l p).2.2=0->jS (aC l p).1 [] (mG l)=(jb (jX l) p o).map (·.toks)) ?_ ?_ l
 .intro a f p o _
  rw[oz a f,jb,AP _ _ _ (iM a.length a p lz f),cM,Na f]
  by_cases j:a=[]
  .subst j;rfl
  .rw[decide_eq_true j,E4 rfl,E6 j];rfl
 .intro a b f i p o h
  obtain⟨v,k,q⟩:=ql a b p h;rw[q,o6 a b f,Pp]
  obtain⟨x,r,u⟩:∃x r,jX b=x::r:=by
   cases hc:jX b with
   |nil=>exact absurd hc (FR b)
   |cons x r=>exact⟨x,r,rfl⟩
  have i:=i (p+a.length+1) (dn o (aC a p).1) k;rw[u] at i ⊢;rw[jb,cI,<-i];simp only;rw[AO _ _ _ _ _ _ (iM a.length a p lz f),cM];rfl
def jG(l:Bs):List (List ae):=if (aC l 0).2.2=0 then jS (aC l 0).1 [] (mG l) else []
theorem mD(l:Bs):jG l=(aA l).map (·.toks):=by
 unfold jG
 by_cases h:(aC l 0).2.2=0
 .rw[E4 h,fK h,GH l 0 0 h]
 .rw[E6 h]
  unfold aA mK;rw[E6 h,E6 h];rfl
def fe(r:List ae):Bool:=match r.getLast? with|some t=>bZ t pg|none=>false
def il(r:List ae):Bool:=match r with|t::_=>bZ t mZ|[]=>false
def bq:List (List ae)->List (List ae)
 |[]=>[]
 |[]::r=>bq r
 |(t::q)::r=>(t::q)::r
def rf(r:List ae)(rest:List (List ae)):List ae×List (List ae):=
 if fe r then (match bq rest with|x::q=>if il x then (r++x,q) else (r,rest)|[]=>(r,rest)) else (r,rest)
structure rG where
 toks:List ae
 after:Bool
def eu:Nat->Bool->List (List ae)->List rG
 |0,_,_=>[]
 |_+1,_,[]=>[]
 |n+1,_,[]::rest=>eu n true rest
 |n+1,gap,(t::q)::rest=>⟨(rf (t::q) rest).1,gap⟩::eu n false (rf (t::q) rest).2
theorem iP{rows q:List (List ae)}(h:bq rows=x::q):x≠[]/\q.length<rows.length/\∀r,r=x\/r∈q->r∈rows:=by
 induction rows with
 |nil=>cases h
 |cons a rows ih=>
  cases a with
  |nil=>
   obtain⟨b,d,c⟩:=ih h;exact⟨b,by simp;omega,fun r hr=>by simp[c r hr]⟩
  |cons t p=>
   simp only[bq,fY] at h;obtain⟨rfl,rfl⟩:=h;exact⟨by simp,by simp,fun r hr=>by rcases hr with rfl|hr<;>simp[*]⟩
theorem QF(a:x≠[]):fe (r++x)=fe x:=by
 unfold fe;rw[qT]
 cases h:x.getLast? with
 |none=>exact absurd (s9.1 h) a
 |some t=>rfl
abbrev kG(t:ae):Bs:=t.text.data.toList
def iR(n:Nat):Bs:=List.replicate n 32
def VP(x:Nat×ae):Bs:=iR x.1++kG x.2
def fu(l:List (Nat×ae)):Bs:=l.flatMap VP
def nu(row:List ae)(ind i:Nat):Nat:=if i=0 then ind else lF row i
def C9(row:List ae)(ind:Nat):List (Nat×ae):=row.mapIdx fun i t=>(nu row ind i,t)
def dw(row:List ae)(ind fr en:Nat):Bs:=fu (((C9 row ind).take en).drop fr)
theorem Hl(row:List ae)(ind:Nat):(C9 row ind).length=row.length:=List.length_mapIdx
theorem Sy{row:List ae}{ind:Nat}(h:k<row.length):(C9 row ind)[k]'(by rw[Hl];exact h)=(nu row ind k,row[k]):=by
 unfold C9;rw[List.getElem_mapIdx]
theorem yw(row:List ae)(ind fr:Nat):dw row ind fr fr=[]:=by
 unfold dw;rw[ek (by rw[c8];omega)];rfl
theorem xJ(a b:List (Nat×ae)):fu (a++b)=fu a++fu b:=List.flatMap_append
theorem Ho{row:List ae}{ind fr:Nat}(f:fr<=k)(b:k<row.length):dw row ind fr (k+1)=dw row ind fr k++(iR (nu row ind k)++kG row[k]):=by
 have c:k<(C9 row ind).length:=by rw[Hl];exact b
 unfold dw;rw[List.take_add_one,br c,Sy b,eo (by rw[c8];omega),xJ];simp[fu,VP]
def fJ(l:Bs):Nat:=if (scan (nb l) 0).2.isNone then (scan (nb l) 0).1.length else 0
def ng:List ae->Nat->Nat->Option Nat
 |[],_,_=>aq
 |t::r,i,0=>if dD t then ng r (i+1) 0 else aw i
 |t::r,i,n+1=>if dD t then ng r (i+1) (n+1) else ng r (i+1) n
def gK(r:List ae):Option Nat:=match ng r 0 1 with
 |some i=>if bZ (r[i]?.getD ⟨0,⟨#[]⟩,0⟩) Gc then aw i else aq
 |none=>aq
theorem yu:∀(r:List ae) (i n j:Nat),ng r i n=aw j->i+n<=j/\j<i+r.length
 |[],_,_,_,h=>by cases h
 | t::r,i,0,j,h=>by
  rw[ng] at h;simp only[bc];split at h
  .have:=yu r (i+1) 0 j h;omega
  .cases h;omega
 | t::r,i,n+1,j,h=>by
  rw[ng] at h;simp only[bc];split at h
  .have:=yu r (i+1) (n+1) j h;omega
  .have:=yu r (i+1) n j h;omega
theorem iq{i:Nat}(h:gK r=aw i):1<=i/\i<r.length:=by
 unfold gK at h;split at h
 .next j b=>
  split at h
  .cases h
   have:=yu r 0 1 i b;omega
  .cases h
 .cases h
structure aB where
 toks:List ae
 dep:Int
def iL:List rG->Int->Option Bool->List aB
 |[],_,_=>[]
 |f::r,d,pv=>(if f.after&&(pv.isSome&&(!lW f.toks&&pv != aw true)) then [⟨[],0⟩] else [])++⟨f.toks,eB d f.toks⟩::iL r (dn d f.toks) (aw (jy f.toks))
def di(l:List (List ae)):List aB:=iL (eu l.length false l) 0 aq
def aB.ind(r:aB):Nat:=(2*r.dep).toNat
def aB.eq(r:aB):Nat:=(gK r.toks).getD 0
def bz(r:aB):Bs:=dw r.toks r.ind 0 r.eq
def kU(run:List aB):Nat:=run.foldl (fun m r=>max m (fJ (bz r))) 0
def ib(W:Nat)(r:aB):Bs:=bz r++(iR (W-fJ (bz r)+1)++(kG (r.toks[r.eq]?.getD ⟨0,⟨#[]⟩,0⟩)++(dw r.toks r.ind (r.eq+1) r.toks.length++[10])))
def pI(run:List aB):Bs:=run.flatMap (ib (kU run))
def zm(r:aB):Bs:=dw r.toks r.ind 0 r.toks.length++[10]
def ja:List aB->List aB->Bs
 |[],run=>pI run
 |r::l,run=>if (gK r.toks).isSome then ja l (run++[r]) else pI run++(zm r++ja l [])
def iC(l:List (List ae)):Bs:=ja (di l) []
def bU(l:Bs):Bs×Int×Int:=if (aT l).2.2=0 then (iC ((aA l).map (·.toks)),-1,0) else ([],(aT l).2)
theorem FC:∀(r x:Bs),r.length<=uF (r++x)->uF r=r.length
 |[],_,_=>rfl
 | c::r,x,h=>by
  simp only[cf,uF,bc] at h ⊢;split at h
  .next hc=>rw[E4 hc,FC r x (by omega)]
  .omega
theorem LW:∀u:Bs,10∉u.take (cO u)
 |[]=>by simp
 | c::u=>by
  rw[cO];split
  .simp
  .next h=>
   rw[cN];intro hm;rcases cL.1 hm with e|e
   .exact h e.symm
   .exact LW u e
theorem BC:∀u:Bs,10∉u->cO u=u.length
 |[],_=>rfl
 | c::u,h=>by
  simp only[cL,not_or] at h;rw[cO,E6 (fun e=>h.1 e.symm),BC u h.2];rfl
theorem Ci{p:UInt8->Bool}:∀l:Bs,(l.dropWhile p).dropWhile p=l.dropWhile p
 |[]=>rfl
 | c::l=>by
  by_cases h:p c=true
  .rw[List.dropWhile_cons_of_pos h];exact Ci l
  .rw[sD h,sD h]
theorem ym(u:Bs):∃ws:Bs,u.take (cO u)=iy u++ws/\(∀w∈ws,aN w=true)/\iu (iy u) gm=iy u:=by
 unfold iy iu;refine⟨((u.take (cO u)).reverse.takeWhile (gm.contains ·)).reverse,?_,?_,?_⟩
 .rw[<-List.reverse_append,List.takeWhile_append_dropWhile,List.reverse_reverse]
 .intro w a
  rw[List.mem_reverse] at a;exact List.all_eq_true.1 (List.all_takeWhile (p:=(gm.contains ·))) w a
 .rw[List.reverse_reverse,Ci]
theorem AY{t rest:Bs}(h:t.length=(iy (t++rest)).length):t=iy (t++rest)/\10∉t/\iy t=t/\∃ws,(t++rest).take (cO (t++rest))=t++ws/\∀w∈ws,aN w=true:=by
 obtain⟨ws,c,i,f⟩:=ym (t++rest)
 have Ab:t.length<=cO (t++rest):=by
  have:=congrArg fh c;rw[cm,c8,<-h] at this;omega
 have e:t=iy (t++rest):=by
  have q:=congrArg (List.take t.length) c;rw[mz,nh Ab,fl] at q;rw[h,fl] at q;exact q
 have Aa:10∉t:=fun hm=>LW (t++rest) (by rw[c,<-e];exact List.mem_append_left _ hm);refine⟨e,Aa,?_,ws,by rw[c,<-e],i⟩;rw[<-e] at f;unfold iy;rw[BC t Aa,eS lz,f]
theorem Eg:∀(l:Bs) (m:Nat),gP l=aw m->gP (l.take (m+2))=aw m
 |[],_,h=>by cases h
 | c::l,m,h=>by
  rw[gP] at h;split at h
  .next hc=>
   cases h
   cases l with
   |nil=>simp at hc
   |cons d l=>
    simp only[nj,du] at hc;simp[gP,hc.1,hc.2]
  .next hc=>
   obtain⟨j,hj,rfl⟩:=Option.map_eq_some_iff.1 h;have ih:=Eg l j hj;have h2:=oZ l j hj;rw[show j+1+2=(j+2)+1 by omega,cN,gP]
   have hh:(l.take (j+2)).head?=l.head?:=by
    cases l with
    |nil=>simp at h2
    |cons d l=>rfl
   rw[hh,E6 hc,ih];rfl
def Wv(c:UInt8)(s:Bs):Prop:=(s.head?≠aw 61/\s.head?≠aw 38/\s.head?≠aw 124/\s.head?≠aw 47/\s.head?≠aw 42)\/(c≠61/\c≠33/\c≠60/\c≠62/\c≠38/\c≠124/\c≠47)
def xP(t:ae):Prop:=∃(c:UInt8) (r rest:Bs) (k:Nat),kG t=c::r/\aN c=false/\t.kind=(k:Int)/\dY (kG t++rest)=.tok k (kG t).length
structure Vh(t:ae)(s:Bs):Prop where
 id:t.kind=1->uF s=0
 num:t.kind=2->nJ s
 sg:t.kind=4->(kG t).length=2\/∃c,kG t=[c]/\Wv c s
 rem:t.kind=6->s=[]\/∃b,s=10::b
theorem tY:∀(k:Nat) (l:Bs) (p:Nat),l.length<=k->∀t∈(aC l p).1,xP t
 |_,[],p,_=>by rw[dM];intro t ht;cases ht
 |0,c::r,p,hk=>by simp at hk
 | k+1,c::r,p,hk=>by
  simp only[bc] at hk
  cases hb:aN c with
  |true=>rw[bV hb];exact tY k r (p+1) (by omega)
  |false=>
   cases ho:dY (c::r) with
   |bad o e=>rw[fw hb ho];intro t ht;cases ht
   |tok kd sz=>
    have hs:=dC ho;rw[dE hb ho];intro t ht;simp only[cL] at ht;rcases ht with rfl|ht
    .obtain⟨j,rfl⟩:∃j,sz=j+1:=⟨sz-1,by omega⟩
     refine⟨c,r.take j,(c::r).drop (j+1),kd,?_,hb,rfl,?_⟩
     .show (au ((c::r).take (j+1))).data.toList=_
      rw[aV,cN]
     .show dY ((au ((c::r).take (j+1))).data.toList++_)=.tok kd ((au ((c::r).take (j+1))).data.toList).length
      rw[aV,List.take_append_drop,ho,c8,nh hs.2]
    .exact tY k _ _ (by rw[bm,bc];omega) t ht
theorem OB{t:Bs}(h:OC t=0)(a:t≠[]):dB t=t.length:=by
 unfold OC decR at h;split at h
 .next q=>exact q.1
 .exact absurd h (by decide)
theorem Ke(ht:xP t)(hs:Vh t s):∃k:Nat,t.kind=(k:Int)/\dY (kG t++s)=.tok k (kG t).length:=by
 obtain⟨c,r,Aa,k,e,hb,Q,u⟩:=ht;refine⟨k,Q,?_⟩;obtain⟨h1,h2,X,h6⟩:=hs;rw[Q] at h1 h2 X h6;rw[e] at u X ⊢
 have Ae:∀(q:Bs) (k2 m:Nat),gp q k2=.tok k m->k=k2:=fun q k2 m h=>by
  unfold gp at h;split at h
  .cases h
  .injection h with h _;exact h.symm
 rw[cf] at u ⊢;rw[dY] at u ⊢;split at u
 .next hc=>
  rw[E4 hc]
  injection u with hk1 hn
  subst hk1;have hi:=FC r Aa (by simp only[bc] at hn;omega);rw[xy (h1 rfl),hi,bc,eV]
 next hc=>
 rw[E6 hc];split at u
 .next hg=>
  rw[E4 hg]
  have Am:k=2:=by
   unfold nA at u;split at u
   .injection u with Q _;exact Q.symm
   .cases u
  subst Am
  have hn:nA (c::r)=.tok 2 (c::r).length:=by
   unfold nA at u;split at u
   .next L=>
    injection u with _ hn
    rw[hn,<-cf,fl] at L;unfold nA;rw[OB L (by simp),eS lz,E4 L]
   .cases u
  rw[<-cf];exact Ic hn (by simp) (h2 rfl)
 next hg=>
 rw[E6 hg];split at u
 .next hq=>
  rw[E4 hq];unfold oG at u;split at u
  .next hz=>
   injection u with hk3 hn
   subst hk3;have Ar:=kg (gN (c::(r++Aa))) hz;have M:=qH (l:=nb (c::(r++Aa))) (m:=nb s) (gN _) (gN s) hz
   have ht:(nb (c::(r++Aa))).take (aW (nb (c::(r++Aa)))).2.1=nb (c::r):=by
    rw[hn];unfold nb;rw[<-rj,<-cf,fl]
   rw[ht,<-vN,cf] at M;unfold oG;rw[M,E4 hz,hn]
  .cases u
 next hq=>
 rw[E6 hq];split at u
 .next F=>
  rw[E4 F];exact u
 next F=>
 rw[E6 F];split at u
 .next D=>
  have An:=Ae _ _ _ u;subst An
  have Ab:(c::r).length=(iy ((c::r)++Aa)).length:=by
   unfold gp at u;split at u
   .cases u
   .injection u with _ hn;exact hn.symm
  obtain⟨g1,g2,g3,ws,V,g5⟩:=AY Ab
  have hR:iy ((c::r)++s)=c::r:=by
   rcases h6 rfl with rfl|⟨b,rfl⟩
   .rw[eI,g3]
   .rw[ET,g3]
  have Ad:c=35\/(c=47/\(r++s).head?=aw 47):=by
   rcases D with D|⟨D,E⟩
   .exact .inl D
   .refine .inr ⟨D,?_⟩
    cases r with
    |cons d r=>exact E
    |nil=>
     exfalso
     cases Aa with
     |nil=>cases E
     |cons d Aa=>
      simp only[cM,nj,du] at E;subst E;subst D
      have S:cO ([47]++47::Aa)=(cO Aa+1)+1:=by
       show cO (47::47::Aa)=_;rw[cO,E6 (by decide),cO,E6 (by decide)]
      rw[S] at V;simp only[cf,cM,cN,fY,true_and] at V;have:=g5 47 (by rw[<-V];simp)
      revert this;decide
  rw[E4 Ad,<-cf,hR];rw[<-cf,<-g1] at u;exact u
 next D=>
 split at u
 .next K=>
  have Ac:=K.1;unfold eT at u;split at u
  .cases u
  .next m M=>
   split at u
   .cases u
   .next hct=>
    have Ao:=Ae _ _ _ u;subst Ao;have Ap:=oZ _ _ M;rw[bm] at Ap
    have Ab:(c::r).length=m+4:=by
     unfold gp at u;split at u
     .cases u
     .injection u with _ hn
      rw[c8] at hn;omega
    have Ai:((c::(r++Aa)).take (m+4))=c::r:=by rw[<-Ab,<-cf,fl]
    have hA:eT (c::r)=.tok 7 (c::r).length:=by
     have Al:=Eg _ _ M;have e4:((c::(r++Aa)).drop 2).take (m+2)=((c::(r++Aa)).take (m+4)).drop 2:=by rw[List.drop_take];rfl
     rw[e4,Ai] at Al;unfold eT;rw[Al];simp only;rw[<-Ai,mz,nh (by omega),E6 hct,mz,Nat.min_self];exact u.trans (by rw[Ai])
    have Aj:2<=(c::r).length:=by omega
    have hh:(r++s).head?=aw 42:=by
     cases r with
     |nil=>simp at Aj
     |cons d r=>exact K.2
    have Ah:¬(c=35\/c=47/\(r++s).head?=aw 47):=by
     rw[hh,Ac];decide
    rw[E6 Ah,E4 ⟨Ac,hh⟩,<-cf];exact Cv hA Aj
 next K=>
 split at u
 .cases u
 next h0=>
 injection u with hk4 hn
 subst hk4
 have Ak:∀(x:Bs),r≠[]->(r++x).head?=r.head?:=fun x hr0=>by
  cases r with
  |nil=>exact absurd rfl hr0
  |cons d r=>rfl
 rcases X rfl with h|⟨c2,h,I⟩
 .have hr0:r≠[]:=by rintro rfl;simp at h
  rw[Ak Aa hr0] at D K;rw[Ak s hr0,E6 D,E6 K];have e1:=zG (c:=c) (r:=r) (s:=Aa) (.inl hr0);have S:=zG (c:=c) (r:=r) (s:=s) (.inl hr0);rw[e1] at h0 hn;rw[S,E6 h0,hn]
 .simp only[fY] at h
  obtain⟨rfl,rfl⟩:=h;simp only[cM,eh] at *
  have Ag:∀x:Bs,CU (c::x)=1->qa.contains c=true:=fun x hx=>by
   unfold CU at hx;split at hx
   .cases hx
   .simp only at hx
    split at hx
    .next q=>exact q
    .cases hx
  have Af:=Ag Aa hn
  have hN:CU (c::s)=1:=by
   have L:mq.any (fun d=>d.isPrefixOf (c::s))=false:=by
    simp only[mq,List.any_cons,List.any_nil,C8];rcases I with ⟨q1,J,q3,-,-⟩|⟨q1,J,q3,q4,q5,q6,-⟩
    .simp[q1,J,q3]
    .simp[q1,J,q3,q4,q5,q6]
   unfold CU;rw[L];simp only[Bool.false_eq_true,if_false,Af,if_true]
  have Ah:¬(c=35\/c=47/\s.head?=aw 47):=by
   rintro (q|⟨q,J⟩)
   .subst q;revert Af;decide
   .rcases I with ⟨-,-,-,q4,-⟩|⟨-,-,-,-,-,-,q7⟩
    .exact q4 J
    .exact q7 q
  have Aq:¬(c=47/\s.head?=aw 42):=by
   rintro⟨q,J⟩;rcases I with ⟨-,-,-,-,q5⟩|⟨-,-,-,-,-,-,q7⟩
   .exact q5 J
   .exact q7 q
  rw[E6 Ah,E6 Aq,hN];rfl
theorem j4(h:(jr g f).2.2=0):g.2.2=0/\jr g f=f g.1 g.2.1:=by
 by_cases a:g.2.2=0
 .exact⟨a,cB a⟩
 .rw[bA a] at h;exact absurd h a
theorem o9:(dJ r n).2.2≠0:=by unfold dJ;split<;>simp
def JG(t:ae):Bool:=gV t || aO t [33,45,40,91]
def IY(t:ae):Bool:=gV t || aO t [41,93]
def zz(a b:ae):Bool:=(!bZ a uE || decide (b.kind=1))&&(!bZ a dQ || JG b)
def uw:List ae->Bool
 |[]=>true
 |[_]=>true
 |a::b::r=>zz a b&&uw (b::r)
def Fj(l:List ae):Bool:=match l.getLast? with|some t=>IY t|none=>false
def UL(l:List ae):Bool:=match l with|t::_=>JG t|[]=>false
theorem FU:∀(l:List ae) (a b:ae) (m:List ae),uw (l++[a])=true->uw (b::m)=true->zz a b=true->uw (l++a::b::m)=true
 |[],a,b,m,_,h2,h3=>by simp only[cM,uw,h2,h3];rfl
 | [x],a,b,m,h1,h2,h3=>by
  simp only[cf,cM,uw,ot] at h1;simp only[cf,cM,uw,h1,h2,h3];rfl
 | x::y::l,a,b,m,h1,h2,h3=>by
  simp only[cf,uw,cP] at h1 ⊢;exact⟨h1.1,FU (y::l) a b m h1.2 h2 h3⟩
theorem oo(h:bZ t v=true)(a:v≠w):bZ t w=false:=by
 unfold bZ at h ⊢;rw[cP,decide_eq_true_eq,decide_eq_true_eq] at h;rw[decide_eq_false (p:=t.text=w) (by rw[h.2];exact a),Bool.and_false]
theorem pW(h:gV t=true)(w:E7):bZ t w=false:=by
 unfold gV at h;unfold bZ;rw[decide_eq_false (p:=t.kind=4),Bool.false_and];intro e;rw[e] at h
 revert h;decide
theorem Q9(h:IY t=true):gV t=true\/bZ t tF=true\/bZ t rT=true:=by
 unfold IY at h;simp only[dA,yM,Bool.or_false,gd] at h;exact h
theorem Q8(h:IY t=true)(a:tF≠w)(b:rT≠w):bZ t w=false:=by
 rcases Q9 h with h|h|h
 .exact pW h w
 .exact oo h a
 .exact oo h b
theorem FZ(h:IY a=true):zz a b=true:=by
 unfold zz;rw[Q8 h (w:=uE) (by decide) (by decide),Q8 h (w:=dQ) (by decide) (by decide)];rfl
theorem RF(h:bZ a w=true)(c:w≠uE)(f:w≠dQ):zz a b=true:=by
 unfold zz;rw[oo h c,oo h f];rfl
structure uJ(l:List ae):Prop where
 c:uw l=true
 f:UL l=true
 e:Fj l=true
theorem uJ.last(h:Fj l=true):∃q t,l=q++[t]/\IY t=true:=by
 rcases gS l with rfl|⟨q,t,rfl⟩
 .cases h
 .rw[hU] at h ⊢
  unfold Fj at h;rw[eM] at h;exact⟨q,t,rfl,h⟩
theorem qi(l:List ae)(h:Fj m=true):Fj (l++m)=true:=by
 obtain⟨q,t,rfl,a⟩:=uJ.last h;unfold Fj;rw[<-ef,eM];exact a
theorem Q3(h:UL l=true)(m:List ae):UL (l++m)=true:=by
 cases l with
 |nil=>cases h
 |cons t l=>exact h
theorem Ro(a:uw l=true)(f:Fj l=true)(g:uw m=true):uw (l++m)=true:=by
 obtain⟨q,t,rfl,d⟩:=uJ.last f
 cases m with
 |nil=>rw[eI];exact a
 |cons b m=>
  rw[ef];exact FU q t b m a g (FZ d)
theorem uJ.join(h:uJ l)(hc:uw m=true)(he:Fj m=true):uJ (l++m):=⟨Ro h.c h.e hc,Q3 h.f m,qi l he⟩
theorem qz(d:bZ t w=true)(a:w≠uE)(c:w≠dQ)(h:uw m=true):uw (t::m)=true:=by
 cases m with
 |nil=>rfl
 |cons b m=>simp only[uw,RF d a c,h];rfl
theorem Uc(h:bZ t w=true)(a:w=tF\/w=rT):IY t=true:=by
 unfold IY;rcases a with rfl|rfl
 .rw[dA,show bZ t (au [41])=true from h,ur,qv]
 .rw[dA,dA,show bZ t (au [93])=true from h,ur,qv,qv]
theorem uJ.two(h:uJ l)(ht:bZ t w=true)(h1:w≠uE)(h2:w≠dQ)(hm:uJ m):uJ (l++t::m):=
 h.join (qz ht h1 h2 hm.c) (qi [t] hm.e)
theorem uJ.shut(h:uJ l)(ht:bZ t w=true)(hw:w=tF\/w=rT):uJ (l++[t]):=
 h.join rfl (by show IY t=true;exact Uc ht hw)
theorem uJ.word(h:gV t=true):uJ [t]:=⟨rfl,by show JG t=true;unfold JG;rw[h];rfl,by show IY t=true;unfold IY;rw[h];rfl⟩
theorem om(h:cu (r.drop k) w=true):∃t,bZ t w=true/\r.drop k=t::r.drop (k+1)/\∀n,r.take (k+1+n)=r.take k++t::(r.drop (k+1)).take n:=by
 cases hd:r.drop k with
 |nil=>rw[hd] at h;cases h
 |cons t q=>
  rw[hd] at h;have a:r.drop (k+1)=q:=by rw[<-c4,hd];rfl
  refine⟨t,h,by rw[a],fun n=>?_⟩;rw[Nat.add_assoc,od,hd,eV 1 n,cN,a]
theorem UG{lv:Nat}{o:E7}(h:LZ r lv=aw o)(g:lv<=6):∃t,bZ t o=true/\r=t::r.drop 1/\o≠uE/\o≠dQ:=by
 cases r with
 |nil=>cases h
 |cons t r=>
  unfold LZ at h;simp only at h;split at h
  .next f=>
   cases h
   have b:∀w:E7,Ik w = -1\/Ik w=7->t.text≠w:=fun w hw e=>by rw[<-e] at hw;omega
   exact⟨t,by unfold bZ;rw[decide_eq_true f.1,decide_eq_true rfl];rfl,rfl,b _ (.inl (by kernel_rfl)),b _ (.inr (by kernel_rfl))⟩
  .cases h
structure Wx(l:List ae):Prop where
 c:uw l=true
 e:Fj l=true
def TQ:Nt->List ae->Nat->Prop
 |.choice,r,n=>uJ (r.take n)
 |.term lv,r,n=>lv<=7->uJ (r.take n)
 |.tloop lv _,r,n=>lv<=6->∀l,uJ l->uJ (l++r.take n)
 |.tight,r,n=>uJ (r.take n)
 |.post,r,n=>uJ (r.take n)
 |.ploop _,r,n=>∀l,uJ l->uJ (l++r.take n)
 |.prime,r,n=>uJ (r.take n)
 |.many s,r,n=>(s=tF\/s=rT)->(∀t q,r=t::q->bZ t EO=true\/bZ t EP=true)->r≠[]->1<=n/\Wx (r.take n)
 |.mloop s _,r,n=>(s=tF\/s=rT)->uJ (r.take n)
theorem E8(h:bZ t EO=true\/bZ t EP=true)(a:uw m=true):uw (t::m)=true:=by
 rcases h with h|h
 .exact qz h (by decide) (by decide) a
 .exact qz h (by decide) (by decide) a
theorem Wt:∀(n:Nat) (t:Nt) (r:List ae) (d:Nat),(ah n t r d).2.2=0->TQ t r (ah n t r d).2.1:=by
 intro n
 induction n with
 |zero=>intro t r d h;simp[ah] at h
 |succ n ih=>
  intro t r d h
  cases t with
  |choice=>
   simp only[ah] at h ⊢;obtain⟨H,I⟩:=j4 h;rw[I] at h ⊢;have j:=ih (.term 1) r d H (by omega)
   by_cases hq:cu (r.drop (ah n (.term 1) r d).2.1) sQ=false
   .rw[E4 hq];exact j
   .rw[E6 hq] at h ⊢
    split at h
    .simp[ow] at h
    .next hd=>
     rw[E6 hd];obtain⟨S,W⟩:=j4 h;rw[W] at h ⊢;have M:=ih .choice (r.drop ((ah n (.term 1) r d).2.1+1)) (d+1) S;simp only[TQ] at M;generalize ah n .choice (r.drop ((ah n (.term 1) r d).2.1+1)) (d+1)=B at *;generalize ah n (.term 1) r d=A at *
     by_cases K:cu (r.drop (eZ (A.2.1+1) B).2.1) RU=false
     .rw[E4 K] at h;exact absurd h o9
     .rw[E6 K] at h ⊢
      obtain⟨h5,h6⟩:=j4 h;rw[h6];have i3:=ih .choice (r.drop ((eZ (A.2.1+1) B).2.1+1)) (d+1) h5;simp only[TQ] at i3 ⊢;generalize ah n .choice (r.drop ((eZ (A.2.1+1) B).2.1+1)) (d+1)=C at *;obtain⟨t1,e1,-,D⟩:=om (by simpa using hq);obtain⟨t2,e3,-,R⟩:=om (by simpa using K);simp only[eZ] at D R i3 ⊢;rw[R,D];have:=(j.two e1 (by decide) (by decide) M).two e3 (by decide) (by decide) i3
      simpa using this
  |term lv=>
   simp only[ah] at h ⊢;intro l7;split at h
   .next h7=>
    rw[E4 h7];exact ih .tight r d h
   .next h7=>
    rw[E6 h7];obtain⟨H,I⟩:=j4 h;rw[I] at h ⊢;have j:=ih (.term (lv+1)) r d H (by omega);generalize ah n (.term (lv+1)) r d=A at *;have M:=ih (.tloop lv A.1) (r.drop A.2.1) d h (by omega) _ j;simp only[eZ];rw[od];exact M
  |tloop lv a=>
   simp only[ah] at h ⊢;intro l6 l hl;split at h
   .next hn=>
    (try simp only[hn])
    simpa using hl
   .next o ho=>
    (try simp only[ho])
    obtain⟨H,I⟩:=j4 h;rw[I] at h ⊢;have j:=ih (.term (lv+1)) (r.drop 1) d H (by omega);generalize ah n (.term (lv+1)) (r.drop 1) d=A at *;simp only[eZ] at h ⊢;obtain⟨t,e1,D,e3,R⟩:=UG ho l6;have M:=ih (.tloop lv (.mk o jO [a,A.1])) (r.drop (1+A.2.1)) d h l6 _ (hl.two e1 e3 R j);rw[od,eV 1 A.2.1];rw[eV 1 A.2.1] at M;rw[D,cN,<-ef];rw[D] at M
    simpa using M
  |tight=>
   simp only[ah] at h ⊢;split at h
   .next hb=>
    rw[E4 hb];exact ih .post r d h
   .next hb=>
    rw[E6 hb];split at h
    .simp[ow] at h
    .next hd=>
     rw[E6 hd];obtain⟨H,I⟩:=j4 h;rw[I];have j:=ih .tight (r.drop 1) (d+1) H;simp only[TQ] at j ⊢;generalize ah n .tight (r.drop 1) (d+1)=A at *;simp only[eZ]
     have N:cu (r.drop 0) dQ=true\/cu (r.drop 0) kZ=true:=by
      rw[dd];cases H:cu r dQ<;>cases I:cu r kZ
      .exact absurd ⟨H,I⟩ hb
      all_goals simp
     obtain⟨x,m,hx⟩:∃x m,(r.drop 1).take A.2.1=x::m:=by
      cases hm:(r.drop 1).take A.2.1 with
      |nil=>rw[hm] at j;have:=j.f;cases this
      |cons x m=>exact⟨x,m,rfl⟩
     rcases N with N|N
     .obtain⟨t,e1,-,D⟩:=om N
      have D:=D A.2.1;simp only[df,fz,cM] at D;rw[D];refine⟨?_,?_,qi [t] j.e⟩
      .rw[hx] at j ⊢
       have hf:JG x=true:=j.f;simp only[uw,j.c,zz,hf,oo e1 (show dQ≠uE by decide)];simp
      .show JG t=true
       unfold JG;rw[dA,show bZ t (au [33])=true from e1,ur,qv]
     .obtain⟨t,e1,-,D⟩:=om N
      have D:=D A.2.1;simp only[df,fz,cM] at D;rw[D];refine⟨qz e1 (by decide) (by decide) j.c,?_,qi [t] j.e⟩;show JG t=true;unfold JG;rw[dA,dA,show bZ t (au [45])=true from e1,ur,qv,qv]
  |post=>
   simp only[ah] at h ⊢;obtain⟨H,I⟩:=j4 h;rw[I] at h ⊢;have j:=ih .prime r d H;simp only[TQ] at j ⊢;generalize ah n .prime r d=A at *;have M:=ih (.ploop A.1) (r.drop A.2.1) d h _ j;simp only[eZ];rw[od];exact M
  |ploop a=>
   simp only[ah] at h ⊢;intro l hl;split at h
   .next L=>
    rw[E4 L];split at h
    .exact absurd h o9
    .next t q hq=>
     simp only[hq];split at h
     .next hk=>
      rw[E4 hk];obtain⟨t0,e1,D,-⟩:=om (k:=0) (by rw[dd];exact L);rw[dd,df,hq] at D;have Ab:gV t=true:=by unfold gV;rw[decide_eq_true hk];rfl
      have Aa:uJ (l++[t0,t]):=by
       refine hl.join ?_ (by show IY t=true;unfold IY;rw[Ab];rfl);simp only[uw,zz,decide_eq_true hk,oo e1 (show uE≠dQ by decide)];simp
      have j:=ih (.ploop (.mk qh t.text [a])) (r.drop 2) d h _ Aa;simp only[eZ];rw[od];rw[show r.take 2=[t0,t] by rw[D];rfl]
      simpa using j
     .exact absurd h o9
   .next L=>
    rw[E6 L];split at h
    .next X=>
     rw[E4 X];split at h
     .simp[ow] at h
     .next hd=>
      rw[E6 hd];obtain⟨H,I⟩:=j4 h;rw[I] at h ⊢;have j:=ih .choice (r.drop 1) (d+1) H;simp only[TQ] at j;generalize ah n .choice (r.drop 1) (d+1)=A at *
      by_cases K:cu (r.drop (eZ 1 A).2.1) rT=false
      .rw[E4 K] at h;exact absurd h o9
      .rw[E6 K] at h ⊢
       obtain⟨t0,e1,-,D⟩:=om (k:=0) (by rw[dd];exact X);obtain⟨t1,e3,-,R⟩:=om (by simpa using K);simp only[eZ] at R h ⊢;have D:=D A.2.1;simp only[df,fz,cM] at D;have Aa:=(hl.two e1 (by decide) (by decide) j).shut e3 (.inr rfl);have M:=ih (.ploop (.mk zu jO [a,A.1])) (r.drop (1+A.2.1+1)) d h _ Aa;rw[R,D]
       simpa using M
    .next X=>
     rw[E6 X]
     simpa using hl
  |prime=>
   cases r with
   |nil=>simp only[ah] at h;exact absurd h o9
   |cons t r=>
    simp only[ah] at h ⊢;simp only[TQ];split at h
    .next H=>
     rw[E4 H];have Ab:gV t=true:=by unfold gV;rw[decide_eq_true H];rfl
     split at h
     .next hp=>
      rw[E4 hp];obtain⟨S,W⟩:=j4 h;rw[W];have hr:∀t' q,r=t'::q->bZ t' EO=true\/bZ t' EP=true:=fun t' q e=>by subst e;exact .inl hp
      have j:=(ih (.many tF) r d S) (.inl rfl) hr (by rintro rfl;cases hp);generalize ah n (.many tF) r d=A at *;simp only[eZ];rw[eV,cN];have:=(uJ.word Ab).join j.2.c j.2.e
      simpa using this
     .next hp=>
      rw[E6 hp];exact uJ.word Ab
    .next H=>
     rw[E6 H];split at h
     .next I=>
      rw[E4 I];exact uJ.word (by unfold gV;rw[decide_eq_true I];simp)
     .next I=>
      rw[E6 I];split at h
      .next S=>
       rw[E4 S];split at h
       .cases h
       .next s N=>
        simp only[N];exact uJ.word (by unfold gV;rw[decide_eq_true S];simp)
      .next S=>
       rw[E6 S];split at h
       .next W=>
        rw[E4 W];obtain⟨h5,h6⟩:=j4 h;rw[h6];have j:=(ih (.many rT) (t::r) d h5) (.inr rfl) (fun t' q e=>by cases e;exact .inr W) (by simp);generalize ah n (.many rT) (t::r) d=A at *;obtain⟨i0,j⟩:=j;obtain⟨k,hk⟩:∃k,A.2.1=k+1:=⟨A.2.1-1,by omega⟩;simp only;refine⟨j.c,?_,j.e⟩;rw[hk,cN];show JG t=true;unfold JG;rw[dA,dA,dA,dA,show bZ t (au [91])=true from W];simp
       .next W=>
        rw[E6 W];split at h
        .next h5=>
         rw[E4 h5];split at h
         .simp[ow] at h
         .next h6=>
          rw[E6 h6];obtain⟨h7,h8⟩:=j4 h;rw[h8] at h ⊢;have j:=ih .choice r (d+1) h7;simp only[TQ] at j;generalize ah n .choice r (d+1)=A at *
          by_cases K:cu ((t::r).drop (eZ 1 A).2.1) tF=false
          .rw[E4 K] at h;exact absurd h o9
          .rw[E6 K] at h ⊢
           obtain⟨t1,e3,-,R⟩:=om (by simpa using K);have R:=R 0;simp only[eZ,eA,fz] at R ⊢;rw[R,eV 1,cN];have h9:=j.shut e3 (.inl rfl);refine⟨?_,?_,?_⟩
           .have:=E8 (t:=t) (.inl h5) h9.c
            simpa using this
           .show JG t=true
            unfold JG;rw[dA,dA,dA,show bZ t (au [40])=true from h5];simp
           .have:=qi [t] h9.e
            simpa using this
        .exact absurd h o9
  |many s=>
   simp only[ah] at h ⊢;intro N hr hne
   cases r with
   |nil=>exact absurd rfl hne
   |cons t q=>
    have ht:=hr t q rfl;split at h
    .simp[ow] at h
    .next hd=>
     rw[E6 hd];split at h
     .next hh=>
      rw[E4 hh];obtain⟨t1,e1,D,-⟩:=om hh;simp only[ec,dd] at D;refine⟨by simp,?_,?_⟩
      .rw[D]
       exact E8 ht rfl
      .rw[D]
       show IY t1=true;exact Uc e1 N
     .next hh=>
      rw[E6 hh];have j:=ih (.mloop s []) ((t::q).drop 1) d h N;simp only[ec,dd] at j ⊢;simp only[eZ];rw[eV 1,cN];exact⟨by omega,E8 ht j.c,qi [t] j.e⟩
  |mloop s l=>
   simp only[ah] at h ⊢;intro N;obtain⟨H,I⟩:=j4 h;rw[I] at h ⊢;have j:=ih .choice r (d+1) H;simp only[TQ] at j;generalize ah n .choice r (d+1)=A at *;split at h
   .next K=>
    rw[E4 K];obtain⟨t1,e1,-,D⟩:=om K;have M:=ih (.mloop s (l++[A.1])) (r.drop (A.2.1+1)) d h N;simp only[eZ];rw[D];exact j.two e1 (by decide) (by decide) M
   .next K=>
    rw[E6 K];split at h
    .next S=>
     rw[E4 S];obtain⟨t1,e1,-,D⟩:=om S;have D:=D 0;simp only[eA,fz] at D;simp only;rw[D];exact j.shut e1 N
    .exact absurd h o9
open Go.RowKit Go.Tab
theorem tZ:∀(k:Nat) (l:Bs) (p:Nat),l.length<=k->∀t∈(aC l p).1,t.text.size<=l.length
 | 0,l,p,h=>by
  obtain rfl:=cC (pj.1 h);intro t ht;rw[dM] at ht;cases ht
 | k+1,[],p,_=>by
  intro t ht;rw[dM] at ht;cases ht
 | k+1,c::r,p,h=>by
  simp only[bc] at h ⊢
  by_cases hb:aN c=true
  .rw[bV hb]
   intro t ht;have:=tZ k r (p+1) (by omega) t ht;omega
  .have hb:aN c=false:=by simpa using hb
   cases ho:dY (c::r) with
   |bad off e=>
    rw[fw hb ho];intro t ht;cases ht
   |tok kd sz=>
    have i:=dC ho;rw[dE hb ho];intro t ht;rcases cL.1 ht with rfl|ht
    .show (au ((c::r).take sz)).size<=_
     have:(au ((c::r).take sz)).size=((c::r).take sz).length:=by unfold au;simp[ByteArray.size]
     rw[this,c8,bc];omega
    .have:=tZ k ((c::r).drop sz) (p+sz) (by rw[bm,bc];omega) t ht
     rw[bm,bc] at this;omega
theorem Iq(l:Bs):(mK l).1.length<=l.length/\∀t∈(mK l).1,t.text.size<=l.length:=by
 unfold mK;split
 .exact⟨oh _ _ _ lz,tZ _ _ _ lz⟩
 .exact⟨Nat.zero_le _,fun t ht=>by cases ht⟩
theorem aM(s:E7):s.data.toList.length=s.size:=by rw[Array.length_toList];rfl
def EC(r:List ae)(g:gq):Prop:=g.2.2=0\/g.2.2=2\/g.2.2 = -1\/g.2.1<r.length
theorem EC.and(h:EC r g)(b:EC r (f g.1 g.2.1)):EC r (jr g f):=by
 by_cases a:g.2.2=0
 .rw[cB a];exact b
 .rw[bA a];exact h
theorem EC.up(h:EC (r.drop n) g):EC r (eZ n g):=by
 rcases h with h|h|h|h
 .exact .inl h
 .exact .inr (.inl h)
 .exact .inr (.inr (.inl h))
 .refine .inr (.inr (.inr ?_))
  rw[bm] at h;simp only[eZ];omega
theorem EC.ok{x:iA}:EC r (x,n,0):=.inl rfl
theorem EC.bad:EC r (dJ (r.drop n) n):=by
 unfold dJ;split
 .exact .inr (.inl rfl)
 .next h=>
  refine .inr (.inr (.inr ?_));refine Nat.lt_of_not_le fun hle=>h ?_;exact ek hle
theorem EC.bad0:EC r (dJ r 0):=by simpa using EC.bad (r:=r) (n:=0)
theorem EC.deep(h:n<r.length):EC r (ow n):=.inr (.inr (.inr h))
theorem QP(h:cu (r.drop k) w=true):k<r.length:=by
 have:=bW h;rw[bm] at this;omega
theorem Tj(h:¬cu (r.drop k) w=false):k<r.length:=QP (by simpa using h)
theorem Uv:∀(n:Nat) (t:Nt) (r:List ae) (d:Nat),t.okX r->EC r (ah n t r d):=by
 intro n
 induction n with
 |zero=>intro t r d _;exact .inr (.inr (.inl rfl))
 |succ n IH=>
  intro t r d z
  cases t with
  |choice=>
   rw[ah];refine (IH (.term 1) r d (by simp only[Nt.okX];omega)).and ?_;split
   .exact .ok
   .next i=>
    split
    .exact .deep (Tj i)
    .refine (IH .choice _ _ trivial).up.and ?_
     split
     .exact .bad
     .exact (IH .choice _ _ trivial).up.and .ok
  |term lv=>
   simp only[Nt.okX] at z;rw[ah];split
   .exact IH _ _ _ trivial
   .exact (IH (.term (lv+1)) r d (by simp only[Nt.okX];omega)).and (IH (.tloop lv _) _ _ (by simp only[Nt.okX];omega)).up
  |tloop lv a=>
   simp only[Nt.okX] at z;rw[ah];split
   .exact .ok
   .exact (IH (.term (lv+1)) _ d (by simp only[Nt.okX];omega)).up.and (IH (.tloop lv _) _ _ (by simp only[Nt.okX];omega)).up
  |tight=>
   rw[ah];split
   .exact IH _ _ _ trivial
   .next x=>
    split
    .refine .deep ?_
     refine ey.2 fun h=>x ?_;rw[h];exact⟨rfl,rfl⟩
    .exact (IH .tight _ _ trivial).up.and .ok
  |post=>
   rw[ah];exact (IH .prime _ _ trivial).and (IH (.ploop _) _ _ trivial).up
  |ploop a=>
   rw[ah];split
   .next g=>
    have A:=bW g;split
    .next i=>
     have:=EC.bad (r:=r) (n:=1);rw[i] at this;exact this
    .next t q i=>
     split
     .exact (IH (.ploop _) _ _ trivial).up
     .exact .bad
   .split
    .next u=>
     split
     .exact .deep (bW u)
     .refine (IH .choice _ _ trivial).up.and ?_
      split
      .exact .bad
      .exact (IH (.ploop _) _ _ trivial).up
    .exact .ok
  |prime=>
   cases r with
   |nil=>simp only[ah];exact .bad0
   |cons t r'=>
    simp only[ah];split
    .split
     .next x=>exact (EC.up (r:=t::r') (n:=1) (IH (.many tF) r' d (bW x))).and .ok
     .exact .ok
    .split
     .exact .ok
     .split
      .split
       .exact .inr (.inr (.inr (by simp)))
       .exact .ok
      .split
       .exact (IH (.many rT) (t::r') d (by simp[Nt.okX])).and .ok
       .split
        .split
         .exact .deep (by simp)
         .refine (EC.up (r:=t::r') (n:=1) (IH .choice r' (d+1) trivial)).and ?_
          split
          .exact .bad
          .exact .ok
        .exact .bad0
  |many s=>
   have A:1<=r.length:=z;rw[ah];split
   .exact .deep A
   .split
    .exact .ok
    .exact (IH (.mloop s []) _ _ trivial).up
  |mloop s l=>
   rw[ah];refine (IH .choice r (d+1) trivial).and ?_;split
   .exact (IH (.mloop s _) _ _ trivial).up
   .split
    .exact .ok
    .exact .bad
theorem EY(l:List ae)(a:(iI l).2.2≠0)(c:(iI l).2.2≠2):(iI l).2.1<l.length:=by
 unfold iI at a c ⊢
 by_cases i:1000<l.length
 .rw[E4 i];exact i
 .rw[E6 i] at a c ⊢
  by_cases h:(ah (je .choice l) .choice l 0).2.2=0
  .rw[E4 h] at a;exact absurd h a
  .rw[E6 h] at a c ⊢
   have j:=qd (je .choice l) .choice l 0 lz trivial;rcases Uv (je .choice l) .choice l 0 trivial with q|q|q|q
   .exact absurd q h
   .exact absurd q c
   .exact absurd q j.1
   .exact q
theorem Hr(l:List ae):(iI l).2.1<=l.length:=by
 unfold iI;have b:=qd (je .choice l) .choice l 0 lz trivial;split
 .next h=>show 1000<=_;omega
 .split
  .exact b.2.1
  .exact b.2.1
def KT(f:ae->ae):Prop:=∀t,(f t).kind=t.kind/\(f t).text=t.text
section
variable {f:ae->ae} (hf:KT f)
include hf
theorem qU(r:List ae)(w:E7):cu (r.map f) w=cu r w:=by
 cases r with
 |nil=>rfl
 |cons t r=>simp only[cI,cu,(hf t).1,(hf t).2]
theorem Tk(r:List ae)(lv:Nat):LZ (r.map f) lv=LZ r lv:=by
 cases r with
 |nil=>rfl
 |cons t r=>simp only[cI,LZ,(hf t).1,(hf t).2]
omit hf in
theorem xN(r:List ae)(n:Nat):dJ (r.map f) n=dJ r n:=by cases r<;>rfl
theorem P6:∀(n:Nat) (t:Nt) (r:List ae) (d:Nat),ah n t (r.map f) d=ah n t r d:=by
 intro n
 induction n with
 |zero=>intros;rfl
 |succ n ih=>
  intro t r d
  cases t with
  |ploop a=>
   simp only[ah,<-rp,qU hf,xN,ih]
   cases hq:r.drop 1 with
   |nil=>rfl
   |cons t q=>simp only[cI,(hf t).1,(hf t).2]
  |prime=>
   cases r with
   |nil=>rfl
   | cons t r=>
    have e1:=qU hf (t::r);have b:=xN (f:=f) (t::r);have g:=ih (.many rT) (t::r);have j:=fun k=>rp (l:=t::r) (i:=k) (f:=f);simp only[cI] at e1 b g j;simp only[cI,ah,(hf t).1,(hf t).2,e1,b,g,<-j,qU hf,xN,ih]
  |_=>simp only[ah,<-rp,qU hf,Tk hf,xN,ih]
theorem P7(r:List ae):iI (r.map f)=iI r:=by
 unfold iI je;simp only[cW,P6 hf]
theorem Ir:∀r:List ae,gH (r.map f)=gH r
 |[]=>rfl
 |t::r=>by simp only[cI,gH,(hf t).1,(hf t).2,Ir r]
end
theorem bX.add_items(t x:bX):(t.add x).items=t.items++[x]:=by cases t;rfl
theorem NF{row:List ae}{last:Bool}(a:st.length=n)(h:bn n row stop last=.fin):st.length≠1:=by
 rw[a];exact tX h
theorem fG(row:List ae)(stop:Int)(last:Bool)(i:Nat):∃a e,e≠0/\fF row stop last i=.wrong a e:=by
 unfold fF;split
 .exact⟨_,3,by decide,rfl⟩
 .split
  .exact⟨_,2,by decide,rfl⟩
  .exact⟨_,3,by decide,rfl⟩
theorem BD(n:Nat)(row:List ae)(stop b:Int)(last last2:Bool):bn n row b last2=bn n row stop last\/∃a e,e≠0/\bn n row stop last=.wrong a e:=by
 cases row with
 |nil=>exact .inl rfl
 |cons t r=>
  simp only[bn];split
  .split
   .exact .inr (fG _ _ _ _)
   .split
    .exact .inr (fG _ _ _ _)
    .exact .inl rfl
  .split
   .exact .inr (fG _ _ _ _)
   .split
    .unfold lK
     split
     .exact .inr (fG _ _ _ _)
     .exact .inl rfl
    .unfold gQ
     simp only;split
     .exact .inr (fG _ _ _ _)
     .split
      .exact .inl rfl
      .split
       .exact .inl rfl
       .split
        .exact .inr (fG _ _ _ _)
        .split
         .exact .inr (fG _ _ _ _)
         .exact .inl rfl
theorem yN(h:st≠[])(x:bX):jK st x≠[]:=fun e=>by
 have:=jv st x;rw[e] at this;exact h (cC this.symm)
theorem rV(b:st≠[])(row:List ae)(stop:Int)(last:Bool):(bP st row stop last).1≠[]:=by
 rw[j3];have c:=fun e=>NF (st:=st) (row:=row) (stop:=stop) (last:=last) rfl e
 revert c
 cases bn st.length row stop last with
 |wrong a e=>intro _;exact b
 |empty=>intro _;exact b
 |attr x=>intro _;exact yN b x
 |begins x=>intro _;simp[eF]
 |bare x=>intro _;exact yN b x
 |fin=>
  intro c;refine yN (fun e=>c rfl ?_) _;have d:=congrArg fh e;have i:=ey.2 b;rw[List.length_dropLast,cY] at d;omega
theorem DV{l:Bs}(h:(aC l 0).2.2=0):aT l=cz l.length (aC l 0).1 [bR] []:=by
 unfold aT mK;rw[E4 h];simp
theorem vP{l:Bs}(h:(aC l 0).2.2≠0):aT l=([],(aC l 0).2):=by
 unfold aT mK;rw[E6 h];simp only;rw[E4 h]
theorem Kk{l:Bs}(h:(aT l).2.2=0):(aC l 0).2.2=0:=by
 by_cases a:(aC l 0).2.2=0
 .exact a
 .rw[vP a] at h;exact h
def I8(p:List ae):Bool:=match p with|t::_=>bZ t mZ|[]=>false
def Bl(p:List ae):Bool:=match p.getLast? with|some t=>bZ t pg|none=>false
def U1(p:List ae):Bool:=match p with|_::e::_=>bZ e Gc|_=>false
theorem Mr(r:List ae):lW r=I8 (dX r):=rfl
theorem P9(r:List ae):jy r=Bl (dX r):=rfl
inductive sV:Nat->List ae->pO->Prop where
 |empty {n:Nat}:sV n [] .empty
 |fin {n:Nat} {t:ae} (h:bZ t mZ=true) (hn:n≠1):sV n [t] .fin
 |attr {n:Nat} {a e:ae} {q:List ae} {x:bX} (ha:a.kind=1) (he:bZ e Gc=true) (hs:uJ q):sV n (a::e::q) (.attr x)
 |begins {n:Nat} {a t:ae} {ls:List ae} {x:bX} (ha:a.kind=1) (hl:∀u∈ls,u.kind=3) (ht:bZ t pg=true) (hn:n<=64):sV n (a::(ls++[t])) (.begins x)
 |bare {n:Nat} {a t u:ae} {ls:List ae} {x:bX} (ha:a.kind=1) (hl:∀u∈ls,u.kind=3) (ht:bZ t pg=true) (hu:bZ u mZ=true) (hn:n<=64):sV n (a::(ls++[t,u])) (.bare x)
theorem Sz{q:List ae}(h:(iI q).2.2=0):uJ (q.take (iI q).2.1):=by
 unfold iI at h ⊢;split at h
 .cases h
 .next b=>
  rw[E6 b];split at h
  .next a=>rw[E4 a];exact Wt _ .choice q 0 a
  .next a=>exact absurd h a
theorem Iu:∀r:List ae,∃ls,r=ls++r.drop (gH r).length/\(∀u∈ls,u.kind=3)/\ls.length=(gH r).length
 |[]=>⟨[],rfl,(fun u h=>by cases h),rfl⟩
 | t::r=>by
  by_cases h:t.kind=3
  .obtain⟨ls,h1,h2,h3⟩:=Iu r
   refine⟨t::ls,?_,?_,?_⟩
   .rw[gH,E4 h,bc,ec,cf,<-h1]
   .intro u hu
    rcases cL.1 hu with rfl|hu
    .exact h
    .exact h2 u hu
   .rw[gH,E4 h,bc,bc,h3]
  .exact⟨[],by rw[gH,E6 h];rfl,(fun u h=>by cases h),by rw[gH,E6 h];rfl⟩
theorem Kv(h:cu r w=true):∃t q,r=t::q/\bZ t w=true:=by
 cases r with
 |nil=>cases h
 |cons t q=>exact⟨t,q,rfl,h⟩
theorem zI(n:Nat)(p:List ae)(stop:Int)(last:Bool):(∃a e,e≠0/\bn n p stop last=.wrong a e)\/sV n p (bn n p stop last):=by
 cases p with
 |nil=>exact .inr .empty
 |cons t r=>
  simp only[bn];split
  .next J=>
   split
   .exact .inl (fG _ _ _ _)
   .next B=>
    split
    .exact .inl (fG _ _ _ _)
    .next D=>
     cases r with
     |nil=>exact .inr (.fin J B)
     |cons u r=>simp at D
  .split
   .exact .inl (fG _ _ _ _)
   .next J=>
    have E:t.kind=1:=by omega
    split
    .next j=>
     obtain⟨e,q,rfl,j⟩:=Kv j;unfold lK;simp only[ec,dd,bc];split
     .exact .inl (fG _ _ _ _)
     .next O=>
      split
      .next i=>
       have Af:=SA q i
       have C:q.take (iI q).2.1=q:=eS (by
        refine Nat.le_of_not_lt fun hlt=>O (.inr ⟨i,by omega⟩))
       have N:=Sz i;rw[C] at N;exact .inr (.attr E j N)
      .next i=>
       have hlt:=EY q i (fun e=>O (.inl e))
       have Ab:(t::e::q)[2+(iI q).2.1]?=aw q[(iI q).2.1]:=by
        rw[eV 2];simp only[List.getElem?_cons_succ];rw[br hlt]
       rw[Ab];exact .inl ⟨_,_,i,rfl⟩
    .next j=>
     unfold gQ;obtain⟨ls,e1,F,R⟩:=Iu r;simp only[ec,dd]
     have M:∀k,(t::r).drop (1+(gH r).length+k)=(r.drop (gH r).length).drop k:=fun k=>by
      rw[show 1+(gH r).length+k=((gH r).length+k)+1 by omega,ec,c4]
     have Ac:=M 0;have Ae:=M 1;rw[eA,dd] at Ac
     have Aa:r.length=(gH r).length+(r.drop (gH r).length).length:=by
      have:=congrArg fh e1;rw[cm,R] at this;exact this
     have Ad:r.drop (1+(gH r).length)=(r.drop (gH r).length).drop 1:=by rw[c4,eV]
     rw[Ac]
     (try rw[Ad])
     generalize r.drop (gH r).length=q at *;split
     .exact .inl (fG _ _ _ _)
     .next D=>
      obtain⟨b,P,rfl,L⟩:=Kv (r:=q) (w:=pg) (by simpa using D);split
      .have Ab:(t::r)[1+(gH r).length]?=aw b:=by
        have:=congrArg List.head? Ac;rw[List.head?_drop] at this;exact this
       rw[Ab];exact .inl ⟨_,_,by decide,rfl⟩
      .next T=>
       have B:n<=64:=by omega
       simp only[bc] at Aa ⊢;split
       .next W=>
        have:P=[]:=cC (by omega);subst this;rw[e1];exact .inr (.begins E F L B)
       .next W=>
        split
        .exact .inl (fG _ _ _ _)
        .next S=>
         obtain⟨c,X,C,U⟩:=Kv (r:=(b::P).drop 1) (w:=mZ) (by simpa using S);simp only[ec,dd] at C;subst C;split
         .exact .inl (fG _ _ _ _)
         .next h4=>
          have:X=[]:=cC (by simp only[bc] at Aa;omega);subst this;rw[e1];exact .inr (.bare E F L U B)
theorem Gh(h:t.kind=1):gV t=true:=by unfold gV;rw[decide_eq_true h];rfl
theorem O9(h:t.kind=3):gV t=true:=by unfold gV;rw[decide_eq_true h];simp
structure V6(p:List ae)(r:pO):Prop where
 cl:I8 p=true↔r=.fin
 op:Bl p=true↔∃x,r=.begins x
 at_:U1 p=true↔∃x,r=.attr x
 ch:uw p=true
 fin:r=.fin->∃t,p=[t]
theorem Ja(i:uw m=true):∀(ls:List ae),a.kind=1->(∀u∈ls,u.kind=3)->uw (a::(ls++m))=true:=by
 intro ls c f
 have g:∀(ls:List ae) (a:ae),gV a=true->(∀u∈ls,u.kind=3)->uw (a::(ls++m))=true:=by
  intro ls
  induction ls with
  |nil=>
   intro a c _
   cases m with
   |nil=>rfl
   |cons b m=>
    simp only[cM,uw,i,ot];exact FZ (by unfold IY;rw[c];rfl)
  |cons u ls ih=>
   intro a c f;simp only[cf,uw,cP];exact⟨FZ (by unfold IY;rw[c];rfl),ih u (O9 (f u (by simp))) (fun v hv=>f v (by simp[hv]))⟩
 exact g ls a (Gh c) f
theorem yD(l:List ae)(a:ae):(l++[a]).getLast?=aw a:=eM
theorem sV.facts{r:pO}(h:sV n p r):V6 p r:=by
 cases h with
 |empty=>exact⟨by simp[I8],by simp[Bl],by simp[U1],rfl,(fun h=>by cases h)⟩
 |fin h hn=>
  next t=>
  refine⟨by simp[I8,h],?_,by simp[U1],rfl,fun _=>⟨t,rfl⟩⟩;have:bZ t pg=false:=oo h (by decide);simp[Bl,this]
 |attr ha he hs=>
  next a e q x=>
  have i:I8 (a::e::q)=false:=pW (Gh ha) _
  have j:Bl (a::e::q)=false:=by
   obtain⟨q0,t,rfl,f⟩:=uJ.last hs.e;unfold Bl;rw[<-cf,<-cf,yD];exact Q8 f (by decide) (by decide)
  refine⟨by simp[i],by simp[j],by simp[U1,he],?_,(fun h=>by cases h)⟩;have k:=qz he (by decide) (by decide) hs.c;simp only[uw,k,ot];exact FZ (by unfold IY;rw[Gh ha];rfl)
 |begins ha hl f hn=>
  next a t b x=>
  have i:I8 (a::(b++[t]))=false:=pW (Gh ha) _
  have j:Bl (a::(b++[t]))=true:=by
   unfold Bl;rw[<-cf,yD];exact f
  refine⟨by simp[i],by simp[j],?_,Ja rfl b ha hl,(fun h=>by cases h)⟩
  have k:U1 (a::(b++[t]))=false:=by
   cases b with
   |nil=>exact oo f (by decide)
   |cons u b=>exact pW (O9 (hl u (by simp))) _
  simp[k]
 |bare ha hl f hu hn=>
  next a t u b x=>
  have i:I8 (a::(b++[t,u]))=false:=pW (Gh ha) _
  have j:Bl (a::(b++[t,u]))=false:=by
   unfold Bl;rw[show a::(b++[t,u])=(a::(b++[t]))++[u] by simp,yD];exact oo hu (by decide)
  refine⟨by simp[i],by simp[j],?_,Ja ?_ b ha hl,(fun h=>by cases h)⟩
  .have k:U1 (a::(b++[t,u]))=false:=by
    cases b with
    |nil=>exact oo f (by decide)
    |cons v b=>exact pW (O9 (hl v (by simp))) _
   simp[k]
  .exact qz f (by decide) (by decide) rfl
theorem DD{last:Bool}(h:(bP st p stop last).2.2=0)(E:st≠[]) :
  ∃r,bn st.length p stop last=r/\sV st.length p r/\(bP st p stop last).1=(eF st r).1/\
   (if I8 p then 2<=st.length else True)/\(bP st p stop last).1.length=(if I8 p then st.length-1 else st.length)+(if Bl p then 1 else 0)/\(Bl p=true->st.length<=64):=by
 have C:=ey.2 E;rcases zI st.length p stop last with ⟨a,e,z,A⟩|j
 .rw[j3,A] at h
  exact absurd h z
 .refine⟨_,rfl,j,by rw[j3],?_⟩
  rw[j3] at h ⊢;have q:=j.facts
  have Aa:Bl p=true->st.length<=64:=fun ho=>by
   obtain⟨x,u⟩:=q.op.1 ho;rw[u] at j
   cases j with
   |begins _ _ _ hn=>exact hn
  refine⟨?_,?_,Aa⟩
  .split
   .next B=>
    have u:=q.cl.1 B;have:=tX u;omega
   .trivial
  .obtain⟨b,i,-,-,-⟩:=q
   generalize bn st.length p stop last=r at *
   cases r with
   |wrong a e=>cases j
   |empty=>
    have c:I8 p=false:=by simpa using b
    have o:Bl p=false:=by simpa using i
    rw[c,o];rfl
   |attr x=>
    have c:I8 p=false:=by simpa using b
    have o:Bl p=false:=by simpa using i
    rw[c,o];simp[eF,jv]
   |begins x=>
    have c:I8 p=false:=by simpa using b
    have o:Bl p=true:=i.2 ⟨x,rfl⟩;rw[c,o];simp[eF]
   |bare x=>
    have c:I8 p=false:=by simpa using b
    have o:Bl p=false:=by simpa using i
    rw[c,o];simp[eF,jv]
   |fin=>
    have c:I8 p=true:=b.2 rfl;have o:Bl p=false:=by simpa using i
    rw[c,o];simp[eF,jv]
def n0(t:ae):ae:=⟨t.kind,t.text,0⟩
theorem Qm:KT n0:=fun _=>⟨rfl,rfl⟩
def Wm(a b:pO):Prop:=(∃e x y,a=.wrong x e/\b=.wrong y e)\/a=b
theorem QI(f:ae->ae)(row:List ae)(s s2:Int)(last:Bool)(i:Nat):Wm (fF (row.map f) s2 last i) (fF row s last i):=by
 unfold fF;rw[lR]
 cases row[i]? with
 |some t=>exact .inl ⟨_,_,_,rfl,rfl⟩
 |none=>cases last<;>exact .inl ⟨_,_,_,rfl,rfl⟩
theorem BF{f:ae->ae}(b:KT f)(n:Nat)(row:List ae)(s s2:Int)(last:Bool):Wm (bn n (row.map f) s2 last) (bn n row s last):=by
 cases row with
 |nil=>exact .inr rfl
 |cons t r=>
  have e1:=qU b (t::r);have a:=QI f (t::r) s s2 last;simp only[cI] at e1 a;simp only[cI,bn,e1,qU b,(b t).1,(b t).2,bc,cW];split
  .split
   .exact a _
   .split
    .exact a _
    .exact .inr rfl
  .split
   .exact a _
   .split
    .unfold lK
     rw[<-cI,<-rp,P7 b,cW,lR];split
     .exact a _
     .split
      .exact .inr rfl
      .cases (t::r)[2+(iI ((t::r).drop 2)).2.1]? with
       |some t=>exact .inl ⟨_,_,_,rfl,rfl⟩
       |none=>exact .inr rfl
    .unfold gQ
     rw[<-cI];simp only[<-rp,Ir b,qU b,cW,lR];split
     .exact a _
     .split
      .cases (t::r)[1+(gH ((t::r).drop 1)).length]? with
       |some t=>exact .inl ⟨_,_,_,rfl,rfl⟩
       |none=>exact .inr rfl
      .split
       .exact .inr rfl
       .split
        .exact a _
        .split
         .exact a _
         .exact .inr rfl
theorem Qz{row:List ae}{s:Int}{last last2:Bool}:(∃a e b e2,e≠0/\e2≠0/\bn n (row.map n0) s2 last2=.wrong a e/\bn n row s last=.wrong b e2)\/bn n (row.map n0) s2 last2=bn n row s last:=by
 rcases BD n row s s last last2 with h|⟨a,e,i,j⟩
 .rcases BF Qm n row s s2 last2 with ⟨e,x,y,d,k⟩|d
  .rcases zI n row s last2 with ⟨a,q,c,f⟩|c
   .rw[k] at f
    cases f
    exact .inl ⟨_,_,_,_,c,c,d,by rw[<-h,k]⟩
   .rw[k] at c;cases c
  .exact .inr (by rw[d,h])
 .rcases BD n row s s last2 last with d|⟨b,e2,d,k⟩
  .rcases BF Qm n row s s2 last2 with ⟨o,x,y,c,f⟩|c
   .rw[<-d,j] at f
    cases f
    exact .inl ⟨_,_,_,_,i,i,c,j⟩
   .rw[<-d,j] at c
    exact .inl ⟨_,_,_,_,i,i,c,j⟩
  .rcases BF Qm n row s s2 last2 with ⟨o,x,y,c,f⟩|c
   .rw[k] at f
    cases f
    exact .inl ⟨_,_,_,_,d,i,c,j⟩
   .rw[k] at c
    exact .inl ⟨_,_,_,_,d,i,c,j⟩
theorem A7(st:List bX)(row:List ae)(s s2:Int)(last last2:Bool):((bP st row s last).2.2=0↔(bP st (row.map n0) s2 last2).2.2=0)/\(bP st row s last).1=(bP st (row.map n0) s2 last2).1:=by
 rw[j3,j3];rcases Qz (n:=st.length) (row:=row) (s:=s) (s2:=s2) (last:=last) (last2:=last2) with ⟨a,e,b,k,c,g,i,j⟩|h
 .rw[i,j]
  exact⟨⟨fun h=>absurd h g,fun h=>absurd h c⟩,rfl⟩
 .rw[h];exact⟨Iff.rfl,rfl⟩
def dZ:List (List ae)->List bX->Option (List bX)
 |[],st=>aw st
 |r::l,st=>if (bP st (dX r) 0 true).2.2=0 then dZ l (bP st (dX r) 0 true).1 else aq
def zw(a:Bs):List ae:=(aC a 0).1.map n0
def jR(l:Bs):List (List ae):=(jX l).map zw
theorem zQ(a:Bs)(p:Nat):(aC a p).1.map n0=zw a/\((aC a p).2.2=(aC a 0).2.2):=by
 have h:=yA a.length a 0 p lz;rw[df] at h;rw[h];refine⟨?_,rfl⟩;unfold zw;simp only[ix];rfl
theorem Be(r:List ae):dX (r.map n0)=(dX r).map n0:=by
 unfold dX;rw[List.filter_map];rfl
theorem qK(a b:List ae):dX (a++b)=dX a++dX b:=r8 ..
theorem qy(t:ae):dD t=true↔t.kind=6\/t.kind=7:=by unfold dD;simp
theorem Im(size:Int)(t:ae)(r:List ae)(st:List bX)(row:List ae)(a:t.kind≠5):cz size (t::r) st row=if t.kind=6\/t.kind=7 then cz size r st row else cz size r st (row++[t]):=by
 rw[cz,E6 a]
theorem yZ(size:Int)(x:E7)(q:Int)(tb:List ae):∀(ta:List ae) (st:List bX) (row:List ae),(∀t∈ta,t.kind≠5)->
  cz size (ta++⟨5,x,q⟩::tb) st row=if (bP st (row++dX ta) q false).2.2≠0 then ([],(bP st (row++dX ta) q false).2) else cz size tb (bP st (row++dX ta) q false).1 []
 | [],st,row,_=>by
  rw[cM,cz,E6 (by show ¬((5:Int)=6\/(5:Int)=7);decide),E4 rfl];simp[dX]
 | t::ta,st,row,h=>by
  have h5:=h t (by simp);have ih:=fun r=>yZ size x q tb ta st r (fun u hu=>h u (by simp[hu]));rw[cf,cz]
  by_cases h6:t.kind=6\/t.kind=7
  .rw[E4 h6,ih,show dX (t::ta)=dX ta by unfold dX;rw[jx (by rw[(qy t).2 h6];decide)]]
  .have hc:dD t=false:=by rw[<-D4];exact fun e=>h6 ((qy t).1 e)
   rw[E6 h6,E6 h5,ih,show dX (t::ta)=t::dX ta by unfold dX;rw[e8 (by rw[hc];rfl)]];simp
theorem y7(size:Int):∀(ta:List ae) (st:List bX) (row:List ae),(∀t∈ta,t.kind≠5)->cz size ta st row=cz size [] st (row++dX ta)
 |[],st,row,_=>by simp[dX]
 | t::ta,st,row,h=>by
  have h5:=h t (by simp);have ih:=fun r=>y7 size ta st r (fun u hu=>h u (by simp[hu]));rw[Im size t ta st row h5]
  by_cases h6:t.kind=6\/t.kind=7
  .rw[E4 h6,ih,show dX (t::ta)=dX ta by unfold dX;rw[jx (by rw[(qy t).2 h6];decide)]]
  .have hc:dD t=false:=by rw[<-D4];exact fun e=>h6 ((qy t).1 e)
   rw[E6 h6,ih,show dX (t::ta)=t::dX ta by unfold dX;rw[e8 (by rw[hc];rfl)]];simp
theorem Kl(size:Int)(l:Bs):∀(p:Nat) (st:List bX),(aC l p).2.2=0->st≠[]->
  ((cz size (aC l p).1 st []).2.2=0/\∃x,dZ (jR l) st=aw [x]/\cz size (aC l p).1 st []=(x.items,-1,0))\/((cz size (aC l p).1 st []).2.2≠0/\∀x,dZ (jR l) st≠aw [x]):=by
 refine um (P:=fun l=>∀(p:Nat) (st:List bX),(aC l p).2.2=0->st≠[]->
  ((cz size (aC l p).1 st []).2.2=0/\∃x,dZ (jR l) st=aw [x]/\cz size (aC l p).1 st []=(x.items,-1,0))\/((cz size (aC l p).1 st []).2.2≠0/\∀x,dZ (jR l) st≠aw [x])) ?_ ?_ l
 .intro a i p st h j
  rw[y7 _ _ _ _ (iM a.length a p lz i),cM,cz];unfold jR;rw[oz a i,List.map_singleton,dZ,dZ];have f:=A7 st (dX (aC a p).1) size 0 true true;rw[<-Be,(zQ a p).1] at f;have Aa:=rV j (dX (zw a)) 0 true;rw[f.2]
  by_cases c:(bP st (dX (aC a p).1) size true).2.2=0
  .rw[E6 (fun q=>q c),E4 (f.1.1 c)]
   generalize (bP st (dX (zw a)) 0 true).1=S at *
   match S,Aa with
   |[x],_=>exact .inl ⟨rfl,x,rfl,rfl⟩
   |x::y::S,_=>exact .inr ⟨by simp,fun z hz=>by simp at hz⟩
  .rw[E4 c,E6 (fun q=>c (f.1.2 q))]
   exact .inr ⟨c,fun z hz=>by cases hz⟩
 .intro a b i v p st h j
  obtain⟨A,k,u⟩:=ql a b p h;rw[u];simp only;rw[yZ _ _ _ _ _ _ _ (iM a.length a p lz i),cM];unfold jR;rw[o6 a b i,cI,dZ];have f:=A7 st (dX (aC a p).1) ((p+a.length:Nat):Int) 0 false true;rw[<-Be,(zQ a p).1] at f;have Aa:=rV j (dX (zw a)) 0 true
  by_cases c:(bP st (dX (aC a p).1) ((p+a.length:Nat):Int) false).2.2=0
  .rw[E6 (fun q=>q c),E4 (f.1.1 c),f.2]
   exact v _ _ k Aa
  .rw[E4 c,E6 (fun q=>c (f.1.2 q))]
   exact .inr ⟨c,fun z hz=>by cases hz⟩
theorem vO(l:Bs):((aT l).2.2=0/\(aC l 0).2.2=0/\∃x,dZ (jR l) [bR]=aw [x]/\aT l=(x.items,-1,0))\/((aT l).2.2≠0/\((aC l 0).2.2=0->∀x,dZ (jR l) [bR]≠aw [x])):=by
 by_cases h:(aC l 0).2.2=0
 .rw[DV h]
  rcases Kl l.length l 0 [bR] h (by simp) with ⟨a,b⟩|⟨a,b⟩
  .exact .inl ⟨a,h,b⟩
  .exact .inr ⟨a,fun _=>b⟩
 .rw[vP h]
  exact .inr ⟨h,fun q=>absurd q h⟩
def Vf:List (Nat×ae)->Bs->Prop
 |[],_=>True
 |x::r,s=>xP x.2/\Vh x.2 (fu r++s)/\Vf r s
def gM:List (Nat×ae)->Nat->List ae
 |[],_=>[]
 |x::r,p=>⟨x.2.kind,x.2.text,((p+x.1:Nat):Int)⟩::gM r (p+x.1+(kG x.2).length)
theorem Bd:∀(P:List (Nat×ae)) (p:Nat),(gM P p).map n0=P.map (fun x=>n0 x.2)
 |[],_=>rfl
 |x::r,p=>by simp only[gM,cI,Bd r];rfl
theorem gB(x:Nat×ae)(r:List (Nat×ae)):fu (x::r)=iR x.1++(kG x.2++fu r):=by
 simp[fu,VP]
theorem BG:∀(n:Nat) (l:Bs) (p:Nat),aC (iR n++l) p=aC l (p+n)
 |0,l,p=>by simp[iR]
 | n+1,l,p=>by
  have e:iR (n+1)++l=32::(iR n++l):=by simp[iR,tg]
  rw[e,bV rfl,BG n l (p+1)]
  congr 1
  omega
theorem qQ:∀(P:List (Nat×ae)) (s:Bs) (p:Nat),Vf P s->aC (fu P++s) p=(gM P p++(aC s (p+(fu P).length)).1,(aC s (p+(fu P).length)).2)
 |[],s,p,_=>by simp[fu,gM]
 | x::r,s,p,h=>by
  obtain⟨h1,h2,h3⟩:=h;obtain⟨k,hk,ho⟩:=Ke h1 h2;obtain⟨c,t,rest,k2,e,hb,-,-⟩:=h1;have ih:=qQ r s (p+x.1+(kG x.2).length) h3;rw[gB,ef,BG,ef];rw[e,cf] at ho ⊢;rw[dE hb ho];have e2:(c::(t++(fu r++s))).take (c::t).length=c::t:=by rw[<-cf,fl]
  have g:(c::(t++(fu r++s))).drop (c::t).length=fu r++s:=by rw[<-cf,gR]
  rw[e2,g,<-e,ih,gM];have i:p+x.1+(kG x.2).length+(fu r).length=p+(iR x.1++(kG x.2++fu r)).length:=by simp[iR];omega
  rw[i];have j:au (kG x.2)=x.2.text:=(zF _).symm;rw[j,<-hk];rfl
theorem pX(h:xP t):∃c r,kG t=c::r/\aN c=false/\(t.kind=1->lC c=true)/\(t.kind=2->dg c=true)/\(t.kind=3->c=34)/\(t.kind=4->(kG t).length=1\/(kG t).length=2):=by
 obtain⟨c,r,Ab,k,e,j,z,f⟩:=h;refine⟨c,r,e,j,?_⟩;rw[e] at f ⊢;rw[cf] at f;rw[z]
 have Aa:∀(q:Bs) (k2 m:Nat),gp q k2=.tok k m->k=k2:=fun q k2 m h=>by
  unfold gp at h;split at h
  .cases h
  .injection h with h _;exact h.symm
 have Ac:∀n:Nat,k=n->∀m:Nat,m≠n->((k:Int)=(m:Int)->False):=fun n h m hm h2=>by omega
 rw[dY] at f;split at f
 .next u=>
  injection f with hk1 _
  exact⟨fun _=>u,fun q=>absurd q (by omega),fun q=>absurd q (by omega),fun q=>absurd q (by omega)⟩
 split at f
 .next x=>
  have:k=2:=by
   unfold nA at f;split at f
   .injection f with q _;exact q.symm
   .cases f
  exact⟨fun q=>absurd q (by omega),fun _=>x,fun q=>absurd q (by omega),fun q=>absurd q (by omega)⟩
 split at f
 .next B=>
  have:k=3:=by
   unfold oG at f;split at f
   .injection f with q _;exact q.symm
   .cases f
  exact⟨fun q=>absurd q (by omega),fun q=>absurd q (by omega),fun _=>B,fun q=>absurd q (by omega)⟩
 split at f
 .injection f with q _
  exact⟨fun q=>absurd q (by omega),fun q=>absurd q (by omega),fun q=>absurd q (by omega),fun q=>absurd q (by omega)⟩
 split at f
 .have:=Aa _ _ _ f
  exact⟨fun q=>absurd q (by omega),fun q=>absurd q (by omega),fun q=>absurd q (by omega),fun q=>absurd q (by omega)⟩
 split at f
 .have:k=7:=by
   unfold eT at f;split at f
   .cases f
   .split at f
    .cases f
    .exact Aa _ _ _ f
  exact⟨fun q=>absurd q (by omega),fun q=>absurd q (by omega),fun q=>absurd q (by omega),fun q=>absurd q (by omega)⟩
 split at f
 .cases f
 .next i=>
  injection f with q hn
  refine⟨fun q=>absurd q (by omega),fun q=>absurd q (by omega),fun q=>absurd q (by omega),fun _=>?_⟩;rw[<-hn];unfold CU at i ⊢;split
  .exact .inr rfl
  .next v=>
   simp only at i ⊢;rw[E6 v] at i;split
   .exact .inl rfl
   .next h2=>rw[E6 h2] at i;exact absurd rfl i
theorem mV{L:Bs}(h:aO t L=true):t.kind=4/\∃c∈L,kG t=[c]:=by
 unfold aO at h;rw[cP,decide_eq_true_eq] at h;refine⟨h.1,?_⟩;have b:=h.2;split at b
 .next c f=>exact⟨c,by simpa using b,f⟩
 .cases b
theorem og{b:Bs}(C:xP t)(B:t.kind≠6)(u:Ky c=false)(k:c≠46\/bN b=0)(A:c≠61/\c≠38/\c≠124/\c≠47/\c≠42)(i:c≠69/\c≠101/\c≠43/\c≠45):Vh t (c::b):=by
 have z:dg c=false:=by unfold Ky at u;simp only[Bool.or_eq_false_iff] at u;exact u.2
 refine⟨fun _=>by simp[uF,u],fun _=>⟨by simp[bN,z],?_,?_,?_⟩,fun h=>?_,fun h=>absurd h B⟩
 .rw[dm]
  rw[E6];rintro⟨q,v⟩;rcases k with k|k
  .exact k q
  .rw[k] at v;exact absurd v (by decide)
 .rw[jl,E6]
  rintro⟨q,-⟩;rcases q with q|q
  .first|exact i.1 q|exact i.2.1 q
  .first|exact i.1 q|exact i.2.1 q
 .rw[oN,E6]
  rintro (q|q)
  .first|exact i.2.2.1 q|exact i.2.2.2 q
  .first|exact i.2.2.1 q|exact i.2.2.2 q
 .obtain⟨x,r,e,-,-,-,-,j⟩:=pX C
  rcases j h with j|j
  .right
   rw[e] at j;have:r=[]:=cC (by simpa using j);subst this;exact⟨x,e,.inl (by simp[A])⟩
  .exact .inl j
theorem SI(f:xP t)(d:s=[]\/∃b,s=10::b):Vh t s:=by
 refine⟨fun _=>?_,fun _=>?_,fun h=>?_,fun _=>d⟩
 .rcases d with rfl|⟨b,rfl⟩
  .rfl
  .simp[uF,show Ky 10=false from rfl]
 .rcases d with rfl|⟨b,rfl⟩
  .exact⟨rfl,rfl,rfl,rfl⟩
  .exact EJ b
 .obtain⟨x,r,e,-,-,-,-,c⟩:=pX f
  rcases c h with c|c
  .right
   rw[e] at c;have:r=[]:=cC (by simpa using c);subst this;refine⟨x,e,.inl ?_⟩;rcases d with rfl|⟨b,rfl⟩<;>simp
  .exact .inl c
def jP(g:Nat->Nat):Nat->List ae->List (Nat×ae)
 |_,[]=>[]
 |i,t::r=>(g i,t)::jP g (i+1) r
theorem Fg(g:Nat->Nat):∀(i:Nat) (l:List ae),(jP g i l).map (fun x=>n0 x.2)=l.map n0
 |_,[]=>rfl
 |i,t::r=>by simp only[jP,cI,Fg g (i+1) r]
theorem wW(g:Nat->Nat):∀(i:Nat) (l:List ae),(jP g i l).length=l.length
 |_,[]=>rfl
 |i,t::r=>by simp only[jP,bc,wW g (i+1) r]
theorem Bv:∀(l:List ae) (g:Nat->Nat) (i:Nat),l.mapIdx (fun j t=>(g (i+j),t))=jP g i l
 |[],_,_=>rfl
 | t::r,g,i=>by
  rw[List.mapIdx_cons,jP,<-Bv r g (i+1)];simp only[eA,fY,true_and]
  congr 1
  funext j t
  rw[show i+(j+1)=i+1+j by omega]
theorem wQ(row:List ae)(ind:Nat):C9 row ind=jP (nu row ind) 0 row:=by
 rw[<-Bv];unfold C9;simp
structure xQ(l:List ae):Prop where
 told:∀t∈l,xP t
 line:∀t∈l,t.kind≠5
 rem:∀(a b:List ae) (t:ae),l=a++t::b->t.kind=6->b=[]
 ch:uw (dX l)=true
theorem Rn:∀(x:List ae) (a b:ae) (y:List ae),uw (x++a::b::y)=true->zz a b=true
 |[],a,b,y,h=>by simp only[cM,uw,cP] at h;exact h.1
 | [c],a,b,y,h=>by
  simp only[cf,cM,uw,cP] at h;exact h.2.1
 | c::d::x,a,b,y,h=>by
  simp only[cf,uw,cP] at h;exact Rn (d::x) a b y h.2
theorem xQ.adj(h:xQ l)(e:l=x++a::b::y)(g:dD a=false)(i:dD b=false):zz a b=true:=by
 have f:=h.ch
 have:dX l=dX x++a::b::dX y:=by
  rw[e];unfold dX;rw[r8,e8 (by rw[g];rfl),e8 (by rw[i];rfl)]
 rw[this] at f;exact Rn _ a b _ f
theorem IG:lF (x++a::b::y) (x.length+1)=Dc a b (qX (x++a::b::y) x.length):=by
 rw[lF];have e1:(x++a::b::y)[x.length]?=aw a:=by rw[eK lz,Nat.sub_self];rfl
 have d:(x++a::b::y)[x.length+1]?=aw b:=by
  rw[eK (by omega),show x.length+1-x.length=1 by omega];rfl
 rw[e1,d]
theorem Ed{m:Bool}(h:Dc a b m=0):dD a=false/\dD b=false/\
  (aO a [40,91,46,45,123]=true\/aO b [41,93,44,46]=true\/(aO b [40]=true/\a.kind=1)\/(aO b [91]=true/\(gV a=true\/aO a [41,93]=true))\/aO a [33]=true):=by
 unfold Dc at h;split at h
 .cases h
 next i=>
 rw[gd,not_or] at i;refine⟨by simpa using i.1,by simpa using i.2,?_⟩
 have j:∀(L:Bs),(∀c∈L,c∈([40,91,46,45,123]:Bs))->aO a L=true->aO a [40,91,46,45,123]=true:=fun L hL hq=>by
  obtain⟨o,c,p,k⟩:=mV hq;unfold aO;unfold kG at k;rw[k,decide_eq_true o]
  simpa using hL c p
 split at h
 .next f=>
  rw[gd] at f;rcases f with f|f
  .exact .inl (j _ (by decide) f)
  .exact .inr (.inl f)
 split at h
 .next f=>
  rw[cP,decide_eq_true_eq] at f;exact .inr (.inr (.inl f))
 split at h
 .next f=>
  rw[cP,gd] at f;exact .inr (.inr (.inr (.inl f)))
 split at h
 .next f=>
  rw[gd,cP] at f;rcases f with f|f
  .exact .inr (.inr (.inr (.inr f)))
  .exact .inl (j _ (by decide) f.1)
 split at h
 .next f=>
  rw[cP] at f;exact .inl (j _ (by decide) f.1)
 .cases h
theorem Rk(h:dD t=false):t.kind≠6/\t.kind≠7:=by
 unfold dD at h
 simpa using h
theorem DW(h:lC c=true\/dg c=true):c≠61/\c≠38/\c≠124/\c≠47/\c≠42:=by
 refine⟨?_,?_,?_,?_,?_⟩
 all_goals
  intro e;subst e
  revert h
  decide
theorem Sg(j:xP t)(h:JG t=true):∃c r,kG t=c::r/\c≠61/\c≠38/\c≠124/\c≠47/\c≠42:=by
 unfold JG at h;rw[gd] at h;rcases h with h|h
 .obtain⟨c,r,e,-,b,f,i,-⟩:=pX j
  refine⟨c,r,e,?_⟩;unfold gV at h;simp only[gd,decide_eq_true_eq] at h;rcases h with h|h|h
  .exact DW (.inl (b h))
  .exact DW (.inr (f h))
  .rw[i h];decide
 .obtain⟨-,c,a,e⟩:=mV h
  refine⟨c,[],e,?_⟩;simp only[cL,fW,or_false] at a;rcases a with rfl|rfl|rfl|rfl<;>decide
theorem Rc{r:Bs}(h:lC c=true):bN (c::r)=0:=by
 have:dg c=false:=by
  unfold lC at h;unfold dg Mo;simp only[gd,decide_eq_true_eq] at h;have:c.toNat<256:=UInt8.toNat_lt c;simp
  omega
 simp[bN,this]
section
variable {l:List ae} {g:Nat->Nat} {s:Bs}
theorem Sk(h:xQ l)(hg:∀i,1<=i->i<l.length->g i=0->lF l i=0)(hs:s=[]\/∃b,s=10::b)(e:l=x++t::r):Vh t (fu (jP g (x.length+1) r)++s):=by
 have K:xP t:=h.told t (by rw[e];simp)
 cases r with
 |nil=>exact SI K hs
 |cons u r=>
  have H:t.kind≠6:=fun q=>by have:=h.rem x (u::r) t e q;cases this
  have Ae:l.length=x.length+2+r.length:=by rw[e];simp;omega
  rw[jP,gB,ef]
  cases hgi:g (x.length+1) with
  |succ n=>
   have S:iR (n+1)=32::iR n:=by simp[iR,tg]
   rw[S,cf];exact og K H rfl (.inl (by decide)) (by decide) (by decide)
  |zero=>
   have C:=hg (x.length+1) (by omega) (by omega) hgi;rw[e,IG] at C;obtain⟨c1,U,Ak⟩:=Ed C;clear C;have Ab:=h.adj e c1 U;have hu:xP u:=h.told u (by rw[e];simp);have S:iR 0=[]:=rfl;rw[S,cM,ef];obtain⟨k6,k7⟩:=Rk c1
   have Af:∀L:Bs,aO t L=true->(∀c∈L,c≠61/\c≠33/\c≠60/\c≠62/\c≠38/\c≠124/\c≠47)->∀b,Vh t b:=fun L hL hc b=>by
    obtain⟨W,c,hm,D⟩:=mV hL;exact⟨fun q=>by omega,fun q=>by omega,fun _=>.inr ⟨c,D,.inr (hc c hm)⟩,fun q=>absurd q H⟩
   rcases Ak with C|C|⟨C,hk⟩|⟨C,hk⟩|C
   .exact Af _ C (by decide) _
   .obtain⟨-,c,hc,D⟩:=mV C
    rw[D,fc]
    have Ah:c≠46\/bN (fu (jP g (x.length+1+1) r)++s)=0:=by
     by_cases J:c=46
     .right
      subst J
      cases r with
      |nil=>
       rcases hs with rfl|⟨b,rfl⟩
       .rfl
       .simp[jP,fu,bN,show dg 10=false from rfl]
      |cons v r=>
       rw[jP,gB,ef]
       cases hgj:g (x.length+1+1) with
       |succ n=>
        have e3:iR (n+1)=32::iR n:=by simp[iR,tg]
        rw[e3,cf];simp[bN,show dg 32=false from rfl]
       |zero=>
        have M:l=(x++[t])++u::v::r:=by rw[e];simp
        have Ag:=hg (x.length+1+1) (by omega) (by rw[Ae];simp) hgj;have Ai:x.length+1+1=(x++[t]).length+1:=by simp
        rw[Ai,M,IG] at Ag;obtain⟨-,c3,-⟩:=Ed Ag;have Aa:=h.adj M U c3
        have Ad:bZ u uE=true:=by
         unfold bZ;rw[decide_eq_true (mV C).1,decide_eq_true (jA D)];rfl
        have Aj:v.kind=1:=by
         unfold zz at Aa;rw[cP,Ad] at Aa
         simpa using Aa.1
        obtain⟨Y,r',T,-,hl,-⟩:=pX (h.told v (by rw[M];simp));have e5:iR 0=[]:=rfl;rw[e5,cM,T,cf,cf];exact Rc (hl Aj)
     .exact .inl J
    simp only[cL,fW,or_false] at hc;rcases hc with rfl|rfl|rfl|rfl
    .exact og K H rfl (.inl (by decide)) (by decide) (by decide)
    .exact og K H rfl (.inl (by decide)) (by decide) (by decide)
    .exact og K H rfl (.inl (by decide)) (by decide) (by decide)
    .exact og K H rfl (Ah.imp id id) (by decide) (by decide)
   .obtain⟨-,c,hc,D⟩:=mV C
    simp only[cL,fW,or_false] at hc;subst hc;rw[D,fc];exact og K H rfl (.inl (by decide)) (by decide) (by decide)
   .obtain⟨-,c,hc,D⟩:=mV C
    simp only[cL,fW,or_false] at hc;subst hc;rw[D,fc];exact og K H rfl (.inl (by decide)) (by decide) (by decide)
   .obtain⟨W,c,hc,D⟩:=mV C
    simp only[cL,fW,or_false] at hc;subst hc
    have Ac:bZ t dQ=true:=by
     unfold bZ;rw[decide_eq_true W,decide_eq_true (jA D)];rfl
    unfold zz at Ab;rw[cP,Ac] at Ab;obtain⟨Y,r',T,q1,q2,q3,q4,q5⟩:=Sg hu (by simpa using Ab.2);rw[T,cf];exact⟨fun q=>by omega,fun q=>by omega,fun _=>.inr ⟨33,D,.inl (by simp[q1,q2,q3,q4,q5])⟩,fun q=>absurd q H⟩
theorem qI(h:xQ l)(hg:∀i,1<=i->i<l.length->g i=0->lF l i=0)(hs:s=[]\/∃b,s=10::b):∀(r x:List ae),l=x++r->Vf (jP g x.length r) s
 |[],_,_=>trivial
 | t::r,x,e=>by
  refine⟨h.told t (by rw[e];simp),Sk h hg hs e,?_⟩;have:=qI h hg hs r (x++[t]) (by rw[e];simp)
  rwa [cm,eh] at this
theorem Ta(h:xQ l)(d:∀i,1<=i->i<l.length->g i=0->lF l i=0)(b:Bs)(p:Nat) :
  aC (fu (jP g 0 l)++10::b) p=(gM (jP g 0 l) p++⟨5,au [10],((p+(fu (jP g 0 l)).length:Nat):Int)⟩::(aC b (p+(fu (jP g 0 l)).length+1)).1,(aC b (p+(fu (jP g 0 l)).length+1)).2):=by
 rw[qQ _ _ _ (show Vf (jP g 0 l) (10::b) from qI h d (.inr ⟨b,rfl⟩) l [] rfl)];have c:dY (10::b)=.tok 5 1:=by simp[dY,show lC 10=false from rfl,show dg 10=false from rfl]
 rw[dE rfl c];rfl
end
open Go.RowKit Go.Tab
def LJ(n:Nat)(r:List ae):Nat:=(if lW r then n-1 else n)+(if jy r then 1 else 0)
def JN:List (List ae)->Nat->Prop
 |[],_=>True
 |r::l,n=>(lW r=true->1<=n)/\LJ n r<=64/\JN l (LJ n r)
theorem xH(h:lW r=true->1<=n):eB n r=((if lW r then n-1 else n:Nat):Int):=by
 unfold eB
 cases hc:lW r with
 |true=>have:=h hc;simp;omega
 |false=>simp
theorem wV(h:lW r=true->1<=n):dn n r=(LJ n r:Int):=by
 unfold dn LJ;rw[xH h];cases jy r<;>simp
theorem tH:∀(l:List (List ae)) (st S:List bX),st≠[]->st.length<=65->dZ l st=aw S->JN l (st.length-1)/\∀r∈l,lW r=true->jy r=false
 |[],st,S,_,_,_=>⟨trivial,fun r h=>by cases h⟩
 | r::l,st,S,hs,hst,h=>by
  rw[dZ] at h
  by_cases h0:(bP st (dX r) 0 true).2.2=0
  .rw[E4 h0] at h
   obtain⟨r',h1,h2,h3,h4,h5,h6⟩:=DD h0 hs;have hl:=ey.2 hs
   have hx:(bP st (dX r) 0 true).1.length-1=LJ (st.length-1) r:=by
    rw[h5];unfold LJ;rw[Mr,P9];cases hc:I8 (dX r)<;>cases ho:Bl (dX r)<;>simp[hc] at h4 ⊢<;>omega
   have Aa:0<(bP st (dX r) 0 true).1.length/\(bP st (dX r) 0 true).1.length<=65:=by
    rw[h5];cases hc:I8 (dX r)<;>cases ho:Bl (dX r)<;>simp[hc,ho] at h4 h6 ⊢<;>omega
   obtain⟨j,k⟩:=tH l _ S (ey.1 Aa.1) Aa.2 h;rw[hx] at j
   have Ab:lW r=true->jy r=false:=by
    intro hc;rw[Mr] at hc;obtain⟨t,i⟩:=h2.facts.fin (h2.facts.cl.1 hc);rw[P9,i];rw[i] at hc
    cases hq:Bl [t] with
    |false=>rfl
    |true=>
     simp only[I8,Bl] at hc hq;have hc:bZ t mZ=true:=by simpa using hc
     have hq:bZ t pg=true:=by simpa using hq
     have:=oo (v:=mZ) (w:=pg) hc (by decide);rw[hq] at this;cases this
   refine⟨⟨fun hc=>?_,by rw[<-hx];omega,j⟩,fun q hq=>?_⟩
   .rw[Mr] at hc
    rw[hc] at h4;simp at h4
    omega
   .rcases cL.1 hq with rfl|hq
    .exact Ab
    .exact k q hq
  .rw[E6 h0] at h;cases h
theorem Dx:∀(l:List (List ae)) (n:Nat) (x:List ae) (q:List (List ae)),JN l n->bq l=x::q->(lW x=true->1<=n)/\LJ n x<=64/\JN q (LJ n x)
 |[],n,x,q,_,h=>by cases h
 | []::l,n,x,q,hr,h=>by
  rw[bq] at h;exact Dx l n x q hr.2.2 h
 | (t::r)::l,n,x,q,hr,h=>by
  rw[bq] at h;cases h
  exact hr
theorem zS(h:bZ t v=true):dD t=false:=by
 cases hc:dD t with
 |false=>rfl
 |true=>
  have:=(qy t).1 hc;unfold bZ at h;simp at h
  omega
theorem xq(h:fe r=true):jy r=true/\dX r≠[]:=by
 unfold fe at h
 cases hg:r.getLast? with
 |none=>rw[hg] at h;cases h
 |some t=>
  rw[hg] at h
  obtain⟨l,rfl⟩:∃l,r=l++[t]:=by
   have Aa:r≠[]:=by rintro rfl;cases hg
   rw[List.getLast?_eq_some_getLast Aa] at hg;exact⟨r.dropLast,by rw[<-Option.some.inj hg,List.dropLast_concat_getLast]⟩
  have b:dX (l++[t])=dX l++[t]:=by rw[qK];simp[dX,zS h]
  unfold jy;rw[b,eM];exact⟨h,by simp⟩
theorem xz(h:il r=true):lW r=true/\dX r≠[]:=by
 cases r with
 |nil=>cases h
 |cons t q=>
  have h:bZ t mZ=true:=h;have a:dX (t::q)=t::dX q:=by simp[dX,zS h]
  unfold lW;rw[a];exact⟨h,by simp⟩
theorem TE{a b:List ae}(h:dX a≠[]):lW (a++b)=lW a:=by
 unfold lW;rw[qK]
 cases hp:dX a with
 |nil=>exact absurd hp h
 |cons t q=>rfl
theorem SB{a b:List ae}(h:dX b≠[]):jy (a++b)=jy b:=by
 unfold jy;rw[qK,qT]
 cases hp:(dX b).getLast? with
 |none=>exact absurd (s9.1 hp) h
 |some t=>rfl
theorem Ff:∀(f:Nat) (gap:Bool) (l:List (List ae)) (n:Nat) (pv:Option Bool),JN l n->(∀r∈l,lW r=true->jy r=false)->n<=64->∀q∈iL (eu f gap l) n pv,0<=q.dep/\q.dep<=64
 |0,_,l,n,pv,_,_,_,q,hq=>by cases hq
 |f+1,_,[],n,pv,_,_,_,q,hq=>by cases hq
 | f+1,gap,[]::l,n,pv,hr,hc,hn,q,hq=>by
  rw[eu] at hq;exact Ff f true l n pv hr.2.2 (fun r h=>hc r (by simp[h])) hn q hq
 | f+1,gap,(t::r)::l,n,pv,hr,hc,hn,q,hq=>by
  rw[eu,iL] at hq;simp only at hq
  have key:∃n2 l2,rf (t::r) l=((rf (t::r) l).1,l2)/\dn n (rf (t::r) l).1=((n2:Nat):Int)/\n2<=64/\JN l2 n2/\(∀r∈l2,lW r=true->jy r=false)/\lW (rf (t::r) l).1=lW (t::r):=by
   unfold rf
   by_cases j:fe (t::r)=true
   .rw[E4 j]
    cases hd:bq l with
    |nil=>exact⟨LJ n (t::r),l,rfl,wV hr.1,hr.2.1,hr.2.2,fun r h=>hc r (by simp[h]),rfl⟩
    |cons x q2=>
     simp only
     by_cases i:il x=true
     .rw[E4 i]
      obtain⟨Q,A,C⟩:=Dx l _ x q2 hr.2.2 hd;obtain⟨M,O⟩:=xq j;obtain⟨c1,o⟩:=xz i;have Ab:x∈l:=(iP hd).2.2 x (.inl rfl);have k:jy x=false:=hc x (by simp[Ab]) c1;have Aa:=TE (a:=t::r) (b:=x) O;refine⟨LJ (LJ n (t::r)) x,q2,rfl,?_,A,C,fun r h=>hc r (by simp[(iP hd).2.2 r (.inr h)]),Aa⟩;unfold dn;rw[SB o,k];have:eB n (t::r++x)=eB n (t::r):=by unfold eB;rw[Aa]
      rw[E6 (by simp),this,xH hr.1];unfold LJ;rw[M,c1,k];simp
     .rw[E6 i]
      exact⟨LJ n (t::r),l,rfl,wV hr.1,hr.2.1,hr.2.2,fun r h=>hc r (by simp[h]),rfl⟩
   .rw[E6 j]
    exact⟨LJ n (t::r),l,rfl,wV hr.1,hr.2.1,hr.2.2,fun r h=>hc r (by simp[h]),rfl⟩
  obtain⟨n2,l2,e1,D,F,G,I,K⟩:=key;rw[e1] at hq;simp only[D] at hq;rcases cX.1 hq with hq|hq
  .split at hq
   .rw[de.1 hq];exact⟨by decide,by decide⟩
   .cases hq
  .rcases cL.1 hq with rfl|hq
   .simp only
    have:eB n (rf (t::r) l).1=eB n (t::r):=by unfold eB;rw[K]
    rw[this,xH hr.1];cases lW (t::r)<;>simp<;>omega
   .exact Ff f false l2 n2 _ G I F q hq
theorem BH:∀(l r:Bs) (p:Nat),(∀x∈l,aN x=true)->aC (l++r) p=aC r (p+l.length)
 |[],r,p,_=>rfl
 | c::l,r,p,h=>by
  rw[cf,bV (h c (by simp)),BH l r (p+1) (fun x hx=>h x (by simp[hx])),bc]
  congr 1
  omega
abbrev m0(r:List ae):List ae:=r.map n0
theorem BL(r:List ae):fe (m0 r)=fe r:=by
 unfold fe;rw[List.getLast?_map];cases r.getLast?<;>rfl
theorem BS(r:List ae):il (m0 r)=il r:=by cases r<;>rfl
theorem Cm(r:List ae):lW (m0 r)=lW r:=by
 unfold lW;rw[Be];cases dX r<;>rfl
theorem Bj(r:List ae):jy (m0 r)=jy r:=by
 unfold jy;rw[Be,List.getLast?_map];cases (dX r).getLast?<;>rfl
theorem xG:∀l:List (List ae),bq (l.map m0)=(bq l).map m0
 |[]=>rfl
 | []::l=>by
  rw[cI,show m0 ([]:List ae)=[] from rfl,bq,bq];exact xG l
 |(t::q)::l=>rfl
theorem UE(r:List ae)(l:List (List ae)):rf (m0 r) (l.map m0)=(m0 (rf r l).1,(rf r l).2.map m0):=by
 unfold rf;rw[BL,xG];split
 .cases bq l with
  |nil=>rfl
  |cons x q=>
   simp only[cI,BS];split
   .simp[m0]
   .rfl
 .rfl
def Vb(f:rG):rG:=⟨m0 f.toks,f.after⟩
def VL(r:aB):aB:=⟨m0 r.toks,r.dep⟩
theorem FQ:∀(n:Nat) (gap:Bool) (l:List (List ae)),eu n gap (l.map m0)=(eu n gap l).map Vb
 |0,_,_=>rfl
 |n+1,_,[]=>rfl
 | n+1,gap,[]::l=>by
  rw[cI,show m0 ([]:List ae)=[] from rfl,eu,eu];exact FQ n true l
 | n+1,gap,(t::q)::l=>by
  have h:=UE (t::q) l;rw[cI,show m0 (t::q)=n0 t::m0 q from rfl,eu,eu,<-show m0 (t::q)=n0 t::m0 q from rfl,h,cI,FQ n false];rfl
theorem LU:∀(l:List rG) (d:Int) (pv:Option Bool),iL (l.map Vb) d pv=(iL l d pv).map VL
 |[],_,_=>rfl
 | f::l,d,pv=>by
  have e1:lW (Vb f).toks=lW f.toks:=Cm _;have e2:jy (Vb f).toks=jy f.toks:=Bj _;have e3:eB d (Vb f).toks=eB d f.toks:=by unfold eB;rw[e1]
  have a:dn d (Vb f).toks=dn d f.toks:=by unfold dn;rw[e2,e3]
  rw[cI,iL,iL,e1,e2,e3,a,LU l,eJ,cI]
  congr 1
  show (if f.after&&(pv.isSome&&(!lW f.toks&&pv != aw true)) then [(⟨[],0⟩:aB)] else [])=_;split<;>rfl
theorem Mw:∀l:List ae,Rq (m0 l)=Rq l
 |[]=>rfl
 | t::l=>by
  show (if dD t then Rq (m0 l) else _)=_;rw[Mw l];rfl
theorem Mc(r:List ae)(i:Nat):lF (m0 r) i=lF r i:=by
 cases i with
 |zero=>rfl
 |succ i=>
  have e:qX (m0 r) i=qX r i:=by
   unfold qX;rw[<-rj,<-List.map_reverse,Mw]
  simp only[lF,lR,e]
  cases r[i]? with
  |none=>rfl
  | some a=>cases r[i+1]? with
   |none=>rfl
   |some b=>rfl
theorem EX:∀(r:List ae) (i n:Nat),ng (m0 r) i n=ng r i n
 |[],_,_=>rfl
 | t::r,i,0=>by
  show (if dD t then ng (m0 r) (i+1) 0 else aw i)=_;rw[EX r];rfl
 | t::r,i,n+1=>by
  show (if dD t then ng (m0 r) (i+1) (n+1) else ng (m0 r) (i+1) n)=_;rw[EX r,EX r];rfl
theorem Q7(r:List ae):gK (m0 r)=gK r:=by
 unfold gK;rw[EX]
 cases ng r 0 1 with
 |none=>rfl
 |some i=>
  simp only[lR];cases r[i]?<;>rfl
theorem Gs(l:List (List ae)):di (l.map m0)=(di l).map VL:=by
 unfold di;rw[cW,FQ,LU]
theorem Ej:∀l:List (List ae),bq (l++[[]])=if bq l=[] then [] else bq l++[[]]
 |[]=>rfl
 | []::l=>by
  rw[cf,bq,bq];exact Ej l
 | (t::q)::l=>by
  rw[cf,bq,bq];simp
theorem Ti(r:List ae)(l:List (List ae)):rf r (l++[[]])=((rf r l).1,(rf r l).2++[[]]):=by
 unfold rf;rw[Ej];split
 .cases bq l with
  |nil=>rfl
  |cons x q=>
   simp only[cf,reduceCtorEq,if_false];split<;>rfl
 .rfl
theorem Fx(r:List ae)(l:List (List ae)):(rf r l).2.length<=l.length:=by
 unfold rf;split
 .cases hd:bq l with
  |nil=>exact cA _
  |cons x q=>
   have:=(iP hd).2.1;simp only;split
   .simp only;omega
   .exact cA _
 .exact cA _
theorem Cg:∀(n m:Nat) (gap:Bool) (l:List (List ae)),l.length<=n->l.length+1<=m->eu m gap (l++[[]])=eu n gap l
 |n,0,_,_,_,h=>by omega
 | n,m+1,gap,[],_,_=>by
  rw[cM,eu];cases m<;>cases n<;>rfl
 |0,m+1,gap,r::l,h,_=>by simp at h
 | n+1,m+1,gap,[]::l,h1,h2=>by
  simp only[bc] at h1 h2;rw[cf,eu,eu];exact Cg n m true l (by omega) (by omega)
 | n+1,m+1,gap,(t::q)::l,h1,h2=>by
  simp only[bc] at h1 h2;have:=Fx (t::q) l;rw[cf,eu,eu,Ti];simp only;rw[Cg n m false _ (by omega) (by omega)]
theorem M6(l:List (List ae)):di (l++[[]])=di l:=by
 unfold di;rw[Cg l.length _ false l lz (by simp)]
theorem Lx:∀(ls:List Bs) (p:Nat) (o:Int),ls.map zw=(jb ls p o).map (fun r=>m0 r.toks)\/ls.map zw=(jb ls p o).map (fun r=>m0 r.toks)++[[]]
 |[],_,_=>.inl rfl
 | [a],p,o=>by
  rw[jb]
  by_cases h:a=[]
  .subst h
   right
   rw[E4 rfl];rfl
  .left
   rw[E6 h];show [zw a]=[(aC a p).1.map n0];rw[(zQ a p).1]
 | a::b::r,p,o=>by
  have e:m0 (mo o (aC a p).1 p ((p+a.length:Nat):Int)).toks=zw a:=(zQ a p).1;rw[jb,cI (l:=b::r),cI (f:=fun r:aK=>m0 r.toks),e];rcases Lx (b::r) (p+a.length+1) (dn o (aC a p).1) with h|h
  .left;rw[h]
  .right;rw[h];rfl
theorem Lv{l:Bs}(h:(aC l 0).2.2=0):jR l=((aA l).map (·.toks)).map m0\/jR l=((aA l).map (·.toks)).map m0++[[]]:=by
 rw[ix,fK h];exact Lx (jX l) 0 0
theorem R9{l:Bs}(h:(aC l 0).2.2=0):(di ((aA l).map (·.toks))).map VL=di (jR l):=by
 rcases Lv h with e|e
 .rw[e,Gs]
 .rw[e,M6,Gs]
theorem N8{l:Bs}(h:(aT l).2.2=0):(aC l 0).2.2=0/\∃x,dZ (jR l) [bR]=aw [x]:=by
 rcases vO l with ⟨_,b,x,c,_⟩|⟨a,_⟩
 .exact⟨b,x,c⟩
 .exact absurd h a
theorem DZ{u:ae}(h:u.kind≠3):∀r:List ae,gH (r++[u])=gH r
 |[]=>by simp[gH,h]
 | t::r=>by
  simp only[cf,gH,DZ h r]
theorem LY(h:r≠[])(x:List ae)(w:E7):cu (r++x) w=cu r w:=by
 cases r with
 |nil=>exact absurd rfl h
 |cons t r=>rfl
theorem Ko{s:Int}{la la2:Bool}{x:bX}{u:ae}(h:bn n p s la=.begins x)(q:bZ u mZ=true):bn n (p++[u]) s2 la2=.bare x:=by
 have Ae:u.kind=4:=by unfold bZ at q;simp at q;exact q.1
 have Aa:∀(row:List ae) (i:Nat),fF row s la i≠.begins x:=fun row i=>by
  unfold fF;split
  .simp
  .split<;>simp
 cases p with
 |nil=>cases h
 |cons t r=>
  rw[bn] at h;split at h
  .split at h
   .exact absurd h (Aa _ _)
   .split at h
    .exact absurd h (Aa _ _)
    .cases h
  next C=>
  split at h
  .exact absurd h (Aa _ _)
  next D=>
  split at h
  .unfold lK at h
   split at h
   .exact absurd h (Aa _ _)
   .split at h
    .cases h
    .split at h<;>cases h
  next E=>
  unfold gQ at h;simp only[ec,dd] at h;split at h
  .exact absurd h (Aa _ _)
  next j=>
  split at h
  .split at h<;>cases h
  next G=>
  split at h
  .next k=>
   injection h with hx
   have j:cu ((t::r).drop (1+(gH r).length)) pg=true:=by simpa using j
   have Ab:(t::r).drop (1+(gH r).length)≠[]:=by intro e;rw[e] at j;cases j
   have Ac:r≠[]:=by
    rintro rfl;simp[gH] at Ab
   rw[cf,bn];have e1:cu (t::(r++[u])) mZ=cu (t::r) mZ:=rfl;rw[e1,E6 C,E6 D,LY Ac,E6 E];unfold gQ;simp only[ec,dd,DZ (show u.kind≠3 by omega)]
   have Ad:1+(gH r).length<=(t::r).length:=by
    have:=ey.2 Ab;rw[bm] at this;omega
   have v:(t::(r++[u])).drop (1+(gH r).length)=(t::r).drop (1+(gH r).length)++[u]:=by
    rw[<-cf,eo Ad]
   have z:(r++[u]).drop (1+(gH r).length)=[u]:=by
    have:r.length=1+(gH r).length:=by simpa using k
    rw[<-this,gR]
   have A:cu [u] mZ=true:=q
   have B:(t::(r++[u])).length=1+(gH r).length+2:=by
    simp only[bc,cm,cY] at k ⊢;omega
   rw[v,LY Ab,j,E6 (by decide),E6 G,B,E6 (by omega),z,A,E6 (by decide),E6 (by omega),hx]
  next k=>
  split at h
  .exact absurd h (Aa _ _)
  .split at h
   .exact absurd h (Aa _ _)
   .cases h
theorem nV(l:List (List ae))(st:List bX):dZ ([]::l) st=dZ l st:=by
 rw[dZ];have:bP st (dX []) 0 true=(st,0,0):=rfl;rw[this,E4 rfl]
theorem Ay:∀(l:List (List ae)) (st:List bX),dZ (bq l) st=dZ l st
 |[],_=>rfl
 |[]::l,st=>by rw[bq,nV];exact Ay l st
 |(t::q)::l,_=>rfl
theorem nM{l:List (List ae)}(i:st≠[])(h:(dZ (r::l) st).isSome=true) :
  ∃k,bn st.length (dX r) 0 true=k/\sV st.length (dX r) k/\dZ (r::l) st=dZ l (eF st k).1/\(eF st k).1≠[]/\(dZ l (eF st k).1).isSome=true:=by
 rw[dZ] at h ⊢
 by_cases b:(bP st (dX r) 0 true).2.2=0
 .rw[E4 b] at h ⊢
  obtain⟨k,d,f,c,-⟩:=DD b i;have Aa:=rV i (dX r) 0 true;rw[c] at h ⊢;rw[c] at Aa;exact⟨k,d,f,rfl,Aa,h⟩
 .rw[E6 b] at h;cases h
theorem Lt{l:List (List ae)}{k:pO}(h:bn st.length (dX r) 0 true=k)(a:(eF st k).2.2=0):dZ (r::l) st=dZ l (eF st k).1:=by
 rw[dZ,j3,h,E4 a]
theorem Sm{k:pO}(h:sV n p k)(st:List bX):(eF st k).2.2=0:=by cases h<;>rfl
theorem BM{a:List ae}{l q:List (List ae)}(G:st≠[])(h:(dZ (a::l) st).isSome=true)(D:fe a=true)(E:bq l=x::q)(H:il x=true) :
  ∃y u,bn st.length (dX a) 0 true=.begins y/\dX x=[u]/\bZ u mZ=true/\dZ (a::l) st=dZ q (eF st (.bare y)).1/\(eF st (.bare y)).1≠[]/\(dZ q (eF st (.bare y)).1).isSome=true:=by
 obtain⟨k,o,v,b,A,g⟩:=nM G h;obtain⟨j,I⟩:=xq D;rw[P9] at j;obtain⟨y,rfl⟩:=v.facts.op.1 j;rw[<-Ay l,E] at b g;obtain⟨k2,C,g2,g3,c,f⟩:=nM A g;obtain⟨c1,B⟩:=xz H;rw[Mr] at c1;have Aa:=g2.facts.cl.1 c1;subst Aa;obtain⟨u,i⟩:=g2.facts.fin rfl;rw[i] at c1;have e:(eF st (.begins y)).1=st++[y]:=rfl;rw[e,AZ] at g3 c f;rw[e] at b;exact⟨y,u,o,i,c1,by rw[b,g3],c,f⟩
theorem wH:∀(n:Nat) (gap:Bool) (l:List (List ae)) (st:List bX),l.length<=n->st≠[]->(dZ l st).isSome=true->dZ ((eu n gap l).map (·.toks)) st=dZ l st
 | 0,_,l,st,hn,_,_=>by
  obtain rfl:=cC (pj.1 hn);rfl
 |n+1,_,[],st,_,_,_=>rfl
 | n+1,gap,[]::l,st,hn,hs,h=>by
  rw[nV] at h ⊢;rw[eu];exact wH n true l st (by simpa using hn) hs h
 | n+1,gap,(t::q)::l,st,hn,hs,h=>by
  simp only[bc] at hn;rw[eu,cI];simp only
  have hplain:dZ ((t::q)::(eu n false l).map (·.toks)) st=dZ ((t::q)::l) st:=by
   obtain⟨k,b,c,i,r,v⟩:=nM hs h;rw[i,Lt b (Sm c st)];exact wH n false l _ (by omega) r v
  unfold rf
  by_cases z:fe (t::q)=true
  .rw[E4 z]
   cases hd:bq l with
   |nil=>exact hplain
   |cons x q2=>
    simp only
    by_cases A:il x=true
    .rw[E4 A]
     obtain⟨y,u,b,c,i,r,v,C⟩:=BM hs h z hd A;have B:=Ko (s2:=0) (la2:=true) b i;rw[<-c,<-qK] at B;rw[r];rw[Lt B rfl];exact wH n false q2 _ (by have:=(iP hd).2.1;omega) v C
    .rw[E6 A];exact hplain
  .rw[E6 z];exact hplain
structure lS(l:List ae):Prop where
 told:∀t∈l,xP t
 line:∀t∈l,t.kind≠5
 rem:∀(a b:List ae) (t:ae),l=a++t::b->t.kind=6->b=[]
 nl:∀t∈l,10∉kG t
theorem lS.row(h:lS l)(hc:uw (dX l)=true):xQ l:=⟨h.told,h.line,h.rem,hc⟩
theorem lS.nil:lS []:=⟨fun t h=>(by cases h),fun t h=>(by cases h),fun a b t h=>(by simp at h),fun t h=>(by cases h)⟩
theorem DX(h:fe l=true):∃p t,l=p++[t]/\bZ t pg=true:=by
 rcases gS l with rfl|⟨p,t,rfl⟩
 .cases h
 .rw[hU] at h ⊢
  unfold fe at h;rw[eM] at h;exact⟨p,t,rfl,h⟩
theorem lS.join{a:List ae}(k:lS a)(j:lS x)(A:fe a=true):lS (a++x):=by
 refine⟨fun t h=>(cX.1 h).elim (k.told t) (j.told t),fun t h=>(cX.1 h).elim (k.line t) (j.line t),fun p b t e h6=>?_,fun t h=>(cX.1 h).elim (k.nl t) (j.nl t)⟩;rcases List.append_eq_append_iff.1 e with ⟨c,e1,i⟩|⟨c,e1,i⟩
 .exact j.rem c b t i h6
 .cases c with
  |nil=>exact j.rem [] b t (by simpa using i.symm) h6
  |cons d c=>
   simp only[cf,fY] at i;obtain⟨rfl,z⟩:=i;have v:c=[]:=k.rem p c t e1 h6;subst v;obtain⟨B,u,o,r⟩:=DX A;rw[e1] at o
   have:t=u:=by
    have:=congrArg List.getLast? o
    simpa using this
   subst this;unfold bZ at r;simp at r
   omega
theorem xD:∀(n:Nat) (gap:Bool) (l:List (List ae)) (st:List bX),l.length<=n->st≠[]->(dZ l st).isSome=true->(∀r∈l,lS r)->∀f∈eu n gap l,lS f.toks/\xQ f.toks/\f.toks≠[]
 |0,_,l,st,hn,_,_,_=>by intro f hf;cases hf
 |n+1,_,[],st,_,_,_,_=>by intro f hf;cases hf
 | n+1,gap,[]::l,st,hn,hs,h,hr=>by
  rw[nV] at h;rw[eu];exact xD n true l st (by simpa using hn) hs h (fun r q=>hr r (by simp[q]))
 | n+1,gap,(t::q)::l,st,hn,hs,h,hr=>by
  simp only[bc] at hn;rw[eu];have h0:=hr (t::q) (by simp)
  have hplain:∀f∈(⟨t::q,gap⟩:rG)::eu n false l,lS f.toks/\xQ f.toks/\f.toks≠[]:=by
   obtain⟨k,C,v,I,E,z⟩:=nM hs h;intro f hf;rcases cL.1 hf with rfl|hf
   .exact⟨h0,h0.row v.facts.ch,by simp⟩
   .exact xD n false l _ (by omega) E z (fun r q=>hr r (by simp[q])) f hf
  unfold rf
  by_cases i:fe (t::q)=true
  .rw[E4 i]
   cases hd:bq l with
   |nil=>exact hplain
   |cons x q2=>
    simp only
    by_cases A:il x=true
    .rw[E4 A]
     obtain⟨y,u,C,v,I,E,z,J⟩:=BM hs h i hd A;have Ac:=(iP hd).2.2;have Ad:=hr x (by simp[Ac x (.inl rfl)]);have H:=h0.join Ad i;intro f hf;rcases cL.1 hf with rfl|hf
     .refine⟨H,H.row ?_,by simp⟩
      rw[qK,v];obtain⟨k,B,g2,-⟩:=nM hs h;rw[C] at B;subst B;have Aa:=g2.facts.op.2 ⟨y,rfl⟩;have Ab:=g2.facts.ch;rcases gS (dX (t::q)) with e|⟨p,b,e⟩
      .rw[e] at Aa;cases Aa
      .rw[hU] at e
       rw[e] at Aa Ab ⊢;unfold Bl at Aa;rw[eM] at Aa;rw[ef];exact FU p b u [] Ab rfl (RF Aa (by decide) (by decide))
     .exact xD n false q2 _ (by have:=(iP hd).2.1;omega) z J (fun r q=>hr r (by simp[Ac r (.inr q)])) f hf
    .rw[E6 A];exact hplain
  .rw[E6 i];exact hplain
theorem Cj:∀l:List (List ae),(bq l).flatten=l.flatten
 |[]=>rfl
 |[]::l=>by rw[bq,Cj l];rfl
 |(t::q)::l=>rfl
theorem Cf:∀(n:Nat) (gap:Bool) (l:List (List ae)),l.length<=n->((eu n gap l).map (·.toks)).flatten=l.flatten
 | 0,_,l,hn=>by
  obtain rfl:=cC (pj.1 hn);rfl
 |n+1,_,[],_=>rfl
 | n+1,gap,[]::l,hn=>by
  rw[eu,Cf n true l (by simpa using hn)];rfl
 | n+1,gap,(t::q)::l,hn=>by
  simp only[bc] at hn;have hj:=Fx (t::q) l;rw[eu,cI,re,Cf n false _ (by omega),re];simp only;unfold rf;split
  .cases hd:bq l with
   |nil=>rfl
   |cons x q2=>
    simp only;split
    .rw[<-Cj l,hd];simp
    .rfl
  .rfl
theorem Ig:∀(F:List rG) (d:Int) (pv:Option Bool),((iL F d pv).map (·.toks)).flatten=(F.map (·.toks)).flatten
 |[],_,_=>rfl
 | f::F,d,pv=>by
  rw[iL,eJ,List.flatten_append,cI,re,Ig F,cI,re];split<;>rfl
theorem Gz:∀(F:List rG) (d:Int) (pv:Option Bool) (st:List bX),dZ ((iL F d pv).map (·.toks)) st=dZ (F.map (·.toks)) st
 |[],_,_,_=>rfl
 | f::F,d,pv,st=>by
  have h:∀st,dZ (f.toks::(iL F (dn d f.toks) (aw (jy f.toks))).map (·.toks)) st=dZ (f.toks::F.map (·.toks)) st:=fun st=>by
   rw[dZ,dZ,Gz F]
  rw[iL,eJ,cI,cI];split
  .show dZ ([]::_) st=_
   rw[nV];exact h st
  .exact h st
theorem LM:∀(F:List rG) (d:Int) (pv:Option Bool),∀r∈iL F d pv,r.toks=[]\/∃f∈F,f.toks=r.toks
 |[],_,_=>by intro r hr;cases hr
 | f::F,d,pv=>by
  intro r hr;rw[iL] at hr;rcases cX.1 hr with hr|hr
  .split at hr
   .rw[de.1 hr];exact .inl rfl
   .cases hr
  .rcases cL.1 hr with rfl|hr
   .exact .inr ⟨f,by simp,rfl⟩
   .rcases LM F _ _ r hr with h|⟨g,h1,h2⟩
    .exact .inl h
    .exact .inr ⟨g,by simp[h1],h2⟩
theorem Ai{l:List (List ae)}(c:st≠[])(h:(dZ l st).isSome=true)(j:∀r∈l,lS r) :
  (∀r∈di l,lS r.toks/\xQ r.toks)/\((di l).map (·.toks)).flatten=l.flatten/\dZ ((di l).map (·.toks)) st=dZ l st:=by
 unfold di;refine⟨fun r hm=>?_,by rw[Ig,Cf _ _ _ lz],by rw[Gz,wH _ _ _ _ lz c h]⟩;rcases LM _ _ _ r hm with e|⟨f,a,b⟩
 .rw[e];exact⟨lS.nil,lS.nil.row rfl⟩
 .have:=xD _ _ _ _ lz c h j f a
  rw[<-b];exact⟨this.1,this.2.1⟩
end Go.Proofs.YtgmpmolfcaihfaaGreatDoor
