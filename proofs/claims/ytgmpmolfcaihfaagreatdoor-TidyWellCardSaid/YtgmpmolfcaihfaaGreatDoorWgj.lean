/- Laws that TidyWell rests on; conditions: those that each names. -/
import Derived.Test.YtgmpmolfcaihfaaGreatDoorWgi
set_option linter.unusedSimpArgs false
set_option linter.unusedVariables false
set_option maxRecDepth 100000
set_option maxHeartbeats 20000000
open And renaming intro→cE
open Go renaming Addr→pC,Calls→cJ,Value→cq,World→cd,below_setRow→fy,bodyPost_ret→bj,maxLen→cV,results→cD,setRow_heap→fR,setRow_other→ml,setRow_size→rN
open Go.Ending renaming returned→bk
open Go.IntKind renaming i64→ar
open Go.IntWalk renaming i64_in→cU
open Go.Obj renaming cells→aE
open Go.Proofs.Tryz renaming prog→bh,results153→sh,results206→sk,results213→js,results216→tz,results37→Z0,results66→Z1
open Go.RowKit renaming Below→cj,intOf→cR
open Go.RowKit.Below renaming drew→ed,heap_alloc→fX,refl→ba
open Go.Value renaming agg→ew,bool→cG,int→ao,ownBlock→ev,slice→an,slice→iN,string→al,string→fx
open Go.World renaming size_alloc→cF,size_setCell→gj
open Go.World.ownsRow renaming lt→cy
open List renaming drop_drop→c4,drop_eq_getElem_cons→cg,drop_eq_nil_of_le→ek,drop_succ_cons→ec,drop_zero→dd,getElem?_eq_getElem→br,getElem_cons_zero→eg,getElem_mem→cH,length_append→cm,length_cons→bc,length_drop→bm,length_map→cW,length_nil→cY,length_singleton→eh,map_append→eJ,map_cons→cI,map_nil→ke,mem_cons→cL,mem_singleton→de,not_mem_nil→fW
open List.cons renaming injEq→fY
open Nat renaming add_zero→eA,le_of_eq→ox,le_refl→cA,le_trans→dy,lt_of_lt_of_le→cT,zero_add→df,zero_le→ck,zero_mul→iz
open Option renaming none→aq,some→aw
open Option.some renaming injEq→du
namespace Go.Proofs.YtgmpmolfcaihfaaGreatDoor
open Go.RowKit Go.Tab
variable{last:Bool}{nm o o1 t t1:E7}{a e size stop:Int}{T:Lb}{pre:List E7}{cs:List cq}{l:List ae}{R:List gT}{ks:List iA}{B d k q:Nat}{P:Nat->Prop}{lv s sl v:cq}{W W' w w' w3:cd}{x:iA}
def CZ(w:cd)(g:Nat):Nat:=match w.cell? ⟨g,3,aq⟩ with
 |some (ao _ n)=>n.toNat
 |_=>0
theorem wN{g:Nat}{kv:cq}{p:Nat}(h:aa w g (bg o t kv (p:Nat) e) 144):CZ w g=p:=by
 unfold CZ;rw[h.cell 3 (ao ar (p:Nat)) rfl];simp
def Wp(w:cd)(q2:Nat)(lv:cq)(l:List ae)(k d n m:Nat)(R:gq)(wr:cd):Prop:=
 zB w wr lv l/\∃(o t:E7) (a:Option pC) (nn c p:Nat) (e:Int),aa wr q2 (bg o t (an a nn c) (p:Nat) e) 144/\k<=p/\
  ((e=0/\p<=l.length/\∃j x,j<=m/\R=eZ (p-k) (ah j (.tloop n x) (l.drop p) d)/\af (fun b=>w.heap.size+1<=b/\b≠q2) wr x (fq o t (an a nn c)))\/(e≠0/\R=(bf,p-k,e)))
theorem qY(hX:af P W x cs)(A:Obj):af P (W.alloc A) x cs:=
 af.move (by simp) (fun b _ hl=>fX _ _ _ hl) (fun b hb _=>hb) _ _ hX
theorem yz{w7:cd}{vs:List cq}(v:q<w7.heap.size){op text:E7}(kids:List (iA×List cq))(o:∀s∈kids,af (fun b=>w.heap.size+1<=b/\b≠q) w7 s.1 s.2)(r:kids.length<=cV)(u:w.heap.size+1<=w7.heap.size) :
  af (fun b=>w.heap.size+1<=b/\b≠q) ((aj w7 q 0 vs).alloc (aE (kids.flatMap (·.2)).toArray 45)) (.mk op text (kids.map (·.1))) [al op,al text,an (aw ⟨w7.heap.size,0,aq⟩) kids.length kids.length]:=by
 have i:=aa.new (aj w7 q 0 vs) (kids.flatMap (·.2)).toArray 45;rw[aD] at i;refine tQ (P:=fun b=>w.heap.size+1<=b/\b≠q) kids i ⟨u,by omega⟩ (fun s hs=>?_) r;exact af.move (by rw[cF,aD];omega) (fun b hb hl=>by rw[fX _ _ _ (by rw[aD];exact hl),aR _ _ _ _ _ hb.2]) (fun b hb _=>hb) _ _ (o s hs)
theorem zB.put(h:zB w W lv l)(g:w.heap.size<q)(vs:List cq)(c:∀b,lv.ownBlock=aw b->b<w.heap.size):zB w (aj W q 0 vs) lv l:=by
 refine⟨aZ q w.heap.size (by omega) vs 0 _ _ h.b,h.q.setAllOther (by omega),⟨?_,h.l.few,h.l.short,h.l.quo⟩⟩;refine h.l.toks.moved (by rw[aD];exact cA _) (fun b off hl hv=>?_);exact jC (aR _ _ _ _ _ (by have:=c b hv;omega)) off
theorem GJ(m:Nat)(hX:XC m)(hT:∀j,j<=m->TC j):TC (m+1):=by
 intro w lv l k d n h hk hd hn1 hn7 hne;obtain⟨a,c,rfl,Cq,Cb⟩:=h.sl;have Cc:=h.few;unfold cV at Cb;rw[ah] at hne ⊢;have A9:=zB.start h;have HL:=Hh h.toks
 by_cases h7:n=7
 .subst h7
  rw[E4 (by omega)] at hne ⊢;have AA:=hX _ _ l k d A9.l hk hd hne;generalize ah m .tight (l.drop k) d=R1 at *;obtain⟨x1,n1,e1⟩:=R1;have A6:=Hh A9;clear h A9 hne;go_in;go_wp2_with fail;refine (AA).mono ?_;clear AA;rintro _ w4 ⟨hbX,o1,t1,a1,m1,c1,heX,hXX⟩;simp only at heX hXX;obtain⟨p1,A3⟩:∃pz:Nat,pz=k+n1:=⟨_,rfl⟩;rw[<-A3] at heX;subst heX;have AT:=Hh A3;clear A3;have A7:=A6.out.go hbX;have BY:=Hh (fun h=>A6.out.exp (hXX h));have Bi:=A7.q;have Bp:=Bi.lt;have Bl:=Hh A7;clear hbX hXX A6 A7;obtain⟨Br,Bw,Bs,Bx,Bt,By,Bu,Bz,Bv,B0⟩:=Bi.n5 rfl;clear Bi;go_wp2_with fail;have hq:=((((Bl.out.q.setI 0 (al o1)).setI 1 (al t1)).setI 2 (an a1 m1 c1)).setI 3 (ao ar p1)).setI 4 (ao ar e1);have Aw:=dK Bl.out.b [al o1,al t1,an a1 m1 c1,ao ar p1,ao ar e1];obtain⟨Ay,Az,A0,A1,A2⟩:=hq.m5 rfl;refine bj (v:=ew (#[al o1,al t1,an a1 m1 c1,ao ar p1,ao ar e1])) (by simp[cD,sh,go_sem,Ay,Az,A0,A1,A2]) rfl ?_
  exact dI (r:=(x1,n1,e1)) (by simp only;rw[AT.out]) rfl Aw (fun h=>oO (vs:=[al o1,al t1,an a1 m1 c1,ao ar p1,ao ar e1]) (BY.out h))
 .have Cs:n<7:=by omega
  have Ct:((n:Int)==7)=false:=by rw[Fc];omega
  rw[E6 (by omega)] at hne ⊢;have AX:=iV hne;have A8:=(fZ m (.term (n+1)) (l.drop k) d (by simp only[Nt.okX];omega) AX).1;rw[bm] at A8;have AA:=hT m lz _ _ l k d (n+1) A9.l hk hd (by omega) (by omega) AX;rw[show ((n+1:Nat):Int)=(n:Int)+1 by omega] at AA;obtain⟨R,hR⟩:=exq ((jr (ah m (.term (n+1)) (l.drop k) d) fun a k2=>eZ k2 (ah m (.tloop n a) ((l.drop k).drop k2) d)));rw[<-hR] at hne ⊢;generalize ah m (.term (n+1)) (l.drop k) d=R1 at *;obtain⟨x1,n1,e1⟩:=R1;simp only at A8 AX;have HR:=Hh hR;have HN:=Hh hne;have HT:=Hh hT;have A6:=Hh A9;clear h A9 hne hR hT AX h7;go_in;go_wp2_with fail;refine (AA).mono ?_;clear AA;rintro _ w4 ⟨hbX,o1,t1,a1,m1,c1,heX,hXX⟩;simp only at heX hXX;obtain⟨p1,A3⟩:∃pz:Nat,pz=k+n1:=⟨_,rfl⟩;rw[<-A3] at heX;subst heX;have AT:=Hh A3;clear A3;have A7:=A6.out.go hbX
  have AZ:Wp w w4.heap.size (an a l.length c) l k d n m R (w4.alloc (aE (bg o1 t1 (an a1 m1 c1) p1 e1) 144)):=by
   have A3:=AT.out;refine⟨A7.next _,o1,t1,a1,m1,c1,p1,e1,aa.new _ _ _,by omega,?_⟩
   by_cases he:e1=0
   .left
    refine⟨he,by omega,m,x1,cA _,?_,?_⟩
    .rw[HR.out,cB (by exact he),c4,A3,show k+n1-k=n1 by omega]
    .exact af.move (by simp) (fun b _ hl=>fX _ _ _ hl) (fun b hb hl=>⟨hb,by omega⟩) _ _ (A6.out.exp (hXX he))
   .right
    exact⟨he,by rw[HR.out,bA (by exact he),A3,show k+n1-k=n1 by omega]⟩
  have Bp:w.heap.size<w4.heap.size:=A7.q.lt;have Bm:=Hh AZ;clear hbX hXX A6 A7 AZ HR A8 AT;go_wp2;go_loopw [10] (fun _ wr=>Wp w w4.heap.size (an a l.length c) l k d n m R wr) (fun _ wr=>l.length+1-CZ wr w4.heap.size)
  .exact Bm.out
  clear Bm;obtain⟨hA,o5,t5,a5,Aa,c5,p,e,Av,Co,AZ⟩:=hrel;have Ax:=hA.q;have Cr:=Ax.lt;have Ce:=Av.lt;have BX:=Hh (wN Av);rcases AZ with ⟨rfl,hpl,j,x,hj,hRe,hXx⟩|⟨he,hRe⟩
  .have HH:=Jh hA hXx
   by_cases hpl2:p<l.length
   .obtain⟨bb,BV,rfl,Bq,q0,q1,q2⟩:=hA.l.toks.get hpl2
    have Bh:l.drop p=l[p]::l.drop (p+1):=cg hpl2;obtain⟨kd,AV⟩:∃z,l[p].kind=z:=⟨_,rfl⟩;obtain⟨tx,Bb⟩:∃z,l[p].text=z:=⟨_,rfl⟩;rw[AV] at q0;rw[Bb] at q1;have AD:LZ (l.drop p) n=if kd=4/\Ik tx=(n:Int) then aw tx else aq:=by rw[Bh];simp only[LZ,AV,Bb]
    clear q2 hA hXx
    by_cases hgo:kd=4/\Ik tx=(n:Int)
    .obtain⟨h4,A4⟩:=hgo
     rw[E4 ⟨h4,A4⟩] at AD
     cases j with
     |zero=>exact absurd (by rw[hRe];rfl) HN.out
     |succ j=>
     rw[ah,AD] at hRe;simp only at hRe;rw[c4] at hRe
     have AY:(ah j (.term (n+1)) (l.drop (p+1)) d).2.2≠-1:=by
      have:=HN.out;rw[hRe] at this;have h9:(jr (eZ 1 (ah j (.term (n+1)) (l.drop (p+1)) d)) fun b k2=>eZ k2 (ah j (.tloop n (.mk tx jO [x,b])) ((l.drop p).drop k2) d)).2.2≠-1:=this;have h8:=iV h9;exact h8
     have AE:=(fZ j (.term (n+1)) (l.drop (p+1)) d (by simp only[Nt.okX];omega) AY).1;rw[bm] at AE;have Bg:=HT.out j (by omega) _ _ l (p+1) d (n+1) HH.out.1.l (by omega) hd (by omega) (by omega) AY;rw[show ((n+1:Nat):Int)=(n:Int)+1 by omega,show ((p+1:Nat):Int)=(p:Int)+1 by omega] at Bg;generalize ah j (.term (n+1)) (l.drop (p+1)) d=R2 at *;obtain⟨x2,n2,e2⟩:=R2;simp only at AE AY;have Be:=Hh hRe;have Cg:(Ik tx==(n:Int))=true:=by rw[beq_iff_eq];exact A4
     have e4:(kd==4)=true:=by simpa using h4
     have AU:=fun W=>Ba tx W;have Cm:=Hh A4;generalize Ik tx=L at *;clear hRe AD Bh AV Bb AY A4 h4;have AH:=Av;obtain⟨Al,Aq,Am,Ar,An,As,Ao,At,Ap,Au⟩:=Ax.n5 rfl;obtain⟨Ab,Ag,Ac,Ah,Ad,Ai,Ae,Aj,Af,Ak⟩:=Av.n5 rfl;clear Ax Av;go_wp2_with (go_at_call 186;refine (AU _).mono ?_;rintro _ _ ⟨rfl,rfl⟩)
     clear AU Al Am An Ao Ap Aq Ar As At Au Ab Ac Ad Ae Af Ag Ah Ai Aj Ak;refine (Bg).mono ?_;clear Bg;rintro _ w6 ⟨hbX,o2,t2,a2,m2,c2,heX,hXX⟩;simp only at heX hXX;obtain⟨p2,AG⟩:∃pz:Nat,pz=p+1+n2:=⟨_,rfl⟩;rw[<-AG] at heX;subst heX;have Bd:=Hh AG;clear AG;have Bf:=HH.out.1.go hbX;have AW:=Bf.q;have Cp:=AW.lt;have AB:=AH.below hbX Ce;have Ch:=AB.lt;have BW:=(hbX.cell (p:=⟨bb,BV+p*3+1,aq⟩) Bq).trans q1;have AF:=cT Bq hbX.size;have Bo:af (fun b=>w.heap.size+1<=b/\b≠w4.heap.size) w6 x (fq o5 t5 (an a5 Aa c5)):=af.move hbX.size (fun b _ hl=>hbX.block b hl) (fun b hb _=>hb) _ _ HH.out.2;have Bn:Hid (e2=0->af (fun b=>w.heap.size+1<=b/\b≠w4.heap.size) w6 x2 (fq o2 t2 (an a2 m2 c2))):=Hh (fun he=>af.move lz (fun _ _ _=>rfl) (fun b hb _=>⟨by omega,by omega⟩) _ _ (hXX he));have H6:=Jh Bf (cE AB Bo);have hne:w.heap.size≠w4.heap.size:=by omega
     clear hbX hXX HH AH Bf Bo q0 q1
     by_cases he2:e2=0
     .subst he2
      have AC:cj w6.heap.size w6 (w6.alloc (aE (bg o2 t2 (an a2 m2 c2) p2 0) 144)):=(ba _ w6).alloc lz _;have Bc:=AB.below AC Ch;have Bk:=aa.new w6 (bg o2 t2 (an a2 m2 c2) p2 0) 144;have q7:=(AC.cell (p:=⟨bb,BV+p*3+1,aq⟩) AF).trans BW;have Cf:=cT AF AC.size;have H7:=Jh (H6.out.1.go AC) (cE Bc (cE (qY H6.out.2.2 (aE (bg o2 t2 (an a2 m2 c2) p2 0) 144)) (qY (Bn.out (by first|trivial|rfl)) (aE (bg o2 t2 (an a2 m2 c2) p2 0) 144))));have Cd:w4.heap.size≠w6.heap.size:=by omega
      obtain⟨AJ,AO,AK,AP,AL,AQ,AM,AR,AN,AS⟩:=AB.n5 rfl;clear AB AW BW;go_wp2_with fail;clear AJ AK AL AM AN AO AP AQ AR AS AC H6 Bn;have Ci:=Bc.lt;have Cj:=Bk.lt;generalize w6.alloc (aE (bg o2 t2 (an a2 m2 c2) p2 0) 144)=w7 at *;obtain⟨BB,BG,BC,BH,BD,BI,BE,BJ,BF,BK⟩:=Bc.n5 rfl;obtain⟨BL,BQ,BM,BR,BN,BS,BO,BT,BP,BU⟩:=Bk.n5 rfl;clear Bc Bk;go_region
      all_goals
       go_wp2;go_roundw
       .
        have hn:af (fun b=>w.heap.size+1<=b/\b≠w4.heap.size) ((aj w7 w4.heap.size 0 [al tx,al ⟨#[]⟩,an (aw ⟨w7.heap.size,0,aq⟩) 2 2,ao ar p2,ao ar 0]).alloc (aE #[al o5,al t5,an a5 Aa c5,al o2,al t2,an a2 m2 c2] 45)) (.mk tx jO [x,x2]) [al tx,al jO,an (aw ⟨w7.heap.size,0,aq⟩) 2 2]:=
         yz (by omega) [(x,fq o5 t5 (an a5 Aa c5)),(x2,fq o2 t2 (an a2 m2 c2))] (fun s hs=>by
          simp only[cL,fW,or_false] at hs;rcases hs with rfl|rfl
          .exact H7.out.2.2.1
          .exact H7.out.2.2.2) (by simp[cV]) (by have:=H7.out.1.q.lt;omega)
        obtain⟨b0,Cl,Ca,Cn,-⟩:=HL.out.get hpl2;cases Ca
        have BZ:=(H7.out.1.put (q:=w4.heap.size) Bp [al tx,al ⟨#[]⟩,an (aw ⟨w7.heap.size,0,aq⟩) 2 2,ao ar p2,ao ar 0] (fun b hb=>by simp only[ev,du] at hb;omega)).next (aE #[al o5,al t5,an a5 Aa c5,al o2,al t2,an a2 m2 c2] 45);have Bj:=(H7.out.2.1.put [al tx,al ⟨#[]⟩,an (aw ⟨w7.heap.size,0,aq⟩) 2 2,ao ar p2,ao ar 0] 0).alloc (aE #[al o5,al t5,an a5 Aa c5,al o2,al t2,an a2 m2 c2] 45);have AG:=Bd.out;refine⟨BZ.go (ed (ba _ _)),tx,⟨#[]⟩,_,2,2,p2,0,Bj.drew,by omega,.inl ⟨rfl,by omega,j,.mk tx jO [x,x2],by omega,?_,af.below (ed (ba _ _)) _ _ hn⟩⟩;rw[Be.out,cB (by rfl)];show eZ (p-k) (eZ (1+n2) (ah j (.tloop n (.mk tx jO [x,x2])) ((l.drop p).drop (1+n2)) d))=_;rw[oM,c4,show p+(1+n2)=p2 by omega,show p-k+(1+n2)=p2-k by omega]
       have Bj:=((H7.out.2.1.put [al tx,al ⟨#[]⟩,an (aw ⟨w7.heap.size,0,aq⟩) 2 2,ao ar p2,ao ar 0] 0).alloc (aE #[al o5,al t5,an a5 Aa c5,al o2,al t2,an a2 m2 c2] 45)).drew;have Ck:=wN (p:=p2) (e:=0) Bj;have AG:=Bd.out;show l.length+1-CZ (((aj w7 w4.heap.size 0 [al tx,al ⟨#[]⟩,an (aw ⟨w7.heap.size,0,aq⟩) 2 2,ao ar p2,ao ar 0]).alloc (aE #[al o5,al t5,an a5 Aa c5,al o2,al t2,an a2 m2 c2] 45)).drew) w4.heap.size<l.length+1-CZ wr w4.heap.size;rw[BX.out,Ck];omega
     .have e0:(e2 != 0)=true:=by simpa using he2
      have A5:Hid (R=(bf,p-k+(1+n2),e2)):=Hh (by rw[Be.out,bA (by exact he2)];rfl);clear Be;obtain⟨B1,B6,B2,B7,B3,B8,B4,B9,B5,BA⟩:=AW.n5 rfl;clear AW AB;go_wp2_with fail;have hq:=(((((H6.out.1.q.setI 0 (al o2)).setI 1 (al t2)).setI 2 (an a2 m2 c2)).setI 3 (ao ar p2)).setI 4 (ao ar e2)).alloc (aE (bg o2 t2 (an a2 m2 c2) p2 e2) 144);have Aw:=gI (vs:=[al o2,al t2,an a2 m2 c2,ao ar p2,ao ar e2]) H6.out.1.b (aE (bg o2 t2 (an a2 m2 c2) p2 e2) 144);obtain⟨Ay,Az,A0,A1,A2⟩:=hq.m5 rfl;refine bj (v:=ew (#[al o2,al t2,an a2 m2 c2,ao ar p2,ao ar e2])) (by simp[cD,sh,go_sem,Ay,Az,A0,A1,A2]) rfl ?_;rw[A5.out];exact dI (r:=(bf,p-k+(1+n2),e2)) (by simp only;have:=Bd.out;omega) rfl Aw (fun h=>absurd h he2)
    .have A5:Hid (R=(x,p-k,0)):=Hh (by
      rw[hRe]
      cases j with
      |zero=>exact absurd (by rw[hRe];rfl) HN.out
      |succ j=>rw[ah,AD,E6 hgo];rfl)
     clear hRe AD Bh AV Bb
     by_cases h4:kd=4
     .have Cg:(Ik tx==(n:Int))=false:=by rw[Fc];exact fun q=>hgo ⟨h4,q⟩
      have e4:(kd==4)=true:=by simpa using h4
      have AU:=fun W=>Ba tx W;generalize Ik tx=L at *;clear hgo h4;obtain⟨Al,Aq,Am,Ar,An,As,Ao,At,Ap,Au⟩:=Ax.n5 rfl;obtain⟨Ab,Ag,Ac,Ah,Ad,Ai,Ae,Aj,Af,Ak⟩:=Av.n5 rfl;clear Ax Av;go_wp2_with (go_at_call 186;refine (AU _).mono ?_;rintro _ _ ⟨rfl,rfl⟩)
      have hq:=((((HH.out.1.q.setI 0 (al o5)).setI 1 (al t5)).setI 2 (an a5 Aa c5)).setI 3 (ao ar p)).setI 4 (ao ar 0);have Aw:=dK HH.out.1.b [al o5,al t5,an a5 Aa c5,ao ar p,ao ar 0];obtain⟨Ay,Az,A0,A1,A2⟩:=hq.m5 rfl;refine bj (v:=ew (#[al o5,al t5,an a5 Aa c5,ao ar p,ao ar 0])) (by simp[cD,sh,go_sem,Ay,Az,A0,A1,A2]) rfl ?_;rw[A5.out];have AI:=oO (vs:=[al o5,al t5,an a5 Aa c5,ao ar p,ao ar 0]) (af.move lz (fun _ _ _=>rfl) (fun b hb _=>hb.1) _ _ HH.out.2);exact dI (r:=(x,p-k,0)) (by simp only;omega) rfl Aw (fun _=>AI)
     .have e4:(kd==4)=false:=by simpa using h4
      clear hgo h4;obtain⟨Al,Aq,Am,Ar,An,As,Ao,At,Ap,Au⟩:=Ax.n5 rfl;obtain⟨Ab,Ag,Ac,Ah,Ad,Ai,Ae,Aj,Af,Ak⟩:=Av.n5 rfl;clear Ax Av;go_wp2_with fail;have hq:=((((HH.out.1.q.setI 0 (al o5)).setI 1 (al t5)).setI 2 (an a5 Aa c5)).setI 3 (ao ar p)).setI 4 (ao ar 0);have Aw:=dK HH.out.1.b [al o5,al t5,an a5 Aa c5,ao ar p,ao ar 0];obtain⟨Ay,Az,A0,A1,A2⟩:=hq.m5 rfl;refine bj (v:=ew (#[al o5,al t5,an a5 Aa c5,ao ar p,ao ar 0])) (by simp[cD,sh,go_sem,Ay,Az,A0,A1,A2]) rfl ?_;rw[A5.out];have AI:=oO (vs:=[al o5,al t5,an a5 Aa c5,ao ar p,ao ar 0]) (af.move lz (fun _ _ _=>rfl) (fun b hb _=>hb.1) _ _ HH.out.2);exact dI (r:=(x,p-k,0)) (by simp only;omega) rfl Aw (fun _=>AI)
   .have A5:Hid (R=(x,p-k,0)):=Hh (by
     rw[hRe]
     cases j with
     |zero=>exact absurd (by rw[hRe];rfl) HN.out
     |succ j=>rw[ah,ek (by omega)];rfl)
    clear hRe hA hXx;obtain⟨Al,Aq,Am,Ar,An,As,Ao,At,Ap,Au⟩:=Ax.n5 rfl;obtain⟨Ab,Ag,Ac,Ah,Ad,Ai,Ae,Aj,Af,Ak⟩:=Av.n5 rfl;clear Ax Av;go_wp2_with fail;have hq:=((((HH.out.1.q.setI 0 (al o5)).setI 1 (al t5)).setI 2 (an a5 Aa c5)).setI 3 (ao ar p)).setI 4 (ao ar 0);have Aw:=dK HH.out.1.b [al o5,al t5,an a5 Aa c5,ao ar p,ao ar 0];obtain⟨Ay,Az,A0,A1,A2⟩:=hq.m5 rfl;refine bj (v:=ew (#[al o5,al t5,an a5 Aa c5,ao ar p,ao ar 0])) (by simp[cD,sh,go_sem,Ay,Az,A0,A1,A2]) rfl ?_;rw[A5.out];have AI:=oO (vs:=[al o5,al t5,an a5 Aa c5,ao ar p,ao ar 0]) (af.move lz (fun _ _ _=>rfl) (fun b hb _=>hb.1) _ _ HH.out.2);exact dI (r:=(x,p-k,0)) (by simp only;omega) rfl Aw (fun _=>AI)
  .have e0:(e==0)=false:=by simpa using he
   have HH:=Hh hA;have A5:=Hh hRe;clear hA hRe;obtain⟨Al,Aq,Am,Ar,An,As,Ao,At,Ap,Au⟩:=Ax.n5 rfl;obtain⟨Ab,Ag,Ac,Ah,Ad,Ai,Ae,Aj,Af,Ak⟩:=Av.n5 rfl;clear Ax Av;go_wp2_with fail;have hq:=((((HH.out.q.setI 0 (al o5)).setI 1 (al t5)).setI 2 (an a5 Aa c5)).setI 3 (ao ar p)).setI 4 (ao ar e);have Aw:=dK HH.out.b [al o5,al t5,an a5 Aa c5,ao ar p,ao ar e];obtain⟨Ay,Az,A0,A1,A2⟩:=hq.m5 rfl;refine bj (v:=ew (#[al o5,al t5,an a5 Aa c5,ao ar p,ao ar e])) (by simp[cD,sh,go_sem,Ay,Az,A0,A1,A2]) rfl ?_;rw[A5.out];exact dI (r:=(bf,p-k,e)) (by simp only;omega) rfl Aw (fun h=>absurd h he)
def V8(w:cd)(q2:Nat)(lv:cq)(l:List ae)(k d m:Nat)(R:gq)(wr:cd):Prop:=
 zB w wr lv l/\∃(o t:E7) (a:Option pC) (nn c p:Nat) (e:Int),aa wr q2 (bg o t (an a nn c) (p:Nat) e) 144/\k<=p/\
  ((e=0/\p<=l.length/\∃j x,j<=m/\R=eZ (p-k) (ah j (.ploop x) (l.drop p) d)/\af (fun b=>w.heap.size+1<=b/\b≠q2) wr x (fq o t (an a nn c)))\/(e≠0/\R=(bf,p-k,e)))
theorem GK(m:Nat)(hQ:QC m)(hC:∀j,j<=m->CC j):PC (m+1):=by
 intro w lv l k d h hk hd hne;obtain⟨a,c,rfl,Ct,Cf⟩:=h.sl;have A7:=h.few;unfold cV at Cf;rw[ah] at hne ⊢;have BC:=zB.start h;have HL:=Hh h.toks;have B7:=iV hne;have AK:=(fZ m .prime (l.drop k) d trivial B7).1;rw[bm] at AK;have BR:=hQ _ _ l k d BC.l hk hd B7;obtain⟨R,hR⟩:=exq ((jr (ah m .prime (l.drop k) d) fun a k2=>eZ k2 (ah m (.ploop a) ((l.drop k).drop k2) d)));rw[<-hR] at hne ⊢;generalize ah m .prime (l.drop k) d=R1 at *;obtain⟨x1,n1,e1⟩:=R1;simp only at AK B7;have HR:=Hh hR;have HN:=Hh hne;have HC:=Hh hC;have BB:=Hh BC;clear h BC hne hR hC B7;go_in;go_wp2_with fail;refine (BR).mono ?_;clear BR;rintro _ w4 ⟨hbX,o1,t1,a1,m1,c1,heX,hXX⟩;simp only at heX hXX;obtain⟨p1,A5⟩:∃pz:Nat,pz=k+n1:=⟨_,rfl⟩;rw[<-A5] at heX;subst heX;have BN:=Hh A5;clear A5;have BD:=BB.out.go hbX
 have B9:V8 w w4.heap.size (an a l.length c) l k d m R (w4.alloc (aE (bg o1 t1 (an a1 m1 c1) p1 e1) 144)):=by
  have A5:=BN.out;refine⟨BD.next _,o1,t1,a1,m1,c1,p1,e1,aa.new _ _ _,by omega,?_⟩
  by_cases he:e1=0
  .left
   refine⟨he,by omega,m,x1,cA _,?_,?_⟩
   .rw[HR.out,cB (by exact he),c4,A5,show k+n1-k=n1 by omega]
   .exact af.move (by simp) (fun b _ hl=>fX _ _ _ hl) (fun b hb hl=>⟨hb,by omega⟩) _ _ (BB.out.exp (hXX he))
  .right
   exact⟨he,by rw[HR.out,bA (by exact he),A5,show k+n1-k=n1 by omega]⟩
 have BT:w.heap.size<w4.heap.size:=BD.q.lt;have BP:=Hh B9;clear hbX hXX BB BD B9 HR AK BN;go_wp2;go_loopw [8] (fun _ wr=>V8 w w4.heap.size (an a l.length c) l k d m R wr) (fun _ wr=>l.length+1-CZ wr w4.heap.size)
 .exact BP.out
 clear BP;obtain⟨hA,o5,t5,a5,Aa,c5,p,e,Ax,Cs,B9⟩:=hrel;have Ay:=hA.q;have Cu:=Ay.lt;have Ci:=Ax.lt;have BO:=Hh (wN Ax);rcases B9 with ⟨rfl,hpl,j,x,hj,hRe,hXx⟩|⟨he,hRe⟩
 .have HH:=Jh hA hXx
  have A6:=fun s=>gL wr (an a l.length c) l p s hA.l.toks A7 (by omega)
  cases j with
  |zero=>exact absurd (by rw[hRe];rfl) HN.out
  |succ j=>
  rw[ah] at hRe
  by_cases hdot:cu (l.drop p) uE=true
  .have BK:=qV hdot
   rw[E4 hdot] at hRe;have B6:(l.drop p).drop 1=l.drop (p+1):=by rw[c4]
   have Cg:(l.drop p).drop 2=l.drop (p+2):=by rw[c4]
   rw[B6,Cg] at hRe;have Av:=nO wr (an a l.length c) l (p+1) hA.l.toks A7 (by omega);rw[show ((p+1:Nat):Int)=(p:Int)+1 by omega] at Av;have B5:Hid ((dJ (l.drop (p+1)) 0).2.2≠0):=Hh (by unfold dJ;split<;>simp)
   by_cases A5:p+1<l.length
   focus
    obtain⟨bb,Cx,rfl,Cv,q0,q1,q2⟩:=hA.l.toks.get A5;have AS:l.drop (p+1)=l[p+1]::l.drop (p+1+1):=cg A5;obtain⟨kd,AT⟩:∃z,l[p+1].kind=z:=⟨_,rfl⟩;obtain⟨tx,BA⟩:∃z,l[p+1].text=z:=⟨_,rfl⟩;rw[AT] at q0;rw[BA] at q1;clear q2
    by_cases h1:kd=1
    .have Aw:Hid (R=eZ (p-k+2) (ah j (.ploop (.mk qh tx [x])) (l.drop (p+2)) d)):=Hh (by
      rw[hRe,AS];simp only;rw[AT,E4 h1,oM,BA])
     have e1:(kd != 1)=false:=by simpa using h1
     have A8:=Ax;clear hRe AS AT BA Av B5 h1 hA hXx;obtain⟨Al,Aq,Am,Ar,An,As,Ao,At,Ap,Au⟩:=Ay.n5 rfl;obtain⟨Ab,Ag,Ac,Ah,Ad,Ai,Ae,Aj,Af,Ak⟩:=Ax.n5 rfl;clear Ay Ax;go_wp2_with (go_at_call 154;refine (A6 _).mono ?_;rintro _ _ ⟨rfl,rfl⟩;simp only[hdot])
     have Cw:=HH.out.1.q.lt;go_region
     all_goals
      go_wp2;go_roundw
      .
       obtain⟨b0,BM,BH,Ce,-⟩:=HL.out.get A5;cases BH
       have hn:af (fun b=>w.heap.size+1<=b/\b≠w4.heap.size) ((aj wr w4.heap.size 0 [al qh,al tx,an (aw ⟨wr.heap.size,0,aq⟩) 1 1,ao ar ((p:Int)+2),ao ar 0]).alloc (aE #[al o5,al t5,an a5 Aa c5] 45)) (.mk qh tx [x]) [al qh,al tx,an (aw ⟨wr.heap.size,0,aq⟩) 1 1]:=
        yz (by omega) [(x,fq o5 t5 (an a5 Aa c5))] (fun s hs=>by simp only[de] at hs;subst hs;exact HH.out.2) (by simp[cV]) (by omega)
       have BF:=(HH.out.1.put (q:=w4.heap.size) BT [al qh,al tx,an (aw ⟨wr.heap.size,0,aq⟩) 1 1,ao ar ((p:Int)+2),ao ar 0] (fun b hb=>by simp only[ev,du] at hb;omega)).next (aE #[al o5,al t5,an a5 Aa c5] 45);have AO:=(A8.put [al qh,al tx,an (aw ⟨wr.heap.size,0,aq⟩) 1 1,ao ar ((p:Int)+2),ao ar 0] 0).alloc (aE #[al o5,al t5,an a5 Aa c5] 45);refine⟨BF.go (ed (ba _ _)),qh,tx,_,1,1,p+2,0,AO.drew,by omega,.inl ⟨rfl,by omega,j,.mk qh tx [x],by omega,?_,af.below (ed (ba _ _)) _ _ hn⟩⟩;rw[Aw.out,show p-k+2=p+2-k by omega]
      have AO:=((A8.put [al qh,al tx,an (aw ⟨wr.heap.size,0,aq⟩) 1 1,ao ar ((p:Int)+2),ao ar 0] 0).alloc (aE #[al o5,al t5,an a5 Aa c5] 45)).drew;have BJ:=wN (p:=p+2) (e:=0) AO;show l.length+1-CZ (((aj wr w4.heap.size 0 [al qh,al tx,an (aw ⟨wr.heap.size,0,aq⟩) 1 1,ao ar ((p:Int)+2),ao ar 0]).alloc (aE #[al o5,al t5,an a5 Aa c5] 45)).drew) w4.heap.size<l.length+1-CZ wr w4.heap.size;rw[BO.out,BJ];omega
    focus
     have Aw:Hid (R=(bf,p-k+1,(dJ (l.drop (p+1)) 0).2.2)):=Hh (by
      rw[hRe]
      conv=>lhs;rw[AS]
      simp only
      rw[AT,E6 h1,<-AS,vY];rfl)
     have e1:(kd != 1)=true:=by simpa using h1
     generalize (dJ (l.drop (p+1)) 0).2.2=eb at *;clear hRe AS AT BA h1 hA hXx
   rotate_left
   focus
    have Aw:Hid (R=(bf,p-k+1,(dJ (l.drop (p+1)) 0).2.2)):=Hh (by
     have BI:l.drop (p+1)=[]:=ek (by omega)
     rw[hRe,BI];rfl)
    generalize (dJ (l.drop (p+1)) 0).2.2=eb at *;clear hRe hA hXx
   all_goals
    obtain⟨Al,Aq,Am,Ar,An,As,Ao,At,Ap,Au⟩:=Ay.n5 rfl;obtain⟨Ab,Ag,Ac,Ah,Ad,Ai,Ae,Aj,Af,Ak⟩:=Ax.n5 rfl;clear Ay Ax;go_wp2_with (go_at_call 154;refine (A6 _).mono ?_;rintro _ _ ⟨rfl,rfl⟩;simp only[hdot])
    refine Av.mono ?_;clear Av;rintro _ w8 ⟨rfl,hb8⟩;have AJ:=(HH.out.1).go hb8;have AM:=AJ.q;have Ck:=AM.lt;have AQ:=Hh AJ;clear AJ hb8;obtain⟨AX,Bc,AY,Bd,AZ,Be,Ba,Bf,Bb,Bg⟩:=AM.n5 rfl;clear AM;go_wp2_with fail;have hq:=((((AQ.out.q.setI 0 (al ⟨#[]⟩)).setI 1 (al ⟨#[]⟩)).setI 2 (an aq 0 0)).setI 3 (ao ar ((p:Int)+1))).setI 4 (ao ar eb);have Az:=dK AQ.out.b [al ⟨#[]⟩,al ⟨#[]⟩,an aq 0 0,ao ar ((p:Int)+1),ao ar eb];obtain⟨A0,A1,A2,A3,A4⟩:=hq.m5 rfl;refine bj (v:=ew (#[al ⟨#[]⟩,al ⟨#[]⟩,an aq 0 0,ao ar ((p:Int)+1),ao ar eb])) (by simp[cD,sk,go_sem,A0,A1,A2,A3,A4]) rfl ?_;rw[Aw.out];exact dI (r:=(bf,p-k+1,eb)) (by simp only;omega) rfl Az (fun h=>absurd h B5.out)
  .have hdot:cu (l.drop p) uE=false:=by simpa using hdot
   rw[E6 (by rw[hdot];decide)] at hRe
   by_cases hlb:cu (l.drop p) EP=true
   .have BK:=qV hlb
    rw[E4 hlb] at hRe
    by_cases hd64:64<=d
    .have Aw:Hid (R=(bf,p-k,5)):=Hh (by rw[hRe,E4 hd64];rfl)
     clear hRe hA hXx;obtain⟨Al,Aq,Am,Ar,An,As,Ao,At,Ap,Au⟩:=Ay.n5 rfl;obtain⟨Ab,Ag,Ac,Ah,Ad,Ai,Ae,Aj,Af,Ak⟩:=Ax.n5 rfl;clear Ay Ax;go_wp2_with (go_at_call 154;refine (A6 _).mono ?_;rintro _ _ ⟨rfl,rfl⟩;simp only[hdot,hlb])
     have hq:=((((HH.out.1.q.setI 0 (al ⟨#[]⟩)).setI 1 (al ⟨#[]⟩)).setI 2 (an aq 0 0)).setI 3 (ao ar p)).setI 4 (ao ar 5);have Az:=dK HH.out.1.b [al ⟨#[]⟩,al ⟨#[]⟩,an aq 0 0,ao ar p,ao ar 5];obtain⟨A0,A1,A2,A3,A4⟩:=hq.m5 rfl;refine bj (v:=ew (#[al ⟨#[]⟩,al ⟨#[]⟩,an aq 0 0,ao ar p,ao ar 5])) (by simp[cD,sk,go_sem,A0,A1,A2,A3,A4]) rfl ?_;rw[Aw.out];exact dI (r:=(bf,p-k,5)) (by simp only;omega) rfl Az (fun h=>by cases h)
    .rw[E6 hd64] at hRe
     have B6:(l.drop p).drop 1=l.drop (p+1):=by rw[c4]
     rw[B6] at hRe
     have B8:(ah j .choice (l.drop (p+1)) (d+1)).2.2≠-1:=by
      have:=HN.out;rw[hRe] at this;have h9:(jr (eZ 1 (ah j .choice (l.drop (p+1)) (d+1))) fun b k2=>if cu ((l.drop p).drop k2) rT=false then dJ ((l.drop p).drop k2) k2 else eZ (k2+1) (ah j (.ploop (.mk zu jO [x,b])) ((l.drop p).drop (k2+1)) d)).2.2≠-1:=this;have h8:=iV h9;exact h8
     have AU:=(fZ j .choice (l.drop (p+1)) (d+1) trivial B8).1;rw[bm] at AU;have BG:=HC.out j (by omega) _ _ l (p+1) (d+1) HH.out.1.l (by omega) (by omega) B8;rw[show ((d+1:Nat):Int)=(d:Int)+1 by omega,show ((p+1:Nat):Int)=(p:Int)+1 by omega] at BG;generalize ah j .choice (l.drop (p+1)) (d+1)=R2 at *;obtain⟨x2,n2,e2⟩:=R2;simp only at AU B8;have B3:=Hh hRe;have AW:=Ax;clear hRe B8 B6 hA hXx;obtain⟨Al,Aq,Am,Ar,An,As,Ao,At,Ap,Au⟩:=Ay.n5 rfl;obtain⟨Ab,Ag,Ac,Ah,Ad,Ai,Ae,Aj,Af,Ak⟩:=Ax.n5 rfl;clear Ay Ax;go_wp2_with (go_at_call 154;refine (A6 _).mono ?_;rintro _ _ ⟨rfl,rfl⟩;simp only[hdot,hlb])
     clear A6 Al Am An Ao Ap Aq Ar As At Au Ab Ac Ad Ae Af Ag Ah Ai Aj Ak;refine (BG).mono ?_;clear BG;rintro _ w6 ⟨hbX,o2,t2,a2,m2,c2,heX,hXX⟩;simp only at heX hXX;obtain⟨p2,AV⟩:∃pz:Nat,pz=p+1+n2:=⟨_,rfl⟩;rw[<-AV] at heX;subst heX;have AR:=Hh AV;clear AV;have BE:=HH.out.1.go hbX;have AN:=BE.q;have Cj:=AN.lt;have A8:=AW.below hbX Ci;have Cm:=A8.lt;have BS:af (fun b=>w.heap.size+1<=b/\b≠w4.heap.size) w6 x (fq o5 t5 (an a5 Aa c5)):=af.move hbX.size (fun b _ hl=>hbX.block b hl) (fun b hb _=>hb) _ _ HH.out.2;have BQ:Hid (e2=0->af (fun b=>w.heap.size+1<=b/\b≠w4.heap.size) w6 x2 (fq o2 t2 (an a2 m2 c2))):=Hh (fun he=>af.move lz (fun _ _ _=>rfl) (fun b hb _=>⟨by omega,by omega⟩) _ _ (hXX he));have H6:=Jh BE (cE A8 BS);have hne:w.heap.size≠w4.heap.size:=by omega
     clear hbX hXX HH AW BE BS
     by_cases he2:e2=0
     .subst he2
      have B4:cj w6.heap.size w6 (w6.alloc (aE (bg o2 t2 (an a2 m2 c2) p2 0) 144)):=(ba _ w6).alloc lz _;have AP:=A8.below B4 Cm;have Br:=aa.new w6 (bg o2 t2 (an a2 m2 c2) p2 0) 144;have BL:=AN.below B4 Cj;have H7:=Jh (H6.out.1.go B4) (cE AP (cE (qY H6.out.2.2 (aE (bg o2 t2 (an a2 m2 c2) p2 0) 144)) (qY (BQ.out (by first|trivial|rfl)) (aE (bg o2 t2 (an a2 m2 c2) p2 0) 144))));have Ch:w4.heap.size≠w6.heap.size:=by omega
      have AL:p2<=l.length:=by have:=AR.out;omega
      have A6:=fun s=>gL (w6.alloc (aE (bg o2 t2 (an a2 m2 c2) p2 0) 144)) (an a l.length c) l p2 s H7.out.1.l.toks A7 (by omega);have Av:=nO (w6.alloc (aE (bg o2 t2 (an a2 m2 c2) p2 0) 144)) (an a l.length c) l p2 H7.out.1.l.toks A7 AL;have hu:(eZ 1 (x2,n2,(0:Int))).2.1=1+n2:=rfl
      have B2:Hid (R=eZ (p-k) (if cu (l.drop p2) rT=false then dJ (l.drop p2) (1+n2) else eZ (1+n2+1) (ah j (.ploop (.mk zu jO [x,x2])) (l.drop (p2+1)) d))):=Hh (by
       have AV:=AR.out;rw[B3.out,cB (by rfl)];simp only[hu,c4]
       rw[show p+(1+n2)=p2 by omega,show p+(1+n2+1)=p2+1 by omega];rfl)
      clear B3 hu H6 BQ;have Cn:=AP.lt;have Co:=Br.lt;have Cl:=BL.lt;obtain⟨A9,AE,AA,AF,AB,AG,AC,AH,AD,AI⟩:=AN.n5 rfl;obtain⟨Bh,Bm,Bi,Bn,Bj,Bo,Bk,Bp,Bl,Bq⟩:=A8.n5 rfl;clear AN A8;go_wp2_with fail;clear A9 AA AB AC AD AE AF AG AH AI Bh Bi Bj Bk Bl Bm Bn Bo Bp Bq B4;generalize w6.alloc (aE (bg o2 t2 (an a2 m2 c2) p2 0) 144)=w7 at *;refine (A6 _).mono ?_;rintro _ _ ⟨rfl,rfl⟩
      by_cases hrb:cu (l.drop p2) rT=false
      .have Aw:Hid (R=(bf,p-k+(1+n2),(dJ (l.drop p2) 0).2.2)):=Hh (by rw[B2.out,E4 hrb,vY];rfl)
       have B5:Hid ((dJ (l.drop p2) 0).2.2≠0):=Hh (by unfold dJ;split<;>simp);generalize (dJ (l.drop p2) 0).2.2=eb at *;simp only[hrb];clear B2 A6;obtain⟨Bs,Bx,Bt,By,Bu,Bz,Bv,B0,Bw,B1⟩:=Br.n5 rfl;clear AP BL Br;go_wp2_with fail;refine Av.mono ?_;clear Av;rintro _ w8 ⟨rfl,hb8⟩;have AJ:=(H7.out.1).go hb8;have AM:=AJ.q;have Ck:=AM.lt;have AQ:=Hh AJ;clear AJ hb8;obtain⟨AX,Bc,AY,Bd,AZ,Be,Ba,Bf,Bb,Bg⟩:=AM.n5 rfl;clear AM;go_wp2_with fail;have hq:=((((AQ.out.q.setI 0 (al ⟨#[]⟩)).setI 1 (al ⟨#[]⟩)).setI 2 (an aq 0 0)).setI 3 (ao ar p2)).setI 4 (ao ar eb);have Az:=dK AQ.out.b [al ⟨#[]⟩,al ⟨#[]⟩,an aq 0 0,ao ar p2,ao ar eb];obtain⟨A0,A1,A2,A3,A4⟩:=hq.m5 rfl;refine bj (v:=ew (#[al ⟨#[]⟩,al ⟨#[]⟩,an aq 0 0,ao ar p2,ao ar eb])) (by simp[cD,sk,go_sem,A0,A1,A2,A3,A4]) rfl ?_
       rw[Aw.out];exact dI (r:=(bf,p-k+(1+n2),eb)) (by simp only;have:=AR.out;omega) rfl Az (fun h=>absurd h B5.out)
      .have hrb:cu (l.drop p2) rT=true:=by simpa using hrb
       have AL:=qV hrb;have Aw:Hid (R=eZ (p-k+(1+n2+1)) (ah j (.ploop (.mk zu jO [x,x2])) (l.drop (p2+1)) d)):=Hh (by rw[B2.out,E6 (by rw[hrb];decide),oM]);simp only[hrb];clear B2 A6 Av;have Cr:=AP;obtain⟨Bs,Bx,Bt,By,Bu,Bz,Bv,B0,Bw,B1⟩:=Br.n5 rfl;obtain⟨BU,BZ,BV,Ca,BW,Cb,BX,Cc,BY,Cd⟩:=AP.n5 rfl;clear AP BL Br;go_wp2_with fail;show V8 w w4.heap.size _ l k d m R ((aj w7 w4.heap.size 0 [al zu,al ⟨#[]⟩,an (aw ⟨w7.heap.size,0,aq⟩) 2 2,ao ar ((p2:Int)+1),ao ar 0]).alloc (aE #[al o5,al t5,an a5 Aa c5,al o2,al t2,an a2 m2 c2] 45))/\l.length+1-CZ ((aj w7 w4.heap.size 0 [al zu,al ⟨#[]⟩,an (aw ⟨w7.heap.size,0,aq⟩) 2 2,ao ar ((p2:Int)+1),ao ar 0]).alloc (aE #[al o5,al t5,an a5 Aa c5,al o2,al t2,an a2 m2 c2] 45)) w4.heap.size<l.length+1-CZ wr w4.heap.size
       have hn:af (fun b=>w.heap.size+1<=b/\b≠w4.heap.size) ((aj w7 w4.heap.size 0 [al zu,al ⟨#[]⟩,an (aw ⟨w7.heap.size,0,aq⟩) 2 2,ao ar ((p2:Int)+1),ao ar 0]).alloc (aE #[al o5,al t5,an a5 Aa c5,al o2,al t2,an a2 m2 c2] 45)) (.mk zu jO [x,x2]) [al zu,al jO,an (aw ⟨w7.heap.size,0,aq⟩) 2 2]:=
        yz (by omega) [(x,fq o5 t5 (an a5 Aa c5)),(x2,fq o2 t2 (an a2 m2 c2))] (fun s hs=>by
         simp only[cL,fW,or_false] at hs;rcases hs with rfl|rfl
         .exact H7.out.2.2.1
         .exact H7.out.2.2.2) (by simp[cV]) (by omega)
       have Cp:∀b,(iN a l.length c).ownBlock=aw b->b<w.heap.size:=fun b hb=>by
        obtain⟨b0,BM,BH,Ce,-⟩:=HL.out.get AL;subst BH;simp only[ev,du] at hb;omega
       have BF:=(H7.out.1.put (q:=w4.heap.size) BT [al zu,al ⟨#[]⟩,an (aw ⟨w7.heap.size,0,aq⟩) 2 2,ao ar ((p2:Int)+1),ao ar 0] Cp).next (aE #[al o5,al t5,an a5 Aa c5,al o2,al t2,an a2 m2 c2] 45);have AO:=(H7.out.2.1.put [al zu,al ⟨#[]⟩,an (aw ⟨w7.heap.size,0,aq⟩) 2 2,ao ar ((p2:Int)+1),ao ar 0] 0).alloc (aE #[al o5,al t5,an a5 Aa c5,al o2,al t2,an a2 m2 c2] 45);have BJ:=wN (p:=p2+1) (e:=0) AO;have AV:=AR.out;generalize (aj w7 w4.heap.size 0 [al zu,al ⟨#[]⟩,an (aw ⟨w7.heap.size,0,aq⟩) 2 2,ao ar ((p2:Int)+1),ao ar 0]).alloc (aE #[al o5,al t5,an a5 Aa c5,al o2,al t2,an a2 m2 c2] 45)=w9 at *;refine⟨⟨BF,zu,⟨#[]⟩,_,2,2,p2+1,0,AO,by omega,.inl ⟨rfl,by omega,j,.mk zu jO [x,x2],by omega,?_,hn⟩⟩,?_⟩
       .rw[Aw.out,show p-k+(1+n2+1)=p2+1-k by omega]
       .rw[BO.out,BJ]
        omega
     .have e0:(e2 != 0)=true:=by simpa using he2
      have Aw:Hid (R=(bf,p-k+(1+n2),e2)):=Hh (by rw[B3.out,bA (by exact he2)];rfl);clear B3;obtain⟨A9,AE,AA,AF,AB,AG,AC,AH,AD,AI⟩:=AN.n5 rfl;clear AN A8;go_wp2_with fail;have hq:=(((((H6.out.1.q.setI 0 (al o2)).setI 1 (al t2)).setI 2 (an a2 m2 c2)).setI 3 (ao ar p2)).setI 4 (ao ar e2)).alloc (aE (bg o2 t2 (an a2 m2 c2) p2 e2) 144);have Az:=gI (vs:=[al o2,al t2,an a2 m2 c2,ao ar p2,ao ar e2]) H6.out.1.b (aE (bg o2 t2 (an a2 m2 c2) p2 e2) 144);obtain⟨A0,A1,A2,A3,A4⟩:=hq.m5 rfl;refine bj (v:=ew (#[al o2,al t2,an a2 m2 c2,ao ar p2,ao ar e2])) (by simp[cD,sk,go_sem,A0,A1,A2,A3,A4]) rfl ?_;rw[Aw.out];exact dI (r:=(bf,p-k+(1+n2),e2)) (by simp only;have:=AR.out;omega) rfl Az (fun h=>absurd h he2)
   .have hlb:cu (l.drop p) EP=false:=by simpa using hlb
    have Aw:Hid (R=(x,p-k,0)):=Hh (by rw[hRe,E6 (by rw[hlb];decide)];rfl);clear hRe hA hXx;obtain⟨Al,Aq,Am,Ar,An,As,Ao,At,Ap,Au⟩:=Ay.n5 rfl;obtain⟨Ab,Ag,Ac,Ah,Ad,Ai,Ae,Aj,Af,Ak⟩:=Ax.n5 rfl;clear Ay Ax;go_wp2_with (go_at_call 154;refine (A6 _).mono ?_;rintro _ _ ⟨rfl,rfl⟩;simp only[hdot,hlb])
    have hq:=((((HH.out.1.q.setI 0 (al o5)).setI 1 (al t5)).setI 2 (an a5 Aa c5)).setI 3 (ao ar p)).setI 4 (ao ar 0);have Az:=dK HH.out.1.b [al o5,al t5,an a5 Aa c5,ao ar p,ao ar 0];obtain⟨A0,A1,A2,A3,A4⟩:=hq.m5 rfl;refine bj (v:=ew (#[al o5,al t5,an a5 Aa c5,ao ar p,ao ar 0])) (by simp[cD,sk,go_sem,A0,A1,A2,A3,A4]) rfl ?_;rw[Aw.out];have Cq:=oO (vs:=[al o5,al t5,an a5 Aa c5,ao ar p,ao ar 0]) (af.move lz (fun _ _ _=>rfl) (fun b hb _=>hb.1) _ _ HH.out.2);exact dI (r:=(x,p-k,0)) (by simp only;omega) rfl Az (fun _=>Cq)
 .have e0:(e==0)=false:=by simpa using he
  have HH:=Hh hA;have Aw:=Hh hRe;clear hA hRe;obtain⟨Al,Aq,Am,Ar,An,As,Ao,At,Ap,Au⟩:=Ay.n5 rfl;obtain⟨Ab,Ag,Ac,Ah,Ad,Ai,Ae,Aj,Af,Ak⟩:=Ax.n5 rfl;clear Ay Ax;go_wp2_with fail;have hq:=((((HH.out.q.setI 0 (al o5)).setI 1 (al t5)).setI 2 (an a5 Aa c5)).setI 3 (ao ar p)).setI 4 (ao ar e);have Az:=dK HH.out.b [al o5,al t5,an a5 Aa c5,ao ar p,ao ar e];obtain⟨A0,A1,A2,A3,A4⟩:=hq.m5 rfl;refine bj (v:=ew (#[al o5,al t5,an a5 Aa c5,ao ar p,ao ar e])) (by simp[cD,sk,go_sem,A0,A1,A2,A3,A4]) rfl ?_;rw[Aw.out];exact dI (r:=(bf,p-k,e)) (by simp only;omega) rfl Az (fun h=>absurd h he)
theorem zB.grown(h:zB w W lv l){row:Option Nat}(c:W.grownBy W' row)(i:∀k,row=aw k->w.heap.size+1<=k)(j:∀b,lv.ownBlock=aw b->b<w.heap.size):zB w W' lv l:=by
 refine⟨h.b.grown c h.b.size (fun k hk=>by have:=i k hk;omega),h.q.kept c (fun e=>by have:=i _ e.symm;omega),⟨?_,h.l.few,h.l.short,h.l.quo⟩⟩;refine h.l.toks.moved c.size (fun b off hl hv=>?_);exact jC (c.block b hl (fun e=>by have:=i b e.symm;have:=j b hv;omega)) off
def Wq(w:cd)(lv:cq)(s:E7)(l:List ae)(k d m:Nat)(R:gq)(v at_:cq)(wr:cd):Prop:=
 zB w wr lv l/\∃(L:List (iA×List cq)) (j p:Nat),at_=ao ar (p:Nat)/\sU (w.heap.size+1) wr v L/\Jr (w.heap.size+1) wr v L/\j<=m/\k<=p/\p<=l.length/\L.length<=p/\
  R=eZ (p-k) (ah j (.mloop s (L.map (·.1))) (l.drop p) d)
theorem GM(m:Nat)(hC:∀j,j<=m->CC j):MC (m+1):=by
 intro w lv l k d s h hk hd hs12 hne;obtain⟨a,c,rfl,BH,Aa⟩:=h.sl;have AH:=h.few;unfold cV at Aa;have AO:=zB.start h
 have B8:Hid (∀b,(iN a l.length c).ownBlock=aw b->b<w.heap.size):=Hh (fun b hb=>by
  obtain⟨b0,BA,B3,BC,-⟩:=h.toks.get (j:=0) (by omega);subst B3
  simp only[ev,du] at hb;omega)
 rw[ah] at hne ⊢
 by_cases hd64:64<=d
 .rw[E4 hd64]
  clear h AO hne;go_in;go_wp2_with fail;have hq:=aa.new w (bg ⟨#[]⟩ ⟨#[]⟩ (an aq 0 0) (k:Nat) 5) 144;obtain⟨Ay,Az,A0,A1,A2⟩:=hq.m5 rfl;refine bj (v:=ew (bg ⟨#[]⟩ ⟨#[]⟩ (an aq 0 0) (k:Nat) 5)) (by simp[cD,tz,go_sem,Ay,Az,A0,A1,A2]) rfl ?_;exact dI (r:=(bf,0,5)) (by simp) rfl ((ba _ w).alloc lz _) (fun h=>by cases h)
 .rw[E6 hd64] at hne ⊢
  have Bd:(l.drop k).drop 1=l.drop (k+1):=by rw[c4]
  rw[Bd] at hne ⊢;have Ax:=fun s=>gL (w.alloc (aE pQ 144)) (an a l.length c) l (k+1) s AO.l.toks AH (by omega);rw[show ((k+1:Nat):Int)=(k:Int)+1 by omega] at Ax
  by_cases hsh:cu (l.drop (k+1)) s=true
  .rw[E4 hsh]
   clear h AO hne Bd;go_in;go_wp2_with (go_at_call 154;refine (Ax _).mono ?_;rintro _ _ ⟨rfl,rfl⟩;simp only[hsh])
   have hq:=aa.new w (bg ⟨#[]⟩ ⟨#[]⟩ (an aq 0 0) ((k:Int)+1+1) 0) 144;obtain⟨Ay,Az,A0,A1,A2⟩:=hq.m5 rfl;refine bj (v:=ew (bg ⟨#[]⟩ ⟨#[]⟩ (an aq 0 0) ((k:Int)+1+1) 0)) (by simp[cD,tz,go_sem,Ay,Az,A0,A1,A2]) rfl ?_;exact dI (r:=(.mk jO jO [],2,0)) (by simp only;omega) rfl ((ba _ w).alloc lz _) (fun h=>af.leaf _ _ _ _)
  .have hsh:cu (l.drop (k+1)) s=false:=by simpa using hsh
   rw[E6 (by rw[hsh];decide)] at hne ⊢;obtain⟨R,hR⟩:=exq (eZ 1 (ah m (.mloop s []) (l.drop (k+1)) d));rw[<-hR] at hne ⊢;have HN:=Hh hne;have HC:=Hh hC
   have B1:Wq w (an a l.length c) s l k d m R (an aq 0 0) (ao ar ((k:Int)+1)) (w.alloc (aE pQ 144)):=
    ⟨AO,[],m,k+1,by simp,sU.nil _ _,(fun s hs=>by cases hs),cA _,by omega,by omega,ck _,by rw[hR,show k+1-k=1 by omega];rfl⟩
   have Bh:=Hh B1;have Bn:s≠lh:=by rcases hs12 with rfl|rfl<;>decide
   have HS:=Hh Bn;clear h AO hne Bd B1 hR hC hs12 Bn;go_in;go_wp2_with (go_at_call 154;refine (Ax _).mono ?_;rintro _ _ ⟨rfl,rfl⟩;simp only[hsh])
   clear Ax hsh;go_loopw [1,9,10] (fun at_ v _ wr=>Wq w (an a l.length c) s l k d m R v at_ wr) (fun at_ _ _ _=>l.length+1-(cR at_).toNat)
   .exact Bh.out
   clear Bh;obtain⟨hA,L,j,p,rfl,AL,Bo,hj,BD,BI,BB,AQ⟩:=hrel;obtain⟨va,vc,rfl⟩:=AL.len
   cases j with
   |zero=>exact absurd (by rw[AQ];rfl) HN.out
   |succ j=>
   rw[ah] at AQ
   have AY:(ah j .choice (l.drop p) (d+1)).2.2≠-1:=by
    have:=HN.out;rw[AQ] at this;have h9:(jr (ah j .choice (l.drop p) (d+1)) fun a k=>if cu ((l.drop p).drop k) lh=true then eZ (k+1) (ah j (.mloop s (L.map (·.1)++[a])) ((l.drop p).drop (k+1)) d) else if cu ((l.drop p).drop k) s=true then (.mk jO jO (L.map (·.1)++[a]),k+1,0) else dJ ((l.drop p).drop k) k).2.2≠-1:=this;exact iV h9
   have AV:=(fZ j .choice (l.drop p) (d+1) trivial AY).1;rw[bm] at AV;have AI:=(fZ j .choice (l.drop p) (d+1) trivial AY).2;have Bc:=HC.out j (by omega) _ _ l p (d+1) hA.l (by omega) (by omega) AY;rw[show ((d+1:Nat):Int)=(d:Int)+1 by omega] at Bc;generalize ah j .choice (l.drop p) (d+1)=R2 at *;obtain⟨x2,n2,e2⟩:=R2;simp only at AV AY AI;have AZ:=Hh AQ;have HH:=Jh hA (cE AL Bo);have B2:=Hh AI;clear AQ AY hA AL Bo AI;go_wp2_with fail;refine (Bc).mono ?_;clear Bc;rintro _ w6 ⟨hbX,o2,t2,a2,m2,c2,heX,hXX⟩;simp only at heX hXX;obtain⟨p2,AJ⟩:∃pz:Nat,pz=p+n2:=⟨_,rfl⟩;rw[<-AJ] at heX;subst heX;have A3:=Hh AJ;clear AJ;have Ba:=HH.out.1.go hbX;have AX:=Ba.q;have BE:=AX.lt;have AE:=HH.out.2.1.keep (fun k _ hl=>hbX.block k hl);have AS:=HH.out.2.2.keep hbX.size (fun k _ hl=>hbX.block k hl);have Bi:Hid (e2=0->af (fun b=>w.heap.size+1<=b/\aw b≠(iN va L.length vc).ownBlock) w6 x2 (fq o2 t2 (an a2 m2 c2))):=Hh (fun he=>af.move lz (fun _ _ _=>rfl) (fun b hb _=>⟨by have:=HH.out.1.q.lt;omega,fun e=>by have:=(cy HH.out.2.1.2 b e.symm).2;omega⟩) _ _ (hXX he));have H6:=Jh Ba (cE AE AS);clear hbX hXX HH Ba AE AS
   by_cases he2:e2=0
   .subst he2
    have Be:p2<=l.length:=by have:=A3.out;omega
    obtain⟨A4,A9,A5,AA,A6,AB,A7,AC,A8,AD⟩:=AX.n5 rfl;clear AX;go_wp2_with (with_reducible first|refine aL ?_)
    refine Stop.out ?_;clear A4 A5 A6 A7 A8 A9 AA AB AC AD
    have Bl:aa ((w6.alloc (aE (bg o2 t2 (an a2 m2 c2) p2 0) 144)).alloc (aE #[al o2,al t2,an a2 m2 c2] 45)) (w6.heap.size+1) #[al o2,al t2,an a2 m2 c2] 45:=by
     have:=aa.new (w6.alloc (aE (bg o2 t2 (an a2 m2 c2) p2 0) 144)) #[al o2,al t2,an a2 m2 c2] 45;rw[cF] at this;exact this
    have Bk:aa ((w6.alloc (aE (bg o2 t2 (an a2 m2 c2) p2 0) 144)).alloc (aE #[al o2,al t2,an a2 m2 c2] 45)) w6.heap.size (bg o2 t2 (an a2 m2 c2) p2 0) 144:=(aa.new w6 (bg o2 t2 (an a2 m2 c2) p2 0) 144).alloc (aE #[al o2,al t2,an a2 m2 c2] 45);have AN:cj w6.heap.size w6 ((w6.alloc (aE (bg o2 t2 (an a2 m2 c2) p2 0) 144)).alloc (aE #[al o2,al t2,an a2 m2 c2] 45)):=((ba _ w6).alloc lz _).alloc (by simp) _;have Bj:=H6.out.1.go AN;have Av:=H6.out.2.1.keep (fun k _ hl=>AN.block k hl);have AU:=H6.out.2.2.keep AN.size (fun k _ hl=>AN.block k hl);have Bm:=af.below AN x2 _ (Bi.out (by first|trivial|rfl));have AW:=cy H6.out.2.1.2;refine oL rfl _ _ rfl (w.heap.size+1) L (by exact Av) (w6.heap.size+1) rfl x2 o2 t2 a2 m2 c2 Bl (by omega) (by have:=H6.out.1.q.lt;simp only[cF];omega) _ rfl ?_;intro gb cap w7 hrow7 hg7 hat7 hge7;have AT:Jr (w.heap.size+1) w7 (an (aw ⟨gb,0,aq⟩) (L.length+1) cap) (L++[(x2,fq o2 t2 (an a2 m2 c2))]):=Jr.push AU Bm hg7 hat7;have AP:=Bj.grown hg7 (fun k hk=>(cy Av.2 k hk).1) B8.out;have AF:=Bk.kept hg7 (fun e=>by have:=(AW _ e.symm).2;omega);have AK:=AP.q;have BF:=AK.lt;have B6:=AF.lt;have B7:w.heap.size≠w6.heap.size:=by omega
    have Ax:=fun s=>gL w7 (an a l.length c) l p2 s AP.l.toks AH (by omega);have Aw:=nO w7 (an a l.length c) l p2 AP.l.toks AH Be;have H7:=Jh AP (cE hrow7 AT)
    have AM:Hid (R=eZ (p-k) (if cu (l.drop p2) lh=true then eZ (n2+1) (ah j (.mloop s (L.map (·.1)++[x2])) (l.drop (p2+1)) d) else if cu (l.drop p2) s=true then (.mk jO jO (L.map (·.1)++[x2]),n2+1,0) else dJ (l.drop p2) n2)):=Hh (by
     have AJ:=A3.out;rw[AZ.out,cB (by rfl)];simp only[c4]
     rw[show p+n2=p2 by omega,show p+(n2+1)=p2+1 by omega])
    clear Bl Bk AN Bj Av AU Bm AW hrow7 AT AP hg7 hat7 AZ H6 Bi
    by_cases hsh:cu (l.drop p2) s=true
    .have Aa:cu (l.drop p2) lh=false:=LX hsh HS.out
     have AG:Hid (R=(.mk jO jO (L.map (·.1)++[x2]),p-k+(n2+1),0)):=Hh (by rw[AM.out,E6 (by rw[Aa];decide),E4 hsh];rfl);clear AM Aw;obtain⟨Al,Aq,Am,Ar,An,As,Ao,At,Ap,Au⟩:=AK.n5 rfl;obtain⟨Ab,Ag,Ac,Ah,Ad,Ai,Ae,Aj,Af,Ak⟩:=AF.n5 rfl;clear AK AF;go_wp2_with (go_at_call 154;refine (Ax _).mono ?_;rintro _ _ ⟨rfl,rfl⟩;simp only[hsh,Aa])
     have hq:=((((H7.out.1.q.setI 0 (al ⟨#[]⟩)).setI 1 (al ⟨#[]⟩)).setI 2 (an (aw ⟨gb,0,aq⟩) (L.length+1) cap)).setI 3 (ao ar ((p2:Int)+1))).setI 4 (ao ar 0);have AR:=dK H7.out.1.b [al ⟨#[]⟩,al ⟨#[]⟩,an (aw ⟨gb,0,aq⟩) (L.length+1) cap,ao ar ((p2:Int)+1),ao ar 0];obtain⟨Ay,Az,A0,A1,A2⟩:=hq.m5 rfl;refine bj (v:=ew (#[al ⟨#[]⟩,al ⟨#[]⟩,an (aw ⟨gb,0,aq⟩) (L.length+1) cap,ao ar ((p2:Int)+1),ao ar 0])) (by simp[cD,tz,go_sem,Ay,Az,A0,A1,A2]) rfl ?_;rw[AG.out];have Bp:=D6 H7.out.2.1 H7.out.2.2 jO jO;rw[eJ,cI,ke] at Bp;have B9:=oO (vs:=[al ⟨#[]⟩,al ⟨#[]⟩,an (aw ⟨gb,0,aq⟩) (L.length+1) cap,ao ar ((p2:Int)+1),ao ar 0]) Bp;exact dI (r:=(.mk jO jO (L.map (·.1)++[x2]),p-k+(n2+1),0)) (by simp only;have:=A3.out;omega) rfl AR (fun _=>B9)
    .have hsh:cu (l.drop p2) s=false:=by simpa using hsh
     by_cases Aa:cu (l.drop p2) lh=true
     .have B5:=qV Aa
      have AG:Hid (R=eZ (p2+1-k) (ah j (.mloop s ((L++[(x2,fq o2 t2 (an a2 m2 c2))]).map (·.1))) (l.drop (p2+1)) d)):=Hh (by
       have AJ:=A3.out
       rw[AM.out,E4 Aa,oM,show p-k+(n2+1)=p2+1-k by omega,eJ,cI,ke])
      have Bq:=B2.out (by first|trivial|rfl);simp only[Nt.least] at Bq;have AJ:=A3.out;have HM:=Hh (show L.length+1<=p2+1/\k<=p2+1 by omega);clear AM Aw AJ Bq;obtain⟨Al,Aq,Am,Ar,An,As,Ao,At,Ap,Au⟩:=AK.n5 rfl;obtain⟨Ab,Ag,Ac,Ah,Ad,Ai,Ae,Aj,Af,Ak⟩:=AF.n5 rfl;clear AK AF;go_wp2_with (go_at_call 154;refine (Ax _).mono ?_;rintro _ _ ⟨rfl,rfl⟩;simp only[hsh,Aa])
      go_roundw
      .exact⟨H7.out.1,L++[(x2,fq o2 t2 (an a2 m2 c2))],j,p2+1,by go_num,H7.out.2.1,H7.out.2.2,by omega,HM.out.2,B5,by rw[cm];exact HM.out.1,AG.out⟩
      have:=A3.out;simp[cR];omega
     .have Aa:cu (l.drop p2) lh=false:=by simpa using Aa
      have AG:Hid (R=(bf,p-k+n2,(dJ (l.drop p2) 0).2.2)):=Hh (by rw[AM.out,E6 (by rw[Aa];decide),E6 (by rw[hsh];decide),vY];rfl);have B4:Hid ((dJ (l.drop p2) 0).2.2≠0):=Hh (by unfold dJ;split<;>simp);generalize (dJ (l.drop p2) 0).2.2=eb at *;clear AM;obtain⟨Al,Aq,Am,Ar,An,As,Ao,At,Ap,Au⟩:=AK.n5 rfl;obtain⟨Ab,Ag,Ac,Ah,Ad,Ai,Ae,Aj,Af,Ak⟩:=AF.n5 rfl;clear AK AF;go_wp2_with (go_at_call 154;refine (Ax _).mono ?_;rintro _ _ ⟨rfl,rfl⟩;simp only[hsh,Aa])
      refine Aw.mono ?_;clear Aw Ax Al Am An Ao Ap Aq Ar As At Au Ab Ac Ad Ae Af Ag Ah Ai Aj Ak;rintro _ w8 ⟨rfl,hb8⟩;have Bb:=H7.out.1.go hb8;have Bf:=Bb.q;have BG:=Bf.lt;have Bg:=Hh Bb;clear Bb hb8;obtain⟨Br,Bw,Bs,Bx,Bt,By,Bu,Bz,Bv,B0⟩:=Bf.n5 rfl;clear Bf;go_wp2_with fail;have hq:=((((Bg.out.q.setI 0 (al ⟨#[]⟩)).setI 1 (al ⟨#[]⟩)).setI 2 (an aq 0 0)).setI 3 (ao ar p2)).setI 4 (ao ar eb);have AR:=dK Bg.out.b [al ⟨#[]⟩,al ⟨#[]⟩,an aq 0 0,ao ar p2,ao ar eb];obtain⟨Ay,Az,A0,A1,A2⟩:=hq.m5 rfl;refine bj (v:=ew (#[al ⟨#[]⟩,al ⟨#[]⟩,an aq 0 0,ao ar p2,ao ar eb])) (by simp[cD,tz,go_sem,Ay,Az,A0,A1,A2]) rfl ?_;rw[AG.out];exact dI (r:=(bf,p-k+n2,eb)) (by simp only;have:=A3.out;omega) rfl AR (fun h=>absurd h B4.out)
   .have e0:(e2 != 0)=true:=by simpa using he2
    have AG:Hid (R=(bf,p-k+n2,e2)):=Hh (by rw[AZ.out,bA (by exact he2)];rfl);clear AZ;obtain⟨A4,A9,A5,AA,A6,AB,A7,AC,A8,AD⟩:=AX.n5 rfl;clear AX;go_wp2_with fail;have hq:=(((((H6.out.1.q.setI 0 (al o2)).setI 1 (al t2)).setI 2 (an a2 m2 c2)).setI 3 (ao ar p2)).setI 4 (ao ar e2)).alloc (aE (bg o2 t2 (an a2 m2 c2) p2 e2) 144);have AR:=gI (vs:=[al o2,al t2,an a2 m2 c2,ao ar p2,ao ar e2]) H6.out.1.b (aE (bg o2 t2 (an a2 m2 c2) p2 e2) 144);obtain⟨Ay,Az,A0,A1,A2⟩:=hq.m5 rfl;refine bj (v:=ew (#[al o2,al t2,an a2 m2 c2,ao ar p2,ao ar e2])) (by simp[cD,tz,go_sem,Ay,Az,A0,A1,A2]) rfl ?_;rw[AG.out];exact dI (r:=(bf,p-k+n2,e2)) (by simp only;have:=A3.out;omega) rfl AR (fun h=>absurd h he2)
theorem Ii:∀(m:Nat) (s:E7) (L:List iA) (r:List ae) (d:Nat),(ah m (.mloop s L) r d).2.2=0->∃ks,(ah m (.mloop s L) r d).1=.mk jO jO ks
 |0,s,L,r,d,h=>by rw[ah] at h;cases h
 | m+1,s,L,r,d,h=>by
  rw[ah] at h ⊢
  by_cases h1:(ah m .choice r (d+1)).2.2=0
  .rw[cB h1] at h ⊢
   by_cases h2:cu (r.drop (ah m .choice r (d+1)).2.1) lh=true
   .rw[E4 h2] at h ⊢
    exact Ii m s _ _ _ h
   .rw[E6 h2] at h ⊢
    by_cases h3:cu (r.drop (ah m .choice r (d+1)).2.1) s=true
    .rw[E4 h3];exact⟨_,rfl⟩
    .rw[E6 h3] at h
     unfold dJ at h;split at h<;>cases h
  .rw[bA h1] at h
   exact absurd h h1
theorem LV(m:Nat)(s:E7)(r:List ae)(d:Nat)(h:(ah m (.many s) r d).2.2=0):∃ks,(ah m (.many s) r d).1=.mk jO jO ks:=by
 cases m with
 |zero=>rw[ah] at h;cases h
 |succ m=>
  rw[ah] at h ⊢
  by_cases a:64<=d
  .rw[E4 a] at h;cases h
  .rw[E6 a] at h ⊢
   by_cases b:cu (r.drop 1) s=true
   .rw[E4 b];exact⟨_,rfl⟩
   .rw[E6 b] at h ⊢
    exact Ii m s _ _ _ h
theorem af.named(h:af P w (.mk o t ks) (fq o1 t1 sl))(g t2:E7):af P w (.mk g t2 ks) (fq g t2 sl):=by
 simp only[af] at h ⊢;obtain⟨a,Aa,b,c⟩:=h;simp only[fY,and_true] at b;obtain⟨-,-,rfl⟩:=b;exact⟨a,Aa,rfl,c⟩
theorem af.words(h:af P w (.mk o t ks) (fq o1 t1 sl)):o1=o/\t1=t:=by
 simp only[af] at h;obtain⟨a,Aa,b,c⟩:=h;simp only[fY,and_true,fx.injEq] at b;exact⟨b.1,b.2.1⟩
theorem G8(s x:E7)(h:lm s=aw x):∃p e:Int,cK (aW (bs s))=ew #[al x,ao ar p,ao ar e]:=by
 unfold lm at h;unfold cK;rw[show bs s=nb s.data.toList from rfl];split at h
 .simp only[du] at h
  subst h;exact⟨_,_,rfl⟩
 .cases h
theorem ER(m:Nat)(hM:MC m)(hC:CC m):QC (m+1):=by
 intro w lv l k d h hk hd hne;obtain⟨a,c,rfl,B1,Bs⟩:=h.sl;have A5:=h.few;unfold cV at Bs;have AK:=zB.start h;obtain⟨R,hR⟩:=exq (ah (m+1) .prime (l.drop k) d);rw[<-hR] at hne ⊢;have Aa:=nO (w.alloc (aE pQ 144)) (an a l.length c) l k AK.l.toks A5 hk;have AS:Hid ((dJ (l.drop k) 0).2.2≠0):=Hh (by unfold dJ;split<;>simp)
 by_cases hkl:k<l.length
 .have AT:l.drop k=l[k]::l.drop (k+1):=cg hkl
  have Ab:=fun s=>gL (w.alloc (aE pQ 144)) (an a l.length c) l k s AK.l.toks A5 (by omega);have Ac:=fun s=>gL (w.alloc (aE pQ 144)) (an a l.length c) l (k+1) s AK.l.toks A5 (by omega);rw[show ((k+1:Nat):Int)=(k:Int)+1 by omega] at Ac;obtain⟨bb,Bb,rfl,Bv,q0,q1,q2⟩:=h.toks.get hkl;have As:=h.quo l[k] (cH hkl);have A8:=h.short l[k] (cH hkl);have Ay:∀s,cu (l.drop k) s=(decide (l[k].kind=4)&&decide (l[k].text=s)):=fun s=>by rw[AT];rfl
  rw[AT,ah,<-AT] at hR;obtain⟨kd,Bc⟩:∃z,l[k].kind=z:=⟨_,rfl⟩;obtain⟨tx,Bq⟩:∃z,l[k].text=z:=⟨_,rfl⟩;simp only[Bc,Bq] at hR Ay As A8 q0 q1;clear q2 Bc Bq AT;have Aw:=Hh AK;clear h AK
  by_cases k1:kd=1
  .subst k1
   have Az:cu (l.drop k) EO=false:=by rw[Ay];rfl
   have Ax:cu (l.drop k) EP=false:=by rw[Ay];rfl
   rw[E4 rfl] at hR
   by_cases hp1:cu (l.drop (k+1)) EO=true
   .rw[E4 hp1] at hR
    have Bt:=qV hp1
    have A2:(ah m (.many tF) (l.drop (k+1)) d).2.2≠-1:=by
     rw[hR] at hne;exact iV (g:=eZ 1 (ah m (.many tF) (l.drop (k+1)) d)) hne
    have AL:=LV m tF (l.drop (k+1)) d;have A7:=hM _ _ l (k+1) d tF Aw.out.l Bt hd (.inl rfl) A2;rw[show ((k+1:Nat):Int)=(k:Int)+1 by omega] at A7;generalize ah m (.many tF) (l.drop (k+1)) d=R2 at *;obtain⟨x2,n2,e2⟩:=R2;simp only at AL A2;have HR:=Hh hR;have AU:=Hh AL;clear hR AL A2 hne Aa Ay As A8;go_in;go_wp2_with (go_at_call 154;(first|with_reducible refine (Ab _).mono ?_|with_reducible refine (Ac _).mono ?_);rintro _ _ ⟨rfl,rfl⟩;simp only[Az,Ax,hp1])
    clear Ab Ac;refine (A7).mono ?_;clear A7;rintro _ w6 ⟨hbX,o2,t2,a2,m2,c2,heX,hXX⟩;simp only at heX hXX;obtain⟨p2,A1⟩:∃pz:Nat,pz=k+1+n2:=⟨_,rfl⟩;rw[<-A1] at heX;subst heX;have A3:=Hh A1;clear A1;have A0:=Aw.out.go hbX;have Av:=A0.q;have Bd:=Av.lt;have q6:=(hbX.cell (p:=⟨bb,Bb+k*3+1,aq⟩) (by simp only[cF];omega)).trans ((World.cell?_alloc_past _ _ _ Bv).trans q1);have Bw:bb<w6.heap.size:=by have:=A0.b.size;omega
    have AM:=Hh (fun h=>Aw.out.exp (hXX h));have H6:=Hh A0;clear hbX hXX Aw A0 q0 q1
    by_cases he2:e2=0
    .subst he2
     obtain⟨ks,AW⟩:=AU.out (by first|trivial|rfl);subst AW;have At:Hid (R=(.mk mJ tx ks,1+n2,0)):=Hh (by rw[HR.out,cB (by rfl)];rfl);have AO:=(AM.out (by first|trivial|rfl)).named mJ tx;have AN:=Hh AO;clear HR AO;obtain⟨Ai,An,Aj,Ao,Ak,Ap,Al,Aq,Am,Ar⟩:=Av.n5 rfl;clear Av;go_wp2_with fail;have hq:=(((((H6.out.q.setI 0 (al mJ)).setI 1 (al tx)).setI 2 (an a2 m2 c2)).setI 3 (ao ar p2)).setI 4 (ao ar 0)).alloc (aE (bg mJ tx (an a2 m2 c2) p2 0) 144);have Au:=gI (vs:=[al mJ,al tx,an a2 m2 c2,ao ar p2,ao ar 0]) H6.out.b (aE (bg mJ tx (an a2 m2 c2) p2 0) 144);obtain⟨Ad,Ae,Af,Ag,Ah⟩:=hq.m5 rfl;refine bj (v:=ew (#[al mJ,al tx,an a2 m2 c2,ao ar p2,ao ar 0])) (by simp[cD,js,go_sem,Ad,Ae,Af,Ag,Ah]) rfl ?_;rw[At.out];have AQ:=xB (vs:=[al mJ,al tx,an a2 m2 c2,ao ar p2,ao ar 0]) AN.out (aE (bg mJ tx (an a2 m2 c2) p2 0) 144);exact dI (r:=(.mk mJ tx ks,1+n2,0)) (by simp only;have:=A3.out;omega) rfl Au (fun _=>AQ)
    .have e0:(e2==0)=false:=by simpa using he2
     have At:Hid (R=(bf,1+n2,e2)):=Hh (by rw[HR.out,bA (by exact he2)];rfl);clear HR;obtain⟨Ai,An,Aj,Ao,Ak,Ap,Al,Aq,Am,Ar⟩:=Av.n5 rfl;clear Av;go_wp2_with fail;have hq:=(((((H6.out.q.setI 0 (al o2)).setI 1 (al t2)).setI 2 (an a2 m2 c2)).setI 3 (ao ar p2)).setI 4 (ao ar e2)).alloc (aE (bg o2 t2 (an a2 m2 c2) p2 e2) 144);have Au:=gI (vs:=[al o2,al t2,an a2 m2 c2,ao ar p2,ao ar e2]) H6.out.b (aE (bg o2 t2 (an a2 m2 c2) p2 e2) 144);obtain⟨Ad,Ae,Af,Ag,Ah⟩:=hq.m5 rfl;refine bj (v:=ew (#[al o2,al t2,an a2 m2 c2,ao ar p2,ao ar e2])) (by simp[cD,js,go_sem,Ad,Ae,Af,Ag,Ah]) rfl ?_;rw[At.out];exact dI (r:=(bf,1+n2,e2)) (by simp only;have:=A3.out;omega) rfl Au (fun h=>absurd h he2)
   .have hp1:cu (l.drop (k+1)) EO=false:=by simpa using hp1
    rw[E6 (by rw[hp1];decide)] at hR;have HR:=Hh hR;clear hR hne Aa Ay As A8;go_in;go_wp2_with (go_at_call 154;(first|with_reducible refine (Ab _).mono ?_|with_reducible refine (Ac _).mono ?_);rintro _ _ ⟨rfl,rfl⟩;simp only[Az,Ax,hp1])
    have hq:=aa.new w (bg uS tx (an aq 0 0) ((k:Int)+1) 0) 144;obtain⟨Ad,Ae,Af,Ag,Ah⟩:=hq.m5 rfl;refine bj (v:=ew (bg uS tx (an aq 0 0) ((k:Int)+1) 0)) (by simp[cD,js,go_sem,Ad,Ae,Af,Ag,Ah]) rfl ?_;rw[HR.out];exact dI (r:=(.mk uS tx [],1,0)) (by simp only;omega) rfl ((ba _ w).alloc lz _) (fun _=>af.leaf _ _ _ _)
  .rw[E6 k1] at hR
   have Br:(kd==1)=false:=by simpa using k1
   by_cases k2:kd=2
   .subst k2
    have Az:cu (l.drop k) EO=false:=by rw[Ay];rfl
    have Ax:cu (l.drop k) EP=false:=by rw[Ay];rfl
    rw[E4 rfl] at hR;have HR:=Hh hR;clear hR hne Aa Ay As A8 Ac Br k1;go_in;go_wp2_with (go_at_call 154;(first|with_reducible refine (Ab _).mono ?_|with_reducible refine (Ac _).mono ?_);rintro _ _ ⟨rfl,rfl⟩;simp only[Az,Ax])
    have hq:=aa.new w (bg Da tx (an aq 0 0) ((k:Int)+1) 0) 144;obtain⟨Ad,Ae,Af,Ag,Ah⟩:=hq.m5 rfl;refine bj (v:=ew (bg Da tx (an aq 0 0) ((k:Int)+1) 0)) (by simp[cD,js,go_sem,Ad,Ae,Af,Ag,Ah]) rfl ?_;rw[HR.out];exact dI (r:=(.mk Da tx [],1,0)) (by simp only;omega) rfl ((ba _ w).alloc lz _) (fun _=>af.leaf _ _ _ _)
   .rw[E6 k2] at hR
    have By:(kd==2)=false:=by simpa using k2
    by_cases k3:kd=3
    .subst k3
     have Az:cu (l.drop k) EO=false:=by rw[Ay];rfl
     have Ax:cu (l.drop k) EP=false:=by rw[Ay];rfl
     rw[E4 rfl] at hR
     obtain⟨x,hx⟩:∃x,lm tx=aw x:=by
      cases hq:lm tx with
      |none=>exact absurd hq (As rfl)
      |some x=>exact⟨x,rfl⟩
     rw[hx] at hR;simp only at hR;obtain⟨pp,ee,Bf⟩:=G8 tx x hx;have AZ:=vJ tx (w.alloc (aE pQ 144)) A8;rw[Bf] at AZ;have HR:=Hh hR;clear hR hne Aa Ay As A8 Ac Br k1 By k2 hx Bf;go_in;go_wp2_with (go_at_call 154;(first|with_reducible refine (Ab _).mono ?_|with_reducible refine (Ac _).mono ?_);rintro _ _ ⟨rfl,rfl⟩;simp only[Az,Ax])
     refine AZ.mono ?_;clear AZ Ab;have Bz:∀w:cd,(Instr.field 140 (ew #[al x,ao ar pp,ao ar ee]) 0).run bh w=.ok (al x) w:=fun _=>by kernel_rfl
     rintro _ w4 ⟨rfl,hbX⟩;have AV:=Aw.out.go hbX;have AY:=AV.q;have B0:=AY.lt;have H4:=Hh AV;clear AV hbX q0 q1 Aw;obtain⟨Bg,Bl,Bh,Bm,Bi,Bn,Bj,Bo,Bk,Bp⟩:=AY.n5 rfl;clear AY;go_wp2_with fail;have hq:=((((H4.out.q.setI 0 (al si)).setI 1 (al x)).setI 2 (an aq 0 0)).setI 3 (ao ar ((k:Int)+1))).setI 4 (ao ar 0);have Au:=dK H4.out.b [al si,al x,an aq 0 0,ao ar ((k:Int)+1),ao ar 0];obtain⟨Ad,Ae,Af,Ag,Ah⟩:=hq.m5 rfl;refine bj (v:=ew (#[al si,al x,an aq 0 0,ao ar ((k:Int)+1),ao ar 0])) (by simp[cD,js,go_sem,Ad,Ae,Af,Ag,Ah]) rfl ?_;rw[HR.out];exact dI (r:=(.mk si x [],1,0)) (by simp only;omega) rfl Au (fun _=>af.leaf _ _ _ _)
    .rw[E6 k3] at hR
     have B2:(kd==3)=false:=by simpa using k3
     clear Ac
     by_cases Ax:cu (l.drop k) EP=true
     .have Az:cu (l.drop k) EO=false:=by
       rw[Ay] at Ax ⊢;simp only[Bool.and_eq_true,decide_eq_true_eq] at Ax;rw[Ax.2,Ax.1];decide
      rw[E4 Ax] at hR
      have A2:(ah m (.many rT) (l.drop k) d).2.2≠-1:=by
       rw[hR] at hne;exact iV hne
      have AL:=LV m rT (l.drop k) d;have A7:=hM _ _ l k d rT Aw.out.l hkl hd (.inr rfl) A2;generalize ah m (.many rT) (l.drop k) d=R2 at *;obtain⟨x2,n2,e2⟩:=R2;simp only at AL A2;have HR:=Hh hR;have AU:=Hh AL;clear hR AL A2 hne Aa Ay As A8;go_in;go_wp2_with (go_at_call 154;(first|with_reducible refine (Ab _).mono ?_|with_reducible refine (Ac _).mono ?_);rintro _ _ ⟨rfl,rfl⟩;simp only[Az,Ax])
      clear Ab;refine (A7).mono ?_;clear A7;rintro _ w6 ⟨hbX,o2,t2,a2,m2,c2,heX,hXX⟩;simp only at heX hXX;obtain⟨p2,A1⟩:∃pz:Nat,pz=k+n2:=⟨_,rfl⟩;rw[<-A1] at heX;subst heX;have A3:=Hh A1;clear A1;have A0:=Aw.out.go hbX;have Av:=A0.q;have Bd:=Av.lt;have AM:=Hh (fun h=>Aw.out.exp (hXX h));have H6:=Hh A0;clear hbX hXX Aw A0 q0 q1
      by_cases he2:e2=0
      .subst he2
       obtain⟨ks,AW⟩:=AU.out (by first|trivial|rfl);subst AW;obtain⟨-,Bx⟩:=(AM.out (by first|trivial|rfl)).words;subst Bx;have At:Hid (R=(.mk mI jO ks,n2,0)):=Hh (by rw[HR.out,cB (by rfl)];rfl);have AO:=(AM.out (by first|trivial|rfl)).named mI jO;have AN:=Hh AO;clear HR AO;obtain⟨Ai,An,Aj,Ao,Ak,Ap,Al,Aq,Am,Ar⟩:=Av.n5 rfl;clear Av;go_wp2_with fail;have hq:=(((((H6.out.q.setI 0 (al mI)).setI 1 (al jO)).setI 2 (an a2 m2 c2)).setI 3 (ao ar p2)).setI 4 (ao ar 0)).alloc (aE (bg mI jO (an a2 m2 c2) p2 0) 144);have Au:=gI (vs:=[al mI,al jO,an a2 m2 c2,ao ar p2,ao ar 0]) H6.out.b (aE (bg mI jO (an a2 m2 c2) p2 0) 144);obtain⟨Ad,Ae,Af,Ag,Ah⟩:=hq.m5 rfl;refine bj (v:=ew (#[al mI,al jO,an a2 m2 c2,ao ar p2,ao ar 0])) (by simp[cD,js,go_sem,Ad,Ae,Af,Ag,Ah]) rfl ?_;rw[At.out];have AQ:=xB (vs:=[al mI,al jO,an a2 m2 c2,ao ar p2,ao ar 0]) AN.out (aE (bg mI jO (an a2 m2 c2) p2 0) 144)
       exact dI (r:=(.mk mI jO ks,n2,0)) (by simp only;have:=A3.out;omega) rfl Au (fun _=>AQ)
      .have e0:(e2==0)=false:=by simpa using he2
       have At:Hid (R=(bf,n2,e2)):=Hh (by rw[HR.out,bA (by exact he2)]);clear HR;obtain⟨Ai,An,Aj,Ao,Ak,Ap,Al,Aq,Am,Ar⟩:=Av.n5 rfl;clear Av;go_wp2_with fail;have hq:=(((((H6.out.q.setI 0 (al o2)).setI 1 (al t2)).setI 2 (an a2 m2 c2)).setI 3 (ao ar p2)).setI 4 (ao ar e2)).alloc (aE (bg o2 t2 (an a2 m2 c2) p2 e2) 144);have Au:=gI (vs:=[al o2,al t2,an a2 m2 c2,ao ar p2,ao ar e2]) H6.out.b (aE (bg o2 t2 (an a2 m2 c2) p2 e2) 144);obtain⟨Ad,Ae,Af,Ag,Ah⟩:=hq.m5 rfl;refine bj (v:=ew (#[al o2,al t2,an a2 m2 c2,ao ar p2,ao ar e2])) (by simp[cD,js,go_sem,Ad,Ae,Af,Ag,Ah]) rfl ?_;rw[At.out];exact dI (r:=(bf,n2,e2)) (by simp only;have:=A3.out;omega) rfl Au (fun h=>absurd h he2)
     .have Ax:cu (l.drop k) EP=false:=by simpa using Ax
      rw[E6 (by rw[Ax];decide)] at hR
      by_cases Az:cu (l.drop k) EO=true
      .rw[E4 Az] at hR
       by_cases hd64:64<=d
       .have At:Hid (R=(bf,0,5)):=Hh (by rw[hR,E4 hd64];rfl)
        clear hR hne Aa Ay As A8;go_in;go_wp2_with (go_at_call 154;(first|with_reducible refine (Ab _).mono ?_|with_reducible refine (Ac _).mono ?_);rintro _ _ ⟨rfl,rfl⟩;simp only[Az])
        have hq:=aa.new w (bg ⟨#[]⟩ ⟨#[]⟩ (an aq 0 0) (k:Int) 5) 144;obtain⟨Ad,Ae,Af,Ag,Ah⟩:=hq.m5 rfl;refine bj (v:=ew (bg ⟨#[]⟩ ⟨#[]⟩ (an aq 0 0) (k:Int) 5)) (by simp[cD,js,go_sem,Ad,Ae,Af,Ag,Ah]) rfl ?_;rw[At.out];exact dI (r:=(bf,0,5)) (by simp) rfl ((ba _ w).alloc lz _) (fun h=>by cases h)
       .rw[E6 hd64] at hR
        have A2:(ah m .choice (l.drop (k+1)) (d+1)).2.2≠-1:=by
         rw[hR] at hne;exact iV (g:=eZ 1 (ah m .choice (l.drop (k+1)) (d+1))) hne
        have AP:=(fZ m .choice (l.drop (k+1)) (d+1) trivial A2).1;rw[bm] at AP;have A7:=hC _ _ l (k+1) (d+1) Aw.out.l (by omega) (by omega) A2;rw[show ((k+1:Nat):Int)=(k:Int)+1 by omega,show ((d+1:Nat):Int)=(d:Int)+1 by omega] at A7;generalize ah m .choice (l.drop (k+1)) (d+1)=R2 at *;obtain⟨x2,n2,e2⟩:=R2;simp only at A2 AP;have HR:=Hh hR;clear hR A2 hne Aa Ay As A8;go_in;go_wp2_with (go_at_call 154;(first|with_reducible refine (Ab _).mono ?_|with_reducible refine (Ac _).mono ?_);rintro _ _ ⟨rfl,rfl⟩;simp only[Az])
        clear Ab;refine (A7).mono ?_;clear A7;rintro _ w6 ⟨hbX,o2,t2,a2,m2,c2,heX,hXX⟩;simp only at heX hXX;obtain⟨p2,A1⟩:∃pz:Nat,pz=k+1+n2:=⟨_,rfl⟩;rw[<-A1] at heX;subst heX;have A3:=Hh A1;clear A1;have A0:=Aw.out.go hbX;have Av:=A0.q;have Bd:=Av.lt;have AM:=Hh (fun h=>Aw.out.exp (hXX h));have H6:=Hh A0;clear hbX hXX Aw A0 q0 q1
        by_cases he2:e2=0
        .subst he2
         have AX:p2<=l.length:=by have:=A3.out;omega
         have Ba:=fun s=>gL (w6.alloc (aE (bg o2 t2 (an a2 m2 c2) p2 0) 144)) (an (aw ⟨bb,Bb,aq⟩) l.length c) l p2 s (H6.out.next _).l.toks A5 (by omega);have Aa:=nO (w6.alloc (aE (bg o2 t2 (an a2 m2 c2) p2 0) 144)) (an (aw ⟨bb,Bb,aq⟩) l.length c) l p2 (H6.out.next _).l.toks A5 AX
         have AR:Hid (R=if cu (l.drop p2) tF=false then dJ (l.drop p2) (1+n2) else (x2,1+n2+1,0)):=Hh (by
          have A1:=A3.out;rw[HR.out,cB (by rfl)];simp only[c4,eZ]
          rw[show k+(1+n2)=p2 by omega])
         clear HR
         by_cases hrp:cu (l.drop p2) tF=false
         .have At:Hid (R=(bf,1+n2,(dJ (l.drop p2) 0).2.2)):=Hh (by rw[AR.out,E4 hrp,vY])
          have AS:Hid ((dJ (l.drop p2) 0).2.2≠0):=Hh (by unfold dJ;split<;>simp);generalize (dJ (l.drop p2) 0).2.2=eb at *;clear AR;obtain⟨Ai,An,Aj,Ao,Ak,Ap,Al,Aq,Am,Ar⟩:=Av.n5 rfl;clear Av;go_wp2_with (go_at_call 154;refine (Ba _).mono ?_;rintro _ _ ⟨rfl,rfl⟩;simp only[hrp])
          refine Aa.mono ?_;clear Aa Ba Ai Aj Ak Al Am An Ao Ap Aq Ar;rintro _ w8 ⟨rfl,hb8⟩;have A4:=(H6.out.next (aE (bg o2 t2 (an a2 m2 c2) p2 0) 144)).go hb8;have A6:=A4.q;have Be:=A6.lt;have A9:=Hh A4;clear A4 hb8;obtain⟨AA,AF,AB,AG,AC,AH,AD,AI,AE,AJ⟩:=A6.n5 rfl;clear A6;go_wp2_with fail;have hq:=((((A9.out.q.setI 0 (al ⟨#[]⟩)).setI 1 (al ⟨#[]⟩)).setI 2 (an aq 0 0)).setI 3 (ao ar p2)).setI 4 (ao ar eb);have Au:=dK A9.out.b [al ⟨#[]⟩,al ⟨#[]⟩,an aq 0 0,ao ar p2,ao ar eb];obtain⟨Ad,Ae,Af,Ag,Ah⟩:=hq.m5 rfl;refine bj (v:=ew (#[al ⟨#[]⟩,al ⟨#[]⟩,an aq 0 0,ao ar p2,ao ar eb])) (by simp[cD,js,go_sem,Ad,Ae,Af,Ag,Ah]) rfl ?_;rw[At.out];exact dI (r:=(bf,1+n2,eb)) (by simp only;have:=A3.out;omega) rfl Au (fun h=>absurd h AS.out)
         .have hrp:cu (l.drop p2) tF=true:=by simpa using hrp
          have At:Hid (R=(x2,1+n2+1,0)):=Hh (by rw[AR.out,E6 (by rw[hrp];decide)]);have AN:=Hh (AM.out (by first|trivial|rfl));clear AR Aa;obtain⟨Ai,An,Aj,Ao,Ak,Ap,Al,Aq,Am,Ar⟩:=Av.n5 rfl;clear Av;go_wp2_with (go_at_call 154;refine (Ba _).mono ?_;rintro _ _ ⟨rfl,rfl⟩;simp only[hrp])
          have hq:=(((((H6.out.q.setI 0 (al o2)).setI 1 (al t2)).setI 2 (an a2 m2 c2)).setI 3 (ao ar ((p2:Int)+1))).setI 4 (ao ar 0)).alloc (aE (bg o2 t2 (an a2 m2 c2) p2 0) 144);have Au:=gI (vs:=[al o2,al t2,an a2 m2 c2,ao ar ((p2:Int)+1),ao ar 0]) H6.out.b (aE (bg o2 t2 (an a2 m2 c2) p2 0) 144);obtain⟨Ad,Ae,Af,Ag,Ah⟩:=hq.m5 rfl;refine bj (v:=ew (#[al o2,al t2,an a2 m2 c2,ao ar ((p2:Int)+1),ao ar 0])) (by simp[cD,js,go_sem,Ad,Ae,Af,Ag,Ah]) rfl ?_;rw[At.out];have AQ:=xB (vs:=[al o2,al t2,an a2 m2 c2,ao ar ((p2:Int)+1),ao ar 0]) AN.out (aE (bg o2 t2 (an a2 m2 c2) p2 0) 144);exact dI (r:=(x2,1+n2+1,0)) (by simp only;have:=A3.out;omega) rfl Au (fun _=>AQ)
        .have e0:(e2 != 0)=true:=by simpa using he2
         have At:Hid (R=(bf,1+n2,e2)):=Hh (by rw[HR.out,bA (by exact he2)];rfl);clear HR;obtain⟨Ai,An,Aj,Ao,Ak,Ap,Al,Aq,Am,Ar⟩:=Av.n5 rfl;clear Av;go_wp2_with fail;have hq:=(((((H6.out.q.setI 0 (al o2)).setI 1 (al t2)).setI 2 (an a2 m2 c2)).setI 3 (ao ar p2)).setI 4 (ao ar e2)).alloc (aE (bg o2 t2 (an a2 m2 c2) p2 e2) 144);have Au:=gI (vs:=[al o2,al t2,an a2 m2 c2,ao ar p2,ao ar e2]) H6.out.b (aE (bg o2 t2 (an a2 m2 c2) p2 e2) 144);obtain⟨Ad,Ae,Af,Ag,Ah⟩:=hq.m5 rfl;refine bj (v:=ew (#[al o2,al t2,an a2 m2 c2,ao ar p2,ao ar e2])) (by simp[cD,js,go_sem,Ad,Ae,Af,Ag,Ah]) rfl ?_;rw[At.out];exact dI (r:=(bf,1+n2,e2)) (by simp only;have:=A3.out;omega) rfl Au (fun h=>absurd h he2)
      .have Az:cu (l.drop k) EO=false:=by simpa using Az
       rw[E6 (by rw[Az];decide)] at hR;have At:Hid (R=(bf,0,(dJ (l.drop k) 0).2.2)):=Hh (by rw[hR,vY]);generalize (dJ (l.drop k) 0).2.2=eb at *;clear hR hne Ay As A8;go_in;go_wp2_with (go_at_call 154;(first|with_reducible refine (Ab _).mono ?_|with_reducible refine (Ac _).mono ?_);rintro _ _ ⟨rfl,rfl⟩;simp only[Az,Ax])
       refine Aa.mono ?_;clear Aa Ab;rintro _ w8 ⟨rfl,hb8⟩;have A4:=Aw.out.go hb8;have A6:=A4.q;have Be:=A6.lt;have A9:=Hh A4;clear A4 hb8 q0 q1;obtain⟨AA,AF,AB,AG,AC,AH,AD,AI,AE,AJ⟩:=A6.n5 rfl;clear A6;go_wp2_with fail;have hq:=((((A9.out.q.setI 0 (al ⟨#[]⟩)).setI 1 (al ⟨#[]⟩)).setI 2 (an aq 0 0)).setI 3 (ao ar (k:Nat))).setI 4 (ao ar eb);have Au:=dK A9.out.b [al ⟨#[]⟩,al ⟨#[]⟩,an aq 0 0,ao ar (k:Nat),ao ar eb];obtain⟨Ad,Ae,Af,Ag,Ah⟩:=hq.m5 rfl;refine bj (v:=ew (#[al ⟨#[]⟩,al ⟨#[]⟩,an aq 0 0,ao ar (k:Nat),ao ar eb])) (by simp[cD,js,go_sem,Ad,Ae,Af,Ag,Ah]) rfl ?_;rw[At.out];exact dI (r:=(bf,0,eb)) (by simp) rfl Au (fun h=>absurd h AS.out)
 .have Bu:l.drop k=[]:=ek (by omega)
  have At:Hid (R=(bf,0,(dJ (l.drop k) 0).2.2)):=Hh (by rw[hR,Bu,ah,vY]);generalize (dJ (l.drop k) 0).2.2=eb at *;have Aw:=Hh AK;clear hR hne AK h;go_in;go_wp2_with fail;refine Aa.mono ?_;clear Aa;rintro _ w8 ⟨rfl,hb8⟩;have A4:=Aw.out.go hb8;have A6:=A4.q;have Be:=A6.lt;have A9:=Hh A4;clear A4 hb8;obtain⟨AA,AF,AB,AG,AC,AH,AD,AI,AE,AJ⟩:=A6.n5 rfl;clear A6;go_wp2_with fail;have hq:=((((A9.out.q.setI 0 (al ⟨#[]⟩)).setI 1 (al ⟨#[]⟩)).setI 2 (an aq 0 0)).setI 3 (ao ar (k:Nat))).setI 4 (ao ar eb);have Au:=dK A9.out.b [al ⟨#[]⟩,al ⟨#[]⟩,an aq 0 0,ao ar (k:Nat),ao ar eb];obtain⟨Ad,Ae,Af,Ag,Ah⟩:=hq.m5 rfl;refine bj (v:=ew (#[al ⟨#[]⟩,al ⟨#[]⟩,an aq 0 0,ao ar (k:Nat),ao ar eb])) (by simp[cD,js,go_sem,Ad,Ae,Af,Ag,Ah]) rfl ?_;rw[At.out];exact dI (r:=(bf,0,eb)) (by simp) rfl Au (fun h=>absurd h AS.out)
theorem PO:∀m,CC m/\TC m/\XC m/\PC m/\QC m/\MC m:=by
 intro m
 induction m using Nat.strongRecOn with
 |ind m ih=>
  cases m with
  |zero=>
   refine⟨?_,?_,?_,?_,?_,?_⟩
   .intro w lv l k d _ _ _ b;exact absurd (ni _ _ _) b
   .intro w lv l k d n _ _ _ _ _ b;exact absurd (ni _ _ _) b
   .intro w lv l k d _ _ _ b;exact absurd (ni _ _ _) b
   .intro w lv l k d _ _ _ b;exact absurd (ni _ _ _) b
   .intro w lv l k d _ _ _ b;exact absurd (ni _ _ _) b
   .intro w lv l k d s _ _ _ _ b;exact absurd (ni _ _ _) b
  |succ m=>
   have p:=ih m (Nat.lt_succ_self m);have q:∀j,j<=m->CC j:=fun j hj=>(ih j (by omega)).1;have r:∀j,j<=m->TC j:=fun j hj=>(ih j (by omega)).2.1;exact⟨CW m p.2.1 p.1,GJ m p.2.2.1 r,CV m p.2.2.2.1 p.2.2.1,GK m p.2.2.2.2.1 q,ER m p.2.2.2.2.2 p.1,GM m q⟩
theorem GL(w:cd)(lv:cq)(l:List ae)(h:aP w lv l)(H:∀t∈l,t.text.size<=1048576)(E:∀t∈l,t.kind=3->lm t.text≠aq) :
  cJ bh 104 #[lv] w (GP 0 (iI l) w):=by
 obtain⟨W,Y,rfl,Ay,V,-⟩:=h.len;unfold cV at V
 by_cases A:1000<l.length
 .have D:iI l=(bf,1000,4):=by unfold iI;rw[E4 A]
  have S:=Hh D;clear D h H E;go_in;go_wp2_with fail;have E:=aa.new w (bg ⟨#[]⟩ ⟨#[]⟩ (an aq 0 0) 1000 4) 144;obtain⟨Af,Ag,Ah,Ai,Aj⟩:=E.m5 rfl;refine bj (v:=ew (bg ⟨#[]⟩ ⟨#[]⟩ (an aq 0 0) 1000 4)) (by simp[cD,Tryz.results104,go_sem,Af,Ag,Ah,Ai,Aj]) rfl ?_;rw[S.out];exact dI (r:=(bf,1000,4)) (by simp) rfl ((ba _ w).alloc lz _) (fun h=>by cases h)
 .have U:=qd (je .choice l) .choice l 0 lz (by simp only[Nt.okX])
  have D:iI l=if (ah (je .choice l) .choice l 0).2.2=0 then ah (je .choice l) .choice l 0 else (bf,(ah (je .choice l) .choice l 0).2):=by unfold iI;rw[E6 A]
  have Ab:=zB.start (w:=w) (lv:=an W l.length Y) (l:=l) ⟨h,by omega,H,E⟩;have Ad:=(PO (je .choice l)).1 _ _ l 0 0 Ab.l (by omega) (by omega) (by rw[dd];exact U.1);rw[dd] at Ad;generalize ah (je .choice l) .choice l 0=r at *;obtain⟨Z,n1,e1⟩:=r;simp only at D;have S:=Hh D;have Aa:=Hh Ab;clear D U h H E Ab;go_in;go_wp2_with fail;refine Ad.mono ?_;clear Ad;rintro _ w4 ⟨F,N,Q,J,M,c1,G,C⟩;simp only[df] at G C;subst G;have Ac:=Aa.out.go F;have Aw:=Hh (fun h=>Aa.out.exp (C h));have Ae:=Ac.q;have Az:=Ae.lt;have Ak:=Hh Ac;clear F C Aa Ac;obtain⟨Am,Ar,An,As,Ao,At,Ap,Au,Aq,Av⟩:=Ae.n5 rfl;clear Ae;go_wp2_with fail;have E:=((((Ak.out.q.setI 0 (al N)).setI 1 (al Q)).setI 2 (an J M c1)).setI 3 (ao ar n1)).setI 4 (ao ar e1);have Al:=dK Ak.out.b [al N,al Q,an J M c1,ao ar n1,ao ar e1];obtain⟨Af,Ag,Ah,Ai,Aj⟩:=E.m5 rfl;refine bj (v:=ew (#[al N,al Q,an J M c1,ao ar n1,ao ar e1])) (by simp[cD,Tryz.results104,go_sem,Af,Ag,Ah,Ai,Aj]) rfl ?_
  rw[S.out]
  by_cases T:e1=0
  .rw[E4 T]
   exact dI (r:=(Z,n1,e1)) (by simp) rfl Al (fun h=>oO (vs:=[al N,al Q,an J M c1,ao ar n1,ao ar e1]) (Aw.out h))
  .rw[E6 T]
   exact dI (r:=(bf,n1,e1)) (by simp) rfl Al (fun h=>absurd h T)
abbrev bL(a e:Int):Array cq:=#[an aq 0 0,ao ar 0,ao ar a,ao ar e,cG false,al ⟨#[]⟩,al ⟨#[]⟩,al ⟨#[]⟩,an aq 0 0,an aq 0 0,an aq 0 0]
abbrev VV(n:Int)(b:Bool)(nm vo vt:E7)(vk lv iv:cq):Array cq:=#[an aq 0 0,ao ar n,ao ar 0,ao ar 0,cG b,al nm,al vo,al vt,vk,lv,iv]
def dH(row:List ae)(stop:Int)(last:Bool)(i:Nat):Int×Int:=match row[i]? with
 |some t=>(t.pos,3)
 |none=>if last then (stop,2) else (stop,3)
theorem oU(row:List ae)(stop:Int)(last:Bool)(i:Nat):fF row stop last i=.wrong (dH row stop last i).1 (dH row stop last i).2:=by
 unfold fF dH
 cases row[i]? with
 |some t=>rfl
 |none=>cases last<;>rfl
theorem lU(c:Option pC)(n0 j:Nat)(x z A:Int)(b:Bool)(u s2 w:E7)(d:Option pC)(n1 c1:Nat)(f:Option pC)(n2 k:Nat)(i:Option pC)(n3 q:Nat) :
  ∀v∈(#[an c n0 j,ao ar x,ao ar z,ao ar A,cG b,al u,al s2,al w,an d n1 c1,an f n2 k,an i n3 q]:Array cq).toList,v.oneCell'=true:=by
 intro v a;simp at a
 rcases a with rfl|rfl|rfl|rfl|rfl|rfl|rfl|rfl|rfl|rfl|rfl<;>rfl
theorem nX(w:cd)(lv:cq)(l:List ae)(stop:Int)(last:Bool)(k:Nat)(s:E7)(h:aP w lv l)(M:l.length<=1000000)(L:k<=2000000) :
  cJ bh 63 #[ew #[lv,ao ar stop,cG last],ao ar (k:Nat),al s] w fun e w'=>e=bk (cG (cu (l.drop k) s))/\cj w.heap.size w w':=by
 obtain⟨a,c,rfl,J,E,-⟩:=h.len;unfold cV at E;have o:=Hh ((ba _ w).alloc lz (aE #[an a l.length c,ao ar stop,cG last] 114))
 by_cases f:k<l.length
 .obtain⟨b,Ab,rfl,Aa,q0,F,G⟩:=h.get f
  have i:Hid (cu (l.drop k) s=(decide (l[k].kind=4)&&decide (l[k].text=s))):=Hh (by rw[cg f];rfl);generalize l[k]=t at *;obtain⟨j,q,K⟩:=t;simp only at q0 F i;clear h G
  have H:(j==4)=decide (j=4):=by
   by_cases h:j=4
   .subst h;simp
   .rw[decide_eq_false h];simpa using h
  have I:=pY q s;generalize decide (j=4)=A at *;generalize decide (q=s)=C at *;go_in;cases A<;>cases C
  all_goals
   go_wp2;go_ret;exact⟨by rw[i.out];rfl,o.out⟩
 .have i:Hid (cu (l.drop k) s=false):=Hh (by rw[ek (by omega)];rfl)
  clear h;go_in;go_wp2;go_ret;exact⟨by rw[i.out];rfl,o.out⟩
theorem gG(w:cd)(lv:cq)(l:List ae)(stop:Int)(last:Bool)(k:Nat)(h:aP w lv l)(Q:l.length<=1000000)(O:k<=2000000) :
  cJ bh 64 #[ew #[lv,ao ar stop,cG last],ao ar (k:Nat)] w fun e w'=>e=bk (ew (bL (dH l stop last k).1 (dH l stop last k).2))/\cj w.heap.size w w':=by
 obtain⟨a,c,rfl,K,F,-⟩:=h.len;unfold cV at F;have C:Hid (∀cs,cj w.heap.size w ((w.alloc (aE #[an a l.length c,ao ar stop,cG last] 114)).alloc (aE cs 50))):=Hh (fun cs=>((ba _ w).alloc lz _).alloc (by simp) _)
 by_cases A:k<l.length
 .obtain⟨b,Al,rfl,Am,q0,I,J⟩:=h.get A
  have u:Hid (dH l stop last k=(l[k].pos,3)):=Hh (by unfold dH;rw[br A]);generalize l[k]=t at *;obtain⟨M,N,E⟩:=t;simp only at J u;clear h q0 I;go_in;go_wp2;have o:=aa.new (w.alloc (aE #[an (aw ⟨b,Al,aq⟩) l.length c,ao ar stop,cG last] 114)) (bL E 3) 50;simp only[cF] at o;obtain⟨Ab,Ac,Ad,Ae,Af,Ag,Ah,Ai,Aj,Ak,Aa⟩:=o.m11 rfl
  (try simp only[aj] at Ab Ac Ad Ae Af Ag Ah Ai Aj Ak Aa)
  refine bj (v:=ew (bL E 3)) (by simp[cD,Tryz.results64,go_sem,Ab,Ac,Ad,Ae,Af,Ag,Ah,Ai,Aj,Ak,Aa]) rfl ?_;exact⟨by rw[u.out],C.out _⟩
 .have u:Hid (dH l stop last k=if last then (stop,2) else (stop,3)):=Hh (by unfold dH;rw[List.getElem?_eq_none (by omega)])
  clear h
  cases last with
  |true=>
   go_in;go_wp2;have o:=aa.new (w.alloc (aE #[an a l.length c,ao ar stop,cG true] 114)) (bL stop 2) 50;simp only[cF] at o;obtain⟨Ab,Ac,Ad,Ae,Af,Ag,Ah,Ai,Aj,Ak,Aa⟩:=o.m11 rfl
   (try simp only[aj] at Ab Ac Ad Ae Af Ag Ah Ai Aj Ak Aa)
   refine bj (v:=ew (bL stop 2)) (by simp[cD,Tryz.results64,go_sem,Ab,Ac,Ad,Ae,Af,Ag,Ah,Ai,Aj,Ak,Aa]) rfl ?_;exact⟨by rw[u.out];rfl,C.out _⟩
  |false=>
   go_in;go_wp2;have o:=aa.new (w.alloc (aE #[an a l.length c,ao ar stop,cG false] 114)) (bL stop 3) 50;simp only[cF] at o;obtain⟨Ab,Ac,Ad,Ae,Af,Ag,Ah,Ai,Aj,Ak,Aa⟩:=o.m11 rfl
   (try simp only[aj] at Ab Ac Ad Ae Af Ag Ah Ai Aj Ak Aa)
   refine bj (v:=ew (bL stop 3)) (by simp[cD,Tryz.results64,go_sem,Ab,Ac,Ad,Ae,Af,Ag,Ah,Ai,Aj,Ak,Aa]) rfl ?_;exact⟨by rw[u.out];rfl,C.out _⟩
inductive OY where
 |bad (a e:Int):OY
 |one (x:bX) (n:Nat):OY
def Wi:pO->OY
 |.wrong a e=>.bad a e
 |.attr x=>.one x 1
 |.bare x=>.one x 1
 |_=>.bad 0 0
def Vj(w:cd)(r:OY)(e:Ending)(w':cd):Prop:=cj w.heap.size w w'/\match r with
 |.bad a er=>e=bk (ew (bL a er))
 |.one x n=>∃b nm vo vt va vn vc la ln lc ia im ic,e=bk (ew (VV (n:Nat) b nm vo vt (an va vn vc) (an la ln lc) (an ia im ic)))/\aX (fun q=>w.heap.size<=q) w' x [cG b,al nm,al vo,al vt,an va vn vc,an la ln lc,an ia im ic]
theorem Vj.bad{er:Int}(hb:cj w.heap.size w w'):Vj w (.bad a er) (bk (ew (bL a er))) w':=⟨hb,rfl⟩
theorem Q5{w1 w2:cd}{a:Option pC}{n c:Nat}{vals:Array cq}(hq:q<B)(hB:w.heap.size<=q)(hX:af (fun b=>w1.heap.size<=b) w2 x [al o,al t,an a n c])(hal:cj w2.heap.size w2 W)(hz:w1.heap.size=B) :
  af (fun b=>w.heap.size<=b) (W.drew.setRow q vals) x [al o,al t,an a n c]:=
 af.move (w:=w2) (by rw[rN];exact hal.size) (fun b hb hl=>by
  rw[ml _ _ _ _ (by omega)]
  exact hal.block b hl) (fun b hb _=>by omega) _ _ hX
theorem JX(w:cd)(t t2:ae)(row:List ae)(lv:cq)(stop:Int)(last:Bool)(hr:aP w lv (t::t2::row))(hn:row.length<=900000)(hsh:∀t∈row,t.text.size<=1048576)(hq:∀t∈row,t.kind=3->lm t.text≠aq) :
  cJ bh 65 #[ew #[lv,ao ar stop,cG last]] w (Vj w (Wi (lK (t::t2::row) stop last t.text))):=by
 obtain⟨ra,rc,rfl,AI,AJ,-⟩:=hr.len;obtain⟨N,hN⟩:=exq ((t::t2::row).length);have AE:N=row.length+2:=by rw[hN];simp
 rw[<-hN] at hr AI ⊢;unfold cV at AJ;have AF:N<=row.length+2/\row.length+2<=N:=by omega
 have HN:=Hh hN;clear hN AE;obtain⟨R,hR⟩:=exq (lK (t::t2::row) stop last t.text);have HR:=Hh hR;rw[<-hR];clear hR;have A8:cj w.heap.size w ((w.alloc (aE #[an ra N rc,ao ar stop,cG last] 114)).alloc (aE (bL 0 0) 50)):=((ba _ w).alloc lz _).alloc (by simp) _;have k0:=(aa.new w #[an ra N rc,ao ar stop,cG last] 114).alloc (aE (bL 0 0) 50);have k1:=aa.new (w.alloc (aE #[an ra N rc,ao ar stop,cG last] 114)) (bL 0 0) 50;simp only[cF] at k1;have A4:=hr.below A8 lz;have AD:((w.alloc (aE #[an ra N rc,ao ar stop,cG last] 114)).alloc (aE (bL 0 0) 50)).heap.size=w.heap.size+2:=by simp
 have HB:=Hh A8;have HK:=Jh k0 (cE k1 A4);clear hr A8 k0 k1 A4;go_in;go_wp2_with (with_reducible first|refine j6 ?_)
 refine Stop.out ?_;obtain⟨k0,k1,A4⟩:=HK.out;generalize (w.alloc (aE #[an ra N rc,ao ar stop,cG last] 114)).alloc (aE (bL 0 0) 50)=w1 at *;refine pR rfl _ _ _ rfl Tryz.underlying55 (by kernel_rfl) (t::t2::row) (by exact A4) ar 2 2 rfl rfl (by simp) ?_;intro v' hv' hvb;simp only[ec,dd] at hv';obtain⟨va,vc,rfl,-⟩:=hv'.len;have hE:=GL w1 _ row hv' hsh hq;clear hv' hvb;have HZ:=Hh AD;clear AD;go_wp2_with fail;refine hE.mono ?_;clear hE;rintro _ w2 ⟨hb2,o,tt,a,n,c,heq,hX⟩;simp only[bg] at heq;subst heq;have A2:=EY row;have AB:=Hr row;obtain⟨⟨x,k,e⟩,hg⟩:∃q,iI row=q:=⟨_,rfl⟩;have Aa:=HR.out;unfold lK at Aa;simp only[ec,dd] at Aa;rw[hg] at hX A2 AB Aa ⊢;simp only[df] at hX A2 AB Aa ⊢;rw[<-HN.out] at Aa;clear HR hg;have A7:cj w2.heap.size w2 (w2.alloc (aE #[al o,al tt,an a n c,ao ar (k:Nat),ao ar e] 144)):=(ba _ _).alloc lz _;have A5:=hb2.trans (A7.mono hb2.size);have k3:=k0.below A5 k0.lt;have q3:=k1.below A5 k1.lt;have r3:=A4.below A5 lz;have e3:=aa.new w2 #[al o,al tt,an a n c,ao ar (k:Nat),ao ar e] 144;have AC:=HB.out.trans (A5.mono HB.out.size);have AY:w.heap.size+2<=w2.heap.size:=by rw[<-HZ.out];exact hb2.size
 have HX:=Jh hX A7;have AH:=k3.lt;have A9:=q3.lt;have AG:=e3.lt;have HW:=Jh k3 (cE q3 (cE r3 (cE e3 AC)));clear HK k0 k1 A4 hb2 A5 A7 hX AC;go_upto_region 2 with fail
 generalize w2.alloc (aE #[al o,al tt,an a n c,ao ar (k:Nat),ao ar e] 144)=w3 at *
 by_cases hc1:e=2\/(e=0/\2+k<N)
 focus
  rw[E4 hc1,oU] at Aa;have hL:=gG _ (an ra N rc) (t::t2::row) stop last (2+k) r3 (by simp;omega) (by omega);rw[show ((2+k:Nat):Int)=(k:Int)+2 by omega] at hL;have A3:=Hh Aa;clear Aa r3 q3 A2;obtain⟨Am,Ap,An,Aq,Ao,Ar⟩:=k3.n3 rfl;obtain⟨Ac,Ah,Ad,Ai,Ae,Aj,Af,Ak,Ag,Al⟩:=e3.n5 rfl;clear k3 e3;rcases hc1 with rfl|⟨rfl,hlt⟩
  rotate_left
  have hd:decide ((k:Int)+2<(N:Int))=true:=by rw[decide_eq_true_iff];omega
 rotate_left 2
 focus
  rw[E6 hc1] at Aa;have A6:e≠2:=fun h=>hc1 (.inl h)
  by_cases he:e=0
  .subst he
   have hk:k=row.length:=by
    have:¬2+k<N:=fun h=>hc1 (.inr ⟨rfl,h⟩);omega
   rw[E4 rfl] at Aa;have hd:decide ((k:Int)+2<(N:Int))=false:=by rw[decide_eq_false_iff_not];omega
   obtain⟨b,AM,rfl,hlt,c0,c1,c2⟩:=r3.get (j:=0) (by simp);simp only[iz,eA,eg] at c0 c1 c2;have A3:=Hh Aa;clear Aa hk hc1 r3 A2 A6;obtain⟨Am,Ap,An,Aq,Ao,Ar⟩:=k3.n3 rfl;obtain⟨Ac,Ah,Ad,Ai,Ae,Aj,Af,Ak,Ag,Al⟩:=e3.n5 rfl;clear k3 q3 e3;go_wp2_with fail;have AQ:0<N:=by omega
   have AR:(0:Int)<(N:Int):=by omega
   go_still_tail 9,(by kernel_rfl)
   change wpList _ _ _ _ _ w3.drew;refine az rfl 50 _ _ rfl rfl _ rfl (#[an aq 0 0,ao ar 1,ao ar 0,ao ar 0,cG false,al t.text,al o,al tt,an a n c,an aq 0 0,an aq 0 0]) rfl _ _ (aa.drew HW.out.2.1) rfl (by kernel_rfl) (lU _ _ _ _ _ _ _ _ _ _ _ _ _ _ _ _ _ _ _) ?_;have hq:aa (w3.drew.setRow (w.heap.size+1) (#[an aq 0 0,ao ar 1,ao ar 0,ao ar 0,cG false,al t.text,al o,al tt,an a n c,an aq 0 0,an aq 0 0])) (w.heap.size+1) (#[an aq 0 0,ao ar 1,ao ar 0,ao ar 0,cG false,al t.text,al o,al tt,an a n c,an aq 0 0,an aq 0 0]) 50:=fR _ _ _ _ _ _ (aa.drew HW.out.2.1);go_wp2_with fail;obtain⟨As,At,Au,Av,Aw,Ax,Ay,Az,A0,A1,Ab⟩:=hq.m11 rfl
   (try simp only[aj] at As At Au Av Aw Ax Ay Az A0 A1 Ab)
   refine bj (v:=ew (#[an aq 0 0,ao ar 1,ao ar 0,ao ar 0,cG false,al t.text,al o,al tt,an a n c,an aq 0 0,an aq 0 0])) (by simp[cD,Tryz.results65,go_sem,As,At,Au,Av,Aw,Ax,Ay,Az,A0,A1,Ab]) rfl ?_;rw[A3.out];refine⟨fy HW.out.2.2.2.2.drew (by omega) _,false,t.text,o,tt,a,n,c,aq,0,0,aq,0,0,rfl,?_⟩;refine aX.leaf ?_ oC.nil;exact Q5 (q:=w.heap.size+1) (B:=w.heap.size+2) (by omega) (by omega) (HX.out.1 (by first|trivial|rfl)) HX.out.2 HZ.out
  focus
   rw[E6 he] at Aa;have AT:=A2 he A6;have hlt:2+k<(t::t2::row).length:=by simp;omega
   rw[br hlt] at Aa;simp only at Aa
   by_cases he3:e=3
   focus
    subst he3;have hV:dH (t::t2::row) stop last (2+k)=((t::t2::row)[2+k].pos,3):=by unfold dH;rw[br hlt]
    have hL:=gG _ (an ra N rc) (t::t2::row) stop last (2+k) r3 (by simp;omega) (by omega);rw[show ((2+k:Nat):Int)=(k:Int)+2 by omega] at hL;have Aa:R=.wrong (dH (t::t2::row) stop last (2+k)).1 (dH (t::t2::row) stop last (2+k)).2:=by rw[hV];exact Aa
    have A3:=Hh Aa;clear Aa r3 q3 A2 hc1 he A6 hV;obtain⟨Am,Ap,An,Aq,Ao,Ar⟩:=k3.n3 rfl;obtain⟨Ac,Ah,Ad,Ai,Ae,Aj,Af,Ak,Ag,Al⟩:=e3.n5 rfl;clear k3 e3
   rotate_left
   .obtain⟨b,AM,rfl,AK,c0,c1,c2⟩:=r3.get (j:=2+k) hlt
    generalize (t::t2::row)[2+k]=tk at *;obtain⟨K,AA⟩:=exq (2+k);rw[<-AA] at c0 c1 c2;have AS:(k:Int)+2=(K:Int):=by omega
    have AN:(0:Int)<=(K:Int):=by omega
    have AO:(K:Int)<(N:Int):=by omega
    have AP:K<N:=by omega
    have AX:IntKind.i64.wrap (K:Int)=(K:Int):=cU _ (by omega);have AU:(e==0)=false:=by simpa using he
    have AW:(e != 0)=true:=by simpa using he
    have AV:(e==2)=false:=by simpa using A6
    have AL:(e==3)=false:=by simpa using he3
    have A3:=Hh Aa;clear Aa r3 A2 hc1 he A6 he3 hlt;obtain⟨Am,Ap,An,Aq,Ao,Ar⟩:=k3.n3 rfl;obtain⟨Ac,Ah,Ad,Ai,Ae,Aj,Af,Ak,Ag,Al⟩:=e3.n5 rfl;clear k3 q3 e3;clear AA;go_wp2_with fail;go_still_tail 11,(by kernel_rfl)
    change wpList _ _ _ _ _ w3.drew;refine az rfl 50 _ _ rfl rfl _ rfl (bL tk.pos e) rfl _ _ (aa.drew HW.out.2.1) rfl (by kernel_rfl) (lU _ _ _ _ _ _ _ _ _ _ _ _ _ _ _ _ _ _ _) ?_;have hq:aa (w3.drew.setRow (w.heap.size+1) (bL tk.pos e)) (w.heap.size+1) (bL tk.pos e) 50:=fR _ _ _ _ _ _ (aa.drew HW.out.2.1);go_wp2_with fail;obtain⟨As,At,Au,Av,Aw,Ax,Ay,Az,A0,A1,Ab⟩:=hq.m11 rfl
    (try simp only[aj] at As At Au Av Aw Ax Ay Az A0 A1 Ab)
    refine bj (v:=ew (bL tk.pos e)) (by simp[cD,Tryz.results65,go_sem,As,At,Au,Av,Aw,Ax,Ay,Az,A0,A1,Ab]) rfl ?_;rw[A3.out];exact .bad (fy HW.out.2.2.2.2.drew (by omega) _)
 all_goals
  generalize (dH (t::t2::row) stop last (2+k)).1=pa at *;generalize (dH (t::t2::row) stop last (2+k)).2=pe at *;simp only[bL] at hL;go_wp2_with fail;refine hL.mono ?_;clear hL Am An Ao Ap Aq Ar Ac Ad Ae Af Ag Ah Ai Aj Ak Al;rintro _ w4 ⟨rfl,hb4⟩;have HQ:=Jh (HW.out.2.1.below hb4 A9) (HW.out.2.2.2.2.trans (hb4.mono HW.out.2.2.2.2.size));clear hb4;go_wp2_with (with_reducible first|refine bv ?_)
  refine Stop.out ?_;refine az rfl 50 _ _ rfl rfl _ rfl (bL pa pe) rfl _ _ HQ.out.1 rfl (by kernel_rfl) (lU _ _ _ _ _ _ _ _ _ _ _ _ _ _ _ _ _ _ _) ?_;have hq:aa (w4.setRow (w.heap.size+1) (bL pa pe)) (w.heap.size+1) (bL pa pe) 50:=fR _ _ _ _ _ _ HQ.out.1;go_wp2_with fail;obtain⟨As,At,Au,Av,Aw,Ax,Ay,Az,A0,A1,Ab⟩:=hq.m11 rfl
  (try simp only[aj] at As At Au Av Aw Ax Ay Az A0 A1 Ab)
  refine bj (v:=ew (bL pa pe)) (by simp[cD,Tryz.results65,go_sem,As,At,Au,Av,Aw,Ax,Ay,Az,A0,A1,Ab]) rfl ?_;rw[A3.out];exact .bad (fy HQ.out.2 (by omega) _)
theorem kL(size:Int):∀(f f':Nat) (l:List gT) (d:Nat) (out:List bX) (n:Nat),l.length<f->l.length<f'->bY size f l d out n=bY size f' l d out n
 |0,_,l,_,_,_,h,_=>by omega
 |_+1,0,l,_,_,_,_,h=>by omega
 |f+1,f'+1,[],d,out,n,_,_=>rfl
 | f+1,f'+1,r::l,d,out,n,h1,h2=>by
  simp only[bc] at h1 h2;rw[oV,oV]
  cases bn (d+1) r.toks r.stop r.last with
  |wrong a e=>rfl
  |empty=>exact kL size f f' l d _ _ (by omega) (by omega)
  |attr x=>exact kL size f f' l d _ _ (by omega) (by omega)
  |bare x=>exact kL size f f' l d _ _ (by omega) (by omega)
  |fin=>rfl
  |begins x=>
   simp only;rw[kL size f f' l (d+1) [] 0 (by omega) (by omega)];split
   .rfl
   .exact kL size f f' _ d _ _ (by rw[bm];omega) (by rw[bm];omega)
def dP(size:Int)(l:List gT)(d:Nat)(out:List bX)(n:Nat):Lb:=bY size (l.length+1) l d out n
def jM(P:Nat->Prop)(w:cd)(v:cq)(l:List bX):Prop:=∃a cap,v=an a l.length cap/\l.length<=cap/\cap<=cV/\(a=aq->cap=0)/\
 ∀x,a=aw x->l≠[]->x.spot=aq/\(x.block<w.heap.size/\P x.block)/\kP (af P w) (oC P w) (fun b=>b<w.heap.size/\P b) w x.block x.off l
theorem jM.move{Q:Nat->Prop}(g:w.heap.size<=w'.heap.size)(i:∀k,P k->k<w.heap.size->w'.heap[k]?=w.heap[k]?)(c:∀k,P k->k<w.heap.size->Q k){l:List bX}(h:jM P w v l):jM Q w' v l:=by
 obtain⟨a,Aa,o,r,z,A,B⟩:=h;refine⟨a,Aa,o,r,z,A,fun x hx hl=>?_⟩;obtain⟨j,g2,g3⟩:=B x hx hl;exact⟨j,⟨cT g2.1 g,c _ g2.2 g2.1⟩,kP.map (fun e cs h=>af.move g i c e cs h) (fun _ _ h=>h.move g i c) (fun b h=>⟨cT h.1 g,c b h.2 h.1⟩) (fun b h off u hu=>(jC (i b h.2 h.1) off).trans hu) g2 _ _ g3⟩
theorem aX.whole{b:Bool}{n:E7}{v:iA}{ls:List E7}{its:List bX}{vo vt:E7}{vk iv:cq}(u:af P w v [al vo,al vt,vk])(r:oC P w lv ls)(hi:jM P w iv its) :
  aX P w (.mk b n v ls its) [cG b,al n,al vo,al vt,vk,lv,iv]:=by
 obtain⟨a,Aa,rfl,c,h,j,q⟩:=hi;unfold aX;simp only[oJ];exact⟨vo,vt,vk,lv,a,Aa,rfl,u,r,c,h,j,q⟩
def Wy(w:cd)(g:Lb)(e:Ending)(w':cd):Prop:=cj w.heap.size w w'/\(g.e≠0->e=bk (ew (bL g.at_ g.e)))/\
 (g.e=0->∃ia ic,e=bk (ew #[an ia g.l.length ic,ao ar (g.n:Nat),ao ar 0,ao ar 0,cG false,al ⟨#[]⟩,al ⟨#[]⟩,al ⟨#[]⟩,an aq 0 0,an aq 0 0,an aq 0 0])/\jM (fun q=>w.heap.size<=q) w' (an ia g.l.length ic) g.l)
def Ga(R:List gT)(size:Int)(i d:Nat):Prop:=∀(w:cd) (v:cq) (B:Nat),Jm B w v R->cJ bh 37 #[v,ao ar (i:Nat),ao ar (d:Nat)] w (Wy w (dP size (R.drop i) d [] 0))
def zy(size:Int)(rest:List gT)(d:Nat):pO->OY
 |.begins x=>if (dP size rest (d+1) [] 0).e≠0 then .bad (dP size rest (d+1) [] 0).at_ (dP size rest (d+1) [] 0).e else .one (.mk x.block x.name x.value x.labels (dP size rest (d+1) [] 0).l) ((dP size rest (d+1) [] 0).n+1)
 |k=>Wi k
theorem Jc(size:Int)(rest:List gT)(d:Nat)(a e:Int):zy size rest d (.wrong a e)=.bad a e:=rfl
theorem OL(size:Int)(rest:List gT)(d:Nat)(x:bX):zy size rest d (.bare x)=.one x 1:=rfl
structure OZ(w W:cd)(s:cq)(stop:Int)(last:Bool)(nm:E7)(v:cq)(pre:List E7):Prop where
 b:cj w.heap.size w W
 k0:aa W w.heap.size (bL 0 0) 50
 k1:aa W (w.heap.size+1) #[s,ao ar stop,cG last] 114
 k2:aa W (w.heap.size+2) #[cG true,al nm,al ⟨#[]⟩,al ⟨#[]⟩,an aq 0 0,v,an aq 0 0] 48
 own:aI fx 9 (w.heap.size+3) W v pre
 le:w.heap.size+3<=W.heap.size
theorem OZ.step(h:OZ w W s stop last nm v pre)(hb:cj W.heap.size W W'):OZ w W' s stop last nm v pre:=
 ⟨h.b.trans (hb.mono h.b.size),h.k0.below hb h.k0.lt,h.k1.below hb h.k1.lt,h.k2.below hb h.k2.lt,h.own.below hb lz,dy h.le hb.size⟩
theorem OZ.start(w:cd)(s:cq)(stop:Int)(last:Bool)(b:E7):OZ w (((w.alloc (aE (bL 0 0) 50)).alloc (aE #[s,ao ar stop,cG last] 114)).alloc (aE #[cG true,al b,al ⟨#[]⟩,al ⟨#[]⟩,an aq 0 0,an aq 0 0,an aq 0 0] 48)) s stop last b (an aq 0 0) []:=by
 have k0:=((aa.new w (bL 0 0) 50).alloc (aE #[s,ao ar stop,cG last] 114)).alloc (aE #[cG true,al b,al ⟨#[]⟩,al ⟨#[]⟩,an aq 0 0,an aq 0 0,an aq 0 0] 48);have k1:=(aa.new (w.alloc (aE (bL 0 0) 50)) #[s,ao ar stop,cG last] 114).alloc (aE #[cG true,al b,al ⟨#[]⟩,al ⟨#[]⟩,an aq 0 0,an aq 0 0,an aq 0 0] 48);have k2:=aa.new ((w.alloc (aE (bL 0 0) 50)).alloc (aE #[s,ao ar stop,cG last] 114)) #[cG true,al b,al ⟨#[]⟩,al ⟨#[]⟩,an aq 0 0,an aq 0 0,an aq 0 0] 48;simp only[cF] at k1 k2;exact⟨(((ba _ w).alloc lz _).alloc (by simp) _).alloc (by simp only[cF];omega) _,k0,k1,k2,aI.nil,by simp⟩
theorem OZ.label{v3:cq}{pre3:List E7}(h:OZ w W s stop last nm v pre)(c:cj (w.heap.size+3) W w3)(f:aI fx 9 (w.heap.size+3) w3 v3 pre3) :
  OZ w (w3.setCell ⟨w.heap.size+2,5,aq⟩ v3) s stop last nm v3 pre3:=by
 have k0:=h.k0.below c (by omega);have k1:=h.k1.below c (by omega);have k2:=h.k2.below c (by omega);refine⟨(h.b.trans (c.mono (by omega))).setCell (by show w.heap.size<=w.heap.size+2;omega) _,k0.setOther _ _ (by show w.heap.size+2≠_;omega),k1.setOther _ _ (by show w.heap.size+2≠_;omega),k2.setI 5 _,?_,by rw[gj];exact dy h.le c.size⟩;exact f.setOther ⟨w.heap.size+2,5,aq⟩ v3 (fun h=>by have i:w.heap.size+3<=w.heap.size+2:=(cy f _ h).1;omega)
theorem OZ.drew(h:OZ w W s stop last nm v pre):OZ w W.drew s stop last nm v pre:=
 ⟨h.b.drew,h.k0.drew,h.k1.drew,h.k2.drew,h.own.moved (fun _ _=>rfl),h.le⟩
theorem Iy(size:Int)(l:List gT)(d:Nat)(out:List bX)(n:Nat)(h:(dP size l d out n).e=0):(dP size l d out n).n<=n+l.length:=
 ((kz size (l.length+1) l d out n (List.replicate d bR) bR (by omega) (by simp)).2 h).2.1
theorem Jm.below2(h:Jm B w v R)(hb:cj w.heap.size w w'):Jm B w' v R:=h.below hb
theorem Mf{l:List E7}(i:aI fx 9 (w.heap.size+3) w3 v l)(r:w3.heap.size<=W.heap.size)(q:∀k,w.heap.size+3<=k->k<w3.heap.size->W.heap[k]?=w3.heap[k]?):oC (fun b=>w.heap.size<=b) W v l:=by
 have c:aI fx 9 (w.heap.size+3) W v l:=i.moved (fun k hk=>q k (cy i k hk).1 (cy i k hk).2);exact⟨c.row,fun k hk=>by have j:=cy c k hk;exact⟨by omega,j.2⟩⟩
theorem GV(R:List gT)(size:Int)(i d B:Nat)(w:cd)(v:cq)(hR:Jm B w v R)(hi:i<R.length)(t:ae)(row:List ae)(ht:R[i].toks=t::row)(hd:d<=64)(hn:row.length<=900000)(hsh:∀t∈row,t.text.size<=1048576)(hq:∀t∈row,t.kind=3->lm t.text≠aq)(hRn:R.length<=1000000)(hI:d<64->Ga R size (i+1) (d+1)) :
  cJ bh 66 #[v,ao ar (i:Nat),ao ar (d:Nat)] w (Vj w (zy size (R.drop (i+1)) d (gQ (d+1) R[i].toks R[i].stop R[i].last t.text))):=by
 obtain⟨B4,B6,rfl,B3,-⟩:=hR.len;obtain⟨rb,s,rfl,B2,AY,r0,r1,r2⟩:=hR.get hi;rw[ht] at AY ⊢;obtain⟨Ai,A5⟩:=exq R[i].stop;obtain⟨Ah,A3⟩:=exq R[i].last;rw[<-A5] at r1 ⊢;rw[<-A3] at r2 ⊢;clear A5 A3 ht;have hr:=AY.toks;clear AY;obtain⟨sa,sn,sc⟩:=s;simp only[dS] at r0 hr;obtain⟨ra,rc,he,Bj,Bu,-⟩:=hr.len;cases he
 obtain⟨N,hN⟩:=exq ((t::row).length);have Br:N<=row.length+1/\row.length+1<=N:=by rw[hN];simp
 rw[<-hN] at hr Bj r0;unfold cV at Bu;have HN:=Hh hN;clear hN;obtain⟨R0,AW⟩:=exq (gQ (d+1) (t::row) Ai Ah t.text);have HR:=Hh AW;rw[<-AW];clear AW;obtain⟨b,As,rfl,AD,c0,c1,c2⟩:=hr.get (j:=0) (by simp);simp only[iz,eA,eg] at c0 c1 c2;have H0:=Hh hr;have Bn:=Hh hR;have HI:=Hh hI;clear hr hR hI;have HA:=Hh (OZ.start w (an (aw ⟨b,As,aq⟩) N sc) Ai Ah t.text);go_in;go_wp2;go_loopw [9] (fun iv wr=>∃(m:Nat) (pre:List E7) (v:cq),m<=row.length/\iv=ao ar ((1+m:Nat):Int)/\Hid (yO row m pre)/\Hid (OZ w wr (an (aw ⟨b,As,aq⟩) N sc) Ai Ah t.text v pre)) (fun iv _=>N-(cR iv).toNat)
 .exact⟨0,[],_,ck _,rfl,Hh (yO.zero _),HA⟩
 clear HA c0 c1 c2 AD r0 r1 r2;obtain⟨m,pre,v,hm,rfl,A8,HS⟩:=hrel;have Bw:pre.length<=row.length:=by rw[A8.out.1];exact hm
 obtain⟨M,hM⟩:=exq (1+m);have Bq:M<=1+m/\1+m<=M:=by omega
 rw[<-hM];have hr:=H0.out.below HS.out.b lz;obtain⟨va,vc,rfl,-⟩:=HS.out.own.row.len
 by_cases hlab:∃h:m<row.length,row[m].kind=3
 .obtain⟨A4,h3⟩:=hlab
  have A7:M<(t::row).length:=by simp;omega
  have AC:(t::row)[M]=row[m]:=by subst hM;simp[Nat.add_comm 1]
  obtain⟨bb,ob,he,AD,c0,c1,c2⟩:=hr.get A7;cases he
  rw[AC] at c0 c1 c2;rw[h3] at c0
  obtain⟨x,hx⟩:∃x,lm row[m].text=aw x:=by
   cases h:lm row[m].text with
   |none=>exact absurd h (hq _ (cH A4) h3)
   |some x=>exact⟨x,rfl⟩
  obtain⟨p,e,Bk⟩:=G8 _ x hx;have hQ:=fun W=>vJ row[m].text W (by have:=hsh _ (cH A4);omega);simp only[Bk] at hQ;have Bp:=Hh (A8.out.step A4 h3 hx);have AA:decide ((M:Int)<(N:Int))=true:=by rw[decide_eq_true_iff];omega
  generalize row[m]=tk at *;have k1:=HS.out.k1;have k2:=HS.out.k2;have Bj:=k1.lt;have Bv:=k2.lt;obtain⟨Ab,Ae,Ac,Af,Ad,Ag⟩:=k1.n3 rfl;obtain⟨AG,AN,AH,AO,AI,AP,AJ,AQ,AK,AR,AL,AS,AM,AT⟩:=k2.n7 rfl;clear k1 k2 hr AC Bk hM;have Bo:=Hh HS.out.drew;have Bz:∀w:cd,(Instr.field 140 (ew #[al x,ao ar p,ao ar e]) 0).run bh w=.ok (al x) w:=fun _=>by kernel_rfl
  have Bs:=hQ wr.drew;clear hQ;go_wp2_with fail
  go_region_law (first
   |(go_simp;go_at_call 100;(with_reducible refine Bs.mono ?_);rintro _ w2 ⟨rfl,hb2⟩;have Aj:=Hh (Bo.out.step hb2);have z2:=Aj.out.k2;have BD:=z2.lt;have BB:=z2.cell 5 _ rfl;have BC:=z2.frozen 5;have Bb:=Hh Aj.out.own;clear z2 hb2)
   |(refine zl rfl _ _ _ rfl (w.heap.size+3) 9 16 (al ⟨#[]⟩) Tryz.underlying46 Tryz.infoStr rfl (fun _=>rfl) pre [x] (by exact Bb.out.alloc _) (by exact (aI.lit (f:=fx) (E:=9) (base:=w2.heap.size) (w:=w2) [x] lz (by simp[cV])).row) (by (try simp);unfold cV;omega) (by (try simp);omega) (by have:=Aj.out.le;(try simp);omega) (w2.alloc (aE #[al x] 9)) (ba _ _) ?_;intro v3 w3 hown3 hb3 hg3;obtain⟨B5,B7,rfl,-⟩:=hown3.row.len;have AV:=Hh (((ba w2.heap.size w2).alloc lz (aE #[al x] 9)).mono Aj.out.le |>.trans hb3);have y2:=Aj.out.k2.below AV.out (by omega);have BA:=y2.lt;have B8:=y2.cell 5 _ rfl;have B9:=y2.frozen 5;have Bc:=Hh hown3;clear y2 hown3 hb3 hg3))
  all_goals
   have HN:=Hh (Aj.out.label AV.out Bc.out);clear Bc Bb AV;go_wp2;go_roundw
  all_goals first
   |(exact⟨m+1,_,_,by omega,by go_num,Bp,by have q:=HN.out;simp only[cm,bc,cY,df] at q;exact Hh q⟩)
   |(simp[cR]<;>omega)
 .have A6:gH row=pre/\pre.length=m:=by
   by_cases A4:m<row.length
   .exact A8.out.stop A4 (fun h3=>hlab ⟨A4,h3⟩)
   .exact A8.out.done (by omega)
  have Aa:=HR.out;unfold gQ at Aa;simp only[ec,dd,A6.1,A6.2] at Aa;rw[<-hM] at Aa;clear A6 A8 HR hM
  by_cases A4:m<row.length
  case' pos=>
   have A7:M<(t::row).length:=by simp;omega
   obtain⟨bb,ob,he,AD,c0,c1,c2⟩:=hr.get A7;cases he
   have AC:(t::row)[M]=row[m]:=by
    have hM:M=1+m:=by omega
    subst hM;simp[Nat.add_comm 1]
   have h3:((t::row)[M].kind==3)=false:=by
    rw[Fc,AC];exact fun h3=>hlab ⟨A4,h3⟩
   have AA:decide ((M:Int)<(N:Int))=true:=by rw[decide_eq_true_iff];omega
   have Bh:(t::row)[M]?=aw (t::row)[M]:=br A7;generalize (t::row)[M]=tk at *;have AZ:=Hh Bh;have Aq:=Hh Aa;clear AC hlab Bh hr Aa c1;have An:=nX _ (an (aw ⟨b,As,aq⟩) N sc) (t::row) Ai Ah (M) pg (H0.out.below HS.out.b lz) (by simp;omega) (by omega);rw[show (((M:Nat)):Int)=(M:Int) by omega] at An;obtain⟨sb,Al⟩:∃x,cu ((t::row).drop (M)) pg=x:=⟨_,rfl⟩;rw[Al] at An;have k1:=HS.out.k1;have Ak:=k1.lt;obtain⟨Ab,Ae,Ac,Af,Ad,Ag⟩:=k1.n3 rfl;clear k1;go_wp2_with fail;refine An.mono ?_;clear An Ab Ac Ad Ae Af Ag Ak;rintro _ w2 ⟨rfl,hb2⟩;have Aj:=Hh (HS.out.step hb2);clear hb2;clear c0 h3 AD;cases sb
   case' false=>
    have Aa:=Aq.out;rw[Al,E4 rfl] at Aa;clear Aq Al;have hL:=gG _ (an (aw ⟨b,As,aq⟩) N sc) (t::row) Ai Ah (M) (H0.out.below Aj.out.b lz) (by simp;omega) (by omega);rw[show (((M:Nat)):Int)=(M:Int) by omega] at hL;rw[oU] at Aa;have Ar:=Hh Aa;clear Aa;generalize (dH (t::row) Ai Ah (M)).1=pa at *;generalize (dH (t::row) Ai Ah (M)).2=pe at *;simp only[bL] at hL;have k1:=Aj.out.k1;have Ak:=k1.lt;obtain⟨Ab,Ae,Ac,Af,Ad,Ag⟩:=k1.n3 rfl;clear k1;go_wp2_with fail;refine hL.mono ?_;clear hL Ab Ac Ad Ae Af Ag Ak;rintro _ w4 ⟨rfl,hb4⟩;have Ap:=Hh (Aj.out.step hb4);clear hb4
   case' true=>
    have Aa:=Aq.out;rw[Al,E6 (by decide),AZ.out] at Aa;clear Aq Al
    by_cases hd64:d=64
    case pos=>
     rw[E4 (by omega)] at Aa;simp only at Aa;subst hd64;obtain⟨bb,ob,he,AD,c0,c1,c2⟩:=(H0.out.below Aj.out.b lz).get A7;cases he
     have AF:(t::row)[M].pos=tk.pos:=by
      have:=AZ.out;rw[br A7] at this;rw[Option.some.inj this]
     rw[AF] at c2;have Ar:=Hh Aa;have k1:=Aj.out.k1;have Ak:=k1.lt;obtain⟨Ab,Ae,Ac,Af,Ad,Ag⟩:=k1.n3 rfl;clear k1 Aa c0 c1 AF;go_wp2_with (with_reducible first|refine bv ?_)
     refine Stop.out ?_;refine az rfl 50 _ _ rfl rfl _ rfl (bL tk.pos 5) rfl _ _ (Aj.out.k0) rfl (by kernel_rfl) (lU _ _ _ _ _ _ _ _ _ _ _ _ _ _ _ _ _ _ _) ?_;have hq:aa ((w2).setRow w.heap.size (bL tk.pos 5)) w.heap.size (bL tk.pos 5) 50:=fR _ _ _ _ _ _ (Aj.out.k0);go_wp2_with fail;obtain⟨At,Au,Av,Aw,Ax,Ay,Az,A0,A1,A2,Am⟩:=hq.m11 rfl;refine bj (v:=ew (bL tk.pos 5)) (by simp[cD,Z1,go_sem,At,Au,Av,Aw,Ax,Ay,Az,A0,A1,A2,Am]) rfl ?_
     rw[Ar.out,Jc];exact .bad (fy Aj.out.b lz _)
    case' neg=>
     rw[E6 (by omega)] at Aa;have By:decide ((64:Int)<=(d:Int))=false:=by rw[decide_eq_false_iff_not];omega
     have Aq:=Hh Aa;clear Aa;have An:=nX _ (an (aw ⟨b,As,aq⟩) N sc) (t::row) Ai Ah (M+1) mZ (H0.out.below Aj.out.b lz) (by simp;omega) (by omega);rw[show (((M+1:Nat)):Int)=(M:Int)+1 by omega] at An;obtain⟨sb,Al⟩:∃x,cu ((t::row).drop (M+1)) mZ=x:=⟨_,rfl⟩;rw[Al] at An;have k1:=Aj.out.k1;have Ak:=k1.lt;obtain⟨Ab,Ae,Ac,Af,Ad,Ag⟩:=k1.n3 rfl;clear k1;go_wp2_with fail;refine An.mono ?_;clear An Ab Ac Ad Ae Af Ag Ak;rintro _ w3 ⟨rfl,hb2⟩;have Ao:=Hh (Aj.out.step hb2);clear hb2;have Aa:=Aq.out;rw[<-HN.out] at Aa;have k1:=Ao.out.k1;have Bt:=k1.lt;cases sb
     case' true=>
      have AE:=QP Al;rw[<-HN.out] at AE;simp only[ec] at Al;rw[E6 (by omega),Al,E6 (by decide)] at Aa;clear Aq Al
      by_cases h2:M+2<N
      case' pos=>
       rw[E4 h2] at Aa;have Bf:(M:Int)+2<(N:Int):=by omega
       clear h2;obtain⟨Ab,Ae,Ac,Af,Ad,Ag⟩:=k1.n3 rfl;clear k1;have hL:=gG _ (an (aw ⟨b,As,aq⟩) N sc) (t::row) Ai Ah (M+2) (H0.out.below Ao.out.b lz) (by simp;omega) (by omega);rw[show (((M+2:Nat)):Int)=(M:Int)+2 by omega] at hL;rw[oU] at Aa;have Ar:=Hh Aa;clear Aa;generalize (dH (t::row) Ai Ah (M+2)).1=pa at *;generalize (dH (t::row) Ai Ah (M+2)).2=pe at *;simp only[bL] at hL;go_wp2_with fail;refine hL.mono ?_;clear hL Ab Ac Ad Ae Af Ag;rintro _ w4 ⟨rfl,hb4⟩;have Ap:=Hh (Ao.out.step hb4);clear hb4
      case neg=>
       rw[E6 h2] at Aa;have Bf:decide ((M:Int)+2<(N:Int))=false:=by rw[decide_eq_false_iff_not];omega
       have Ar:=Hh Aa;have k2:=Ao.out.k2;have AX:=k2.lt;obtain⟨Ab,Ae,Ac,Af,Ad,Ag⟩:=k1.n3 rfl;obtain⟨AG,AN,AH,AO,AI,AP,AJ,AQ,AK,AR,AL,AS,AM,AT⟩:=k2.n7 rfl;clear k1 k2 h2 Aa;go_wp2_with (with_reducible first|refine bv ?_)
       refine Stop.out ?_;refine az rfl 50 _ _ rfl rfl _ rfl (#[an aq 0 0,ao ar (1),ao ar 0,ao ar 0,cG true,al t.text,al ⟨#[]⟩,al ⟨#[]⟩,an aq 0 0,an va pre.length vc,an aq 0 0]) rfl _ _ (Ao.out.k0) rfl (by kernel_rfl) (lU _ _ _ _ _ _ _ _ _ _ _ _ _ _ _ _ _ _ _) ?_;have hq:aa ((w3).setRow w.heap.size (#[an aq 0 0,ao ar (1),ao ar 0,ao ar 0,cG true,al t.text,al ⟨#[]⟩,al ⟨#[]⟩,an aq 0 0,an va pre.length vc,an aq 0 0])) w.heap.size (#[an aq 0 0,ao ar (1),ao ar 0,ao ar 0,cG true,al t.text,al ⟨#[]⟩,al ⟨#[]⟩,an aq 0 0,an va pre.length vc,an aq 0 0]) 50:=fR _ _ _ _ _ _ (Ao.out.k0);go_wp2_with fail;obtain⟨At,Au,Av,Aw,Ax,Ay,Az,A0,A1,A2,Am⟩:=hq.m11 rfl;refine bj (v:=ew (#[an aq 0 0,ao ar (1),ao ar 0,ao ar 0,cG true,al t.text,al ⟨#[]⟩,al ⟨#[]⟩,an aq 0 0,an va pre.length vc,an aq 0 0])) (by simp[cD,Z1,go_sem,At,Au,Av,Aw,Ax,Ay,Az,A0,A1,A2,Am]) rfl ?_
       rw[Ar.out,OL];refine⟨fy Ao.out.b lz _,true,t.text,⟨#[]⟩,⟨#[]⟩,aq,0,0,va,pre.length,vc,aq,0,0,rfl,?_⟩;exact aX.leaf (af.leaf _ _ _ _) (Mf Ao.out.own (ox (rN _ _ _).symm) (fun k hk _=>ml _ _ _ _ (by omega)))
     case' false=>
      by_cases h1:N=M+1
      case pos=>
       rw[E4 h1] at Aa;have Bx:decide ((M:Int)+1<(N:Int))=false:=by rw[decide_eq_false_iff_not];omega
       have AU:=HI.out (by omega) w3 _ B (Bn.out.below2 Ao.out.b);rw[show ((i+1:Nat):Int)=(i:Int)+1 by omega,show ((d+1:Nat):Int)=(d:Int)+1 by omega] at AU;have Ar:=Hh Aa;obtain⟨g,hg⟩:=exq (dP size (R.drop (i+1)) (d+1) [] 0);rw[<-hg] at AU;have HG:=Hh hg;obtain⟨gl,gn,ga,ge⟩:=g;obtain⟨Ab,Ae,Ac,Af,Ad,Ag⟩:=k1.n3 rfl;clear k1 h1 Aa hg Aq Al;go_wp2_with fail;refine AU.mono ?_;clear AU Ab Ac Ad Ae Af Ag;rintro e4 w4 ⟨hb4,hbad,hok⟩;simp only at hbad hok;have Ap:=Hh (Ao.out.step hb4)
       by_cases he:ge=0
       .subst he
        obtain⟨ia,ic,rfl,Bi⟩:=hok rfl;have HX:=Jh Bi Ao.out.le;clear hok hbad hb4 Bi;have k2:=Ap.out.k2;have AX:=k2.lt;obtain⟨AG,AN,AH,AO,AI,AP,AJ,AQ,AK,AR,AL,AS,AM,AT⟩:=k2.n7 rfl;clear k2
        have B0:gn<=1000000:=by
         have:=Iy size (R.drop (i+1)) (d+1) [] 0 (by rw[<-HG.out]);rw[<-HG.out] at this;simp only[bm] at this;omega
        have A9:=Hh ((Ap.out.b.setCell (p:=⟨w.heap.size+2,6,aq⟩) (by show w.heap.size<=w.heap.size+2;omega) (an ia gl.length ic)).alloc (by rw[gj];have:=Ap.out.le;omega) (aE #[an ia gl.length ic,ao ar (gn:Nat),ao ar 0,ao ar 0,cG false,al ⟨#[]⟩,al ⟨#[]⟩,al ⟨#[]⟩,an aq 0 0,an aq 0 0,an aq 0 0] 50));have Ba:Hid (aa ((w4.setCell ⟨w.heap.size+2,6,aq⟩ (an ia gl.length ic)).alloc (aE #[an ia gl.length ic,ao ar (gn:Nat),ao ar 0,ao ar 0,cG false,al ⟨#[]⟩,al ⟨#[]⟩,al ⟨#[]⟩,an aq 0 0,an aq 0 0,an aq 0 0] 50)) w.heap.size (bL 0 0) 50):=Hh ((Ap.out.k0.setOther _ _ (by show w.heap.size+2≠_;omega)).alloc _);go_upto_region 21 with fail
        go_wp2_with (with_reducible first|refine bv ?_)
        refine Stop.out ?_;refine az rfl 50 _ _ rfl rfl _ rfl (#[an aq 0 0,ao ar ((gn:Int)+1),ao ar 0,ao ar 0,cG true,al t.text,al ⟨#[]⟩,al ⟨#[]⟩,an aq 0 0,an va pre.length vc,an ia gl.length ic]) rfl _ _ (Ba.out) rfl (by kernel_rfl) (lU _ _ _ _ _ _ _ _ _ _ _ _ _ _ _ _ _ _ _) ?_;have hq:aa ((((w4.setCell ⟨w.heap.size+2,6,aq⟩ (an ia gl.length ic)).alloc (aE #[an ia gl.length ic,ao ar (gn:Nat),ao ar 0,ao ar 0,cG false,al ⟨#[]⟩,al ⟨#[]⟩,al ⟨#[]⟩,an aq 0 0,an aq 0 0,an aq 0 0] 50))).setRow w.heap.size (#[an aq 0 0,ao ar ((gn:Int)+1),ao ar 0,ao ar 0,cG true,al t.text,al ⟨#[]⟩,al ⟨#[]⟩,an aq 0 0,an va pre.length vc,an ia gl.length ic])) w.heap.size (#[an aq 0 0,ao ar ((gn:Int)+1),ao ar 0,ao ar 0,cG true,al t.text,al ⟨#[]⟩,al ⟨#[]⟩,an aq 0 0,an va pre.length vc,an ia gl.length ic]) 50:=fR _ _ _ _ _ _ (Ba.out);go_wp2_with fail;obtain⟨At,Au,Av,Aw,Ax,Ay,Az,A0⟩:=hq.m8 rfl
        obtain⟨-,-,-,-,-,-,-,-,A1,A2,Am⟩:=hq.m11 rfl;refine bj (v:=ew (#[an aq 0 0,ao ar ((gn:Int)+1),ao ar 0,ao ar 0,cG true,al t.text,al ⟨#[]⟩,al ⟨#[]⟩,an aq 0 0,an va pre.length vc,an ia gl.length ic])) (by simp[cD,Z1,go_sem,At,Au,Av,Aw,Ax,Ay,Az,A0,A1,A2,Am]) rfl ?_;rw[Ar.out];unfold zy;rw[<-HG.out];simp only;rw[E6 (by simp)]
        have AB:∀k,w.heap.size+3<=k->k<w4.heap.size->(((w4.setCell ⟨w.heap.size+2,6,aq⟩ (an ia gl.length ic)).alloc (aE #[an ia gl.length ic,ao ar (gn:Nat),ao ar 0,ao ar 0,cG false,al ⟨#[]⟩,al ⟨#[]⟩,al ⟨#[]⟩,an aq 0 0,an aq 0 0,an aq 0 0] 50)).setRow w.heap.size (#[an aq 0 0,ao ar ((gn:Int)+1),ao ar 0,ao ar 0,cG true,al t.text,al ⟨#[]⟩,al ⟨#[]⟩,an aq 0 0,an va pre.length vc,an ia gl.length ic])).heap[k]?=w4.heap[k]?:=fun k h1 h2=>by
         rw[ml _ _ _ _ (by omega),fX _ _ _ (by rw[gj];exact h2),Below.heap_setCell _ _ _ _ (by show k≠w.heap.size+2;omega)]
        have Bl:w4.heap.size<=(((w4.setCell ⟨w.heap.size+2,6,aq⟩ (an ia gl.length ic)).alloc (aE #[an ia gl.length ic,ao ar (gn:Nat),ao ar 0,ao ar 0,cG false,al ⟨#[]⟩,al ⟨#[]⟩,al ⟨#[]⟩,an aq 0 0,an aq 0 0,an aq 0 0] 50)).setRow w.heap.size (#[an aq 0 0,ao ar ((gn:Int)+1),ao ar 0,ao ar 0,cG true,al t.text,al ⟨#[]⟩,al ⟨#[]⟩,an aq 0 0,an va pre.length vc,an ia gl.length ic])).heap.size:=by rw[rN,cF,gj];omega
        refine⟨fy A9.out lz _,true,t.text,⟨#[]⟩,⟨#[]⟩,aq,0,0,va,pre.length,vc,ia,gl.length,ic,rfl,?_⟩;exact aX.whole (af.leaf _ _ _ _) (Mf Ap.out.own Bl AB) (jM.move Bl (fun k hk hl=>AB k (dy HX.out.2 hk) hl) (fun k hk _=>by have h9:=HX.out.2;have h8:w3.heap.size<=k:=hk;show w.heap.size<=k;omega) HX.out.1)
       .have Bg:=hbad he
        simp only[bL] at Bg;subst Bg;have B1:(ge != 0)=true:=by simpa using he
        clear hok hbad hb4;have Be:∀o,cj w4.heap.size w4 (w4.alloc o):=fun o=>(ba _ w4).alloc lz o;have A9:=Hh (fun o=>Ap.out.step (Be o));clear Be;go_upto_region 19 with fail
        go_wp2_with (with_reducible first|refine bv ?_)
        refine Stop.out ?_;refine az rfl 50 _ _ rfl rfl _ rfl (bL ga ge) rfl _ _ ((A9.out _).k0) rfl (by kernel_rfl) (lU _ _ _ _ _ _ _ _ _ _ _ _ _ _ _ _ _ _ _) ?_;have hq:aa ((w4.alloc (aE (bL ga ge) 50)).setRow w.heap.size (bL ga ge)) w.heap.size (bL ga ge) 50:=fR _ _ _ _ _ _ ((A9.out _).k0);go_wp2_with fail;obtain⟨At,Au,Av,Aw,Ax,Ay,Az,A0,A1,A2,Am⟩:=hq.m11 rfl;refine bj (v:=ew (bL ga ge)) (by simp[cD,Z1,go_sem,At,Au,Av,Aw,Ax,Ay,Az,A0,A1,A2,Am]) rfl ?_
        rw[Ar.out];unfold zy;rw[<-HG.out];simp only;rw[E4 he];exact .bad (fy (A9.out _).b lz _)
      case' neg=>
       simp only[ec] at Al;rw[E6 h1,Al,E4 rfl] at Aa;have AE:M+1<N:=by omega
       have Bf:(M:Int)+1<(N:Int):=by omega
       clear h1 Aq Al;obtain⟨Ab,Ae,Ac,Af,Ad,Ag⟩:=k1.n3 rfl;clear k1;have hL:=gG _ (an (aw ⟨b,As,aq⟩) N sc) (t::row) Ai Ah (M+1) (H0.out.below Ao.out.b lz) (by simp;omega) (by omega);rw[show (((M+1:Nat)):Int)=(M:Int)+1 by omega] at hL;rw[oU] at Aa;have Ar:=Hh Aa;clear Aa;generalize (dH (t::row) Ai Ah (M+1)).1=pa at *;generalize (dH (t::row) Ai Ah (M+1)).2=pe at *;simp only[bL] at hL;go_wp2_with fail;refine hL.mono ?_;clear hL Ab Ac Ad Ae Af Ag;rintro _ w4 ⟨rfl,hb4⟩;have Ap:=Hh (Ao.out.step hb4);clear hb4
  case' neg=>
   have Bd:N=M:=by omega
   have AA:decide ((M:Int)<(N:Int))=false:=by rw[decide_eq_false_iff_not];omega
   have Aq:=Hh Aa;have Bm:=Hh Bd;clear hlab Aa hr Bd;have An:=nX _ (an (aw ⟨b,As,aq⟩) N sc) (t::row) Ai Ah (M) pg (H0.out.below HS.out.b lz) (by simp;omega) (by omega);rw[show (((M:Nat)):Int)=(M:Int) by omega] at An;obtain⟨sb,Al⟩:∃x,cu ((t::row).drop (M)) pg=x:=⟨_,rfl⟩;rw[Al] at An;have k1:=HS.out.k1;have Ak:=k1.lt;obtain⟨Ab,Ae,Ac,Af,Ad,Ag⟩:=k1.n3 rfl;clear k1;go_wp2_with fail;refine An.mono ?_;clear An Ab Ac Ad Ae Af Ag Ak;rintro _ w2 ⟨rfl,hb2⟩;have Aj:=Hh (HS.out.step hb2);clear hb2;have Aa:=Aq.out;rw[show cu ((t::row).drop M) pg=false by rw[ek (by rw[<-HN.out,Bm.out];exact cA _)];rfl] at Al Aa;subst Al;rw[E4 rfl] at Aa;clear Aq;have hL:=gG _ (an (aw ⟨b,As,aq⟩) N sc) (t::row) Ai Ah (M) (H0.out.below Aj.out.b lz) (by simp;omega) (by omega);rw[show (((M:Nat)):Int)=(M:Int) by omega] at hL;rw[oU] at Aa;have Ar:=Hh Aa;clear Aa;generalize (dH (t::row) Ai Ah (M)).1=pa at *;generalize (dH (t::row) Ai Ah (M)).2=pe at *;simp only[bL] at hL;have k1:=Aj.out.k1;have Ak:=k1.lt;obtain⟨Ab,Ae,Ac,-⟩:=k1.n2 rfl
   obtain⟨-,-,-,Af,Ad,Ag⟩:=k1.n3 rfl;clear k1;go_wp2_with fail;refine hL.mono ?_;clear hL Ab Ac Ad Ae Af Ag Ak;rintro _ w4 ⟨rfl,hb4⟩;have Ap:=Hh (Aj.out.step hb4);clear hb4
  all_goals
   go_wp2_with (with_reducible first|refine bv ?_)
   refine Stop.out ?_;refine az rfl 50 _ _ rfl rfl _ rfl (bL pa pe) rfl _ _ (Ap.out.k0) rfl (by kernel_rfl) (lU _ _ _ _ _ _ _ _ _ _ _ _ _ _ _ _ _ _ _) ?_;have hq:aa ((w4).setRow w.heap.size (bL pa pe)) w.heap.size (bL pa pe) 50:=fR _ _ _ _ _ _ (Ap.out.k0);go_wp2_with fail;obtain⟨At,Au,Av,Aw,Ax,Ay,Az,A0,A1,A2,Am⟩:=hq.m11 rfl;refine bj (v:=ew (bL pa pe)) (by simp[cD,Z1,go_sem,At,Au,Av,Aw,Ax,Ay,Az,A0,A1,A2,Am]) rfl ?_
   rw[Ar.out,Jc];exact .bad (fy Ap.out.b lz _)
structure MM(B:Nat)(w:cd)(lv:cq)(D:List (bX×List cq)):Prop where
 own:w.ownsRow B 48 7 lv D.length (D.flatMap (·.2))
 fin:∀d∈D,aX (fun q=>B<=q/\lv.ownBlock≠aw q) w d.1 d.2
theorem MM.nil(B:Nat)(w:cd):MM B w (an aq 0 0) []:=⟨World.ownsRow_nil _ _ _ _,fun d hd=>by cases hd⟩
section
variable {B:Nat} {w w' w'':cd} {lv v':cq} {D:List (bX×List cq)}
theorem MM.below(h:MM B w lv D)(hb:cj w.heap.size w w'):MM B w' lv D:=
 ⟨cZ h.own (fun k e=>hb.block k (cy h.own k e).2),fun d hd=>aX.below hb _ _ (h.fin d hd)⟩
theorem MM.push{cs:List Value}(h:MM B w lv D){x:bX}{g2 c2:Nat}(i:cj w.heap.size w w')(z:aX (fun q=>w.heap.size<=q) w' x cs)(f:w'.grownBy w'' lv.ownBlock)(r:w''.ownsRow B 48 7 (an (aw ⟨g2,0,aq⟩) (D.length+1) c2) (D.length+1) (D.flatMap (·.2)++cs))(c:lv.ownBlock=aw g2\/g2=w'.heap.size)(A:B<=w.heap.size):MM B w'' (an (aw ⟨g2,0,aq⟩) (D.length+1) c2) (D++[(x,cs)]):=by
 have j:=fun k e=>(cy h.own k e).2;have u:=i.size;refine⟨?_,fun d hd=>?_⟩
 .rw[List.flatMap_append,cm,eh]
  simpa using r
 .rcases List.mem_append.1 hd with hd|hd
  .refine aX.move (dy i.size f.size) (fun k hk hl2=>?_) (fun k hk hl2=>⟨hk.1,?_⟩) _ _ (h.fin d hd)
   .rw[f.block k (by omega) (fun e=>hk.2 e.symm),i.block k hl2]
   .intro e
    have e:g2=k:=by simpa [ev] using e
    subst e;rcases c with q|q
    .exact hk.2 q
    .omega
  .rw[de.1 hd]
   refine aX.move f.size (fun k hk hl2=>f.block k hl2 (fun e=>by have hk:w.heap.size<=k:=hk;have:=j k e.symm;omega)) (fun k hk hl2=>⟨by have hk:w.heap.size<=k:=hk;omega,?_⟩) _ _ z;intro e;have hk:w.heap.size<=k:=hk;have e:g2=k:=by simpa [ev] using e
   subst e;rcases c with q|q
   .have:=j _ q;omega
   .omega
theorem MM.form(h:MM B w lv D):∃a c,lv=an a D.length c:=E5 h.own
theorem MM.done(h:MM B w lv D)(E:w.heap.size<=w'.heap.size)(O:∀k,B<=k->k<w.heap.size->w'.heap[k]?=w.heap[k]?):jM (fun q=>B<=q) w' lv (D.map (·.1)):=by
 have Ac:=cy h.own
 have H:∀cs∈D.map (·.2),cs.length=7:=fun cs hcs=>by
  obtain⟨s,E,rfl⟩:=List.mem_map.1 hcs;exact oJ.len7 (h.fin s E)
 have Ab:OX B w lv (D.map (·.2)):=⟨by rw[cW,<-List.flatMap_def];exact h.own,H⟩;refine jM.move (w:=w) (P:=fun q=>B<=q) E (fun k hk hl=>O k hk hl) (fun k hk _=>hk) ?_
 have Aa:∃a cap,lv=an a D.length cap/\D.length<=cap/\cap<=cV/\(a=aq->cap=0)/\∀x,a=aw x->x.spot=aq/\lv.ownBlock=aw x.block:=by
  rcases h.own.2 with ⟨i,o⟩|⟨g,cap,G,i,-,-,o,A,-⟩
  .exact⟨aq,0,by rw[i,o],by rw[o];exact cA _,ck _,fun _=>rfl,fun x hx=>by cases hx⟩
  .exact⟨_,cap,i,o,A,(fun h=>by cases h),fun x hx=>by cases hx;exact⟨rfl,by rw[i];rfl⟩⟩
 obtain⟨a,cap,i,o,A,K,L⟩:=Aa;refine⟨a,cap,by rw[i,cW],by rw[cW];exact o,A,K,fun x hx hne=>?_⟩;obtain⟨N,F⟩:=L x hx;refine⟨N,⟨(Ac _ F).2,(Ac _ F).1⟩,kP.make _ _ (fun k hk=>?_)⟩;rw[cW] at hk;rw[i] at Ab;obtain⟨g,C,-,-,I,-⟩:=Ab.cellAt (k:=k) (by simpa using hk);rw[hx] at C;cases C
 refine⟨D[k].2,fun j u hu=>?_,?_⟩
 .rw[df]
  exact I j u (by simpa using hu)
 .rw[List.getElem_map]
  exact aX.move lz (fun _ _ _=>rfl) (fun k hk _=>hk.1) _ _ (h.fin _ (cH hk))
end
theorem xU{ops:Array Oper}{rest:List Oper}{p:Oper}{a:Act}{Q:Exit->Act->cd->Prop}(C:p.guard=aq)(s x:Operand)(E:p.op=.call { callee:=.builtin .append,args:=#[s,x],argTypes:=#[30,30] })(B:Nat)(lv:cq)(D:List (bX×List cq))(cs:List cq)(M:a.eval s=lv)(A:w.ownsRow B 48 7 lv D.length (D.flatMap (·.2)))(g:Nat)(N:a.eval x=an (aw ⟨g,0,aq⟩) 1 1)(L:aa w g cs.toArray 48)(G:cs.length=7)(q:∀u∈cs,u.oneCell'=true)(O:D.length<=1000000)(f:B<=w.heap.size)(H:Nat)(I:w.heap.size=H)(J:∀g2 c2 w',w'.ownsRow B 48 7 (an (aw ⟨g2,0,aq⟩) (D.length+1) c2) (D.length+1) (D.flatMap (·.2)++cs)->w.grownBy w' lv.ownBlock->(lv.ownBlock=aw g2\/g2=H)->
   wpList bh ops Q rest (a.put p.dst (an (aw ⟨g2,0,aq⟩) (D.length+1) c2)) w'):wpList bh ops Q (p::rest) a w:=by
 obtain⟨i,Aa,Ab,Ac,Ad⟩:=info_parts Tryz.infoItm;refine wpList_append_lies w C s x 30 E B 48 i _ 7 128 Tryz.underlying30 Aa Ab Ac Ad rfl (by decide) lv D.length (D.flatMap (·.2)) M A ⟨g,0,aq⟩ 1 1 cs N (by rw[G]) ?_ q (by omega) (by unfold cV;omega) (by omega) f H I (fun g2 c2 w' q h2 h3 _=>J g2 c2 w' q h2 h3);intro j u F;rw[Addr.add_lit,df];exact L.cell _ _ (by simpa using F)
theorem BQ(size:Int)(R:List gT)(i d:Nat)(hi:i<R.length)(out:List bX)(n:Nat):dP size (R.drop i) d out n=(match bn (d+1) R[i].toks R[i].stop R[i].last with
  |.wrong a e=>⟨[],0,a,e⟩
  |.empty=>dP size (R.drop (i+1)) d out (n+1)
  |.attr x=>dP size (R.drop (i+1)) d (out++[x]) (n+1)
  |.bare x=>dP size (R.drop (i+1)) d (out++[x]) (n+1)
  |.fin=>⟨out,n+1,0,0⟩
  |.begins x=>if (dP size (R.drop (i+1)) (d+1) [] 0).e≠0 then ⟨[],0,(dP size (R.drop (i+1)) (d+1) [] 0).at_,(dP size (R.drop (i+1)) (d+1) [] 0).e⟩ else dP size (R.drop (i+1+(dP size (R.drop (i+1)) (d+1) [] 0).n)) d (out++[.mk x.block x.name x.value x.labels (dP size (R.drop (i+1)) (d+1) [] 0).l]) (n+((dP size (R.drop (i+1)) (d+1) [] 0).n+1))):=by
 unfold dP;rw[cg hi,bc,oV]
 cases bn (d+1) R[i].toks R[i].stop R[i].last with
 |wrong a e=>rfl
 |empty=>rfl
 |attr x=>rfl
 |bare x=>rfl
 |fin=>rfl
 |begins x=>
  simp only;split
  .rfl
  .rw[c4]
   exact kL size _ _ _ d _ _ (by simp only[bm];omega) (by omega)
theorem Om(size:Int)(R:List gT)(i d:Nat)(hi:R.length<=i)(out:List bX)(n:Nat):dP size (R.drop i) d out n=if 0<d then ⟨[],0,size,2⟩ else ⟨out,n,0,0⟩:=by
 unfold dP;rw[ek hi];rfl
theorem zf(row:List ae)(stop:Int)(last:Bool)(name:E7):(∃a e,lK row stop last name=.wrong a e)\/∃x,lK row stop last name=.attr x:=by
 unfold lK fF;repeat' split
 all_goals first
  |exact .inl ⟨_,_,rfl⟩
  |exact .inr ⟨_,rfl⟩
theorem Et(n:Nat)(row:List ae)(stop:Int)(last:Bool)(name:E7):gQ n row stop last name≠.empty/\gQ n row stop last name≠.fin:=by
 unfold gQ fF;constructor
 all_goals
  simp only;repeat' split
  all_goals (intro q;cases q)
def MF(size:Int)(R:List gT)(d k:Nat)(T:Lb)(out:List bX)(m:Nat):OY->Prop
 |.bad a e=>e≠0/\T=⟨[],0,a,e⟩
 |.one x n=>1<=n/\k+n<=R.length/\T=dP size (R.drop (k+n)) d (out++[x]) (m+n)
theorem Pq(size:Int)(R:List gT)(k d:Nat)(hi:k<R.length)(B:pO)(j:bn (d+1) R[k].toks R[k].stop R[k].last=B)(z:B≠.empty)(A:B≠.fin)(out:List bX)(m:Nat) :
  MF size R d k (dP size (R.drop k) d out m) out m (zy size (R.drop (k+1)) d B):=by
 rw[BQ size R k d hi,j]
 cases B with
 |wrong a e=>
  refine⟨?_,rfl⟩;rcases zI (d+1) R[k].toks R[k].stop R[k].last with ⟨u,v,c,f⟩|c
  .rw[j] at f
   cases f
   exact c
  .rw[j] at c
   generalize R[k].toks=tk at c;cases c
 |empty=>exact absurd rfl z
 |fin=>exact absurd rfl A
 |attr x=>exact⟨cA _,hi,rfl⟩
 |bare x=>exact⟨cA _,hi,rfl⟩
 |begins x=>
  unfold zy;simp only;have o:=Iy size (R.drop (k+1)) (d+1) [] 0;generalize dP size (R.drop (k+1)) (d+1) [] 0=g at *
  by_cases b:g.e≠0
  .rw[E4 b,E4 b]
   exact⟨b,rfl⟩
  .rw[E6 b,E6 b]
   have:=o (by simpa using b);rw[bm] at this;refine⟨by omega,by omega,?_⟩;rw[show k+(g.n+1)=k+1+g.n by omega]
theorem yf{rest:List gT}{out:List bX}{m:Nat}(h:MF size R d k T out m (zy size rest d (.wrong a e))):e≠0/\T=⟨[],0,a,e⟩:=h
def Va(w wr:cd)(R:List gT)(size:Int)(d i k:Nat)(T:Lb)(lv:cq)(D:List (bX×List cq)):Prop:=
 MM (w.heap.size+1) wr lv D/\T=dP size (R.drop k) d (D.map (·.1)) (k-i)/\D.length<=k/\cj w.heap.size w wr/\aa wr w.heap.size (bL 0 0) 50/\i<=k/\w.heap.size+1<=wr.heap.size
theorem Va.below{wr:cd}{i:Nat}{D:List (bX×List cq)}(h:Va w wr R size d i k T lv D)(hb:cj wr.heap.size wr W):Va w W R size d i k T lv D:=
 ⟨h.1.below hb,h.2.1,h.2.2.1,h.2.2.2.1.trans (hb.mono h.2.2.2.1.size),h.2.2.2.2.1.below hb h.2.2.2.2.1.lt,h.2.2.2.2.2.1,dy h.2.2.2.2.2.2 hb.size⟩
theorem Vr(b:Bool)(n o s:E7)(u:Option pC)(x w:Nat)(i:Option pC)(q j:Nat)(f:Option pC)(k c:Nat):∀v∈([cG b,al n,al o,al s,an u x w,an i q j,an f k c]:List cq),v.oneCell'=true:=by
 intro v d;simp at d
 rcases d with rfl|rfl|rfl|rfl|rfl|rfl|rfl<;>rfl
theorem BP(R:List gT)(size:Int)(hRn:R.length<=1000000)(hne:0<R.length)(hlast:(R[R.length-1]'(by omega)).stop=size)(hrow:∀r∈R,r.toks.length<=900000/\∀t∈r.toks,t.text.size<=1048576/\(t.kind=3->lm t.text≠aq))(i d:Nat)(hi:i<=R.length)(hd:d<=64)(IH:∀j e,i<j->j<=R.length->e<=64->Ga R size j e):Ga R size i d:=by
 intro w v B hR;obtain⟨Cb,Bw,rfl,BZ,BN⟩:=hR.len;unfold cV at BN;obtain⟨T,hT⟩:=exq (dP size (R.drop i) d [] 0);rw[<-hT];have HA:Hid (Va w (w.alloc (aE (bL 0 0) 50)) R size d i i T (an aq 0 0) []):=Hh ⟨MM.nil _ _,by rw[hT,Nat.sub_self];rfl,ck _,(ba _ w).alloc lz _,aa.new w _ _,cA _,by simp⟩;have HR:=Hh hR;have B8:=Hh IH;clear hR hT IH;go_in;go_wp2;go_loopw [1,7] (fun iv lv wr=>∃(k:Nat) (D:List (bX×List cq)),k<=R.length/\iv=ao ar (k:Int)/\Hid (Va w wr R size d i k T lv D)) (fun iv _ _=>R.length-(cR iv).toNat)
 .exact⟨i,[],hi,rfl,HA⟩
 clear HA;obtain⟨k,D,hk,rfl,HS⟩:=hrel;obtain⟨la,lc,rfl⟩:=HS.out.1.form;have Ca:=HS.out.2.2.2.2.2.2;have BT:=HS.out.2.2.1
 by_cases hkl:k<R.length
 .have Br:=HR.out.below HS.out.2.2.2.1
  obtain⟨rb,s,rfl,BL,Bb,r0,r1,r2⟩:=Br.get hkl;have AZ:=hrow R[k] (cH hkl);have Ba:=BQ size R k d hkl (D.map (·.1)) (k-i);have Aq:=fun kk hs h1 h2=>Pq size R k d hkl kk hs h1 h2 (D.map (·.1)) (k-i);rw[<-HS.out.2.1] at Ba Aq;obtain⟨Ab,Ap⟩:=exq R[k].stop;obtain⟨Aa,Ac⟩:=exq R[k].last;obtain⟨Ay,Ak⟩:=exq R[k].toks;rw[<-Ap,<-Ac,<-Ak] at Ba;rw[<-Ap] at r1;rw[<-Ac] at r2;rw[<-Ak] at Bb AZ;have AU:Hid (∀kk,bn (d+1) Ay Ab Aa=kk->kk≠.empty->kk≠.fin->MF size R d k T (D.map (·.1)) (k-i) (zy size (R.drop (k+1)) d kk)):=Hh (by rw[Ak,Ap,Ac];exact Aq)
  have Bm:Hid (∀t row W,Ay=t::row->Jm B W (an (aw ⟨rb,0,aq⟩) R.length Bw) R->cJ bh 66 #[an (aw ⟨rb,0,aq⟩) R.length Bw,ao ar (k:Nat),ao ar (d:Nat)] W (Vj W (zy size (R.drop (k+1)) d (gQ (d+1) Ay Ab Aa t.text)))):=Hh (by
   intro t row W ht hW;have hw:=AZ;rw[ht] at hw;have:=GV R size k d B W _ hW hkl t row (by rw[<-Ak];exact ht) hd (by have:=hw.1;simp at this;omega) (fun u hu=>(hw.2 u (by simp[hu])).1) (fun u hu=>(hw.2 u (by simp[hu])).2) hRn (fun h64=>B8.out (k+1) (d+1) (by have:=HS.out.2.2.2.2.2.1;omega) hkl (by omega));rw[<-Ak,<-Ap,<-Ac] at this
   exact this)
  have Bf:Hid (∀W,cj wr.heap.size wr W->Jm B W (an (aw ⟨rb,0,aq⟩) R.length Bw) R):=Hh (fun W hW=>Br.below hW);obtain⟨sa,sn,sc⟩:=s;simp only[dS] at r0 Bb;have Bg:=Bb.toks;obtain⟨a',c',he,q1,q2,-⟩:=Bg.len;cases he
  unfold cV at q2;clear Aq Ap Ac Ak Bb Br
  cases Ay with
  |nil=>
   have HN:Hid (Va w (wr.alloc (aE #[an sa 0 sc,ao ar Ab,cG Aa] 114)) R size d i (k+1) T (an la D.length lc) D):=Hh (by
    have q:=HS.out.below ((ba _ wr).alloc lz (aE #[an sa 0 sc,ao ar Ab,cG Aa] 114));refine⟨q.1,?_,by have:=q.2.2.1;omega,q.2.2.2.1,q.2.2.2.2.1,by have:=q.2.2.2.2.2.1;omega,q.2.2.2.2.2.2⟩;rw[Ba,show k+1-i=k-i+1 by have:=q.2.2.2.2.2.1;omega]
    rfl)
   clear Ba AZ Bg AU Bm Bf HS;simp only[cY] at r0;go_wp2;go_roundw
   .exact⟨k+1,D,hkl,by go_num,HN⟩
   simp[cR]<;>omega
  |cons t row=>
   have B3:=Hh AZ;have BM:row.length<=900000:=by have:=AZ.1;simp at this;omega
   have AY:=Hh Bg;have Bn:=Hh Ba;obtain⟨N,hN⟩:=exq ((t::row).length);have BD:N<=row.length+1/\row.length+1<=N:=by rw[hN];simp
   rw[<-hN] at r0 q1;have HN:=Hh hN;have Bq:=(ba _ wr).alloc lz (aE #[an sa N sc,ao ar Ab,cG Aa] 114);have Bz:=Hh (aa.new wr #[an sa N sc,ao ar Ab,cG Aa] 114);have As:=nX (wr.alloc (aE #[an sa N sc,ao ar Ab,cG Aa] 114)) (an sa (t::row).length sc) (t::row) Ab Aa 0 mZ (Bg.below Bq lz) (by simp;omega) (by omega);rw[<-hN] at As;simp only[dd,show ((0:Nat):Int)=0 from rfl] at As;obtain⟨sb,Aq⟩:∃x,cu (t::row) mZ=x:=⟨_,rfl⟩;rw[Aq] at As;have Bx:=Hh Bq;clear Ba AZ Bg hN Bq;go_wp2_with fail;refine As.mono ?_;clear As;rintro _ w2 ⟨rfl,hb2⟩;have An:=Hh (Bx.out.trans (hb2.mono Bx.out.size));have A9:=Hh (Bz.out.below hb2 Bz.out.lt);clear hb2 r0 r1 r2;obtain⟨b0,Ar,rfl,BJ,c0,c1,c2⟩:=(AY.out.below An.out lz).get (j:=0) (by simp);simp only[iz,eA,eg] at c0 c1 c2;have BU:0<N:=by omega
   have BV:(0:Int)<(N:Int):=by omega
   cases sb
   case' true=>
    have Bu:t.kind=4:=by
     have:=Aq;unfold cu at this;simp at this
     exact this.1
    by_cases hd0:d=0
    case' pos=>
     have B4:decide ((0:Int)<(d:Int))=false:=by rw[decide_eq_false_iff_not];omega
     rw[Bu] at c0;have Bh:=Hh hd0;have Aw:=Hh Aq;have BG:¬0<d:=by omega
     clear Bu hd0 Aq c1 c2;have Ao:Hid ((dH (t::row) Ab Aa (0)).2≠0/\T=⟨[],0,(dH (t::row) Ab Aa (0)).1,(dH (t::row) Ab Aa (0)).2⟩):=Hh (yf (AU.out (.wrong (dH (t::row) Ab Aa (0)).1 (dH (t::row) Ab Aa (0)).2) (by rw[<-oU];simp only[bn];rw[E4 Aw.out,E4 (by rw[Bh.out])]) (by intro q;cases q) (by intro q;cases q)));have hL:=gG w2 (an (aw ⟨b0,Ar,aq⟩) (t::row).length sc) (t::row) Ab Aa (0) (AY.out.below An.out lz) (by simp;omega) (by omega);rw[<-HN.out] at hL;generalize (dH (t::row) Ab Aa (0)).1=pa at *;generalize (dH (t::row) Ab Aa (0)).2=pe at *;simp only[bL,show ((0:Nat):Int)=0 from rfl] at hL;have k1:=A9.out;have Ad:=k1.lt;obtain⟨Ae,Ah,Af,Ai,Ag,Aj⟩:=k1.n3 rfl;clear k1;go_wp2_with fail;refine hL.mono ?_;clear hL Ae Af Ag Ah Ai Aj Ad;rintro _ w9 ⟨rfl,hb9⟩;have Am:=Hh (HS.out.below (An.out.trans (hb9.mono An.out.size)));clear hb9
    case' neg=>
     have B4:decide ((0:Int)<(d:Int))=true:=by rw[decide_eq_true_iff];omega
     have Bh:=Hh hd0;have Aw:=Hh Aq;have BG:0<d:=by omega
     clear Bu hd0 Aq c0 c1 c2
     by_cases h1:1<N
     case' pos=>
      have BC:(1:Int)<(N:Int):=by omega
      have B7:=Hh h1;have Ao:Hid ((dH (t::row) Ab Aa (1)).2≠0/\T=⟨[],0,(dH (t::row) Ab Aa (1)).1,(dH (t::row) Ab Aa (1)).2⟩):=Hh (yf (AU.out (.wrong (dH (t::row) Ab Aa (1)).1 (dH (t::row) Ab Aa (1)).2) (by rw[<-oU];simp only[bn];rw[E4 Aw.out,E6 (fun q=>Bh.out (by omega)),E4 (by rw[<-HN.out];exact B7.out)]) (by intro q;cases q) (by intro q;cases q)));have hL:=gG w2 (an (aw ⟨b0,Ar,aq⟩) (t::row).length sc) (t::row) Ab Aa (1) (AY.out.below An.out lz) (by simp;omega) (by omega);rw[<-HN.out] at hL;generalize (dH (t::row) Ab Aa (1)).1=pa at *;generalize (dH (t::row) Ab Aa (1)).2=pe at *;simp only[bL,show ((1:Nat):Int)=1 from rfl] at hL;have k1:=A9.out;have Ad:=k1.lt;obtain⟨Ae,Ah,Af,Ai,Ag,Aj⟩:=k1.n3 rfl;clear k1;go_wp2_with fail;refine hL.mono ?_;clear hL Ae Af Ag Ah Ai Aj Ad;rintro _ w9 ⟨rfl,hb9⟩;have Am:=Hh (HS.out.below (An.out.trans (hb9.mono An.out.size)));clear hb9
     case neg=>
      have BC:decide ((1:Int)<(N:Int))=false:=by rw[decide_eq_false_iff_not];omega
      have Ao:Hid (T=⟨D.map (·.1),k-i+1,0,0⟩):=Hh (by
       have hf:bn (d+1) (t::row) Ab Aa=.fin:=by
        simp only[bn];rw[E4 Aw.out,E6 (fun q=>Bh.out (by omega)),E6 (by rw[<-HN.out];exact h1)]
       have:=Bn.out;rw[hf] at this
       exact this)
      have BH:=HS.out.2.2.2.2.2.1;have Am:=Hh (HS.out.below An.out);have k1:=A9.out;have Ad:=k1.lt;obtain⟨Ae,Ah,Af,Ai,Ag,Aj⟩:=k1.n3 rfl;have BS:=Hh h1;clear k1 Bn AU Bm;go_wp2_with (with_reducible first|refine bv ?_)
      refine Stop.out ?_;refine az rfl 50 _ _ rfl rfl _ rfl (#[an la D.length lc,ao ar ((k:Int)+1-(i:Int)),ao ar 0,ao ar 0,cG false,al ⟨#[]⟩,al ⟨#[]⟩,al ⟨#[]⟩,an aq 0 0,an aq 0 0,an aq 0 0]) rfl _ _ (Am.out.2.2.2.2.1) rfl (by kernel_rfl) (lU _ _ _ _ _ _ _ _ _ _ _ _ _ _ _ _ _ _ _) ?_;have hq:aa ((w2).setRow w.heap.size (#[an la D.length lc,ao ar ((k:Int)+1-(i:Int)),ao ar 0,ao ar 0,cG false,al ⟨#[]⟩,al ⟨#[]⟩,al ⟨#[]⟩,an aq 0 0,an aq 0 0,an aq 0 0])) w.heap.size (#[an la D.length lc,ao ar ((k:Int)+1-(i:Int)),ao ar 0,ao ar 0,cG false,al ⟨#[]⟩,al ⟨#[]⟩,al ⟨#[]⟩,an aq 0 0,an aq 0 0,an aq 0 0]) 50:=fR _ _ _ _ _ _ (Am.out.2.2.2.2.1);go_wp2_with fail;obtain⟨Az,A0,A1,A2,A3,A4,A5,A6,A7,A8,Al⟩:=hq.m11 rfl;refine bj (v:=ew (#[an la D.length lc,ao ar ((k:Int)+1-(i:Int)),ao ar 0,ao ar 0,cG false,al ⟨#[]⟩,al ⟨#[]⟩,al ⟨#[]⟩,an aq 0 0,an aq 0 0,an aq 0 0])) (by simp[cD,Z0,go_sem,Az,A0,A1,A2,A3,A4,A5,A6,A7,A8,Al]) rfl ?_
      refine⟨fy Am.out.2.2.2.1 lz _,fun h=>absurd (by rw[Ao.out]) h,fun _=>?_⟩;rw[Ao.out];refine⟨la,lc,?_,?_⟩
      .simp only[cW]
       rw[show ((k-i+1:Nat):Int)=(k:Int)+1-(i:Int) by omega]
      .simp only[cW]
       exact jM.move lz (fun _ _ _=>rfl) (fun q hq _=>by have hq:w.heap.size+1<=q:=hq;show w.heap.size<=q;omega) (Am.out.1.done (ox (rN _ _ _).symm) (fun q hq _=>ml _ _ _ _ (by omega)))
   case' false=>
    by_cases hk1:t.kind=1
    case pos=>
     rw[hk1] at c0;obtain⟨kk,Bv⟩:∃kk,bn (d+1) (t::row) Ab Aa=kk:=⟨_,rfl⟩
     have Bt:kk=if cu row Gc then lK (t::row) Ab Aa t.text else gQ (d+1) (t::row) Ab Aa t.text:=by
      rw[<-Bv];simp only[bn];rw[E6 (by rw[Aq];decide),E6 (by rw[hk1];decide)]
     have AV:=(ba _ w2).alloc lz (aE (bL 0 0) 50);have As:=nX (w2.alloc (aE (bL 0 0) 50)) (an (aw ⟨b0,Ar,aq⟩) (t::row).length sc) (t::row) Ab Aa 1 Gc (AY.out.below (An.out.trans (AV.mono An.out.size)) lz) (by simp;omega) (by omega);rw[<-HN.out] at As;simp only[ec,dd,show ((1:Nat):Int)=1 from rfl] at As;obtain⟨BR,AX⟩:∃x,cu row Gc=x:=⟨_,rfl⟩;rw[AX] at As Bt;have Be:=Hh Bt;have B1:=Hh Bv;have BB:=Hh AX;have Av:=Hh AV;have B0:=Hh (aa.new w2 (bL 0 0) 50);have k1:=A9.out;have Ad:=k1.lt;obtain⟨Ae,Ah,Af,Ai,Ag,Aj⟩:=k1.n3 rfl;clear k1 hk1 Bv Bt AX AV Aq c1 c2 Bn;go_wp2_with fail;refine As.mono ?_;clear As Ae Af Ag Ah Ai Aj Ad c0;rintro _ w3 ⟨rfl,hb3⟩;have Bc:=Hh (An.out.trans ((Av.out.trans (hb3.mono Av.out.size)).mono An.out.size));have B6:=Hh ((A9.out.below Av.out A9.out.lt).below hb3 (cT A9.out.lt Av.out.size));have Bo:=Hh (B0.out.below hb3 B0.out.lt);have BX:w2.heap.size<w3.heap.size:=Bo.out.lt;clear hb3;cases BR
     case' true=>
      cases row
      case nil=>have:=BB.out;simp[cu] at this
      case' cons t2 row=>
       have hC:=JX w3 t t2 row (an (aw ⟨b0,Ar,aq⟩) (t::t2::row).length sc) Ab Aa (AY.out.below Bc.out lz) (by simp at BM;omega) (fun u hu=>(B3.out.2 u (by simp[hu])).1) (fun u hu=>(B3.out.2 u (by simp[hu])).2);rw[<-HN.out] at hC
       have Bj:Hid (bn (d+1) (t::t2::row) Ab Aa=kk/\kk≠.empty/\kk≠.fin):=Hh (by
        refine⟨B1.out,?_,?_⟩<;>(rw[Be.out,E4 rfl];rcases zf (t::t2::row) Ab Aa t.text with ⟨a,e,q⟩|⟨x,q⟩<;>rw[q]<;>intro z<;>cases z))
       have hC:cJ bh 65 #[ew #[an (aw ⟨b0,Ar,aq⟩) N sc,ao ar Ab,cG Aa]] w3 (Vj w3 (zy size (R.drop (k+1)) d kk)):=by
        have q:=Be.out;rw[E4 rfl] at q;rw[q];rcases zf (t::t2::row) Ab Aa t.text with ⟨a,e,q⟩|⟨x,q⟩<;>rw[q] at hC ⊢<;>exact hC
     case' false=>
      have hC:=Bm.out t row w3 rfl (Bf.out w3 Bc.out);have Bj:Hid (bn (d+1) (t::row) Ab Aa=kk/\kk≠.empty/\kk≠.fin):=Hh ⟨B1.out,by rw[Be.out,E6 (by decide)];exact (Et _ _ _ _ _).1,by rw[Be.out,E6 (by decide)];exact (Et _ _ _ _ _).2⟩;have q:=Be.out;rw[E6 (by decide)] at q;rw[<-q] at hC;clear q
     all_goals
      obtain⟨gr,Bs⟩:=exq (zy size (R.drop (k+1)) d kk);have Aw:Hid (MF size R d k T (D.map (·.1)) (k-i) gr):=Hh (by rw[Bs];exact AU.out kk Bj.out.1 Bj.out.2.1 Bj.out.2.2);rw[<-Bs] at hC;clear Bs AU;have k1:=B6.out;have Ad:=k1.lt;obtain⟨Ae,Ah,Af,Ai,Ag,Aj⟩:=k1.n3 rfl;clear k1;go_wp2_with fail;refine hC.mono ?_;clear hC Ae Af Ag Ah Ai Aj Ad;rintro _ w5 ⟨hb5,hres⟩;have By:=Hh (Bc.out.trans (hb5.mono Bc.out.size));have Bi:=Hh (Bo.out.below hb5 Bo.out.lt);have BY:=hb5.size;clear hb5
      cases gr with
      |bad a e=>
       have hres:_=_:=hres;simp only[bL] at hres;subst hres;have Ao:Hid (e≠0/\T=⟨[],0,a,e⟩):=Hh Aw.out;have hne:(e != 0)=true:=by simpa using Ao.out.1
       go_wp2_with (with_reducible first|refine bv ?_)
       refine Stop.out ?_;refine az rfl 50 _ _ rfl rfl _ rfl (bL a e) rfl _ _ Bi.out rfl (by kernel_rfl) (lU _ _ _ _ _ _ _ _ _ _ _ _ _ _ _ _ _ _ _) ?_;have Ax:aa (w5.setRow w2.heap.size (bL a e)) w2.heap.size (bL a e) 50:=fR _ _ _ _ _ _ Bi.out;have Bd:Hid (cj wr.heap.size wr (w5.setRow w2.heap.size (bL a e))):=Hh (fy By.out An.out.size _);have Bk:Hid ((∀q,w3.heap.size<=q->q<w5.heap.size->(w5.setRow w2.heap.size (bL a e)).heap[q]?=w5.heap[q]?)/\w5.heap.size<=(w5.setRow w2.heap.size (bL a e)).heap.size):=Hh ⟨fun q hq _=>ml _ _ _ _ (by omega),ox (rN _ _ _).symm⟩
       generalize w5.setRow w2.heap.size (bL a e)=w6 at *;have BI:=Ax.lt;have Bp:=Hh Ax;obtain⟨AA,AK,AB,AL,AC,AM,AD,AN,AE,AO,AF,AP,AG,AQ,AH,AR,AI,AS,AJ,AT,At,Au⟩:=Ax.n11 rfl;clear Ax;have Am:=Hh (HS.out.below Bd.out);go_upto_region 18 with fail
       go_wp2_with (with_reducible first|refine bv ?_)
       refine Stop.out ?_;refine az rfl 50 _ _ rfl rfl _ rfl (bL a e) rfl _ _ (Am.out.2.2.2.2.1) rfl (by kernel_rfl) (lU _ _ _ _ _ _ _ _ _ _ _ _ _ _ _ _ _ _ _) ?_;have hq:aa ((w6).setRow w.heap.size (bL a e)) w.heap.size (bL a e) 50:=fR _ _ _ _ _ _ (Am.out.2.2.2.2.1);go_wp2_with fail;obtain⟨Az,A0,A1,A2,A3,A4,A5,A6,A7,A8,Al⟩:=hq.m11 rfl;refine bj (v:=ew (bL a e)) (by simp[cD,Z0,go_sem,Az,A0,A1,A2,A3,A4,A5,A6,A7,A8,Al]) rfl ?_
       exact⟨fy Am.out.2.2.2.1 lz _,fun _=>by rw[Ao.out.2],fun h=>absurd h (by rw[Ao.out.2];exact Ao.out.1)⟩
      |one x n=>
       obtain⟨bb,nm,vo,vt,xa,xn,xc,ya,yn,yc,za,zn,zc,rfl,B5⟩:=hres;have B9:=Hh B5;have Ao:Hid (1<=n/\k+n<=R.length/\T=dP size (R.drop (k+n)) d (D.map (·.1)++[x]) (k-i+n)):=Hh Aw.out;have BK:1<=n/\k+n<=R.length:=⟨Ao.out.1,Ao.out.2.1⟩;clear B5;go_wp2_with (with_reducible first|refine bv ?_)
       refine Stop.out ?_;refine az rfl 50 _ _ rfl rfl _ rfl (#[an aq 0 0,ao ar (n:Nat),ao ar 0,ao ar 0,cG bb,al nm,al vo,al vt,an xa xn xc,an ya yn yc,an za zn zc]) rfl _ _ Bi.out rfl (by kernel_rfl) (lU _ _ _ _ _ _ _ _ _ _ _ _ _ _ _ _ _ _ _) ?_;have Ax:aa (w5.setRow w2.heap.size (#[an aq 0 0,ao ar (n:Nat),ao ar 0,ao ar 0,cG bb,al nm,al vo,al vt,an xa xn xc,an ya yn yc,an za zn zc])) w2.heap.size (#[an aq 0 0,ao ar (n:Nat),ao ar 0,ao ar 0,cG bb,al nm,al vo,al vt,an xa xn xc,an ya yn yc,an za zn zc]) 50:=fR _ _ _ _ _ _ Bi.out;have Bd:Hid (cj wr.heap.size wr (w5.setRow w2.heap.size (#[an aq 0 0,ao ar (n:Nat),ao ar 0,ao ar 0,cG bb,al nm,al vo,al vt,an xa xn xc,an ya yn yc,an za zn zc]))):=Hh (fy By.out An.out.size _);have Bk:Hid ((∀q,w3.heap.size<=q->q<w5.heap.size->(w5.setRow w2.heap.size (#[an aq 0 0,ao ar (n:Nat),ao ar 0,ao ar 0,cG bb,al nm,al vo,al vt,an xa xn xc,an ya yn yc,an za zn zc])).heap[q]?=w5.heap[q]?)/\w5.heap.size<=(w5.setRow w2.heap.size (#[an aq 0 0,ao ar (n:Nat),ao ar 0,ao ar 0,cG bb,al nm,al vo,al vt,an xa xn xc,an ya yn yc,an za zn zc])).heap.size):=Hh ⟨fun q hq _=>ml _ _ _ _ (by omega),ox (rN _ _ _).symm⟩
       generalize w5.setRow w2.heap.size (#[an aq 0 0,ao ar (n:Nat),ao ar 0,ao ar 0,cG bb,al nm,al vo,al vt,an xa xn xc,an ya yn yc,an za zn zc])=w6 at *;have BI:=Ax.lt;have Bp:=Hh Ax;obtain⟨AA,AK,AB,AL,AC,AM,AD,AN,AE,AO,AF,AP,AG,AQ,AH,AR,AI,AS,AJ,AT,At,Au⟩:=Ax.n11 rfl;clear Ax;have Am:=Hh (HS.out.below Bd.out);go_wp2_with (with_reducible first|refine aL ?_)
       refine Stop.out ?_;have AW:cj w6.heap.size w6 (w6.alloc (aE #[cG bb,al nm,al vo,al vt,an xa xn xc,an ya yn yc,an za zn zc] 48)):=(ba _ w6).alloc lz _;refine xU rfl _ _ rfl (w.heap.size+1) (an la D.length lc) D [cG bb,al nm,al vo,al vt,an xa xn xc,an ya yn yc,an za zn zc] rfl (by exact (Am.out.1.below AW).own) w6.heap.size rfl (aa.new w6 _ _) rfl (Vr _ _ _ _ _ _ _ _ _ _ _ _ _) (by omega) (by have:=Am.out.2.2.2.2.2.2;simp;omega) _ rfl ?_;intro g7 c7 w7 hown7 hg7 hat7
       have B2:Hid (Va w w7 R size d i (k+n) T (an (aw ⟨g7,0,aq⟩) (D.length+1) c7) (D++[(x,[cG bb,al nm,al vo,al vt,an xa xn xc,an ya yn yc,an za zn zc])])/\aa w7 w2.heap.size (#[an aq 0 0,ao ar (n:Nat),ao ar 0,ao ar 0,cG bb,al nm,al vo,al vt,an xa xn xc,an ya yn yc,an za zn zc]) 50):=Hh (by
        have BF:=Bd.out.trans (AW.mono Bd.out.size);have BO:aX (fun q=>wr.heap.size<=q) (w6.alloc (aE #[cG bb,al nm,al vo,al vt,an xa xn xc,an ya yn yc,an za zn zc] 48)) x [cG bb,al nm,al vo,al vt,an xa xn xc,an ya yn yc,an za zn zc]:=aX.move (dy Bk.out.2 AW.size) (fun q hq hl=>by rw[AW.block q (by have:=Bk.out.2;omega)];exact Bk.out.1 q hq hl) (fun q hq _=>dy Bc.out.size hq) _ _ B9.out;have hp:=HS.out.1.push BF BO hg7 hown7 hat7 HS.out.2.2.2.2.2.2;have hi:=Am.out.below AW;have BE:=hi.2.2.2.1.grown hg7 (by have:=hi.2.2.2.2.2.2;omega) (fun q e=>by have:=(cy hi.1.own q e).1;omega);refine⟨⟨hp,?_,by rw[cm,eh];omega,BE,hi.2.2.2.2.1.kept hg7 (fun e=>dU hi.1.own hi.2.2.2.2.1 (by decide) _ e.symm rfl),by have:=hi.2.2.2.2.2.1;omega,dy hi.2.2.2.2.2.2 hg7.size⟩,?_⟩
        .rw[Ao.out.2.2,eJ,show k+n-i=k-i+n by have:=hi.2.2.2.2.2.1;omega]
         rfl
        .have hc:=Bp.out.below AW Bp.out.lt
         exact hc.kept hg7 (fun e=>dU hi.1.own hc (by decide) _ e.symm rfl))
       clear hown7 hg7 hat7 AW AA AB AC AD AE AF AG AH AI AJ At AK AL AM AN AO AP AQ AR AS AT Au;have z7:=B2.out.2.cell 1 _ rfl;go_wp2;go_roundw
       .exact⟨k+n,_,BK.2,by go_num,Hh B2.out.1⟩
       simp[cR]<;>omega
    case' neg=>
     have BW:(t.kind != 1)=true:=by simpa using hk1
     have BA:=Hh hk1;have Aw:=Hh Aq;clear hk1 Aq c1 c2;have Ao:Hid ((dH (t::row) Ab Aa (0)).2≠0/\T=⟨[],0,(dH (t::row) Ab Aa (0)).1,(dH (t::row) Ab Aa (0)).2⟩):=Hh (yf (AU.out (.wrong (dH (t::row) Ab Aa (0)).1 (dH (t::row) Ab Aa (0)).2) (by rw[<-oU];simp only[bn];rw[E6 (by rw[Aw.out];decide),E4 BA.out]) (by intro q;cases q) (by intro q;cases q)));have hL:=gG w2 (an (aw ⟨b0,Ar,aq⟩) (t::row).length sc) (t::row) Ab Aa (0) (AY.out.below An.out lz) (by simp;omega) (by omega);rw[<-HN.out] at hL;generalize (dH (t::row) Ab Aa (0)).1=pa at *;generalize (dH (t::row) Ab Aa (0)).2=pe at *;simp only[bL,show ((0:Nat):Int)=0 from rfl] at hL;have k1:=A9.out;have Ad:=k1.lt;obtain⟨Ae,Ah,Af,Ai,Ag,Aj⟩:=k1.n3 rfl;clear k1;go_wp2_with fail;refine hL.mono ?_;clear hL Ae Af Ag Ah Ai Aj Ad;rintro _ w9 ⟨rfl,hb9⟩;have Am:=Hh (HS.out.below (An.out.trans (hb9.mono An.out.size)));clear hb9
   all_goals
    go_wp2_with (with_reducible first|refine bv ?_)
    refine Stop.out ?_;refine az rfl 50 _ _ rfl rfl _ rfl (bL pa pe) rfl _ _ (Am.out.2.2.2.2.1) rfl (by kernel_rfl) (lU _ _ _ _ _ _ _ _ _ _ _ _ _ _ _ _ _ _ _) ?_;have hq:aa ((w9).setRow w.heap.size (bL pa pe)) w.heap.size (bL pa pe) 50:=fR _ _ _ _ _ _ (Am.out.2.2.2.2.1);go_wp2_with fail;obtain⟨Az,A0,A1,A2,A3,A4,A5,A6,A7,A8,Al⟩:=hq.m11 rfl;refine bj (v:=ew (bL pa pe)) (by simp[cD,Z0,go_sem,Az,A0,A1,A2,A3,A4,A5,A6,A7,A8,Al]) rfl ?_
    exact⟨fy Am.out.2.2.2.1 lz _,fun _=>by rw[Ao.out.2],fun h=>absurd h (by rw[Ao.out.2];exact Ao.out.1)⟩
 .obtain rfl:k=R.length:=by omega
  have Bl:Hid (T=if 0<d then ⟨[],0,size,2⟩ else ⟨D.map (·.1),R.length-i,0,0⟩):=Hh (by rw[HS.out.2.1,Om size R _ d lz])
  by_cases hd0:0<d
  .have B4:decide ((0:Int)<(d:Int))=true:=by rw[decide_eq_true_iff];omega
   obtain⟨rb,s,rfl,BL,Bb,r0,r1,r2⟩:=(HR.out.below HS.out.2.2.2.1).get (j:=R.length-1) (by omega);rw[hlast] at r1;have i1:IntKind.i64.wrap ((R.length:Int)-1)=((R.length-1:Nat):Int):=by rw[cU _ (by omega)];omega
   have i2:(0:Int)<=((R.length-1:Nat):Int)/\((R.length-1:Nat):Int)<(R.length:Int):=by omega
   clear Bb r0 r2;go_wp2_with (with_reducible first|refine bv ?_)
   refine Stop.out ?_;refine az rfl 50 _ _ rfl rfl _ rfl (bL size 2) rfl _ _ (HS.out.2.2.2.2.1) rfl (by kernel_rfl) (lU _ _ _ _ _ _ _ _ _ _ _ _ _ _ _ _ _ _ _) ?_;have hq:aa ((wr).setRow w.heap.size (bL size 2)) w.heap.size (bL size 2) 50:=fR _ _ _ _ _ _ (HS.out.2.2.2.2.1);go_wp2_with fail;obtain⟨Az,A0,A1,A2,A3,A4,A5,A6,A7,A8,Al⟩:=hq.m11 rfl;refine bj (v:=ew (bL size 2)) (by simp[cD,Z0,go_sem,Az,A0,A1,A2,A3,A4,A5,A6,A7,A8,Al]) rfl ?_
   refine⟨fy HS.out.2.2.2.1 lz _,fun _=>by rw[Bl.out,E4 hd0],fun h=>absurd h (by rw[Bl.out,E4 hd0];exact (by decide:(2:Int)≠0))⟩
  .have BH:=HS.out.2.2.2.2.2.1
   go_wp2_with (with_reducible first|refine bv ?_)
   refine Stop.out ?_;refine az rfl 50 _ _ rfl rfl _ rfl (#[an la D.length lc,ao ar ((R.length:Int)-(i:Int)),ao ar 0,ao ar 0,cG false,al ⟨#[]⟩,al ⟨#[]⟩,al ⟨#[]⟩,an aq 0 0,an aq 0 0,an aq 0 0]) rfl _ _ (HS.out.2.2.2.2.1) rfl (by kernel_rfl) (lU _ _ _ _ _ _ _ _ _ _ _ _ _ _ _ _ _ _ _) ?_;have hq:aa ((wr).setRow w.heap.size (#[an la D.length lc,ao ar ((R.length:Int)-(i:Int)),ao ar 0,ao ar 0,cG false,al ⟨#[]⟩,al ⟨#[]⟩,al ⟨#[]⟩,an aq 0 0,an aq 0 0,an aq 0 0])) w.heap.size (#[an la D.length lc,ao ar ((R.length:Int)-(i:Int)),ao ar 0,ao ar 0,cG false,al ⟨#[]⟩,al ⟨#[]⟩,al ⟨#[]⟩,an aq 0 0,an aq 0 0,an aq 0 0]) 50:=fR _ _ _ _ _ _ (HS.out.2.2.2.2.1);go_wp2_with fail;obtain⟨Az,A0,A1,A2,A3,A4,A5,A6,A7,A8,Al⟩:=hq.m11 rfl;refine bj (v:=ew (#[an la D.length lc,ao ar ((R.length:Int)-(i:Int)),ao ar 0,ao ar 0,cG false,al ⟨#[]⟩,al ⟨#[]⟩,al ⟨#[]⟩,an aq 0 0,an aq 0 0,an aq 0 0])) (by simp[cD,Z0,go_sem,Az,A0,A1,A2,A3,A4,A5,A6,A7,A8,Al]) rfl ?_
   refine⟨fy HS.out.2.2.2.1 lz _,fun h=>absurd (by rw[Bl.out,E6 hd0]) h,fun _=>?_⟩;rw[Bl.out,E6 hd0];refine⟨la,lc,?_,?_⟩
   .simp only[cW]
    rw[show ((R.length-i:Nat):Int)=(R.length:Int)-(i:Int) by omega]
   .simp only[cW]
    exact jM.move lz (fun _ _ _=>rfl) (fun q hq _=>by have hq:w.heap.size+1<=q:=hq;show w.heap.size<=q;omega) (HS.out.1.done (ox (rN _ _ _).symm) (fun q hq _=>ml _ _ _ _ (by omega)))
end Go.Proofs.YtgmpmolfcaihfaaGreatDoor
