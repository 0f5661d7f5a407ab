import Derived.Test.YtbcdaaobbebooaaGreatDoorMgl
set_option linter.unusedSimpArgs false
set_option linter.unusedVariables false
set_option maxRecDepth 100000
set_option maxHeartbeats 20000000
namespace Go.Proofs.YtbcdaaobbebooaaGreatDoor
open Go.RowKit Go.Tab
theorem Dq:∀(D:List (eB×kD)) (j:Nat) (h:j<D.length),(D.flatMap nM)[j*4]?=some (bQ D[j].1)/\(D.flatMap nM)[j*4+1]?=some (.int .i64 D[j].2.lo)/\(D.flatMap nM)[j*4+2]?=some (.int .i64 D[j].2.hi)/\(D.flatMap nM)[j*4+3]?=some (.int .i64 D[j].2.dep)
 |p::l,0,_=>by simp[nM]
 | p::l,j+1,h=>by
  have ih:=Dq l j (by simpa using h);have e1:(j+1)*4=j*4+4:=by omega
  rw[e1]
  simpa [nM] using ih
def qa(B:Nat)(w:World)(v:Value)(L:List kD):Prop:=
 ∃a cap,v=.slice a L.length cap/\L.length<=cap/\cap<=maxLen/\(a=none->cap=0)/\
  ∀x,a=some x->L≠[]->x.spot=none/\x.block<w.heap.size/\∀j (h:j<L.length),∃s:eB,aI B w (bQ s) L[j].toks/\w.cell? ⟨x.block,x.off+j*4,none⟩=some (bQ s)/\
   w.cell? ⟨x.block,x.off+j*4+1,none⟩=some (.int .i64 L[j].lo)/\w.cell? ⟨x.block,x.off+j*4+2,none⟩=some (.int .i64 L[j].hi)/\w.cell? ⟨x.block,x.off+j*4+3,none⟩=some (.int .i64 L[j].dep)
theorem qa.nil{B:Nat}{w:World}:qa B w (.slice none 0 0) []:=⟨none,0,rfl,Nat.le_refl _,Nat.zero_le _,fun _=>rfl,fun x hx=>by cases hx⟩
theorem q9.at{B:Nat}{w:World}{v:Value}{L:List kD}(h:q9 B w v L):qa B w v L:=by
 obtain⟨D,rfl,Aa,hD⟩:=h;have Ab:=World.ownsRow.lt Aa;obtain⟨h1,h2⟩:=Aa;rcases h2 with ⟨rfl,h3⟩|⟨g,cap,cur,rfl,hb,hg,h3,h4,h5,h6⟩
 ·have:D=[]:=List.eq_nil_of_length_eq_zero h3
  subst this;exact qa.nil
 ·refine⟨_,cap,by rw[List.length_map],by rw[List.length_map];exact h3,h4,(fun h=>by cases h),fun x hx _=>?_⟩
  cases hx
  refine⟨rfl,(Ab g rfl).2,fun j hj=>?_⟩;rw[List.length_map] at hj;obtain⟨f1,f2,f3,f4⟩:=Dq D j hj;rw[<-h6,List.getElem?_take,if_pos (by omega)] at f1 f2 f3 f4;rw[List.getElem_map];refine⟨D[j].1,hD D[j] (List.getElem_mem hj),?_,?_,?_,?_⟩
  all_goals rw[cell_of_row w g _ cur 110 (0,0) hg]
  ·simpa using f1
  ·simpa using f2
  ·simpa using f3
  ·simpa using f4
theorem qa.len{B:Nat}{w:World}{v:Value}{L:List kD}(h:qa B w v L):∃a cap,v=.slice a L.length cap/\L.length<=cap/\cap<=maxLen/\(a=none->cap=0):=by
 obtain⟨a,cap,h1,h2,h3,h4,-⟩:=h;exact⟨a,cap,h1,h2,h3,h4⟩
theorem qa.get{B:Nat}{w:World}{a:Option Addr}{n cap:Nat}{L:List kD}(h:qa B w (.slice a n cap) L){j:Nat}(hj:j<L.length) :
  ∃b off,∃s:eB,a=some ⟨b,off,none⟩/\b<w.heap.size/\aI B w (bQ s) L[j].toks/\w.cell? ⟨b,off+j*4,none⟩=some (bQ s)/\
   w.cell? ⟨b,off+j*4+1,none⟩=some (.int .i64 L[j].lo)/\w.cell? ⟨b,off+j*4+2,none⟩=some (.int .i64 L[j].hi)/\w.cell? ⟨b,off+j*4+3,none⟩=some (.int .i64 L[j].dep):=by
 obtain⟨a',Aa,he,h1,h2,h3,h4⟩:=h;cases he
 cases a with
 |none=>have:=h3 rfl;omega
 |some x=>
  obtain⟨b,off,sp⟩:=x;obtain⟨rfl,g2,g3⟩:=h4 _ rfl (by intro h0;subst h0;simp at hj);obtain⟨s,q⟩:=g3 j hj;exact⟨b,off,s,rfl,g2,q⟩
theorem Pd:∀x:eB,(bQ x).oneCell'=true:=fun _=>rfl
theorem Tryz.infoSlT:(Tryz.prog.info? 22).map (fun i=>(i.zero,i.size,i.bytes))=some (some (.slice none 0 0),1,24):=by kernel_rfl
def mG(B:Nat)(w:World)(v:Value)(L:List (List ag)):Prop:=
 ∃ss:List eB,RowOf bQ w v ss/\ss.length=L.length/\∀j (h1:j<ss.length) (h2:j<L.length),aI B w (bQ ss[j]) L[j]
theorem mG.nil{B:Nat}{w:World}:mG B w (.slice none 0 0) []:=⟨[],RowOf.nil,rfl,fun j h=>by cases h⟩
theorem mG.below{B:Nat}{w w':World}{v:Value}{L:List (List ag)}(h:mG B w v L)(hb:Below w.heap.size w w'):mG B w' v L:=by
 obtain⟨ss,h1,h2,h3⟩:=h;exact⟨ss,h1.below hb lz,h2,fun j q1 q2=>(h3 j q1 q2).below hb lz⟩
theorem mG.len{B:Nat}{w:World}{v:Value}{L:List (List ag)}(h:mG B w v L):∃a cap,v=.slice a L.length cap/\L.length<=cap/\cap<=maxLen/\(a=none->cap=0):=by
 obtain⟨ss,h1,h2,-⟩:=h;rw[<-h2];exact h1.len
theorem mG.get{B:Nat}{w:World}{a:Option Addr}{n cap:Nat}{L:List (List ag)}(h:mG B w (.slice a n cap) L){j:Nat}(hj:j<L.length) :
  ∃b off,∃s:eB,a=some ⟨b,off,none⟩/\b<w.heap.size/\aI B w (bQ s) L[j]/\w.cell? ⟨b,off+j,none⟩=some (bQ s):=by
 obtain⟨ss,h1,h2,h3⟩:=h;obtain⟨b,off,rfl,Aa,hc⟩:=h1.at (j:=j) (by omega);exact⟨b,off,ss[j]'(by omega),rfl,Aa,h3 j (by omega) hj,hc j (by omega)⟩
theorem Mj(w:World)(s:eB)(E:TypeId):RowOf bQ (w.alloc (.cells #[bQ s] E)) (.slice (some ⟨w.heap.size,0,none⟩) 1 1) [s]:=by
 refine⟨_,1,rfl,Nat.le_refl _,by decide,(fun h=>by cases h),fun x hx _=>?_⟩;cases hx
 refine⟨rfl,by simp,fun j hj=>?_⟩;obtain rfl:j=0:=by simpa using hj
 rw[World.cell?_alloc_new];rfl
theorem ER(s:ByteArray)(w:World)(hT:jf w)(hs:s.size<=800000)(hn:(bR s.data.toList).length<=1000000):Calls Tryz.prog 42 #[.string s] w fun e w'=>∃v,e=.returned v/\mG w.heap.size w' v ((bR s.data.toList).map (·.toks))/\Below w.heap.size w w':=by
 have hR:=EQ s w hT hs;generalize bR s.data.toList=L at *;go_enter Tryz.func42,Tryz.ntmps42;go_wp2_with fail;refine hR.mono ?_;clear hR;rintro _ w1 ⟨rv,rfl,hD,hb1⟩;have hA:=hD.at;obtain⟨ra,rc,rfl,Al,Aj,-⟩:=hA.len;unfold maxLen at Aj;have HA:=Hh hA;have Ah:=Hh hb1;clear hA hD hb1;go_wp2_with fail;go_loopw [3,9] (fun lv i wr=>∃(k:Nat) (ss:List eB),k<=L.length/\i=.int .i64 (k:Int)/\aX bQ 22 w1.heap.size wr lv ss/\ss.length=k/\(∀j (h1:j<ss.length) (h2:j<L.length),aI w.heap.size w1 (bQ ss[j]) L[j].toks)/\Below w1.heap.size w1 wr) (fun _ i _=>L.length-(intOf i).toNat)
 case atStart=>exact⟨0,[],Nat.zero_le _,rfl,aX.nil,rfl,(fun j h=>by cases h),Below.refl _ _⟩
 case round=>
  obtain⟨k,ss,hk,rfl,Aa,Ab,Ad,hb⟩:=hrel;have Am:=hb.size
  by_cases hkl:k<L.length
  ·obtain⟨b,Ae,s0,rfl,Ac,ht,q0,q1,q2,q3⟩:=HA.out.get hkl
   obtain⟨sa,sn,sc⟩:=s0;have Ak:b<wr.heap.size:=by omega
   have r0:=(hb.cell (p:=⟨b,Ae+k*4,none⟩) Ac).trans q0;have r1:=(hb.cell (p:=⟨b,Ae+k*4+1,none⟩) Ac).trans q1;have r2:=(hb.cell (p:=⟨b,Ae+k*4+2,none⟩) Ac).trans q2;have r3:=(hb.cell (p:=⟨b,Ae+k*4+3,none⟩) Ac).trans q3;simp only[bQ] at r0
   have HS:Hid (∀j (h1:j<(ss++[(sa,sn,sc)]).length) (h2:j<L.length),aI w.heap.size w1 (bQ (ss++[(sa,sn,sc)])[j]) L[j].toks):=Hh (fun j h1 h2=>by
    by_cases hj:j<ss.length
    ·rw[List.getElem_append_left hj];exact Ad j hj h2
    ·have:j=k:=by simp at h1;omega
     subst this;rw[List.getElem_append_right (by omega)]
     simpa [Ab] using ht)
   generalize L[k].lo=lo at *;generalize L[k].hi=hi at *;generalize L[k].dep=dep at *;have HB:=Hh hb;have HO:=Hh Aa;have Ai:=Hh Ab;obtain⟨oa,oc,rfl,-⟩:=Aa.row.len;clear q0 q1 q2 q3 ht Ad Aa hb Ab;go_wp2_with (with_reducible first|refine aA ?_)
   refine Stop.out ?_;have Af:=HB.out.alloc HB.out.size (.cells #[.slice sa sn sc,.int .i64 lo,.int .i64 hi,.int .i64 dep] 110);have Ag:=Ai.out
   refine fG (f:=bQ) rfl _ _ 73 rfl w1.heap.size 22 24 (.slice none 0 0) Tryz.underlying73 Tryz.infoSlT rfl Pd ss [(sa,sn,sc)] (by exact (HO.out.alloc _).alloc _) (by
     have q:=Mj (wr.alloc (.cells #[.slice sa sn sc,.int .i64 lo,.int .i64 hi,.int .i64 dep] 110)) (sa,sn,sc) 22;simp only[World.size_alloc] at q
     exact q) (by simp;unfold maxLen;omega) (by simp;omega) (by simp;omega) w1 (by exact Af.alloc Af.size _) ?_
   intro v2 w2 hown2 hb2 hg2;obtain⟨An,Ao,rfl,-⟩:=hown2.row.len;have HN:=Jh hown2 hb2;clear hown2 hb2 hg2 Af Ag;go_wp2_with fail;go_roundw
   case rel=>exact⟨k+1,ss++[(sa,sn,sc)],hkl,by go_num,by have q:=HN.out.1;simp only[List.length_append,List.length_singleton] at q;exact q,by rw[List.length_append,Ai.out];rfl,HS.out,HN.out.2⟩
   case measure=>simp[intOf];omega
  ·obtain rfl:k=L.length:=by omega
   have HB:=Hh hb;obtain⟨oa,oc,rfl,-⟩:=Aa.row.len
   have HN:Hid (mG w.heap.size wr (.slice oa ss.length oc) (L.map (·.toks))):=Hh ⟨ss,Aa.row,by simpa using Ab,fun j h1 h2=>by
    rw[List.getElem_map]
    exact (Ad j h1 (by simpa using h2)).below hb lz⟩
   clear Aa Ad hb Ab;go_wp2_with fail;go_ret;exact⟨_,rfl,HN.out,Ah.out.trans (HB.out.mono Ah.out.size)⟩
def mD(d:eB×aS):List Value:=[bQ d.1,.int .i64 d.2.dep]
def D7(B:Nat)(w:World)(v:Value)(R:List aS):Prop:=
 ∃D:List (eB×aS),D.map (·.2)=R/\w.ownsRow B 103 2 v D.length (D.flatMap mD)/\∀d∈D,aI B w (bQ d.1) d.2.toks
theorem D7.len{B:Nat}{w:World}{v:Value}{R:List aS}(h:D7 B w v R):∃a cap,v=.slice a R.length cap/\R.length<=cap/\cap<=maxLen:=by
 obtain⟨D,rfl,Aa,-⟩:=h;obtain⟨h1,h2⟩:=Aa;rcases h2 with ⟨rfl,h3⟩|⟨g,cap,cur,rfl,hb,hg,h3,h4,-⟩
 ·rw[List.length_map,h3];exact⟨none,0,rfl,Nat.le_refl _,Nat.zero_le _⟩
 ·rw[List.length_map];exact⟨_,cap,rfl,h3,h4⟩
theorem Jz{B g k:Nat}{w w':World}{cs:Array Value}{t:TypeId}(h:oU B g w w')(hc:w.heap[k]?=some (.cells cs t (0,0)))(hk:k≠g)(ht:t≠5):w'.heap[k]?=w.heap[k]?:=by
 rw[hc];exact h.cells (cs:=cs) (t:=t) hc hk ht
theorem EJ{B Bg g n sz:Nat}{E:TypeId}{w w':World}{v:Value}{xs:List Value}{l:Bs}(h:w.ownsRow B E sz v n xs)(hw:BW Bg w g l)(hr:oU Bg g w w')(h1:E≠69)(h2:E≠5):w'.ownsRow B E sz v n xs:=by
 refine bJ h fun k e=>?_;obtain⟨cs,hc⟩:=AU h k e;exact Jz hr hc (hw.ne hc h1) h2
theorem tK{B Bg g:Nat}{w w':World}{v:Value}{t:List ag}{l:Bs}(h:aI B w v t)(hw:BW Bg w g l)(hr:oU Bg g w w'):aI B w' v t:=EJ h hw hr (by decide) (by decide)
theorem D7.wr{B Bg g:Nat}{w w':World}{v:Value}{R:List aS}{l:Bs}(h:D7 B w v R)(hw:BW Bg w g l)(hr:oU Bg g w w'):D7 B w' v R:=by
 obtain⟨D,h1,h2,h3⟩:=h;exact⟨D,h1,EJ h2 hw hr (by decide) (by decide),fun d hd=>tK (h3 d hd) hw hr⟩
theorem Ac:∀(D:List (eB×aS)) (j:Nat) (h:j<D.length),(D.flatMap mD)[j*2]?=some (bQ D[j].1)/\(D.flatMap mD)[j*2+1]?=some (.int .i64 D[j].2.dep)
 |p::l,0,_=>by simp[mD]
 | p::l,j+1,h=>by
  have ih:=Ac l j (by simpa using h);have e1:(j+1)*2=j*2+2:=by omega
  rw[e1]
  simpa [mD] using ih
theorem D7.get{B:Nat}{w:World}{a:Option Addr}{n c:Nat}{R:List aS}(h:D7 B w (.slice a n c) R){j:Nat}(hj:j<R.length) :
  ∃b,∃s:eB,a=some ⟨b,0,none⟩/\b<w.heap.size/\aI B w (bQ s) R[j].toks/\w.cell? ⟨b,j*2,none⟩=some (bQ s)/\w.cell? ⟨b,j*2+1,none⟩=some (.int .i64 R[j].dep):=by
 obtain⟨D,rfl,Aa,hD⟩:=h;rw[List.length_map] at hj;have Ab:=World.ownsRow.lt Aa;obtain⟨h1,h2⟩:=Aa;rcases h2 with ⟨h2,h3⟩|⟨g,cap,cur,h2,hb,hg,h3,h4,h5,h6⟩
 ·omega
 ·cases h2
  obtain⟨f1,f2⟩:=Ac D j hj;rw[<-h6,List.getElem?_take,if_pos (by omega)] at f1 f2;rw[List.getElem_map];refine⟨g,D[j].1,rfl,(Ab g rfl).2,hD D[j] (List.getElem_mem hj),?_,?_⟩
  all_goals rw[cell_of_row w g _ cur 103 (0,0) hg]
  ·simpa using f1
  ·simpa using f2
def zt(B:Nat)(w:World):Prop:=∀W,Below B w W->Tab W
theorem zt.go{B:Nat}{w w':World}(h:zt B w)(hb:Below B w w'):zt B w':=fun W hW=>h W (hb.trans hW)
theorem zt.out{B:Nat}{w:World}(h:zt B w):Tab w:=h w (Below.refl _ _)
structure zw(r:aS):Prop where
 d:0<=r.dep/\r.dep<=1000000
 l:r.toks.length<=1000000
 s:(aW r.toks r.ind 0 r.toks.length).length<=1000000
theorem Gv(r:aS):r.eq<=r.toks.length:=by
 unfold aS.eq
 cases h:oG r.toks with
 |none=>exact Nat.zero_le _
 |some i=>exact Nat.le_of_lt (pX h).2
theorem zw.head{r:aS}(h:zw r):(bH r).length<=1000000:=Nat.le_trans (xK (Gv r)) h.s
theorem Tryz.infoStrZ:(Tryz.prog.info? 9).map (fun i=>(i.zero,i.size,i.bytes))=some (some (.string ⟨#[]⟩),1,16):=by kernel_rfl
theorem Tryz.infoIntZ:(Tryz.prog.info? 3).map (fun i=>(i.zero,i.size,i.bytes))=some (some (.int .i64 0),1,8):=by kernel_rfl
theorem GX{R:List aS}{k:Nat}(hk:k<R.length):ol (R.take (k+1))=max (ol (R.take k)) (dG (bH R[k])):=by
 unfold ol;rw[List.take_succ_eq_append_getElem hk,List.foldl_append];rfl
theorem oH(l:Bs):dG l<=l.length:=by
 unfold dG;split
 ·have:=BZ (nb l).length (nb l) 0 lz
  rw[ky] at this;exact this
 ·omega
theorem JC{R:List aS}{r:aS}(h:r∈R):dG (bH r)<=ol R:=by
 have hk:∀(l:List aS) (a:Nat),a<=l.foldl (fun m r=>max m (dG (bH r))) a/\∀x∈l,dG (bH x)<=l.foldl (fun m r=>max m (dG (bH r))) a:=by
  intro l
  induction l with
  |nil=>intro a;exact⟨Nat.le_refl _,fun x hx=>by cases hx⟩
  |cons y l ih=>
   intro a;obtain⟨h1,h2⟩:=ih (max a (dG (bH y)));rw[List.foldl_cons];refine⟨by omega,fun x hx=>?_⟩;rcases List.mem_cons.1 hx with rfl|hx
   ·omega
   ·exact h2 x hx
 exact (hk R 0).2 r h
theorem Ay{R:List aS}(h:∀r∈R,zw r):ol R<=1000000:=by
 have hk:∀(l:List aS) (a:Nat),a<=1000000->(∀r∈l,zw r)->l.foldl (fun m r=>max m (dG (bH r))) a<=1000000:=by
  intro l
  induction l with
  |nil=>intro a ha _;exact ha
  |cons r l ih=>
   intro a ha h;refine ih _ ?_ (fun x hx=>h x (by simp[hx]));have h1:=oH (bH r);have h2:=(h r (by simp)).head;show max a (dG (bH r))<=1000000;omega
 exact hk R 0 (by omega) h
structure BB(B B0 g:Nat)(w:World)(hb:Nat)(M N:Array Value)(rb:Nat)(s:eB)(dep:Int)(toks:List ag)(L:Bs)(W:World):Prop where
 bw:BW B W g L
 m:aa W hb M 9
 n:aa W (hb+1) N 3
 r:aa W rb #[bQ s,.int .i64 dep] 103
 t:aI B0 W (bQ s) toks
 p:oU B g w W
section
variable {B B0 g hb rb:Nat} {w W W':World} {M N:Array Value} {s:eB} {dep:Int} {toks:List ag} {L L':Bs}
theorem BB.wr(h:BB B B0 g w hb M N rb s dep toks L W)(hw:BW B W' g L')(hp:oU B g W W'):BB B B0 g w hb M N rb s dep toks L' W':=
 ⟨hw,hp.cells h.m (h.bw.ne h.m (by decide)) (by decide),hp.cells h.n (h.bw.ne h.n (by decide)) (by decide),hp.cells h.r (h.bw.ne h.r (by decide)) (by decide),tK h.t h.bw hp,h.p.trans hp⟩
theorem BB.below(h:BB B B0 g w hb M N rb s dep toks L W)(hq:Below W.heap.size W W'):BB B B0 g w hb M N rb s dep toks L W':=
 h.wr (h.bw.below hq) (oU.of hq (by have:=h.bw.lt;have:=h.bw.1;omega))
theorem BB.put(h:BB B B0 g w hb M N rb s dep toks L W)(ps:List ByteArray)(hl:L.length+(iP ps).length<=1000000000)(hn:ps.length<=10) :
  Calls Tryz.prog 66 #[.pointer (some ⟨g,0,none⟩),.slice (some ⟨W.heap.size,0,none⟩) ps.length ps.length] (W.alloc (.cells (ps.map Value.string).toArray 9)) fun e w'=>e=.returned (.tuple #[])/\BB B B0 g w hb M N rb s dep toks (L++iP ps) w':=by
 have h1:=h.below ((Below.refl _ W).alloc lz (.cells (ps.map Value.string).toArray 9));refine (wu ps h1.bw (aa.new W _ _) hl hn).mono ?_;rintro e w' ⟨rfl,h2,h3⟩;exact⟨rfl,h1.wr h2 h3⟩
end
theorem IP{R:List aS}{W k:Nat}(hk:k<R.length):(R.take (k+1)).flatMap (fT W)=(R.take k).flatMap (fT W)++fT W R[k]:=by
 rw[List.take_succ_eq_append_getElem hk,List.flatMap_append];simp
theorem Mx{R:List aS}{W:Nat}(k:Nat):((R.take k).flatMap (fT W)).length<=(R.flatMap (fT W)).length:=by
 conv=>rhs;rw[<-List.take_append_drop k R,List.flatMap_append,List.length_append]
 omega
structure PK(R:List aS)(k:Nat)(M N:Array Value):Prop where
 m:M.size=R.length
 n:N.size=R.length
 h:∀j (h:j<R.length),j<k->M[j]?=some (.string (av (bH R[j])))/\N[j]?=some (.int .i64 (dG (bH R[j]):Nat))
theorem Jk{B B0 g:Nat}{w:World}{l:Bs}(R:List aS)(v:Value)(hW:BW B w g l)(hR:D7 B0 w v R)(hF:∀r∈R,zw r/\(oG r.toks).isSome=true)(hn:R.length<=1000000)(hl:l.length+(lC R).length<=500000000)(hT:zt B w) :
  Calls Tryz.prog 64 #[.pointer (some ⟨g,0,none⟩),v] w fun e w'=>e=.returned (.tuple #[])/\BW B w' g (l++lC R)/\oU B g w w':=by
 obtain⟨ra,rc,rfl,A9,As⟩:=hR.len;unfold maxLen at As;have hB:B<=w.heap.size:=by have:=hW.lt;have:=hW.1;omega
 have H0:=Jh hW (And.intro hR hT);have HF:=Hh hF;have HL:=Hh hl;clear hW hR hT hF hl;go_enter Tryz.func64,Tryz.ntmps64;go_wp2_with (with_reducible first|refine lK ?_)
 refine Stop.out ?_;refine oL rfl _ _ _ rfl 9 16 1 _ Tryz.underlying34 Tryz.infoStrZ _ _ R.length rfl rfl (by omega) (by unfold maxLen;omega) ?_;rintro M0 w1 hM0 rfl;rw[Nat.mul_one] at hM0;go_wp2_with (with_reducible first|refine lK ?_)
 refine Stop.out ?_;refine oL rfl _ _ _ rfl 3 8 1 _ Tryz.underlying58 Tryz.infoIntZ _ _ R.length rfl rfl (by omega) (by unfold maxLen;omega) ?_;rintro N0 w2 hN0 rfl;rw[Nat.mul_one] at hN0;have AM:Below w.heap.size w (w.alloc (.cells M0 9)):=(Below.refl _ w).alloc lz _;have AN:=AM.alloc (by simp) (.cells N0 3);have A9:=(aa.new w M0 9).alloc (.cells N0 3);have As:=aa.new (w.alloc (.cells M0 9)) N0 3;simp only[World.size_alloc] at As;have HS:=Jh AN (And.intro A9 (And.intro As (And.intro hM0 hN0)));clear AM AN A9 As hM0 hN0;go_wp2_with fail;go_loopw [6,20] (fun wd i wr=>∃(k:Nat) (M N:Array Value),k<=R.length/\i=.int .i64 (k:Int)/\wd=.int .i64 (ol (R.take k):Nat)/\PK R k M N/\aa wr w.heap.size M 9/\aa wr (w.heap.size+1) N 3/\Below w.heap.size w wr) (fun _ i _=>R.length-(intOf i).toNat)
 case atStart=>exact⟨0,M0,N0,Nat.zero_le _,rfl,rfl,⟨HS.out.2.2.2.1,HS.out.2.2.2.2,fun j _ h=>by omega⟩,HS.out.2.1,HS.out.2.2.1,HS.out.1⟩
 case round=>
  clear HS;obtain⟨k,M,N,hk,rfl,rfl,hH,hM,hN,hb⟩:=hrel;have Bk:=hb.size;have Bf:=hM.lt;have Bg:=hN.lt
  by_cases hkl:k<R.length
  ·have Ap:=H0.out.2.1.wr H0.out.1 (oU.of hb hB)
   obtain⟨b,s,rfl,Ba,Ab,q0,q1⟩:=Ap.get hkl;obtain⟨sa,sn,sc⟩:=s;obtain⟨Ac,Ar⟩:=HF.out R[k] (List.getElem_mem hkl);have Av:=GX hkl
   have Aj:oG R[k].toks=some R[k].eq:=by
    unfold aS.eq;obtain⟨i,hi⟩:=Option.isSome_iff_exists.1 Ar;rw[hi];rfl
   have AQ:=Gv R[k];have AB:ol R<=1000000:=Ay (fun r hr=>(HF.out r hr).1);have AG:Hid (∀j (h:j<R.length),j=k->R[j]=R[k]):=Hh (fun j h e=>by subst e;rfl);generalize R[k]=r at *
   have Al:∀W,Below wr.heap.size wr W->Calls Tryz.prog 65 #[.agg #[.slice sa sn sc,.int .i64 r.dep]] W fun e w'=>e=.returned (.int .i64 (r.eq:Nat))/\Below W.heap.size W w':=fun W hW=>by
    have:=wU W _ r.toks r.dep ((Ab.below hW lz).toks) Ac.l;rw[Aj] at this;exact this
   have A0:∀W,Below wr.heap.size wr W->Calls Tryz.prog 67 #[.agg #[.slice sa sn sc,.int .i64 r.dep],.int .i64 0,.int .i64 (r.eq:Nat)] W fun e w'=>e=.returned (.string (av (bH r)))/\Below W.heap.size W w':=fun W hW=>
    rA W _ r.toks r.dep 0 r.eq ((Ab.below hW lz).toks) Ac.d (Nat.zero_le _) AQ Ac.l (by have:=Ac.head;show (bH r).length<=_;omega)
   have AO:=oH (bH r);have AP:=Ac.head;have Ah:Hid (Li (scan (bs (av (bH r))) 0)=dG (bH r)/\(av (bH r)).size=(bH r).length):=Hh ⟨rfl,by show (bH r).toArray.size=_;simp⟩;have A7:=fun W (hW:Below w.heap.size w W)=>Jp (av (bH r)) W ((H0.out.2.2.go (hW.mono hB)).out) (by rw[Ah.out.2];omega);rw[Ah.out.1] at A7;have HI:=Jh hH (And.intro hM (And.intro hN hb));have HW:=Hh Av;generalize (scan (bs (av (bH r))) 0).2.isNone=vb at *
   have AV:Hid (∀(hm:k<M.size) (hn:k<N.size),PK R (k+1) (M.set k (.string (av (bH r))) hm) (N.set k (.int .i64 (dG (bH r):Nat)) hn)):=Hh (fun hm hn=>by
    refine⟨by simpa using hH.m,by simpa using hH.n,fun j hj hjk=>?_⟩
    by_cases e:j=k
    ·subst e
     rw[AG.out j hj rfl];simp
    ·rw[Array.getElem?_set_ne _ (fun q=>e q.symm),Array.getElem?_set_ne _ (fun q=>e q.symm)]
     exact hH.h j hj (by omega))
   generalize av (bH r)=hd at *;generalize dG (bH r)=cn at *;generalize r.eq=eq at *;generalize r.dep=dep at *;have A2:k<M.size:=by rw[hH.m];exact hkl
   have AA:k<N.size:=by rw[hH.n];exact hkl
   have i1:(0:Int)<=(k:Int):=by omega
   have i2:(k:Int)<(R.length:Int):=by omega
   have Bl:ol (R.take k)<=1000000:=Ay (fun x hx=>(HF.out x (List.mem_of_mem_take hx)).1);clear Ap Ab Ac Ar Aj AQ hH hM hN hb AG Av;simp only[bQ] at q0;have Ai:Below wr.heap.size wr (wr.alloc (.cells #[.slice sa sn sc,.int .i64 dep] 103)):=(Below.refl _ wr).alloc lz _;have AH:=aa.new wr #[.slice sa sn sc,.int .i64 dep] 103;have HA:=Jh Ai AH;have H5:Hid (∀W,Below wr.heap.size wr W->aa W w.heap.size M 9/\aa W (w.heap.size+1) N 3/\Below w.heap.size w W):=Hh fun W hW=>⟨HI.out.2.1.below hW HI.out.2.1.lt,HI.out.2.2.1.below hW HI.out.2.2.1.lt,fo HI.out.2.2.2 hW⟩;clear Ai AH AB;go_upto_region 6 with fail
   obtain⟨g0,g1⟩:=HA.out.2.m2 rfl;have AS:=HA.out.1.drew;go_cut [] (fun wc=>∃w6,Below wr.heap.size wr w6/\aa w6 wr.heap.size #[.slice sa sn sc,.int .i64 dep] 103/\wc=w6.setCell ⟨w.heap.size,k,none⟩ (.string hd))
   case first=>
    go_region_held3 (fun w'=>w'.cell? ⟨wr.heap.size,0,none⟩=some (.slice sa sn sc)/\w'.cell? ⟨wr.heap.size,1,none⟩=some (.int .i64 dep)) (first|(with_reducible exact⟨g0,g1⟩)|(with_reducible exact⟨g70,g71⟩)|(with_reducible exact⟨g60,g61⟩)|(with_reducible exact⟨g50,g51⟩)|go_keep) (first
     |(go_at_call 67;(with_reducible refine (A0 _ hx5).mono ?_);rintro _ w6 ⟨rfl,hb6⟩;have Aw:=fo hx5 hb6;have Ax:=hy5.below hb6 hy5.lt;obtain⟨g60,g61⟩:=Ax.m2 rfl;have AD:=(H5.out w6 Aw).1;have Bh:=AD.lt;have c6:=AD.cell k _ (Array.getElem?_eq_getElem A2);have f6:=AD.frozen k;have AT:=Ax.setOther ⟨w.heap.size,k,none⟩ (.string hd) (by show w.heap.size≠wr.heap.size;omega);have g70:=AT.cell 0 _ rfl;have g71:=AT.cell 1 _ rfl)
     |(go_at_call 65;(with_reducible refine (Al _ AS).mono ?_);rintro _ w5 ⟨rfl,hb5⟩;have hx5:=fo AS hb5;have hy5:=HA.out.2.drew.below hb5 HA.out.2.lt;have g50:=hy5.cell 0 _ rfl;have g51:=hy5.cell 1 _ rfl))
    all_goals
     go_wp2_with fail;go_meet
     exact⟨w6,Aw,Ax,rfl⟩
   case rest=>
    obtain⟨w6,Aw,Ax,rfl⟩:=hcut;have h6:=H5.out w6 Aw;have Az:=h6.1.set k A2 (.string hd);have Am:=h6.2.1.setOther ⟨w.heap.size,k,none⟩ (.string hd) (by show w.heap.size≠w.heap.size+1;omega);have hb6:=h6.2.2.setCell (p:=⟨w.heap.size,k,none⟩) lz (.string hd);have H6:=Jh Az (And.intro Am hb6);have c6:=Az.cell k (.string hd) (by simp);have d6:=Am.cell k _ (Array.getElem?_eq_getElem AA);have e6:=Am.frozen k;have l6:=Az.lt;have l7:=Am.lt;have Ak:=A7 _ hb6;have Bm:max ((ol (R.take k):Nat):Int) ((cn:Nat):Int)=((ol (R.take (k+1)):Nat):Int):=by rw[HW.out];omega
    clear Aw Ax h6 Az Am hb6 H5 A7 Al A0;go_wp2_with fail;refine Ak.mono ?_;rintro _ _ ⟨rfl,rfl⟩;clear Ak;go_wp2_with fail;go_roundw
    case rel=>exact⟨k+1,_,_,hkl,by go_num,rfl,AV.out A2 AA,H6.out.1.setOther ⟨w.heap.size+1,k,none⟩ _ (by show w.heap.size+1≠w.heap.size;omega),H6.out.2.1.set k AA _,H6.out.2.2.setCell (p:=⟨w.heap.size+1,k,none⟩) (by show w.heap.size<=w.heap.size+1;omega) _⟩
    case measure=>simp[intOf];omega
  ·obtain rfl:k=R.length:=by omega
   rw[List.take_length];have A8:=oU.of (g:=g) hb hB;have H1:=Jh (H0.out.1.below hb) (And.intro (H0.out.2.1.wr H0.out.1 A8) (And.intro (H0.out.2.2.go (hb.mono hB)) A8));have HM:=Jh hH (And.intro hM hN);have AB:ol R<=1000000:=Ay (fun r hr=>(HF.out r hr).1);have Aq:lC R=R.flatMap (fT (ol R)):=rfl;have A4:=Hh Aq;obtain⟨WD,A1⟩:=exq (ol R);rw[<-A1] at A4 AB ⊢;have Be:=Hh A1;have AU:Hid (∀j (h:j<R.length),dG (bH R[j])<=WD):=Hh (fun j h=>by rw[A1];exact JC (List.getElem_mem h));clear hH hM hN hb A8 Aq A1 hkl hk;obtain⟨wq,AC⟩:=exq wr;have HQ:=Hh AC;rw[<-AC] at H1 HM;clear AC;go_wp2_with fail;go_loopw [52] (fun i wr=>∃(k:Nat),k<=R.length/\i=.int .i64 (k:Int)/\BW B wr g (l++(R.take k).flatMap (fT WD))/\oU B g wq wr) (fun i _=>R.length-(intOf i).toNat)
   case atStart=>exact⟨0,Nat.zero_le _,rfl,by rw[List.take_zero,List.flatMap_nil,List.append_nil,<-HQ.out];exact H1.out.1,by rw[<-HQ.out];exact oU.refl _ _ _⟩
   case round=>
    obtain⟨k,hk,rfl,Af,hp⟩:=hrel
    by_cases hkl:k<R.length
    ·have Ap:=H1.out.2.1.wr H1.out.1 hp
     obtain⟨b,s,rfl,Ba,Ab,q0,q1⟩:=Ap.get hkl;obtain⟨sa,sn,sc⟩:=s;obtain⟨Ac,Ar⟩:=HF.out R[k] (List.getElem_mem hkl)
     have Aj:oG R[k].toks=some R[k].eq:=by
      unfold aS.eq;obtain⟨i,hi⟩:=Option.isSome_iff_exists.1 Ar;rw[hi];rfl
     have Ae:=(pX Aj).2;obtain⟨tb,Aa,rfl,Bd,-,-,-⟩:=Ab.toks.get Ae;obtain⟨m0,n0⟩:=HM.out.1.h k hkl hkl;have Bb:=AU.out k hkl;have At:=IP (W:=WD) hkl;have Ag:=Mx (R:=R) (W:=WD) (k+1);have AZ:=HL.out;rw[A4.out] at AZ;have AO:=oH (bH R[k]);have AP:=Ac.head
     have A3:sn=R[k].toks.length:=by
      obtain⟨a',c',e'⟩:=Ab.len;simp only[bQ,Value.slice.injEq] at e';exact e'.2.1
     have AI:fT WD R[k]=bH R[k]++(kY (WD-dG (bH R[k])+1)++(vC (R[k].toks[R[k].eq]'Ae)++(aW R[k].toks R[k].ind (R[k].eq+1) R[k].toks.length++[10]))):=by
      unfold fT;rw[List.getElem?_eq_getElem Ae];rfl
     rw[AI] at At
     have AL:BB B B0 g wq w.heap.size M N wr.heap.size (some ⟨tb,Aa,none⟩,sn,sc) R[k].dep R[k].toks (l++(R.take k).flatMap (fT WD)) (wr.alloc (.cells #[.slice (some ⟨tb,Aa,none⟩) sn sc,.int .i64 R[k].dep] 103)):=by
      have Ai:Below wr.heap.size wr (wr.alloc (.cells #[.slice (some ⟨tb,Aa,none⟩) sn sc,.int .i64 R[k].dep] 103)):=(Below.refl _ wr).alloc lz _;refine⟨Af.below Ai,(hp.cells HM.out.2.1 (H1.out.1.ne HM.out.2.1 (by decide)) (by decide)).alloc _,(hp.cells HM.out.2.2 (H1.out.1.ne HM.out.2.2 (by decide)) (by decide)).alloc _,aa.new _ _ _,Ab.below Ai lz,hp.trans (oU.of Ai (by have:=Af.lt;have:=Af.1;omega))⟩
     have hX:∀W L,BB B B0 g wq w.heap.size M N wr.heap.size (some ⟨tb,Aa,none⟩,sn,sc) R[k].dep R[k].toks L W->W.cell? ⟨tb,Aa+R[k].eq*3+1,none⟩=some (.string R[k].toks[R[k].eq].text)/\tb<W.heap.size:=fun W L h=>by
      obtain⟨b',o',e',AX,-,AY,-⟩:=h.t.toks.get Ae;cases e'
      exact⟨AY,AX⟩
     have Al:∀W L,BB B B0 g wq w.heap.size M N wr.heap.size (some ⟨tb,Aa,none⟩,sn,sc) R[k].dep R[k].toks L W->Calls Tryz.prog 65 #[.agg #[.slice (some ⟨tb,Aa,none⟩) sn sc,.int .i64 R[k].dep]] W fun e w'=>e=.returned (.int .i64 (R[k].eq:Nat))/\BB B B0 g wq w.heap.size M N wr.heap.size (some ⟨tb,Aa,none⟩,sn,sc) R[k].dep R[k].toks L w':=fun W L h=>by
      have:=wU W _ R[k].toks R[k].dep h.t.toks Ac.l;rw[Aj] at this;refine this.mono ?_;rintro e w' ⟨rfl,hb'⟩;exact⟨rfl,h.below hb'⟩
     have AR:(aW R[k].toks R[k].ind (R[k].eq+1) R[k].toks.length).length<=500000000:=by
      have:=Ag;rw[At] at this;simp only[List.length_append] at this;omega
     have A0:∀W L,BB B B0 g wq w.heap.size M N wr.heap.size (some ⟨tb,Aa,none⟩,sn,sc) R[k].dep R[k].toks L W->Calls Tryz.prog 67 #[.agg #[.slice (some ⟨tb,Aa,none⟩) sn sc,.int .i64 R[k].dep],.int .i64 ((R[k].eq:Int)+1),.int .i64 (sn:Nat)] W fun e w'=>e=.returned (.string (av (aW R[k].toks R[k].ind (R[k].eq+1) R[k].toks.length)))/\BB B B0 g wq w.heap.size M N wr.heap.size (some ⟨tb,Aa,none⟩,sn,sc) R[k].dep R[k].toks L w':=fun W L h=>by
      rw[A3,show ((R[k].eq:Int)+1)=((R[k].eq+1:Nat):Int) by omega];have h2:=h;rw[A3] at h2;refine (rA W _ R[k].toks R[k].dep (R[k].eq+1) R[k].toks.length h2.t.toks Ac.d Ae lz Ac.l AR).mono ?_;rintro e w' ⟨rfl,hb'⟩;rw[A3] at h;exact⟨rfl,h.below hb'⟩
     have A6:Hid (((R.take k).flatMap (fT WD)).length+((bH R[k]).length+((WD-dG (bH R[k])+1)+((R[k].toks[R[k].eq]'Ae).text.data.toList.length+((aW R[k].toks R[k].ind (R[k].eq+1) R[k].toks.length).length+1))))<=(R.flatMap (fT WD)).length):=Hh (by
      have:=Ag;rw[At] at this
      simpa [kY] using this)
     have AE:Hid ((R.take (k+1)).flatMap (fT WD)=(R.take k).flatMap (fT WD)++(bH R[k]++(kY (WD-dG (bH R[k])+1)++((R[k].toks[R[k].eq]'Ae).text.data.toList++(aW R[k].toks R[k].ind (R[k].eq+1) R[k].toks.length++[10]))))):=Hh At;have AW:=Hh AL;have Bc:R[k].eq<sn:=by omega
     have Bj:sn<=1000000:=by have:=Ac.l;omega
     have Ah:Hid ((av (bH R[k])).data.toList=bH R[k]):=Hh rfl;have AF:Hid ((av (aW R[k].toks R[k].ind (R[k].eq+1) R[k].toks.length)).data.toList=aW R[k].toks R[k].ind (R[k].eq+1) R[k].toks.length):=Hh rfl;clear Ap Ab Ar Aj At Ag A3 AI AL AR Ac hp Af;generalize R[k].toks=toks at *;generalize R[k].ind=ind at *;generalize bH R[k]=HB at *;generalize R[k].dep=dep at *;generalize R[k].eq=eq at *;generalize toks[eq].text=tx at *;generalize aW toks ind (eq+1) toks.length=PB at *;generalize av HB=hd at *;generalize av PB=pr at *;generalize dG HB=cn at *;obtain⟨Ad,Au⟩:=exq (WD-cn+1);have k5:IntKind.i64.wrap ((WD:Int)-(cn:Int))=(WD:Int)-(cn:Int):=IntWalk.i64_in _ (by omega);have k6:IntKind.i64.wrap ((WD:Int)-(cn:Int)+1)=(Ad:Int):=by rw[IntWalk.i64_in _ (by omega)];omega
     rw[<-Au] at A6 AE;have Bi:Ad<=1000001:=by omega
     have Ao:=fun W=>Em Ad W (by omega);have A5:Hid ((D6 Ad).data.toList=kY Ad/\(D6 Ad).size=Ad):=Hh ⟨rfl,wX Ad⟩;generalize D6 Ad=sp at *;simp only[bQ] at q0;have A2:=HM.out.1.m;have i1:(0:Int)<=(k:Int):=by omega
     have i2:(k:Int)<(R.length:Int):=by omega
     have i3:(0:Int)<=(eq:Int):=by omega
     have i4:(eq:Int)<(sn:Int):=by omega
     clear Ae Bd Bc Bb AO AP Au;go_wp2_with fail;refine (Al _ _ AW.out).mono ?_;rintro _ w4 ⟨rfl,h4⟩;have H4:=Hh h4;have a0:=h4.m.cell k _ m0;have a1:=h4.n.cell k _ n0;have a2:=h4.r.cell 0 (.slice (some ⟨tb,Aa,none⟩) sn sc) rfl;have a3:=h4.r.cell 1 _ rfl;obtain⟨a4,a5⟩:=hX _ _ h4;have a6:=h4.m.lt;have a7:=h4.n.lt;have a8:=h4.r.lt;have H5:Hid (∀W,Below w4.drew.heap.size w4.drew W->BB B B0 g wq w.heap.size M N wr.heap.size (some ⟨tb,Aa,none⟩,sn,sc) dep toks (l++(R.take k).flatMap (fT WD)) W):=Hh fun W hW=>H4.out.below (((Below.refl _ w4).drew).trans hW)
     have An:∀W,BB B B0 g wq w.heap.size M N wr.heap.size (some ⟨tb,Aa,none⟩,sn,sc) dep toks (l++(R.take k).flatMap (fT WD)) W->Calls Tryz.prog 66 #[.pointer (some ⟨g,0,none⟩),.slice (some ⟨W.heap.size,0,none⟩) 3 3] (W.alloc (.cells #[.string hd,.string sp,.string tx] 9)) fun e w'=>e=.returned (.tuple #[])/\BB B B0 g wq w.heap.size M N wr.heap.size (some ⟨tb,Aa,none⟩,sn,sc) dep toks ((l++(R.take k).flatMap (fT WD))++iP [hd,sp,tx]) w':=fun W h=>h.put [hd,sp,tx] (by
      have e:(iP [hd,sp,tx]).length=HB.length+(Ad+tx.data.toList.length):=by simp[iP,Ah.out,A5.out.1,kY]
      have:=A6.out;rw[e,List.length_append]
      omega) (by simp)
     clear h4 Al;go_upto_region 14 with fail
     go_cut [] (fun wc=>BB B B0 g wq w.heap.size M N wr.heap.size (some ⟨tb,Aa,none⟩,sn,sc) dep toks ((l++(R.take k).flatMap (fT WD))++iP [hd,sp,tx]) wc)
     case first=>
      go_region_held3 (fun w'=>w'.cell? ⟨w.heap.size,k,none⟩=some (.string hd)/\w'.cell? ⟨w.heap.size+1,k,none⟩=some (.int .i64 (cn:Nat))/\w'.cell? ⟨wr.heap.size,0,none⟩=some (.slice (some ⟨tb,Aa,none⟩) sn sc)/\w'.cell? ⟨tb,Aa+eq*3+1,none⟩=some (.string tx)) (first|(with_reducible exact⟨a0,a1,a2,a4⟩)|(with_reducible exact⟨g60,g61,g62,g64⟩)|(with_reducible exact⟨g50,g51,g52,g54⟩)|go_keep) (first
       |(go_at_call 66;(refine (An _ hx5).mono ?_);rintro _ w6 ⟨rfl,h6⟩;have g60:=h6.m.cell k _ m0;have g61:=h6.n.cell k _ n0;have g62:=h6.r.cell 0 (.slice (some ⟨tb,Aa,none⟩) sn sc) rfl;have g64:=(hX _ _ h6).1)
       |(go_at_call 111;(with_reducible refine (Ao _).mono ?_);rintro _ w5 ⟨rfl,hb5⟩;have hx5:=H5.out w5 hb5;have g50:=hx5.m.cell k _ m0;have g51:=hx5.n.cell k _ n0;have g52:=hx5.r.cell 0 (.slice (some ⟨tb,Aa,none⟩) sn sc) rfl;obtain⟨g54,z5⟩:=hX _ _ hx5;have z6:=hx5.m.lt;have z7:=hx5.n.lt;have z8:=hx5.r.lt))
      all_goals
       go_wp2_with fail;go_meet
       exact h6
     case rest=>
      have h7:=hcut;have a2:=h7.r.cell 0 (.slice (some ⟨tb,Aa,none⟩) sn sc) rfl;have a3:=h7.r.cell 1 _ rfl;have a8:=h7.r.lt;have AK:=A0 _ _ h7;clear hcut h7 An H5 Ao a0 a1 a4 a5 a6 a7;go_wp2_with fail;refine AK.mono ?_;rintro _ w8 ⟨rfl,h8⟩
      have AJ:=h8.put [pr,⟨#[10]⟩] (by
       have e1:(iP [hd,sp,tx]).length=HB.length+(Ad+tx.data.toList.length):=by simp[iP,Ah.out,A5.out.1,kY]
       have e2:(iP [pr,⟨#[10]⟩]).length=PB.length+1:=by simp[iP,AF.out]
       have:=A6.out;rw[e2,List.length_append,List.length_append,e1]
       omega) (by simp)
      clear AK h8;go_wp2_with fail;refine AJ.mono ?_;rintro _ w9 ⟨rfl,h9⟩
      have HN:Hid (BW B w9 g (l++(R.take (k+1)).flatMap (fT WD))/\oU B g wq w9):=Hh ⟨by
       have e:l++(R.take (k+1)).flatMap (fT WD)=(l++(R.take k).flatMap (fT WD))++iP [hd,sp,tx]++iP [pr,⟨#[10]⟩]:=by
        rw[AE.out];simp[iP,Ah.out,A5.out.1,AF.out]
       rw[e]
       exact h9.bw,h9.p⟩
      clear AJ h9;go_wp2_with fail;go_roundw
      case rel=>exact⟨k+1,hkl,by go_num,HN.out.1,HN.out.2⟩
      case measure=>simp[intOf];omega
    ·obtain rfl:k=R.length:=by omega
     rw[List.take_length] at Af;have HN:Hid (BW B wr g (l++lC R)/\oU B g w wr):=Hh ⟨by rw[A4.out];exact Af,H1.out.2.2.2.trans hp⟩;clear Af hp;go_wp2_with fail;refine bodyPost_end (v:=.tuple #[]) (by simp[results,Tryz.results64,go_sem]) rfl ?_;exact⟨rfl,HN.out.1,HN.out.2⟩
theorem Tryz.infoRowT:(Tryz.prog.info? 103).map (fun i=>(i.zero,i.size,i.bytes))=some (some (.agg #[.slice none 0 0,.int .i64 0]),2,32):=by kernel_rfl
def iJ(B1 B:Nat)(w:World)(v:Value)(R:List aS):Prop:=
 ∃D:List (eB×aS),D.map (·.2)=R/\w.ownsRow B1 103 2 v D.length (D.flatMap mD)/\∀d∈D,aI B w (bQ d.1) d.2.toks
theorem iJ.nil(B1 B:Nat)(w:World):iJ B1 B w (.slice none 0 0) []:=⟨[],rfl,World.ownsRow_nil _ _ _ _,fun d hd=>by cases hd⟩
theorem iJ.tr{B1 B:Nat}{w:World}{v:Value}{R:List aS}(h:iJ B1 B w v R)(hb:B<=B1):D7 B w v R:=by
 obtain⟨D,h1,h2,h3⟩:=h;exact⟨D,h1,pK h2 hb,h3⟩
theorem iJ.wr{B1 B Bg g:Nat}{w w':World}{v:Value}{R:List aS}{l:Bs}(h:iJ B1 B w v R)(hw:BW Bg w g l)(hr:oU Bg g w w'):iJ B1 B w' v R:=by
 obtain⟨D,h1,h2,h3⟩:=h;exact⟨D,h1,EJ h2 hw hr (by decide) (by decide),fun d hd=>tK (h3 d hd) hw hr⟩
section
variable {B g x:Nat} {w:World} {l:Bs} {cs:Array Value} {t:TypeId}
theorem dx{base n sz:Nat}{E:TypeId}{v:Value}{xs:List Value}(h:w.ownsRow base E sz v n xs)(hc:aa w x cs t)(ht:E≠t)(j:Nat)(u:Value):(w.setCell ⟨x,j,none⟩ u).ownsRow base E sz v n xs:=
 bJ h fun k e=>Below.heap_setCell _ _ _ _ (by exact dA h hc ht k e)
theorem BW.set(h:BW B w g l)(hc:aa w x cs t)(ht:t≠69)(hu:t≠5)(j:Nat)(u:Value):BW B (w.setCell ⟨x,j,none⟩ u) g l:=by
 have Ac:=h.ne hc ht;obtain⟨h1,Aa,h2,Ab,ha,v,hv,ho⟩:=h;exact⟨h1,Aa,h2,Ab.setOther _ _ Ac,ha,v,hv,dx ho hc (fun e=>hu e.symm) j u⟩
theorem D7.set{v:Value}{R:List aS}(h:D7 B w v R)(hc:aa w x cs t)(h1:t≠103)(h2:t≠63)(j:Nat)(u:Value):D7 B (w.setCell ⟨x,j,none⟩ u) v R:=by
 obtain⟨D,q1,q2,q3⟩:=h;exact⟨D,q1,dx q2 hc (fun e=>h1 e.symm) j u,fun d hd=>dx (q3 d hd) hc (fun e=>h2 e.symm) j u⟩
end
theorem pJ{base n sz:Nat}{E:TypeId}{w:World}{v:Value}{xs:List Value}(h:w.ownsRow base E sz v n xs):∃a c,v=.slice a n c:=by
 rcases h.2 with ⟨rfl,rfl⟩|⟨g,cap,cur,rfl,-⟩
 ·exact⟨none,0,rfl⟩
 ·exact⟨_,_,rfl⟩
structure WS(B B1 g bx rx:Nat)(w:World)(L:Bs)(rv:Value)(Q:List aS)(v:Value)(R:List aS):Prop where
 bw:BW B w g L
 p:aa w bx #[.pointer (some ⟨g,0,none⟩)] 66
 r:aa w rx #[rv] 71
 q:iJ B1 B w rv Q
 a:D7 B w v R
 lt:∀k,v.ownBlock=some k->k<B1
 le:B<=B1/\B1<=rx/\B1<=w.heap.size
section
variable {B B1 g bx rx:Nat} {w w':World} {L L':Bs} {rv:Value} {Q:List aS} {v:Value} {R:List aS}
theorem WS.wr(h:WS B B1 g bx rx w L rv Q v R)(hw:BW B w' g L')(hp:oU B g w w'):WS B B1 g bx rx w' L' rv Q v R:=
 ⟨hw,hp.cells h.p (h.bw.ne h.p (by decide)) (by decide),hp.cells h.r (h.bw.ne h.r (by decide)) (by decide),h.q.wr h.bw hp,h.a.wr h.bw hp,h.lt,h.le.1,h.le.2.1,by have:=hp.b.size;have:=h.le;omega⟩
theorem WS.below(h:WS B B1 g bx rx w L rv Q v R)(hb:Below w.heap.size w w'):WS B B1 g bx rx w' L rv Q v R:=
 h.wr (h.bw.below hb) (oU.of hb (by have:=h.bw.lt;have:=h.bw.1;omega))
theorem WS.clear(h:WS B B1 g bx rx w L rv Q v R):WS B B1 g bx rx (w.setCell ⟨rx,0,none⟩ (.slice none 0 0)) L (.slice none 0 0) [] v R:=by
 refine⟨h.bw.set h.r (by decide) (by decide) _ _,h.p.setOther _ _ ?_,h.r.set 0 (by simp) _,iJ.nil _ _ _,h.a.set h.r (by decide) (by decide) _ _,h.lt,by simpa using h.le⟩;rintro rfl;have h1:w.heap[rx]?=_:=h.p;have h2:w.heap[rx]?=_:=h.r;rw[h1] at h2;simp only[Option.some.injEq,Obj.cells.injEq] at h2;exact absurd h2.2.1 (by decide)
end
theorem sw{B B1 g bx rx:Nat}{w:World}{L:Bs}{rv:Value}{Q:List aS}{v:Value}{R:List aS}(h:WS B B1 g bx rx w L rv Q v R)(hT:zt B w)(hF:∀r∈Q,zw r/\(oG r.toks).isSome=true)(hn:Q.length<=1000000)(hl:L.length+(lC Q).length<=500000000) :
  Calls Tryz.prog 63 #[.pointer (some ⟨bx,0,none⟩),.pointer (some ⟨rx,0,none⟩)] w fun e w'=>e=.returned (.tuple #[])/\WS B B1 g bx rx w' (L++lC Q) (.slice none 0 0) [] v R/\∃w2,oU B g w w2/\w'=w2.setCell ⟨rx,0,none⟩ (.slice none 0 0):=by
 have hA:=Jk Q rv h.bw (h.q.tr h.le.1) hF hn hl hT;have H:=Hh h;have hp:=h.p;have hr:=h.r;have lp:=hp.lt;have lr:=hr.lt;obtain⟨Ac,Ad⟩:=hp.n1 rfl;obtain⟨Aa,Ab⟩:=hr.n1 rfl;clear h hp hr hF hl hT;go_enter Tryz.func63,Tryz.ntmps63;go_wp2_with fail;refine hA.mono ?_;rintro _ w2 ⟨rfl,hw2,hp2⟩;have H2:=Hh (H.out.wr hw2 hp2);have HB:=Hh hp2;have hr:=H2.out.r;have lr:=hr.lt;clear hA hw2 hp2 Aa Ab Ac Ad;obtain⟨Aa,Ab⟩:=hr.n1 rfl;clear hr;go_wp2_with fail;refine bodyPost_end (v:=.tuple #[]) (by simp[results,Tryz.results63,go_sem]) rfl ?_;exact⟨rfl,H2.out.clear,w2,HB.out,rfl⟩
theorem gD{w:World}{ops:Array Oper}{rest:List Oper}{p:Oper}{a:Act}{Q:Exit->Act->World->Prop}(hgd:p.guard=none)(s x:Operand)
  (hop:p.op=.call { callee:=.builtin .append,args:=#[s,x],argTypes:=#[71,71] }) (B:Nat) (lv:Value) (D:List (eB×aS)) (d:eB×aS) (hs:a.eval s=lv)
  (hown:w.ownsRow B 103 2 lv D.length (D.flatMap mD)) (g:Nat) (hx:a.eval x=.slice (some ⟨g,0,none⟩) 1 1) (hc:aa w g #[bQ d.1,.int .i64 d.2.dep] 103)
  (hD:D.length<=1000000) (hbase:B<=w.heap.size)
  (hK:∀v' w',w'.ownsRow B 103 2 v' (D.length+1) (D.flatMap mD++mD d)->w.grownBy w' lv.ownBlock->wpList Tryz.prog ops Q rest (a.put p.dst v') w'):wpList Tryz.prog ops Q (p::rest) a w:=by
 obtain⟨i,Aa,Ab,Ac,Ad⟩:=info_parts Tryz.infoRowT;refine wpList_append_lies w hgd s x 71 hop B 103 i _ 2 32 Tryz.underlying71 Aa Ab Ac Ad rfl (by decide) lv D.length (D.flatMap mD) hs hown ⟨g,0,none⟩ 1 1 (mD d) hx rfl ?_ ?_ (by omega) (by unfold maxLen;omega) (by omega) hbase _ rfl (fun g2 c2 w' h1 h2 _ _=>hK _ w' h1 h2)
 ·intro j u hu
  rw[Addr.add_lit,Nat.zero_add];exact hc.cell _ _ (by simpa [mD] using hu)
 ·intro u hu
  simp only[mD,List.mem_cons,List.not_mem_nil,or_false] at hu;rcases hu with rfl|rfl<;>rfl
section
variable {B B1 g bx rx:Nat} {w w':World} {L L':Bs} {rv nv:Value} {Q:List aS} {v:Value} {R:List aS}
theorem WS.push(h:WS B B1 g bx rx w L rv Q v R){D:List (eB×aS)}{d:eB×aS}(hD:D.map (·.2)=Q)(h0:w.ownsRow B1 103 2 rv D.length (D.flatMap mD))(hDt:∀d∈D,aI B w (bQ d.1) d.2.toks)(hd:aI B w (bQ d.1) d.2.toks)
  (hg:w.grownBy w' rv.ownBlock) (hown:w'.ownsRow B1 103 2 nv (D.length+1) (D.flatMap mD++mD d)):WS B B1 g bx rx (w'.setCell ⟨rx,0,none⟩ nv) L nv (Q++[d.2]) v R:=by
 have hT:∀{E:TypeId} {base n sz:Nat} {u:Value} {xs:List Value},w.ownsRow base E sz u n xs->E≠103->w'.ownsRow base E sz u n xs:=fun hu hE=>bJ hu fun k e=>hg.block k (World.ownsRow.lt hu k e).2 (fun q=>jR hu h0 hE k e q.symm);have hC:∀{k:Nat} {cs:Array Value} {t:TypeId},aa w k cs t->t≠103->aa w' k cs t:=fun hc ht=>hc.kept hg (fun e=>dA h0 hc (fun q=>ht q.symm) _ e.symm rfl);have hr:=hC h.r (by decide);have hp:=hC h.p (by decide);obtain⟨b1,cs,b2,bc,ba,u,bu,bo⟩:=h.bw;have Aa:BW B w' g L:=⟨b1,cs,b2,hC bc (by decide),ba,u,bu,hT bo (by decide)⟩;obtain⟨A,a1,a2,a3⟩:=h.a
 have ha:D7 B w' v R:=⟨A,a1,bJ a2 fun k e=>hg.block k (World.ownsRow.lt a2 k e).2 (fun q=>by
  have:=(World.ownsRow.lt h0 k q.symm).1;have:=h.lt k e
  omega),fun x hx=>hT (a3 x hx) (by decide)⟩
 refine⟨Aa.set hr (by decide) (by decide) _ _,hp.setOther _ _ ?_,hr.set 0 (by simp) _,⟨D++[d],by rw[List.map_append,hD];rfl,?_,?_⟩,ha.set hr (by decide) (by decide) _ _,h.lt,h.le.1,h.le.2.1,by have:=hg.size;have:=h.le;simp;omega⟩
 ·rintro rfl
  have h1:w'.heap[rx]?=_:=hp;have h2:w'.heap[rx]?=_:=hr;rw[h1] at h2;simp only[Option.some.injEq,Obj.cells.injEq] at h2;exact absurd h2.2.1 (by decide)
 ·have e:(D++[d]).flatMap mD=D.flatMap mD++mD d:=by simp
  rw[e,List.length_append,List.length_singleton];exact dx hown hr (by decide) _ _
 ·intro x hx
  rcases List.mem_append.1 hx with hx|hx
  ·exact dx (hT (hDt x hx) (by decide)) hr (by decide) _ _
  ·rw[List.mem_singleton.1 hx]
   exact dx (hT hd (by decide)) hr (by decide) _ _
end
structure WT(B B1 g bx rx:Nat)(w:World)(L:Bs)(rv:Value)(Q:List aS)(v:Value)(R:List aS)(rb:Nat)(s:eB)(dep:Int)(toks:List ag):Prop where
 ws:WS B B1 g bx rx w L rv Q v R
 r:aa w rb #[bQ s,.int .i64 dep] 103
 t:aI B w (bQ s) toks
section
variable {B B1 g bx rx rb:Nat} {w w':World} {L L':Bs} {rv:Value} {Q:List aS} {v:Value} {R:List aS} {s:eB} {dep:Int} {toks:List ag}
theorem WT.wr(h:WT B B1 g bx rx w L rv Q v R rb s dep toks)(hw:BW B w' g L')(hp:oU B g w w'):WT B B1 g bx rx w' L' rv Q v R rb s dep toks:=
 ⟨h.ws.wr hw hp,hp.cells h.r (h.ws.bw.ne h.r (by decide)) (by decide),tK h.t h.ws.bw hp⟩
theorem WT.below(h:WT B B1 g bx rx w L rv Q v R rb s dep toks)(hb:Below w.heap.size w w'):WT B B1 g bx rx w' L rv Q v R rb s dep toks:=
 ⟨h.ws.below hb,h.r.below hb h.r.lt,h.t.below hb lz⟩
theorem WT.end(h:WT B B1 g bx rx w L rv Q v R rb s dep toks){w2:World}(hp:oU B g w w2)(hr:aa w2 rx #[rv] 71)(hs:WS B B1 g bx rx (w2.setCell ⟨rx,0,none⟩ (.slice none 0 0)) L' (.slice none 0 0) [] v R):WT B B1 g bx rx (w2.setCell ⟨rx,0,none⟩ (.slice none 0 0)) L' (.slice none 0 0) [] v R rb s dep toks:=by
 have h1:=hp.cells h.r (h.ws.bw.ne h.r (by decide)) (by decide);refine⟨hs,h1.setOther _ _ ?_,dx (tK h.t h.ws.bw hp) hr (by decide) _ _⟩;rintro rfl;have h2:w2.heap[rx]?=_:=hr;have h3:w2.heap[rx]?=_:=h1;rw[h2] at h3;simp only[Option.some.injEq,Obj.cells.injEq] at h3;exact absurd h3.2.1 (by decide)
end
theorem L8{R:List aS}{k:Nat}(hk:k<R.length)(Q:List aS):dP (R.drop k) Q=if (oG R[k].toks).isSome then dP (R.drop (k+1)) (Q++[R[k]]) else lC Q++(vT R[k]++dP (R.drop (k+1)) []):=by
 rw[List.drop_eq_getElem_cons hk,dP]
theorem GU{B g:Nat}{w:World}{l:Bs}(R:List aS)(v:Value)(hW:BW B w g l)(hR:D7 B w v R)(hF:∀r∈R,zw r)(hn:R.length<=1000000)(hl:l.length+(dP R []).length<=400000000)(hT:zt B w) :
  Calls Tryz.prog 40 #[.pointer (some ⟨g,0,none⟩),v] w fun e w'=>e=.returned (.tuple #[])/\BW B w' g (l++dP R [])/\Below B w w':=by
 obtain⟨ra,rc,rfl,AL,AE⟩:=hR.len;unfold maxLen at AE;have hB:B<=w.heap.size:=by have:=hW.lt;have:=hW.1;omega
 have A4:Below w.heap.size w (w.alloc (.cells #[.pointer (some ⟨g,0,none⟩)] 66)):=(Below.refl _ w).alloc lz _;have Am:=A4.alloc (by simp) (.cells #[.slice none 0 0] 71);have A5:=(aa.new w #[.pointer (some ⟨g,0,none⟩)] 66).alloc (.cells #[.slice none 0 0] 71);have As:=aa.new (w.alloc (.cells #[.pointer (some ⟨g,0,none⟩)] 66)) #[.slice none 0 0] 71;simp only[World.size_alloc] at As
 have A6:∀k,(Value.slice ra R.length rc).ownBlock=some k->k<w.heap.size:=by
  obtain⟨D,-,q2,-⟩:=hR;exact fun k e=>(World.ownsRow.lt q2 k e).2
 have A2:WS B w.heap.size g w.heap.size (w.heap.size+1) ((w.alloc (.cells #[.pointer (some ⟨g,0,none⟩)] 66)).alloc (.cells #[.slice none 0 0] 71)) l (.slice none 0 0) [] (.slice ra R.length rc) R:=
  ⟨hW.below Am,A5,As,iJ.nil _ _ _,hR.wr hW (oU.of Am hB),A6,hB,by omega,Am.size⟩
 have H0:=Jh A2 (Am.mono hB);have HF:=Hh hF;have HL:=Hh hl;have HT:=Hh hT;clear hW hR hF hl A4 Am A5 As A2 hT A6;go_enter Tryz.func40,Tryz.ntmps40;go_wp2_with fail;go_loopw [11] (fun i wr=>∃(k:Nat) (O:Bs) (rv:Value) (Q:List aS),k<=R.length/\i=.int .i64 (k:Int)/\WS B w.heap.size g w.heap.size (w.heap.size+1) wr (l++O) rv Q (.slice ra R.length rc) R/\dP R []=O++dP (R.drop k) Q/\(∀r∈Q,zw r/\(oG r.toks).isSome=true)/\Q.length<=k/\Below B w wr) (fun i _=>R.length-(intOf i).toNat)
 case atStart=>exact⟨0,[],_,[],Nat.zero_le _,rfl,by simpa using H0.out.1,by simp,(fun r hr=>by cases hr),Nat.le_refl _,H0.out.2⟩
 case round=>
  clear H0;obtain⟨k,O,rv,Q,hk,rfl,hS,Ac,hQ,AN,hb⟩:=hrel
  by_cases hkl:k<R.length
  ·obtain⟨b,s,rfl,AK,Ah,q0,q1⟩:=hS.a.get hkl
   obtain⟨sa,sn,sc⟩:=s;have Ak:=HF.out R[k] (List.getElem_mem hkl);have A9:=L8 hkl Q;rw[A9] at Ac
   have AA:sn=R[k].toks.length:=by
    obtain⟨a',c',e'⟩:=Ah.len;simp only[bQ,Value.slice.injEq] at e';exact e'.2.1
   have Ap:Below wr.heap.size wr (wr.alloc (.cells #[.slice sa sn sc,.int .i64 R[k].dep] 103)):=(Below.refl _ wr).alloc lz _;have Ar:WT B w.heap.size g w.heap.size (w.heap.size+1) (wr.alloc (.cells #[.slice sa sn sc,.int .i64 R[k].dep] 103)) (l++O) rv Q (.slice (some ⟨b,0,none⟩) R.length rc) R wr.heap.size (sa,sn,sc) R[k].dep R[k].toks:=⟨hS.below Ap,aa.new _ _ _,Ah.below Ap lz⟩;have Af:=wU _ _ R[k].toks R[k].dep Ar.t.toks Ak.l;have AO:sn<=1000000:=by have:=Ak.l;omega
   have AF:=Ak.s;have Ae:(O++if (oG R[k].toks).isSome then dP (R.drop (k+1)) (Q++[R[k]]) else lC Q++(vT R[k]++dP (R.drop (k+1)) [])).length=(dP R []).length:=by rw[Ac]
   have HR:=Jh Ac (And.intro hQ (And.intro hb Ae));have Ag:=Hh Ar;have Ao:=Hh Ak;have Az:=Hh AA;have AJ:Hid (R[k]=⟨R[k].toks,R[k].dep⟩):=Hh rfl;have A1:vT R[k]=aW R[k].toks R[k].ind 0 R[k].toks.length++[10]:=rfl;have Ax:=Hh A1;simp only[bQ] at q0 Af;clear hS Ac hQ hb Ar Ak Ah Ap A9 Ae A1 AA;generalize R[k]=r at *;obtain⟨Aa,Ab⟩:=r;simp only at q1 Af Ag Az HR
   cases hq:oG Aa with
   |some i=>
    have AM:=(pX hq).1;rw[hq] at Af HR;simp only[sM,Option.isSome_some,if_true] at Af HR;have i1:(0:Int)<(i:Int):=by omega
    go_wp2_with fail;refine Af.mono ?_;rintro _ w4 ⟨rfl,hb4⟩;have H4:=Hh (Ag.out.below hb4);have hr:=H4.out.ws.r;have hx:=H4.out.r;have lr:=hr.lt;have lx:=hx.lt;have Ai:=Hh (HR.out.2.2.1.trans (((Ag.out.ws.le.1:_) |> fun _=>(Below.refl B wr).alloc (by have:=Ag.out.ws.le;have:=HR.out.2.2.1.size;omega) (.cells #[.slice sa sn sc,.int .i64 Ab] 103)).trans (hb4.mono (by have:=Ag.out.ws.le;simp at *;omega))));have AH:=hx.cell 0 (.slice sa sn sc) rfl;have AI:=hx.cell 1 _ rfl;obtain⟨Au,Av⟩:=hr.n1 rfl;clear Af hb4 hr hx q0 q1;go_wp2_with (with_reducible first|refine aA ?_)
    refine Stop.out ?_;have h5:=H4.out.below ((Below.refl _ w4).alloc lz (.cells #[.slice sa sn sc,.int .i64 Ab] 103));obtain⟨D,d1,d2,d3⟩:=h5.ws.q;have AD:D.length=Q.length:=by rw[<-d1,List.length_map]
    refine gD rfl _ _ rfl w.heap.size rv D ((sa,sn,sc),⟨Aa,Ab⟩) rfl (by exact d2) w4.heap.size rfl (by exact aa.new w4 #[.slice sa sn sc,.int .i64 Ab] 103) (by omega) (by have:=h5.ws.le;exact this.2.2) ?_;intro nv w6 ho6 hg6;obtain⟨na,nc,rfl⟩:=pJ ho6;have h6:=h5.ws.push d1 d2 d3 h5.t hg6 ho6;have At:=h5.ws.r.kept hg6 (fun e=>dA d2 h5.ws.r (by decide) _ e.symm rfl);have Aj:=Hh ((Ai.out.alloc (by have:=Ai.out.size;have:=H4.out.ws.le;omega) (.cells #[.slice sa sn sc,.int .i64 Ab] 103)).grown hg6 (by have:=h5.ws.le;omega) (fun j e=>by have:=(World.ownsRow.lt d2 j e).1;have:=h5.ws.le;omega));have H6:=Hh h6;clear h5 d1 d2 d3 ho6 hg6 h6 Au Av lr lx AH AI AD;have lr:=At.lt;obtain⟨A7,A8⟩:=At.n1 rfl;clear At;go_wp2_with fail;go_roundw
    case rel=>exact⟨k+1,O,_,Q++[⟨Aa,Ab⟩],hkl,by go_num,H6.out,HR.out.1,(fun x hx=>by
     rcases List.mem_append.1 hx with hx|hx
     ·exact HR.out.2.1 x hx
     ·rw[List.mem_singleton.1 hx];exact⟨Ao.out,by rw[hq];rfl⟩),by simp;omega,Aj.out.setCell (by have:=H4.out.ws.le;show B<=w.heap.size+1;omega) _⟩
    case measure=>simp[intOf];omega
   |none=>
    rw[hq] at Af HR;simp only[sM,Option.isSome_none,Bool.false_eq_true,if_false] at Af HR;have An:=HR.out.2.2.2;simp only[List.length_append] at An;have Aq:=HL.out;have AG:(vT ⟨Aa,Ab⟩).length=(aW Aa (aS.ind ⟨Aa,Ab⟩) 0 Aa.length).length+1:=by rw[Ax.out];simp
    have Aw:∀{w4},Below (wr.alloc (.cells #[.slice sa sn sc,.int .i64 Ab] 103)).heap.size (wr.alloc (.cells #[.slice sa sn sc,.int .i64 Ab] 103)) w4->Below B w w4:=fun hb4=>HR.out.2.2.1.trans (((Below.refl B wr).alloc (by have:=Ag.out.ws.le;have:=HR.out.2.2.1.size;omega) (.cells #[.slice sa sn sc,.int .i64 Ab] 103)).trans (hb4.mono (by have:=Ag.out.ws.le;simp at *;omega)));go_wp2_with fail;refine Af.mono ?_;rintro _ w4 ⟨rfl,hb4⟩;have H4:=Hh (Ag.out.below hb4);have Ai:=Hh (Aw hb4);have Ad:=sw H4.out.ws (HT.out.go Ai.out) HR.out.2.1 (by omega) (by simp only[List.length_append];omega);clear Af hb4 Aw q0 q1;go_wp2_with fail;refine Ad.mono ?_;rintro _ w5 ⟨rfl,h5,w2,hp2,rfl⟩;have h6:=H4.out.end hp2 (hp2.cells H4.out.ws.r (H4.out.ws.bw.ne H4.out.ws.r (by decide)) (by decide)) h5;have Aj:=Hh (Ai.out.trans (hp2.b.setCell (p:=⟨w.heap.size+1,0,none⟩) (by have:=H4.out.ws.le;show B<=w.heap.size+1;omega) (.slice none 0 0)));obtain⟨w7,AB⟩:=exq (w2.setCell ⟨w.heap.size+1,0,none⟩ (.slice none 0 0));rw[<-AB] at h6 Aj ⊢;have H6:=Hh h6;have a0:=h6.ws.p.cell 0 _ rfl;have a1:=h6.r.cell 0 (.slice sa sn sc) rfl;have a2:=h6.r.cell 1 _ rfl;have a3:=h6.ws.p.lt;have a4:=h6.r.lt;clear Ad h5 hp2 h6 AB
    have H7:Hid (∀W,Below w7.drew.heap.size w7.drew W->WT B w.heap.size g w.heap.size (w.heap.size+1) W (l++O++lC Q) (.slice none 0 0) [] (.slice (some ⟨b,0,none⟩) R.length rc) R wr.heap.size (sa,sn,sc) Ab Aa/\Below B w W):=Hh fun W hW=>by
     have A3:=((Below.refl w7.heap.size w7).drew).trans hW;exact⟨H6.out.below A3,Aj.out.trans (A3.mono (by have:=H6.out.ws.le;have:=Aj.out.size;omega))⟩
    have A0:∀W,WT B w.heap.size g w.heap.size (w.heap.size+1) W (l++O++lC Q) (.slice none 0 0) [] (.slice (some ⟨b,0,none⟩) R.length rc) R wr.heap.size (sa,sn,sc) Ab Aa/\Below B w W->
      Calls Tryz.prog 67 #[.agg #[.slice sa sn sc,.int .i64 Ab],.int .i64 0,.int .i64 (sn:Nat)] W fun e w'=>e=.returned (.string (av (aW Aa (aS.ind ⟨Aa,Ab⟩) 0 Aa.length)))/\WT B w.heap.size g w.heap.size (w.heap.size+1) w' (l++O++lC Q) (.slice none 0 0) [] (.slice (some ⟨b,0,none⟩) R.length rc) R wr.heap.size (sa,sn,sc) Ab Aa/\Below B w w':=fun W ⟨h,hb⟩=>by
     rw[Az.out] at h ⊢;have h2:=h.t;refine (rA W _ Aa Ab 0 Aa.length h2.toks Ao.out.d (Nat.zero_le _) lz Ao.out.l (by have:=Ao.out.s;simp only[aS.ind] at this ⊢;omega)).mono ?_;rintro e w' ⟨rfl,hb'⟩;exact⟨rfl,h.below hb',hb.trans (hb'.mono (by have:=h.ws.le;omega))⟩
    have AC:Hid ((av (aW Aa (aS.ind ⟨Aa,Ab⟩) 0 Aa.length)).data.toList=aW Aa (aS.ind ⟨Aa,Ab⟩) 0 Aa.length):=Hh rfl;generalize av (aW Aa (aS.ind ⟨Aa,Ab⟩) 0 Aa.length)=pr at *;have Ay:Hid (iP [pr,⟨#[10]⟩]=vT ⟨Aa,Ab⟩):=Hh (by rw[Ax.out,<-AC.out];simp[iP])
    have Al:∀W,WT B w.heap.size g w.heap.size (w.heap.size+1) W (l++O++lC Q) (.slice none 0 0) [] (.slice (some ⟨b,0,none⟩) R.length rc) R wr.heap.size (sa,sn,sc) Ab Aa/\Below B w W->
      Calls Tryz.prog 66 #[.pointer (some ⟨g,0,none⟩),.slice (some ⟨W.heap.size,0,none⟩) 2 2] (W.alloc (.cells #[.string pr,.string ⟨#[10]⟩] 9)) fun e w'=>e=.returned (.tuple #[])/\WT B w.heap.size g w.heap.size (w.heap.size+1) w' (l++O++lC Q++vT ⟨Aa,Ab⟩) (.slice none 0 0) [] (.slice (some ⟨b,0,none⟩) R.length rc) R wr.heap.size (sa,sn,sc) Ab Aa/\Below B w w':=fun W ⟨h,hb⟩=>by
     have hA:Below W.heap.size W (W.alloc (.cells #[.string pr,.string ⟨#[10]⟩] 9)):=(Below.refl _ W).alloc lz _;have h2:=h.below hA;refine (wu [pr,⟨#[10]⟩] h2.ws.bw (aa.new W #[.string pr,.string ⟨#[10]⟩] 9) (by rw[Ay.out];simp only[List.length_append];omega) (by simp)).mono ?_;rintro e w' ⟨rfl,h5,h6⟩;rw[Ay.out] at h5;exact⟨rfl,h2.wr h5 h6,(hb.trans (hA.mono (by have:=h.ws.le;omega))).trans h6.b⟩
    clear An Aq AG AF;go_upto_region 9 with fail
    go_region_held3 (fun w'=>w'.cell? ⟨w.heap.size,0,none⟩=some (.pointer (some ⟨g,0,none⟩))/\w'.cell? ⟨wr.heap.size,0,none⟩=some (.slice sa sn sc)/\w'.cell? ⟨wr.heap.size,1,none⟩=some (.int .i64 Ab)) (first|(with_reducible exact⟨a0,a1,a2⟩)|(with_reducible exact⟨g60,g61,g62⟩)|(with_reducible exact⟨g50,g51,g52⟩)|go_keep) (first
     |(go_at_call 66;(refine (Al _ hx8).mono ?_);rintro _ w9 ⟨rfl,hx9⟩;have g60:=hx9.1.ws.p.cell 0 _ rfl;have g61:=hx9.1.r.cell 0 (.slice sa sn sc) rfl;have g62:=hx9.1.r.cell 1 _ rfl)
     |(go_at_call 67;(with_reducible refine (A0 _ (H7.out _ (Below.refl _ _))).mono ?_);rintro _ w8 ⟨rfl,hx8⟩;have g50:=hx8.1.ws.p.cell 0 _ rfl;have g51:=hx8.1.r.cell 0 (.slice sa sn sc) rfl;have g52:=hx8.1.r.cell 1 _ rfl;have z5:=hx8.1.ws.p.lt;have z6:=hx8.1.r.lt))
    all_goals
     have HN:=Hh hx9;clear hx8 hx9 g50 g51 g52 g60 g61 g62 z5 z6 H7 A0 Al a0 a1 a2 a3 a4;go_wp2_with fail;go_roundw
     case rel=>exact⟨k+1,O++(lC Q++vT ⟨Aa,Ab⟩),_,[],hkl,by go_num,by simpa using HN.out.1.ws,by rw[HR.out.1];simp,(fun x hx=>by cases hx),Nat.zero_le _,HN.out.2⟩
     case measure=>simp[intOf];omega
  ·obtain rfl:k=R.length:=by omega
   rw[List.drop_length,dP] at Ac;have Ae:(dP R []).length=(O++lC Q).length:=by rw[Ac]
   rw[List.length_append] at Ae;have Aq:=HL.out;have Ad:=sw hS (HT.out.go hb) hQ (by omega) (by simp only[List.length_append];omega);have HS:=Jh hS (And.intro Ac hb);clear hS Ac hQ hb Ae Aq;go_wp2_with fail;refine Ad.mono ?_;rintro _ w5 ⟨rfl,h5,w2,hp2,rfl⟩
   have HN:Hid (BW B (w2.setCell ⟨w.heap.size+1,0,none⟩ (.slice none 0 0)) g (l++dP R [])/\Below B w (w2.setCell ⟨w.heap.size+1,0,none⟩ (.slice none 0 0))):=Hh ⟨by
    rw[HS.out.2.1,<-List.append_assoc]
    exact h5.bw,HS.out.2.2.trans (hp2.b.setCell (p:=⟨w.heap.size+1,0,none⟩) (by have:=HS.out.1.le;show B<=w.heap.size+1;omega) (.slice none 0 0))⟩
   clear Ad h5 hp2;go_wp2_with fail;refine bodyPost_end (v:=.tuple #[]) (by simp[results,Tryz.results40,go_sem]) rfl ?_;exact⟨rfl,HN.out.1,HN.out.2⟩
end Go.Proofs.YtbcdaaobbebooaaGreatDoor
namespace Go.Proofs.YtbcdaaobbebooaaGreatDoor
end Go.Proofs.YtbcdaaobbebooaaGreatDoor
namespace Go.Proofs.YtbcdaaobbebooaaGreatDoor
open Go.RowKit Go.Tab
def jQ(t:ag):Bool:=t.kind != 5&&(t.kind != 6&&t.kind != 7)
theorem BU(l:List ag)(k:Nat)(h:k<l.length):(l.take (k+1)).filter jQ=(l.take k).filter jQ++(if jQ l[k] then [l[k]] else []):=by
 rw[Ej l k h,List.filter_append]
 congr 1
 simp only[List.filter_cons,List.filter_nil]
theorem xF(v:Value)(l:List ag)(w:World)(h:aH w v l)(hs:l.length<=1000000) :
  Calls Tryz.prog 23 #[v] w fun e w'=>∃v',e=.returned v'/\aI w.heap.size w' v' (l.filter jQ)/\Below w.heap.size w w':=by
 obtain⟨a,Ad,rfl,Ae,Ac,Af⟩:=h.len;unfold maxLen at Ac;have HT:=Hh h;clear h;go_enter Tryz.func23,Tryz.ntmps23;go_wp2_with fail;go_loopw [3,4] (fun o i wr=>∃k:Nat,k<=l.length/\i=.int .i64 (k:Int)/\aI w.heap.size wr o ((l.take k).filter jQ)/\Below w.heap.size w wr) (fun _ i _=>l.length-(intOf i).toNat)
 case atStart=>exact⟨0,Nat.zero_le _,rfl,by simpa using aI.nil,Below.refl _ _⟩
 case round=>
  obtain⟨k,hk,rfl,Aa,hb⟩:=hrel;obtain⟨va,vc,rfl⟩:=Aa.len
  by_cases hkl:k<l.length
  ·obtain⟨bb,Ah,rfl,Ag,q0,q1,q2⟩:=aH.get (HT.out.below hb lz) hkl
   have HF:=Hh (BU l k hkl);have Ab:((l.take k).filter jQ).length<=1000000:=Nat.le_trans (List.length_filter_le _ _) (by rw[List.length_take];omega);have HP:=Hh Ab;generalize l[k]=t at *;obtain⟨tk,tt,tp⟩:=t;simp only at q0 q1 q2 HF
   by_cases h5:tk=5
   ·subst h5
    have hp:jQ ⟨5,tt,tp⟩=false:=rfl;have e5:((5:Int) != 5)=false:=by decide
    have HX:=Jh Aa hb;clear Aa hb;go_wp2;go_roundw
    case rel=>exact⟨k+1,by omega,by go_num,by rw[HF.out,hp];simpa using HX.out.1,HX.out.2⟩
    case measure=>simp[intOf];omega
   by_cases h6:tk=6
   ·subst h6
    have hp:jQ ⟨6,tt,tp⟩=false:=rfl;have e5:((6:Int) != 5)=true:=by decide
    have e6:((6:Int) != 6)=false:=by decide
    have HX:=Jh Aa hb;clear Aa hb;go_wp2;go_roundw
    case rel=>exact⟨k+1,by omega,by go_num,by rw[HF.out,hp];simpa using HX.out.1,HX.out.2⟩
    case measure=>simp[intOf];omega
   by_cases h7:tk=7
   ·subst h7
    have hp:jQ ⟨7,tt,tp⟩=false:=rfl;have e5:((7:Int) != 5)=true:=by decide
    have e6:((7:Int) != 6)=true:=by decide
    have e7:((7:Int) != 7)=false:=by decide
    have HX:=Jh Aa hb;clear Aa hb;go_wp2;go_roundw
    case rel=>exact⟨k+1,by omega,by go_num,by rw[HF.out,hp];simpa using HX.out.1,HX.out.2⟩
    case measure=>simp[intOf];omega
   have e5:(tk != 5)=true:=by simpa using h5
   have e6:(tk != 6)=true:=by simpa using h6
   have e7:(tk != 7)=true:=by simpa using h7
   have hp:jQ ⟨tk,tt,tp⟩=true:=by simp only[jQ,e5,e6,e7];rfl
   clear h5 h6 h7;go_wp2_with (with_reducible first|refine aA ?_)
   refine Stop.out ?_;refine jI rfl _ _ rfl w.heap.size ((l.take k).filter jQ) ⟨tk,tt,tp⟩ (by exact Aa.alloc _) wr.heap.size rfl (by simp[World.cell?_alloc_new]) (by simp[World.cell?_alloc_new]) (by simp[World.cell?_alloc_new]) (by have:=HP.out;omega) (by have:=hb.size;simp;omega) w (hb.alloc hb.size _) ?_;intro v' w' hown' hb' hg';obtain⟨a2,c2,rfl⟩:=hown'.len;have HX:=Jh hown' hb';clear hown' hb' hg' Aa hb;go_wp2;go_roundw
   case rel=>exact⟨k+1,by omega,by go_num,by rw[HF.out,hp];simpa using HX.out.1,HX.out.2⟩
   case measure=>simp[intOf];omega
  ·obtain rfl:k=l.length:=by omega
   rw[List.take_length] at Aa ⊢;have HX:=Jh Aa hb;clear Aa hb;go_wp2;go_ret;exact⟨_,rfl,HX.out.1,HX.out.2⟩
theorem aH.row{w:World}{v:Value}{l:List ag}(h:aH w v l):∃a cap,v=.slice a l.length cap/\l.length<=cap/\(a=none->cap=0)/\∀x,a=some x->l≠[]->x.spot=none/\x.block<w.heap.size/\
  ∀j u,(l.flatMap gN)[j]?=some u->w.cell? (x.add j)=some u:=by
 obtain⟨a,cap,rfl,h1,h2,h3,h4⟩:=h;refine⟨a,cap,rfl,h1,h3,fun x hx hne=>?_⟩;obtain⟨g1,g2,g3⟩:=h4 x hx hne;refine⟨g1,g2,fun j u hu=>?_⟩;obtain⟨b,Aa,sp⟩:=x;simp only at g1 g2 g3;subst g1;rw[Addr.add_lit]
 have hj:j<l.length*3:=by
  have:=(List.getElem?_eq_some_iff.1 hu).1
  have hl:(l.flatMap gN).length=l.length*3:=by
   clear hu g3 h1 h3 h4 hne this
   induction l with
   |nil=>rfl
   |cons t l ih=>simp only[List.flatMap_cons,List.length_append,ih,gN,List.length_cons,List.length_nil];omega
  omega
 obtain⟨f1,f2,f3⟩:=uf l (j / 3) (by omega);obtain⟨c1,c2,c3⟩:=g3 (j / 3) (by omega);have hm:j % 3=0\/j % 3=1\/j % 3=2:=by omega
 rcases hm with hm|hm|hm
 ·rw[show j=j / 3*3 by omega] at hu ⊢
  rw[f1] at hu;cases hu;exact c1
 ·rw[show j=j / 3*3+1 by omega] at hu ⊢
  rw[f2] at hu;cases hu;exact c2
 ·rw[show j=j / 3*3+2 by omega] at hu ⊢
  rw[f3] at hu;cases hu;exact c3
theorem JL{l:List ag}:∀u∈l.flatMap gN,u.oneCell'=true:=by
 intro u hu;obtain⟨t,_,ht⟩:=List.mem_flatMap.1 hu;exact sF t u ht
section
variable {w:World} {ops:Array Oper} {rest:List Oper} {o:Oper} {a:Act} {Q:Exit->Act->World->Prop}
theorem lS(hgd:Region.wanted o (yielded ops a.tmps)=true)(s x:Operand)
  (ho:o.op=.call { callee:=.builtin .append,args:=#[s,x],argTypes:=#[22,22] })
  (base:Nat) (l l2:List ag) (hown:aI base w (a.eval s) l) (hrow:aH w (a.eval x) l2)
  (hm:l.length+l2.length<=1000000) (hbase:base<=w.heap.size) (w0:World) (hb:Below base w0 w)
  (hK:∀v' w',aI base w' v' (l++l2)->Below base w0 w'->w.grownBy w' (a.eval s).ownBlock->wpList Tryz.prog ops Q rest (a.put o.dst v') w'):wpList Tryz.prog ops Q (o::rest) a w:=by
 obtain⟨i,Aa,Ad,Ae,Af⟩:=info_parts Tryz.infoTok;obtain⟨ao,Ac,hv,hc,hn,hx⟩:=hrow.row;refine fF hgd fun K hK'=>?_
 by_cases hl2:l2=[]
 ·subst hl2
  cases ao with
  |none=>
   have:=hn rfl;subst this;have Ab:=run_append_owned_none (P:=Tryz.prog) (w:=w) base 22 o.type 63 i 3 Tryz.underlying22 Aa (a.eval s) l.length (l.flatMap gN) hown;unfold Oper.wp;simp[execOp,ho,resolve,invoke,builtin,hv,Ab,Result.andThen]
   exact hK' _ _ (hK _ _ (by simpa using hown) hb ⟨rfl,rfl,rfl,Nat.le_refl _,fun _ _ _=>rfl⟩)
  |some ad=>
   refine wp_append_own w s x 22 ho base 63 i _ 3 32 Tryz.underlying22 Aa Ad Ae Af rfl (by decide) (a.eval s) l.length (l.flatMap gN) rfl hown ad 0 Ac [] (by simpa using hv) (by simp) (by simp) (by simp) (by unfold maxLen;simp at hm;omega) (by simp at hm;omega) hbase ?_;intro v' w' hown' hg _;exact hK' _ _ (hK v' w' (by unfold aI;simpa using hown') (hb.trans (fI hg hbase (fun k hk=>(World.ownsRow.lt hown k hk).1))) hg)
 cases ao with
 |none=>
  have:=hn rfl;subst this;exact absurd (List.eq_nil_of_length_eq_zero (by omega)) hl2
 |some ad=>
  obtain⟨g1,g2,g3⟩:=hx _ rfl hl2
  have Ag:(l2.flatMap gN).length=l2.length*3:=by
   clear hx g3 hrow hK hm hl2 hv hc
   induction l2 with
   |nil=>rfl
   |cons t l ih=>simp only[List.flatMap_cons,List.length_append,ih,gN,List.length_cons,List.length_nil];omega
  refine wp_append_own w s x 22 ho base 63 i _ 3 32 Tryz.underlying22 Aa Ad Ae Af rfl (by decide) (a.eval s) l.length (l.flatMap gN) rfl hown ad l2.length Ac (l2.flatMap gN) hv Ag g3 JL (by unfold maxLen;omega) (by omega) hbase ?_;intro v' w' hown' hg _;refine hK' _ _ (hK v' w' ?_ (hb.trans (fI hg hbase (fun k hk=>(World.ownsRow.lt hown k hk).1))) hg);unfold aI
  simpa using hown'
end
theorem Fp(w:World)(a b:Value)(t:TypeId):(w.alloc (.cells #[a,b] t)).cell? ⟨w.heap.size,0,none⟩=some a/\(w.alloc (.cells #[a,b] t)).cell? ⟨w.heap.size,1,none⟩=some b:=by
 constructor<;>rw[World.cell?_alloc_new]<;>rfl
theorem Kb(s:ByteArray)(w:World)(hs:s.size<=1048576) :
  Calls Tryz.prog 115 #[.string s] w fun e w'=>∃v,e=.returned v/\qc w.heap.size w' v (scan (bs s) 0).1/\Below w.heap.size w w':=by
 go_enter Tryz.func115,Tryz.ntmps115;go_wp2_with fail;go_loopw [3,4] (fun v i wr=>∃(k:Nat) (pre:List (Nat×Nat)),i=.int .i64 k/\k<=s.size/\pre.length<=k/\mH (bs s) k pre/\qc w.heap.size wr v pre/\Below w.heap.size w wr) (fun _ i _=>s.size-(intOf i).toNat)
 case atStart=>exact⟨0,[],rfl,Nat.zero_le _,Nat.le_refl _,mH.zero _,qc.nil,Below.refl _ _⟩
 case round=>
  obtain⟨k,pre,rfl,hk,Ah,hr,ho,hb⟩:=hrel;have HR:=Hh hr;have hz:=hb.size;clear hr
  by_cases h:k<s.size
  ·obtain⟨c,n,h1⟩:∃c n,aD ((bs s).drop k)=(c,n):=⟨_,_,rfl⟩
   have Ac:=(jS ((bs s).drop k) (fun x hx=>fK x (List.mem_of_mem_drop hx))).1;have hF:=BF s k wr hs hk;rw[h1] at hF Ac;simp only[List.length_drop,ay] at Ac;have H1:=Hh h1;clear h1
   by_cases hn:n=0
   ·subst hn
    have h2:=Hh (HR.out.bad (by rw[ay];exact h) (by rw[H1.out]));go_wp2_with fail;refine hF.mono ?_;clear hF;rintro e w1 ⟨rfl,hb1⟩;have Aa:=hb.trans (hb1.mono hz);have Ab:=ho.below hb1;go_wp2;go_ret;rw[h2.out];exact⟨_,rfl,Ab,Aa⟩
   ·have h2:=Hh (HR.out.good (by rw[ay];exact h) H1.out hn)
    have Af:((n:Int)==0)=false:=by rw[beq_eq_false_iff_ne];omega
    have Ag:1<=n:=by omega
    clear hn;go_wp2_with fail;refine hF.mono ?_;clear hF;rintro e w1 ⟨rfl,hb1⟩;have Aa:=hb.trans (hb1.mono hz);have Ae:=Aa.size;have Ab:=ho.below hb1;obtain⟨c0,c1⟩:=Fp w1 (.int .i64 (k:Int)) (.int .i64 (c:Int)) 171;go_wp2_with (with_reducible first|refine aA ?_|refine lK ?_|refine jm ?_|refine uG ?_);refine Stop.out ?_
    refine rq rfl _ _ rfl w.heap.size pre (k,c) (by exact Ab.alloc _) w1.heap.size rfl (by exact c0) (by exact c1) (by omega) (by simp;omega) w (by exact Aa.alloc Ae _) ?_;intro v3 w3 ho3 hb3;obtain⟨a3,c3,rfl⟩:=ho3.len;have Ad:qc w.heap.size w3 (.slice a3 (pre.length+1) c3) (pre++[(k,c)]):=by simpa using ho3
    clear c0 c1 ho3;go_wp2;go_roundw
    case rel=>exact⟨k+n,_,by go_num,by omega,by simp;omega,h2.out,Ad,hb3⟩
    case measure=>simp[intOf];omega
  ·have h2:=Hh (HR.out.done (by rw[ay];omega))
   go_wp2;go_ret;rw[h2.out];exact⟨_,rfl,ho,hb⟩
end Go.Proofs.YtbcdaaobbebooaaGreatDoor
namespace Go.Proofs.YtbcdaaobbebooaaGreatDoor
def lw(f:aO):Bool:=(oG f.toks).isSome
def aO.eq(f:aO):Nat:=(oG f.toks).getD 0
def aR(f:aO):Bs:=aW f.toks 0 0 f.eq
def eP(row:List ag)(fr en:Nat):Bs:=if fr<en then vC (row[fr]?.getD ⟨0,⟨#[]⟩,0⟩)++aW row 0 (fr+1) en else []
def gX(l:List aO):Nat:=l.foldl (fun m f=>max m (dG (aR f))) 0
def lh:List aO->List aO
 |[]=>[]
 |f::r=>if lw f then f::r.takeWhile (fun g=>lw g&&!g.after) else []
def Ab(l:List aO):Nat->Nat
 |0=>0
 | k+1=>match l[k+1]?,l[k]? with
  |some f,some g=>if !f.after&&lw g then Ab l k else k+1
  |_,_=>k+1
def jX(l:List aO)(k:Nat):Nat:=gX (lh (l.drop (Ab l k)))
def qJ(W:Nat)(d:Int)(f:aO):Bs:=kY (2*d).toNat++(if lw f then aR f++(kY (W+1-dG (aR f))++(eP f.toks f.eq f.toks.length++[10])) else eP f.toks 0 f.toks.length++[10])
def Bl(f:aO)(pv:Option Bool):Bs:=if f.after&&(pv.isSome&&(!kZ f.toks&&pv != some true)) then [10] else []
def ni(l:List aO):Nat->Nat->Int->Option Bool->Bs
 |0,_,_,_=>[]
 | n+1,k,d,pv=>match l[k]? with
  |some f=>Bl f pv++(qJ (jX l k) (dR d f.toks) f++ni l n (k+1) (dD d f.toks) (some (iK f.toks)))
  |none=>[]
def xD:List aO->Nat->Bool->Int->Option Bool->Bs
 |[],_,_,_,_=>[]
 |f::r,W,pa,d,pv=>Bl f pv++(qJ (if pa&&!f.after then W else gX (lh (f::r))) (dR d f.toks) f++xD r (if pa&&!f.after then W else gX (lh (f::r))) (lw f) (dD d f.toks) (some (iK f.toks)))
theorem K5{l:List aO}{k:Nat}{f g:aO}(h1:l[k+1]?=some f)(h2:l[k]?=some g):Ab l (k+1)=if lw g&&!f.after then Ab l k else k+1:=by
 rw[Ab,h1,h2];simp only;rw[Bool.and_comm]
theorem J7(l:List aO):∀(n k:Nat) (d:Int) (pv:Option Bool) (W:Nat) (pa:Bool),l.length<=n+k->(∀f,l[k]?=some f->jX l k=if pa&&!f.after then W else gX (lh (l.drop k)))->ni l n k d pv=xD (l.drop k) W pa d pv
 |0,k,d,pv,W,pa,hn,_=>by rw[List.drop_eq_nil_of_le (by omega)];rfl
 | n+1,k,d,pv,W,pa,hn,hw=>by
  rw[ni]
  cases hk:l[k]? with
  |none=>
   rw[List.drop_eq_nil_of_le (List.getElem?_eq_none_iff.1 hk)];rfl
  |some f=>
   obtain⟨hlt,hf⟩:=List.getElem?_eq_some_iff.1 hk;have hd:l.drop k=f::l.drop (k+1):=by rw[List.drop_eq_getElem_cons hlt,hf]
   rw[hd,xD,<-hd,<-hw f hk];simp only
   congr 2
   refine J7 l n (k+1) _ _ _ _ (by omega) (fun g hg=>?_);unfold jX;rw[K5 hg hk];split<;>rfl
theorem Ii(l:List aO)(d:Int):ni l l.length 0 d none=xD l 0 false d none:=by
 have:=J7 l l.length 0 d none 0 false (by omega) (fun f hf=>by unfold jX Ab;rfl)
 rwa [List.drop_zero] at this
def VT(a:Bs):Prop:=(scan (nb a) 0).2=none
theorem VT.app{a b:Bs}(ha:VT a)(hb:VT b):VT (a++b)/\dG (a++b)=dG a+dG b:=by
 unfold VT at *;have h:=vD (nb a).length (nb a) (nb b) 0 lz (iB a) ha;have h2:=wY (nb b).length (nb b) 0 (nb a).length lz;have e:nb (a++b)=nb a++nb b:=by unfold nb;rw[List.map_append]
 rw[h2,hb] at h;unfold dG;rw[e,h,ha,hb];simp
theorem VT.one{c:UInt8}(h:c.toNat<128):VT [c]/\dG [c]=1:=by
 have h1:nb [c]=fu c.toNat:=by unfold nb fu;rw[if_pos h];rfl
 have h2:=JU (c:=c.toNat) (by rw[bZ];omega) 0;unfold VT dG;rw[h1,h2];exact⟨rfl,rfl⟩
theorem VT.nil:VT []/\dG []=0:=⟨rfl,rfl⟩
theorem VT.low:∀(l:Bs),(∀c∈l,c.toNat<128)->VT l/\dG l=l.length
 |[],_=>⟨rfl,rfl⟩
 | c::l,h=>by
  obtain⟨h1,h2⟩:=VT.low l (fun x hx=>h x (by simp[hx]));obtain⟨h3,h4⟩:=VT.one (h c (by simp));obtain⟨h5,h6⟩:=h3.app h1;rw[List.singleton_append] at h5 h6;exact⟨h5,by rw[h6,h4,h2,List.length_cons];omega⟩
theorem VT.sp(n:Nat):VT (kY n)/\dG (kY n)=n:=by
 have:=VT.low (kY n) (fun c hc=>by unfold kY at hc;rw[(List.mem_replicate.1 hc).2];decide);exact⟨this.1,by rw[this.2];simp[kY]⟩
theorem MU(n:Nat)(a:Bs)(h:VT a):dG (kY n++a)=n+dG a:=by
 rw[((VT.sp n).1.app h).2,(VT.sp n).2]
structure kX(f:aO):Prop where
 ne:f.toks≠[]
 cl:lw f=true->kZ f.toks=false
 op:lw f=true->iK f.toks=false
 tx:lw f=true->VT (aR f)
theorem zN{row:List ag}(ind en:Nat)(h0:row≠[])(h:0<en):aW row ind 0 en=kY ind++aW row 0 0 en:=by
 cases row with
 |nil=>exact absurd rfl h0
 |cons t r=>
  obtain⟨m,rfl⟩:∃m,en=m+1:=⟨en-1,by omega⟩;unfold aW rP;simp only[List.mapIdx_cons,List.take_succ_cons,List.drop_zero];unfold zi;simp only[List.flatMap_cons,Ot,qX,if_true];simp[kY]
theorem uN{row:List ag}(en:Nat)(h0:row≠[])(h:0<en):aW row 0 0 en=eP row 0 en:=by
 cases row with
 |nil=>exact absurd rfl h0
 |cons t r=>
  obtain⟨m,rfl⟩:∃m,en=m+1:=⟨en-1,by omega⟩;unfold eP;rw[if_pos (by omega)];unfold aW rP;simp only[List.mapIdx_cons,List.take_succ_cons,List.drop_zero,Nat.zero_add,List.drop_succ_cons];unfold zi;simp only[List.flatMap_cons,Ot,qX,if_true];simp[kY]
theorem EI{row:List ag}(ind fr en:Nat)(h:0<fr):aW row ind fr en=aW row 0 fr en:=by
 cases row with
 |nil=>rfl
 |cons t r=>
  obtain⟨m,rfl⟩:∃m,fr=m+1:=⟨fr-1,by omega⟩
  cases en with
  |zero=>simp[aW]
  |succ en=>
   unfold aW rP;simp only[List.mapIdx_cons,List.take_succ_cons,List.drop_succ_cons]
   congr 3
theorem kX.len{f:aO}(h:kX f):0<f.toks.length:=List.length_pos_iff.2 h.ne
theorem NH{f:aO}(h:kX f)(ha:lw f=false)(d:Int)(W:Nat):vT ⟨f.toks,d⟩=qJ W d f:=by
 unfold vT qJ;rw[ha,zN _ _ h.ne h.len,uN _ h.ne h.len];simp[aS.ind]
theorem mV{f:aO}(ha:lw f=true):oG f.toks=some f.eq/\1<=f.eq/\f.eq<f.toks.length:=by
 unfold lw at ha;obtain⟨i,hi⟩:=Option.isSome_iff_exists.1 ha;have:=pX hi;unfold aO.eq;rw[hi];exact⟨rfl,this.1,this.2⟩
theorem Bh{f:aO}(h:kX f)(ha:lw f=true)(d:Int):bH ⟨f.toks,d⟩=kY (2*d).toNat++aR f/\dG (bH ⟨f.toks,d⟩)=(2*d).toNat+dG (aR f):=by
 have he:=mV ha
 have e:bH ⟨f.toks,d⟩=kY (2*d).toNat++aR f:=by
  unfold bH aR;show aW f.toks _ 0 f.eq=_;rw[zN _ _ h.ne (by omega)];rfl
 exact⟨e,by rw[e,MU _ _ (h.tx ha)]⟩
theorem MB{f:aO}(h:kX f)(ha:lw f=true)(d:Int)(W:Nat)(hW:dG (aR f)<=W):fT ((2*d).toNat+W) ⟨f.toks,d⟩=qJ W d f:=by
 have he:=mV ha;obtain⟨h1,h2⟩:=Bh h ha d;unfold fT qJ;rw[h2,h1,if_pos ha];show _++(_++(vC (f.toks[f.eq]?.getD _)++(aW f.toks _ (f.eq+1) f.toks.length++[10])))=_;unfold eP;rw[if_pos he.2.2,EI _ _ _ (by omega),show (2*d).toNat+W-((2*d).toNat+dG (aR f))+1=W+1-dG (aR f) by omega];simp only[List.append_assoc]
theorem uX(f:aO->Nat):∀(l:List aO) (a:Nat),l.foldl (fun m x=>max m (f x)) a=max a (l.foldl (fun m x=>max m (f x)) 0)
 |[],a=>by simp
 | x::l,a=>by
  simp only[List.foldl_cons];rw[uX f l (max a (f x)),uX f l (max 0 (f x))];omega
def tr(d:Int)(f:aO):aS:=⟨f.toks,d⟩
theorem uD(f:aO)(l:List aO):gX (f::l)=max (dG (aR f)) (gX l):=by
 unfold gX;rw[List.foldl_cons,uX (fun f=>dG (aR f)) l (max 0 _)];omega
theorem JD(d:Int):∀(rs:List aO),rs≠[]->(∀f∈rs,kX f/\lw f=true)->ol (rs.map (tr d))=(2*d).toNat+gX rs:=by
 intro rs hne h
 have hk:∀(rs:List aO) (a:Nat),(∀f∈rs,kX f/\lw f=true)->(rs.map (tr d)).foldl (fun m r=>max m (dG (bH r))) ((2*d).toNat+a)=(2*d).toNat+rs.foldl (fun m f=>max m (dG (aR f))) a:=by
  intro rs
  induction rs with
  |nil=>intro a _;rfl
  |cons f rs ih=>
   intro a h;obtain⟨h1,h2⟩:=h f (by simp);simp only[List.map_cons,List.foldl_cons];rw[show bH (tr d f)=bH ⟨f.toks,d⟩ from rfl,(Bh h1 h2 d).2,show max ((2*d).toNat+a) ((2*d).toNat+dG (aR f))=(2*d).toNat+max a (dG (aR f)) by omega];exact ih _ (fun g hg=>h g (by simp[hg]))
 cases rs with
 |nil=>exact absurd rfl hne
 |cons f rs=>
  obtain⟨h1,h2⟩:=h f (by simp);unfold ol gX;simp only[List.map_cons,List.foldl_cons];rw[show bH (tr d f)=bH ⟨f.toks,d⟩ from rfl,(Bh h1 h2 d).2,show max 0 ((2*d).toNat+dG (aR f))=(2*d).toNat+max 0 (dG (aR f)) by omega];exact hk rs _ (fun g hg=>h g (by simp[hg]))
theorem FO:∀(l:List aO) (f:aO),f∈l->dG (aR f)<=gX l
 | g::l,f,h=>by
  rw[uD];rcases List.mem_cons.1 h with rfl|h
  ·omega
  ·have:=FO l f h;omega
theorem Fz(d:Int){rs:List aO}(hne:rs≠[])(h:∀f∈rs,kX f/\lw f=true):lC (rs.map (tr d))=rs.flatMap (qJ (gX rs) d):=by
 unfold lC;rw[JD d rs hne h]
 have hk:∀(l:List aO),(∀f∈l,f∈rs)->(l.map (tr d)).flatMap (fT ((2*d).toNat+gX rs))=l.flatMap (qJ (gX rs) d):=by
  intro l
  induction l with
  |nil=>intro _;rfl
  |cons f l ih=>
   intro hl;have hf:=hl f (by simp);obtain⟨h1,h2⟩:=h f hf;simp only[List.map_cons,List.flatMap_cons];rw[show fT _ (tr d f)=qJ (gX rs) d f from MB h1 h2 d _ (FO rs f hf),ih (fun g hg=>hl g (by simp[hg]))]
 exact hk rs (fun _ h=>h)
def oN(l:List aO):List aO:=l.takeWhile (fun g=>lw g&&!g.after)
theorem Hr(L:List aS)(run:List aS):dP (⟨[],0⟩::L) run=lC run++(10::dP L []):=by
 rw[dP];rfl
theorem LA{f:aO}(h:kX f)(ha:lw f=true)(d:Int):dR d f.toks=d/\dD d f.toks=d/\iK f.toks=false:=by
 have h1:=h.cl ha;have h2:=h.op ha;unfold dD dR;rw[h1,h2];exact⟨rfl,rfl,rfl⟩
theorem xh{f:aO}(ha:lw f=true)(d:Int)(L:List aS)(run:List aS):dP (⟨f.toks,d⟩::L) run=dP L (run++[tr d f]):=by
 rw[dP,if_pos (by exact ha)];rfl
theorem xg{f:aO}(h:kX f)(ha:lw f=false)(d:Int)(L:List aS)(run:List aS)(W:Nat):dP (⟨f.toks,d⟩::L) run=lC run++(qJ W d f++dP L []):=by
 rw[dP,if_neg (by intro e;rw[show (oG f.toks).isSome=lw f from rfl,ha] at e;cases e),NH h ha d W]
theorem NF:∀(l:List aO),(∀f∈l,kX f)->
  (∀(W:Nat) (d:Int) (pv:Option Bool) (pa:Bool),(∀f r,l=f::r->pa=true->f.after=true\/lw f=false)->dP (mE l d pv) []=xD l W pa d pv)/\
  (∀(rs:List aO) (d:Int),rs≠[]->(∀f∈rs,kX f/\lw f=true)->dP (mE l d (some false)) (rs.map (tr d))=rs.flatMap (qJ (gX (rs++oN l)) d)++xD l (gX (rs++oN l)) true d (some false)):=by
 intro l
 induction l with
 |nil=>
  intro _;refine⟨fun W d pv pa _=>rfl,fun rs d hne h=>?_⟩;rw[mE,dP,Fz d hne h,xD,List.append_nil];simp[oN]
 |cons f r ih=>
  intro hF;have hf:=hF f (by simp);obtain⟨hA,hB⟩:=ih (fun g hg=>hF g (by simp[hg]))
  have hE:∀(pv:Option Bool) (L run:List aS),dP ((if f.after&&(pv.isSome&&(!kZ f.toks&&pv != some true)) then [⟨[],0⟩] else [])++L) run=(if f.after&&(pv.isSome&&(!kZ f.toks&&pv != some true)) then lC run++(10::dP L []) else dP L run):=by
   intro pv L run;split
   ·exact Hr L run
   ·rfl
  constructor
  ·intro W d pv pa hpa
   rw[mE,hE,xD];unfold Bl
   by_cases ha:lw f=true
   ·obtain⟨d1,d2,d3⟩:=LA hf ha d
    rw[d1,d2,d3]
    have hw:(if (pa&&!f.after)=true then W else gX (lh (f::r)))=gX (lh (f::r)):=by
     rw[if_neg];intro e;rw[Bool.and_eq_true] at e;rcases hpa f r rfl e.1 with h|h
     ·rw[h] at e;exact absurd e.2 (by decide)
     ·rw[h] at ha;cases ha
    rw[hw,ha];have hb:=hB [f] d (by simp) (fun g hg=>by rw[List.mem_singleton.1 hg];exact⟨hf,ha⟩);have hs:[f]++oN r=lh (f::r):=by rw[lh,if_pos ha];rfl
    rw[hs] at hb;rw[xh ha,List.nil_append];simp only[List.map_singleton,List.flatMap_singleton] at hb;rw[hb];split
    ·rfl
    ·rfl
   ·have ha:lw f=false:=by simpa using ha
    rw[ha];generalize (if (pa&&!f.after)=true then W else gX (lh (f::r)))=Wx;rw[xg hf ha _ _ _ Wx,hA Wx _ _ false (fun _ _ _ h=>by cases h)];split
    ·rfl
    ·rfl
  ·intro rs d hne hrs
   rw[mE,hE]
   by_cases ha:lw f=true
   ·obtain⟨d1,d2,d3⟩:=LA hf ha d
    rw[d1,d2,d3]
    cases haf:f.after with
    |false=>
     have hc:oN (f::r)=f::oN r:=by
      unfold oN;rw[List.takeWhile_cons_of_pos (by rw[ha,haf];rfl)]
     simp only[Bool.false_and,Bool.false_eq_true,if_false];rw[xh ha,xD,haf,ha,d1,d2,d3]
     have hb:=hB (rs++[f]) d (by simp) (fun g hg=>by
      rcases List.mem_append.1 hg with h|h
      ·exact hrs g h
      ·rw[List.mem_singleton.1 h];exact⟨hf,ha⟩)
     rw[List.map_append,List.map_singleton] at hb;rw[hb,hc];unfold Bl;simp[haf]
    |true=>
     have hc:oN (f::r)=[]:=by
      unfold oN;rw[List.takeWhile_cons_of_neg (by rw[haf];simp)]
     have Aa:=hf.cl ha;rw[Aa];simp only[Option.isSome_some,Bool.not_false,Bool.true_and,Bool.and_self,if_true,show ((some false:Option Bool) != some true)=true from rfl];rw[xh ha,List.nil_append,Fz d hne hrs,hc,List.append_nil];have hb:=hB [f] d (by simp) (fun g hg=>by rw[List.mem_singleton.1 hg];exact⟨hf,ha⟩);have hs:[f]++oN r=lh (f::r):=by rw[lh,if_pos ha];rfl
     rw[hs] at hb;simp only[List.map_singleton,List.flatMap_singleton] at hb;rw[hb,xD,haf,ha,d1,d2,d3];unfold Bl;simp[haf,Aa]
   ·have ha:lw f=false:=by simpa using ha
    have hc:oN (f::r)=[]:=by
     unfold oN;rw[List.takeWhile_cons_of_neg (by rw[ha];simp)]
    rw[hc,List.append_nil,xD,ha];unfold Bl;generalize (if (true&&!f.after)=true then gX rs else gX (lh (f::r)))=Wx;rw[xg hf ha _ _ _ Wx,xg hf ha _ _ _ Wx,hA Wx _ _ false (fun _ _ _ h=>by cases h),Fz d hne hrs];split
    ·simp[lC]
    ·simp
def sP(rows:List (List ag)):Bs:=ni (iM rows false []) (iM rows false []).length 0 0 none
theorem G6{rows:List (List ag)}(hO:∀r∈rows,FH r)(hF:∀f∈fU rows.length false rows,kX f):lD rows=sP rows:=by
 unfold lD il sP
 have e:iM rows false []=fU rows.length false rows:=by
  rw[uj rows.length rows false [] lz hO (by rintro⟨o,x,q,h,-⟩;cases h),List.nil_append]
 rw[e,Ii];exact (NF _ hF).1 0 0 none false (fun _ _ _ h=>by cases h)
end Go.Proofs.YtbcdaaobbebooaaGreatDoor
