import Derived.Test.YtbcdaaobbebooaaGreatDoorKgm
set_option linter.unusedSimpArgs false
set_option linter.unusedVariables false
set_option maxRecDepth 100000
set_option maxHeartbeats 20000000
namespace Go.Proofs.YtbcdaaobbebooaaGreatDoor
open Go.RowKit Go.Tab
def qW(B:Nat)(w:World)(v:Value)(L:List j6):Prop:=
 ∃D:List (j5×j6),D.map (·.2)=L/\w.ownsRow B 110 4 v D.length (D.flatMap ny)/\∀d∈D,aO B w (eO d.1) d.2.toks
theorem sP{B B2 n sz:Nat}{E:TypeId}{w:World}{v:Value}{xs:List Value}(h:w.ownsRow B E sz v n xs)(hb:B2<=B):w.ownsRow B2 E sz v n xs:=by
 obtain⟨h1,h2⟩:=h;refine⟨h1,?_⟩;rcases h2 with h2|⟨g,cap,cur,hv,hg,r⟩
 ·exact .inl h2
 ·exact .inr ⟨g,cap,cur,hv,by omega,r⟩
theorem qW.nil(B:Nat)(w:World):qW B w (.slice none 0 0) []:=⟨[],rfl,World.ownsRow_nil _ _ _ _,fun d hd=>by cases hd⟩
theorem qW.base{B B2:Nat}{w:World}{v:Value}{L:List j6}(h:qW B w v L)(hb:B2<=B):qW B2 w v L:=by
 obtain⟨D,h1,h2,h3⟩:=h;exact⟨D,h1,sP h2 hb,fun d hd=>(h3 d hd).base_le hb⟩
theorem qJ.rows{B gr go gl:Nat}{w:World}{lv:Value}{D:List (j5×j6)}{cur:j5}{toks:List ag}{fr hi dp o:Int}(h:qJ B gr go gl w lv D cur toks fr hi dp o):qW B w lv (D.map (·.2)):=⟨D,rfl,h.own,fun d hd=>(h.fin d hd).1⟩
theorem qJ.start(w1:World):qJ w1.heap.size (w1.heap.size+1) (w1.heap.size+2) w1.heap.size
  (((w1.alloc (.cells #[.slice none 0 0] 95)).alloc (.cells #[.slice none 0 0,.int .i64 0,.int .i64 0,.int .i64 0] 110)).alloc (.cells #[.int .i64 0] 3)) (.slice none 0 0) [] (none,0,0) [] 0 0 0 0:=by
 have c1:=((ae.new w1 #[.slice none 0 0] 95).alloc (.cells #[.slice none 0 0,.int .i64 0,.int .i64 0,.int .i64 0] 110)).alloc (.cells #[.int .i64 0] 3);have c2:=(ae.new (w1.alloc (.cells #[.slice none 0 0] 95)) #[.slice none 0 0,.int .i64 0,.int .i64 0,.int .i64 0] 110).alloc (.cells #[.int .i64 0] 3);have c3:=ae.new ((w1.alloc (.cells #[.slice none 0 0] 95)).alloc (.cells #[.slice none 0 0,.int .i64 0,.int .i64 0,.int .i64 0] 110)) #[.int .i64 0] 3;simp only[World.size_alloc] at c2 c3;exact⟨c2,c3,c1,World.ownsRow_nil _ _ _ _,(by simp[Value.ownBlock]),aO.nil,(fun d hd=>by cases hd),by omega⟩
theorem KU(l:Bs):∀t∈(iT l).1,0<=t.pos/\t.pos<=(l.length:Nat):=by
 have:=(xN l.length l 0 lz).1;rw[Nat.zero_add] at this;unfold iT;split
 ·exact this
 ·intro t ht;cases ht
theorem Lu(o:Int)(l:List ag)(m:Nat)(h : -(m:Int)<=o/\o<=m) : -((m+1:Nat):Int)<=eZ o l/\eZ o l<=((m+1:Nat):Int):=by
 unfold eZ gD;split<;>split<;>omega
theorem EI{size:Int}{l:List ag}{k:Nat}(hk:k<l.length)(h:l[k].kind≠5)(cur:List ag)(fr o:Int):fU size (l.drop k) cur fr o=fU size (l.drop (k+1)) (cur++[l[k]]) fr o:=by
 rw[List.drop_eq_getElem_cons hk,fU,if_neg h]
theorem Ii{size:Int}{l:List ag}{k:Nat}(hk:k<l.length)(h:l[k].kind=5)(cur:List ag)(fr o:Int):fU size (l.drop k) cur fr o=qF o cur fr l[k].pos::fU size (l.drop (k+1)) [] (l[k].pos+1) (eZ o cur):=by
 rw[List.drop_eq_getElem_cons hk,fU,if_pos h]
structure PK(w1:World)(size:Int)(R:List j6)(toks:List ag)(k:Nat)(w:World)(lv:Value)(D:List (j5×j6))(cur:j5)(ct:List ag)(fr hi dp o:Int):Prop where
 s:qJ w1.heap.size (w1.heap.size+1) (w1.heap.size+2) w1.heap.size w lv D cur ct fr hi dp o
 b:Below w1.heap.size w1 w
 r:R=D.map (·.2)++fU size (toks.drop k) ct fr o
 n:D.length+ct.length<=k
 o : -(D.length:Int)<=o/\o<=D.length
 f:0<=fr/\fr<=size+1
theorem Fs(s:ByteArray)(w:World)(hT:jk w)(hs:s.size<=800000):Calls Tryz.prog 61 #[.string s] w fun e w'=>∃v,e=.returned v/\qW w.heap.size w' v (bV s.data.toList)/\Below w.heap.size w w':=by
 have hL:=ol s w hT (by omega);have A0:s.data.toList.length=s.size:=jc s;have An:=KU s.data.toList;have As:=(xM s.data.toList).1;obtain⟨R,hR⟩:=exq (bV s.data.toList);rw[<-hR];unfold bV at hR;rw[A0] at An As hR;generalize iT s.data.toList=X at *;obtain⟨Aa,A8,er⟩:=X;simp only at hL As An hR;have HR:=Hh hR;have HP:=Hh An;clear hR An A0;go_enter Tryz.func61,Tryz.ntmps61;go_wp2_with fail;refine hL.mono ?_;clear hL;rintro _ w1 ⟨tv,rfl,hown,hb1⟩
 by_cases he:er=0
 ·subst he
  have A4:Hid (R=fU s.size Aa [] 0 0):=Hh (by rw[HR.out,if_pos rfl]);have A1:=hown.toks;obtain⟨ta,tc,rfl⟩:=hown.len;have Ap:=Hh hb1;have A2:=Hh A1;have Az:=qJ.start w1;have Ax:=Hh Az;clear hown A1 hb1 hT HR Az;obtain⟨G,hG⟩:=exq w1.heap.size;go_wp2_with fail;go_loopw [24] (fun i wr=>∃(k:Nat) (lv:Value) (D:List (j5×j6)) (cur:j5) (ct:List ag) (fr hi dp o:Int),k<=Aa.length/\i=.int .i64 (k:Int)/\PK w1 s.size R Aa k wr lv D cur ct fr hi dp o) (fun i _=>Aa.length-(intOf i).toNat)
  case atStart=>exact⟨0,_,_,_,[],0,0,0,0,Nat.zero_le _,rfl,Ax.out,by (with_reducible repeat' first|refine Below.setCell ?_ ?_ _|refine Below.alloc ?_ ?_ _|refine Below.drew ?_|refine ah ?_ _|assumption|exact Below.refl _ _|(simp only[World.size_alloc,World.size_setCell,World.size_drew];first|done|omega)|omega),by rw[A4.out,List.drop_zero];rfl,Nat.le_refl _,by simp,by omega⟩
  case round=>
   clear Ax;obtain⟨k,lv,D,cur,ct,fr,hi,dp,o,hk,rfl,hI⟩:=hrel;have A7:=hI.b.size
   by_cases hkl:k<Aa.length
   ·obtain⟨b,AB,rfl,Av,hq⟩:=mh (A2.out.below hI.b lz) hkl
    obtain⟨q0,q1,q2⟩:=hq wr (Below.refl _ _);have A6:=HP.out Aa[k] (List.getElem_mem hkl);have HE:=Hh (fun h=>Ii (size:=s.size) hkl h ct fr o);have HS:=Hh (fun h=>EI (size:=s.size) hkl h ct fr o);have Au:=gZ wr Aa[k];generalize Aa[k]=t at *;have h1:=hI.s.below Au;have Ay:=hI.b.trans (Au.mono A7);obtain⟨kd,tx,ps⟩:=t;simp only at q0 q1 q2 A6 HE HS;have HI:=Jh hI (And.intro h1 Ay);have hr:=hI.s.r;have ho:=hI.s.o;have hl:=hI.s.l;have lr:=hr.lt;have lo:=ho.lt;have ll:=hl.lt;obtain⟨Ab,Ah,Ae,Ai,Af,Aj,Ag,Ak⟩:=hr.n4 rfl;obtain⟨Al,Am⟩:=ho.n1 rfl;obtain⟨Ac,Ad⟩:=hl.n1 rfl;clear hr ho hl;clear hq Au hI h1 Ay
    by_cases h5:kd=5
    ·subst h5
     have Aq:=uQ HI.out.2.1 ps (by omega) (by have:=HI.out.1.o;have:=HI.out.1.n;omega) (by have:=HI.out.1.n;omega) (by have:=HI.out.1.n;omega);go_wp2_with fail;refine Aq.mono ?_;rintro _ w3 ⟨rfl,⟨lv3,h3⟩,hb3⟩
     have HN:Hid (PK w1 s.size R Aa (k+1) w3 lv3 (D++[(cur,qF o ct fr ps)]) (none,0,0) [] (ps+1) 0 0 (eZ o ct)):=Hh (by
      refine⟨h3,HI.out.2.2.trans hb3,?_,?_,?_,by omega⟩
      ·rw[HI.out.1.r,HE.out (by trivial)];simp
      ·have:=HI.out.1.n;simp;omega
      ·have:=Lu o ct D.length HI.out.1.o
       simpa using this)
     clear Aq h3 hb3 Ab Ae Af Ag Ah Ai Aj Ak Al Am Ac Ad lr lo ll q0 q1 q2;go_wp2_with fail;go_roundw
     case rel=>exact⟨k+1,_,_,_,_,_,_,_,_,hkl,by go_num,HN.out⟩
     case measure=>simp[intOf];omega
    ·have e5:(kd==5)=false:=by simpa using h5
     obtain⟨ca,cn,cc⟩:=cur;obtain⟨a',c',e'⟩:=HI.out.1.s.tk.len;simp only[eO,Value.slice.injEq] at e';obtain⟨rfl,rfl,rfl⟩:=e';have H2:=Hh (HI.out.2.1.below (gZ _ ⟨kd,tx,ps⟩));have Ao:=H2.out.tk;have Aq:=HI.out.1.n;simp only[eO] at Ab Ao;have A5:=Hh (HS.out h5);clear h5 HS HE;go_wp2_with (with_reducible first|refine aK ?_)
     refine Stop.out ?_
     refine ja rfl _ _ rfl w1.heap.size ct ⟨kd,tx,ps⟩ (by exact Ao) (wr.heap.size+1) (by first|rfl|simp) (by
      have:=ae.new (wr.alloc (.cells #[.int .i64 kd,.string tx,.int .i64 ps] 63)) #[.int .i64 kd,.string tx,.int .i64 ps] 63;rw[World.size_alloc] at this
      exact this) (by omega) (by simp;omega) (wr.heap.size+2) (by simp) ?_
     intro g3 cap3 w3 hown3 hg3 hat3 hlt3;have hN:=H2.out.tok hg3 hown3 (hat3.imp id (fun q=>by simp;omega))
     have HN:Hid (PK w1 s.size R Aa (k+1) (w3.setCell ⟨w1.heap.size+1,0,none⟩ (.slice (some ⟨g3,0,none⟩) (ct.length+1) cap3)) lv D (some ⟨g3,0,none⟩,ct.length+1,cap3) (ct++[⟨kd,tx,ps⟩]) fr hi dp o):=Hh (by
      refine⟨hN,?_,?_,?_,HI.out.1.o,HI.out.1.f⟩
      ·have hA:=(HI.out.2.2.alloc (by simp;omega) (l5 ⟨kd,tx,ps⟩)).grown hg3 (by simp;omega) (fun j e=>(World.ownsRow.lt Ao j e).1)
       exact hA.setCell (by show w1.heap.size<=w1.heap.size+1;omega) _
      ·rw[HI.out.1.r,A5.out]
      ·simp;omega)
     have hr:=H2.out.r.kept hg3 (fun e=>(H2.out.cur_fresh _ e.symm).2.1 rfl);clear Ao hg3 hown3 hat3 hN Ab Ae Af Ag Ah Ai Aj Ak Al Am Ac Ad lr lo ll q0 q1 q2;have lr:=hr.lt;obtain⟨Ab,Ah,Ae,Ai,Af,Aj,Ag,Ak⟩:=hr.n4 rfl;clear hr;go_wp2_with fail;go_roundw
     case rel=>exact⟨k+1,_,_,_,_,_,_,_,_,hkl,by go_num,HN.out⟩
     case measure=>simp[intOf];omega
   ·obtain rfl:k=Aa.length:=by omega
    have At:=hI.r;rw[List.drop_length,fU] at At;have HI:=Hh hI;have A9:=hI.f;have Aw:=Hh At;have hr:=hI.s.r;have ho:=hI.s.o;have hl:=hI.s.l;have lr:=hr.lt;have lo:=ho.lt;have ll:=hl.lt;obtain⟨Ab,Ah,Ae,Ai,Af,Aj,Ag,Ak⟩:=hr.n4 rfl;obtain⟨Al,Am⟩:=ho.n1 rfl;obtain⟨Ac,Ad⟩:=hl.n1 rfl;clear hr ho hl;clear hI At
    by_cases Av:fr<(s.size:Int)
    ·have Aq:=uQ HI.out.s s.size (by omega) (by have:=HI.out.o;have:=HI.out.n;omega) (by have:=HI.out.n;omega) (by have:=HI.out.n;omega)
     have Ar:=Aw;rw[if_pos Av] at Ar;go_wp2_with fail;refine Aq.mono ?_;rintro _ w3 ⟨rfl,⟨lv3,h3⟩,hb3⟩;have HN:=Jh h3 (HI.out.b.trans hb3);clear Aq hb3 Ab Ae Af Ag Ah Ai Aj Ak Al Am Ac Ad lr lo ll;have hl:=h3.l;have ll:=hl.lt;obtain⟨Ac,Ad⟩:=hl.n1 rfl;clear h3 hl;go_wp2_with fail;go_ret;refine⟨_,rfl,?_,Ap.out.trans (HN.out.2.mono Ap.out.size)⟩;have:=HN.out.1.rows.base (B2:=w.heap.size) (by have:=Ap.out.size;omega);rw[Ar.out]
     simpa using this
    ·have Ar:=Aw
     rw[if_neg Av] at Ar;go_wp2_with fail;go_ret;refine⟨_,rfl,?_,Ap.out.trans (HI.out.b.mono Ap.out.size)⟩;have:=HI.out.s.rows.base (B2:=w.heap.size) (by have:=Ap.out.size;omega);rw[Ar.out]
     simpa using this
 ·have AA:(er != 0)=true:=by simpa using he
  have Ap:=Hh hb1;have A3:Hid (R=[]):=Hh (by rw[HR.out,if_neg he]);clear hown hb1 he HR;go_wp2_with fail;go_ret;rw[A3.out];exact⟨_,rfl,qW.nil _ _,Ap.out⟩
theorem DT:∀(D:List (j5×j6)) (j:Nat) (h:j<D.length),(D.flatMap ny)[j*4]?=some (eO D[j].1)/\(D.flatMap ny)[j*4+1]?=some (.int .i64 D[j].2.lo)/\(D.flatMap ny)[j*4+2]?=some (.int .i64 D[j].2.hi)/\(D.flatMap ny)[j*4+3]?=some (.int .i64 D[j].2.dep)
 |p::l,0,_=>by simp[ny]
 | p::l,j+1,h=>by
  have ih:=DT l j (by simpa using h);have e1:(j+1)*4=j*4+4:=by omega
  rw[e1]
  simpa [ny] using ih
def pU(B:Nat)(w:World)(v:Value)(L:List j6):Prop:=
 ∃a cap,v=.slice a L.length cap/\L.length<=cap/\cap<=maxLen/\(a=none->cap=0)/\
  ∀x,a=some x->L≠[]->x.spot=none/\x.block<w.heap.size/\∀j (h:j<L.length),∃s:j5,aO B w (eO s) L[j].toks/\w.cell? ⟨x.block,x.off+j*4,none⟩=some (eO s)/\
   w.cell? ⟨x.block,x.off+j*4+1,none⟩=some (.int .i64 L[j].lo)/\w.cell? ⟨x.block,x.off+j*4+2,none⟩=some (.int .i64 L[j].hi)/\w.cell? ⟨x.block,x.off+j*4+3,none⟩=some (.int .i64 L[j].dep)
theorem pU.nil{B:Nat}{w:World}:pU B w (.slice none 0 0) []:=⟨none,0,rfl,Nat.le_refl _,Nat.zero_le _,fun _=>rfl,fun x hx=>by cases hx⟩
theorem qW.at{B:Nat}{w:World}{v:Value}{L:List j6}(h:qW B w v L):pU B w v L:=by
 obtain⟨D,rfl,Aa,hD⟩:=h;have Ab:=World.ownsRow.lt Aa;obtain⟨h1,h2⟩:=Aa;rcases h2 with ⟨rfl,h3⟩|⟨g,cap,cur,rfl,hb,hg,h3,h4,h5,h6⟩
 ·have:D=[]:=List.eq_nil_of_length_eq_zero h3
  subst this;exact pU.nil
 ·refine⟨_,cap,by rw[List.length_map],by rw[List.length_map];exact h3,h4,(fun h=>by cases h),fun x hx _=>?_⟩
  cases hx
  refine⟨rfl,(Ab g rfl).2,fun j hj=>?_⟩;rw[List.length_map] at hj;obtain⟨f1,f2,f3,f4⟩:=DT D j hj;rw[<-h6,List.getElem?_take,if_pos (by omega)] at f1 f2 f3 f4;rw[List.getElem_map];refine⟨D[j].1,hD D[j] (List.getElem_mem hj),?_,?_,?_,?_⟩
  all_goals rw[cell_of_row w g _ cur 110 (0,0) hg]
  ·simpa using f1
  ·simpa using f2
  ·simpa using f3
  ·simpa using f4
theorem pU.len{B:Nat}{w:World}{v:Value}{L:List j6}(h:pU B w v L):∃a cap,v=.slice a L.length cap/\L.length<=cap/\cap<=maxLen/\(a=none->cap=0):=by
 obtain⟨a,cap,h1,h2,h3,h4,-⟩:=h;exact⟨a,cap,h1,h2,h3,h4⟩
theorem pU.get{B:Nat}{w:World}{a:Option Addr}{n cap:Nat}{L:List j6}(h:pU B w (.slice a n cap) L){j:Nat}(hj:j<L.length) :
  ∃b off,∃s:j5,a=some ⟨b,off,none⟩/\b<w.heap.size/\aO B w (eO s) L[j].toks/\w.cell? ⟨b,off+j*4,none⟩=some (eO s)/\
   w.cell? ⟨b,off+j*4+1,none⟩=some (.int .i64 L[j].lo)/\w.cell? ⟨b,off+j*4+2,none⟩=some (.int .i64 L[j].hi)/\w.cell? ⟨b,off+j*4+3,none⟩=some (.int .i64 L[j].dep):=by
 obtain⟨a',Aa,he,h1,h2,h3,h4⟩:=h;cases he
 cases a with
 |none=>have:=h3 rfl;omega
 |some x=>
  obtain⟨b,off,sp⟩:=x;obtain⟨rfl,g2,g3⟩:=h4 _ rfl (by intro h0;subst h0;simp at hj);obtain⟨s,q⟩:=g3 j hj;exact⟨b,off,s,rfl,g2,q⟩
theorem Pw:∀x:j5,(eO x).oneCell'=true:=fun _=>rfl
theorem Tryz.infoSlT:(Tryz.prog.info? 22).map (fun i=>(i.zero,i.size,i.bytes))=some (some (.slice none 0 0),1,24):=by kernel_rfl
def vF(B:Nat)(w:World)(v:Value)(L:List (List ag)):Prop:=
 ∃ss:List j5,RowOf eO w v ss/\ss.length=L.length/\∀j (h1:j<ss.length) (h2:j<L.length),aO B w (eO ss[j]) L[j]
theorem vF.below{B:Nat}{w w':World}{v:Value}{L:List (List ag)}(h:vF B w v L)(hb:Below w.heap.size w w'):vF B w' v L:=by
 obtain⟨ss,h1,h2,h3⟩:=h;exact⟨ss,h1.below hb lz,h2,fun j q1 q2=>(h3 j q1 q2).below hb lz⟩
theorem vF.len{B:Nat}{w:World}{v:Value}{L:List (List ag)}(h:vF B w v L):∃a cap,v=.slice a L.length cap/\L.length<=cap/\cap<=maxLen/\(a=none->cap=0):=by
 obtain⟨ss,h1,h2,-⟩:=h;rw[<-h2];exact h1.len
theorem vF.get{B:Nat}{w:World}{a:Option Addr}{n cap:Nat}{L:List (List ag)}(h:vF B w (.slice a n cap) L){j:Nat}(hj:j<L.length) :
  ∃b off,∃s:j5,a=some ⟨b,off,none⟩/\b<w.heap.size/\aO B w (eO s) L[j]/\w.cell? ⟨b,off+j,none⟩=some (eO s):=by
 obtain⟨ss,h1,h2,h3⟩:=h;obtain⟨b,off,rfl,Aa,hc⟩:=h1.at (j:=j) (by omega);exact⟨b,off,ss[j]'(by omega),rfl,Aa,h3 j (by omega) hj,hc j (by omega)⟩
theorem MI(w:World)(s:j5)(E:TypeId):RowOf eO (w.alloc (.cells #[eO s] E)) (.slice (some ⟨w.heap.size,0,none⟩) 1 1) [s]:=by
 refine⟨_,1,rfl,Nat.le_refl _,by decide,(fun h=>by cases h),fun x hx _=>?_⟩;cases hx
 refine⟨rfl,by simp,fun j hj=>?_⟩;obtain rfl:j=0:=by simpa using hj
 rw[World.cell?_alloc_new];rfl
theorem Fu(s:ByteArray)(w:World)(hT:jk w)(hs:s.size<=800000)(hn:(bV s.data.toList).length<=1000000):Calls Tryz.prog 42 #[.string s] w fun e w'=>∃v,e=.returned v/\vF w.heap.size w' v ((bV s.data.toList).map (·.toks))/\Below w.heap.size w w':=by
 have hR:=Fs s w hT hs;generalize bV s.data.toList=L at *;go_enter Tryz.func42,Tryz.ntmps42;go_wp2_with fail;refine hR.mono ?_;clear hR;rintro _ w1 ⟨rv,rfl,hD,hb1⟩;have hA:=hD.at;obtain⟨ra,rc,rfl,Al,Aj,-⟩:=hA.len;unfold maxLen at Aj;have HA:=Hh hA;have Ah:=Hh hb1;clear hA hD hb1;go_wp2_with fail;go_loopw [3,9] (fun lv i wr=>∃(k:Nat) (ss:List j5),k<=L.length/\i=.int .i64 (k:Int)/\aT eO 22 w1.heap.size wr lv ss/\ss.length=k/\(∀j (h1:j<ss.length) (h2:j<L.length),aO w.heap.size w1 (eO ss[j]) L[j].toks)/\Below w1.heap.size w1 wr) (fun _ i _=>L.length-(intOf i).toNat)
 case atStart=>exact⟨0,[],Nat.zero_le _,rfl,aT.nil,rfl,(fun j h=>by cases h),Below.refl _ _⟩
 case round=>
  obtain⟨k,ss,hk,rfl,Aa,Ab,Ad,hb⟩:=hrel;have Am:=hb.size
  by_cases hkl:k<L.length
  ·obtain⟨b,Ae,s0,rfl,Ac,ht,q0,q1,q2,q3⟩:=HA.out.get hkl
   obtain⟨sa,sn,sc⟩:=s0;have Ak:b<wr.heap.size:=by omega
   have r0:=(hb.cell (p:=⟨b,Ae+k*4,none⟩) Ac).trans q0;have r1:=(hb.cell (p:=⟨b,Ae+k*4+1,none⟩) Ac).trans q1;have r2:=(hb.cell (p:=⟨b,Ae+k*4+2,none⟩) Ac).trans q2;have r3:=(hb.cell (p:=⟨b,Ae+k*4+3,none⟩) Ac).trans q3;simp only[eO] at r0
   have HS:Hid (∀j (h1:j<(ss++[(sa,sn,sc)]).length) (h2:j<L.length),aO w.heap.size w1 (eO (ss++[(sa,sn,sc)])[j]) L[j].toks):=Hh (fun j h1 h2=>by
    by_cases hj:j<ss.length
    ·rw[List.getElem_append_left hj];exact Ad j hj h2
    ·have:j=k:=by simp at h1;omega
     subst this;rw[List.getElem_append_right (by omega)]
     simpa [Ab] using ht)
   generalize L[k].lo=lo at *;generalize L[k].hi=hi at *;generalize L[k].dep=dep at *;have HB:=Hh hb;have HO:=Hh Aa;have Ai:=Hh Ab;obtain⟨oa,oc,rfl,-⟩:=Aa.row.len;clear q0 q1 q2 q3 ht Ad Aa hb Ab;go_wp2_with (with_reducible first|refine aK ?_)
   refine Stop.out ?_;have Af:=HB.out.alloc HB.out.size (.cells #[.slice sa sn sc,.int .i64 lo,.int .i64 hi,.int .i64 dep] 110);have Ag:=Ai.out
   refine dG (f:=eO) rfl _ _ 73 rfl w1.heap.size 22 24 (.slice none 0 0) Tryz.underlying73 Tryz.infoSlT rfl Pw ss [(sa,sn,sc)] (by exact (HO.out.alloc _).alloc _) (by
     have q:=MI (wr.alloc (.cells #[.slice sa sn sc,.int .i64 lo,.int .i64 hi,.int .i64 dep] 110)) (sa,sn,sc) 22;simp only[World.size_alloc] at q
     exact q) (by simp;unfold maxLen;omega) (by simp;omega) (by simp;omega) w1 (by exact Af.alloc Af.size _) ?_
   intro v2 w2 hown2 hb2 hg2;obtain⟨An,Ao,rfl,-⟩:=hown2.row.len;have HN:=Jh hown2 hb2;clear hown2 hb2 hg2 Af Ag;go_wp2_with fail;go_roundw
   case rel=>exact⟨k+1,ss++[(sa,sn,sc)],hkl,by go_num,by have q:=HN.out.1;simp only[List.length_append,List.length_singleton] at q;exact q,by rw[List.length_append,Ai.out];rfl,HS.out,HN.out.2⟩
   case measure=>simp[intOf];omega
  ·obtain rfl:k=L.length:=by omega
   have HB:=Hh hb;obtain⟨oa,oc,rfl,-⟩:=Aa.row.len
   have HN:Hid (vF w.heap.size wr (.slice oa ss.length oc) (L.map (·.toks))):=Hh ⟨ss,Aa.row,by simpa using Ab,fun j h1 h2=>by
    rw[List.getElem_map]
    exact (Ad j h1 (by simpa using h2)).below hb lz⟩
   clear Aa Ad hb Ab;go_wp2_with fail;go_ret;exact⟨_,rfl,HN.out,Ah.out.trans (HB.out.mono Ah.out.size)⟩
def l8(d:j5×aI):List Value:=[eO d.1,.int .i64 d.2.dep]
def Em(B:Nat)(w:World)(v:Value)(R:List aI):Prop:=
 ∃D:List (j5×aI),D.map (·.2)=R/\w.ownsRow B 103 2 v D.length (D.flatMap l8)/\∀d∈D,aO B w (eO d.1) d.2.toks
theorem Em.len{B:Nat}{w:World}{v:Value}{R:List aI}(h:Em B w v R):∃a cap,v=.slice a R.length cap/\R.length<=cap/\cap<=maxLen:=by
 obtain⟨D,rfl,Aa,-⟩:=h;obtain⟨h1,h2⟩:=Aa;rcases h2 with ⟨rfl,h3⟩|⟨g,cap,cur,rfl,hb,hg,h3,h4,-⟩
 ·rw[List.length_map,h3];exact⟨none,0,rfl,Nat.le_refl _,Nat.zero_le _⟩
 ·rw[List.length_map];exact⟨_,cap,rfl,h3,h4⟩
theorem JP{B g k:Nat}{w w':World}{cs:Array Value}{t:TypeId}(h:oO B g w w')(hc:w.heap[k]?=some (.cells cs t (0,0)))(hk:k≠g)(ht:t≠5):w'.heap[k]?=w.heap[k]?:=by
 rw[hc];exact h.cells (cs:=cs) (t:=t) hc hk ht
theorem Fb{B Bg g n sz:Nat}{E:TypeId}{w w':World}{v:Value}{xs:List Value}{l:Bs}(h:w.ownsRow B E sz v n xs)(hw:BW Bg w g l)(hr:oO Bg g w w')(h1:E≠69)(h2:E≠5):w'.ownsRow B E sz v n xs:=by
 refine bZ h fun k e=>?_;obtain⟨cs,hc⟩:=Bb h k e;exact JP hr hc (hw.ne hc h1) h2
theorem sS{B Bg g:Nat}{w w':World}{v:Value}{t:List ag}{l:Bs}(h:aO B w v t)(hw:BW Bg w g l)(hr:oO Bg g w w'):aO B w' v t:=Fb h hw hr (by decide) (by decide)
theorem Em.wr{B Bg g:Nat}{w w':World}{v:Value}{R:List aI}{l:Bs}(h:Em B w v R)(hw:BW Bg w g l)(hr:oO Bg g w w'):Em B w' v R:=by
 obtain⟨D,h1,h2,h3⟩:=h;exact⟨D,h1,Fb h2 hw hr (by decide) (by decide),fun d hd=>sS (h3 d hd) hw hr⟩
theorem Aa:∀(D:List (j5×aI)) (j:Nat) (h:j<D.length),(D.flatMap l8)[j*2]?=some (eO D[j].1)/\(D.flatMap l8)[j*2+1]?=some (.int .i64 D[j].2.dep)
 |p::l,0,_=>by simp[l8]
 | p::l,j+1,h=>by
  have ih:=Aa l j (by simpa using h);have e1:(j+1)*2=j*2+2:=by omega
  rw[e1]
  simpa [l8] using ih
theorem Em.get{B:Nat}{w:World}{a:Option Addr}{n c:Nat}{R:List aI}(h:Em B w (.slice a n c) R){j:Nat}(hj:j<R.length) :
  ∃b,∃s:j5,a=some ⟨b,0,none⟩/\b<w.heap.size/\aO B w (eO s) R[j].toks/\w.cell? ⟨b,j*2,none⟩=some (eO s)/\w.cell? ⟨b,j*2+1,none⟩=some (.int .i64 R[j].dep):=by
 obtain⟨D,rfl,Ab,hD⟩:=h;rw[List.length_map] at hj;have Ac:=World.ownsRow.lt Ab;obtain⟨h1,h2⟩:=Ab;rcases h2 with ⟨h2,h3⟩|⟨g,cap,cur,h2,hb,hg,h3,h4,h5,h6⟩
 ·omega
 ·cases h2
  obtain⟨f1,f2⟩:=Aa D j hj;rw[<-h6,List.getElem?_take,if_pos (by omega)] at f1 f2;rw[List.getElem_map];refine⟨g,D[j].1,rfl,(Ac g rfl).2,hD D[j] (List.getElem_mem hj),?_,?_⟩
  all_goals rw[cell_of_row w g _ cur 103 (0,0) hg]
  ·simpa using f1
  ·simpa using f2
def zh(B:Nat)(w:World):Prop:=∀W,Below B w W->Tab W
theorem zh.go{B:Nat}{w w':World}(h:zh B w)(hb:Below B w w'):zh B w':=fun W hW=>h W (hb.trans hW)
theorem zh.out{B:Nat}{w:World}(h:zh B w):Tab w:=h w (Below.refl _ _)
structure zk(r:aI):Prop where
 d:0<=r.dep/\r.dep<=1000000
 l:r.toks.length<=1000000
 s:(cu r.toks r.ind 0 r.toks.length).length<=1000000
theorem GN(r:aI):r.eq<=r.toks.length:=by
 unfold aI.eq
 cases h:rV r.toks with
 |none=>exact Nat.zero_le _
 |some i=>exact Nat.le_of_lt (pK h).2
theorem zk.head{r:aI}(h:zk r):(bq r).length<=1000000:=Nat.le_trans (CX (GN r)) h.s
theorem Tryz.infoStrZ:(Tryz.prog.info? 9).map (fun i=>(i.zero,i.size,i.bytes))=some (some (.string ⟨#[]⟩),1,16):=by kernel_rfl
theorem Tryz.infoIntZ:(Tryz.prog.info? 3).map (fun i=>(i.zero,i.size,i.bytes))=some (some (.int .i64 0),1,8):=by kernel_rfl
theorem He{R:List aI}{k:Nat}(hk:k<R.length):kW (R.take (k+1))=max (kW (R.take k)) (iA (bq R[k])):=by
 unfold kW;rw[List.take_succ_eq_append_getElem hk,List.foldl_append];rfl
theorem tN(l:Bs):iA l<=l.length:=by
 unfold iA;split
 ·have:=Co (nb l).length (nb l) 0 lz
  rw[j3] at this;exact this
 ·omega
theorem JR{R:List aI}{r:aI}(h:r∈R):iA (bq r)<=kW R:=by
 have hk:∀(l:List aI) (a:Nat),a<=l.foldl (fun m r=>max m (iA (bq r))) a/\∀x∈l,iA (bq x)<=l.foldl (fun m r=>max m (iA (bq r))) a:=by
  intro l
  induction l with
  |nil=>intro a;exact⟨Nat.le_refl _,fun x hx=>by cases hx⟩
  |cons y l ih=>
   intro a;obtain⟨h1,h2⟩:=ih (max a (iA (bq y)));rw[List.foldl_cons];refine⟨by omega,fun x hx=>?_⟩;rcases List.mem_cons.1 hx with rfl|hx
   ·omega
   ·exact h2 x hx
 exact (hk R 0).2 r h
theorem AB{R:List aI}(h:∀r∈R,zk r):kW R<=1000000:=by
 have hk:∀(l:List aI) (a:Nat),a<=1000000->(∀r∈l,zk r)->l.foldl (fun m r=>max m (iA (bq r))) a<=1000000:=by
  intro l
  induction l with
  |nil=>intro a ha _;exact ha
  |cons r l ih=>
   intro a ha h;refine ih _ ?_ (fun x hx=>h x (by simp[hx]));have h1:=tN (bq r);have h2:=(h r (by simp)).head;show max a (iA (bq r))<=1000000;omega
 exact hk R 0 (by omega) h
structure BN(B B0 g:Nat)(w:World)(hb:Nat)(M N:Array Value)(rb:Nat)(s:j5)(dep:Int)(toks:List ag)(L:Bs)(W:World):Prop where
 bw:BW B W g L
 m:ae W hb M 9
 n:ae W (hb+1) N 3
 r:ae W rb #[eO s,.int .i64 dep] 103
 t:aO B0 W (eO s) toks
 p:oO B g w W
section
variable {B B0 g hb rb:Nat} {w W W':World} {M N:Array Value} {s:j5} {dep:Int} {toks:List ag} {L L':Bs}
theorem BN.wr(h:BN B B0 g w hb M N rb s dep toks L W)(hw:BW B W' g L')(hp:oO B g W W'):BN B B0 g w hb M N rb s dep toks L' W':=
 ⟨hw,hp.cells h.m (h.bw.ne h.m (by decide)) (by decide),hp.cells h.n (h.bw.ne h.n (by decide)) (by decide),hp.cells h.r (h.bw.ne h.r (by decide)) (by decide),sS h.t h.bw hp,h.p.trans hp⟩
theorem BN.below(h:BN B B0 g w hb M N rb s dep toks L W)(hq:Below W.heap.size W W'):BN B B0 g w hb M N rb s dep toks L W':=
 h.wr (h.bw.below hq) (oO.of hq (by have:=h.bw.lt;have:=h.bw.1;omega))
theorem BN.put(h:BN B B0 g w hb M N rb s dep toks L W)(ps:List ByteArray)(hl:L.length+(iI ps).length<=1000000000)(hn:ps.length<=10) :
  Calls Tryz.prog 66 #[.pointer (some ⟨g,0,none⟩),.slice (some ⟨W.heap.size,0,none⟩) ps.length ps.length] (W.alloc (.cells (ps.map Value.string).toArray 9)) fun e w'=>e=.returned (.tuple #[])/\BN B B0 g w hb M N rb s dep toks (L++iI ps) w':=by
 have h1:=h.below ((Below.refl _ W).alloc lz (.cells (ps.map Value.string).toArray 9));refine (vP ps h1.bw (ae.new W _ _) hl hn).mono ?_;rintro e w' ⟨rfl,h2,h3⟩;exact⟨rfl,h1.wr h2 h3⟩
end
theorem IY{R:List aI}{W k:Nat}(hk:k<R.length):(R.take (k+1)).flatMap (fO W)=(R.take k).flatMap (fO W)++fO W R[k]:=by
 rw[List.take_succ_eq_append_getElem hk,List.flatMap_append];simp
theorem MV{R:List aI}{W:Nat}(k:Nat):((R.take k).flatMap (fO W)).length<=(R.flatMap (fO W)).length:=by
 conv=>rhs;rw[<-List.take_append_drop k R,List.flatMap_append,List.length_append]
 omega
structure P5(R:List aI)(k:Nat)(M N:Array Value):Prop where
 m:M.size=R.length
 n:N.size=R.length
 h:∀j (h:j<R.length),j<k->M[j]?=some (.string (ay (bq R[j])))/\N[j]?=some (.int .i64 (iA (bq R[j]):Nat))
theorem JD{B B0 g:Nat}{w:World}{l:Bs}(R:List aI)(v:Value)(hW:BW B w g l)(hR:Em B0 w v R)(hF:∀r∈R,zk r/\(rV r.toks).isSome=true)(hn:R.length<=1000000)(hl:l.length+(mK R).length<=500000000)(hT:zh B w) :
  Calls Tryz.prog 64 #[.pointer (some ⟨g,0,none⟩),v] w fun e w'=>e=.returned (.tuple #[])/\BW B w' g (l++mK R)/\oO B g w w':=by
 obtain⟨ra,rc,rfl,A8,As⟩:=hR.len;unfold maxLen at As;have hB:B<=w.heap.size:=by have:=hW.lt;have:=hW.1;omega
 have H0:=Jh hW (And.intro hR hT);have HF:=Hh hF;have HL:=Hh hl;clear hW hR hT hF hl;go_enter Tryz.func64,Tryz.ntmps64;go_wp2_with (with_reducible first|refine ng ?_)
 refine Stop.out ?_;refine oD rfl _ _ _ rfl 9 16 1 _ Tryz.underlying34 Tryz.infoStrZ _ _ R.length rfl rfl (by omega) (by unfold maxLen;omega) ?_;rintro M0 w1 hM0 rfl;rw[Nat.mul_one] at hM0;go_wp2_with (with_reducible first|refine ng ?_)
 refine Stop.out ?_;refine oD rfl _ _ _ rfl 3 8 1 _ Tryz.underlying58 Tryz.infoIntZ _ _ R.length rfl rfl (by omega) (by unfold maxLen;omega) ?_;rintro N0 w2 hN0 rfl;rw[Nat.mul_one] at hN0;have AM:Below w.heap.size w (w.alloc (.cells M0 9)):=(Below.refl _ w).alloc lz _;have AN:=AM.alloc (by simp) (.cells N0 3);have A8:=(ae.new w M0 9).alloc (.cells N0 3);have As:=ae.new (w.alloc (.cells M0 9)) N0 3;simp only[World.size_alloc] at As;have HS:=Jh AN (And.intro A8 (And.intro As (And.intro hM0 hN0)));clear AM AN A8 As hM0 hN0;go_wp2_with fail;go_loopw [6,20] (fun wd i wr=>∃(k:Nat) (M N:Array Value),k<=R.length/\i=.int .i64 (k:Int)/\wd=.int .i64 (kW (R.take k):Nat)/\P5 R k M N/\ae wr w.heap.size M 9/\ae wr (w.heap.size+1) N 3/\Below w.heap.size w wr) (fun _ i _=>R.length-(intOf i).toNat)
 case atStart=>exact⟨0,M0,N0,Nat.zero_le _,rfl,rfl,⟨HS.out.2.2.2.1,HS.out.2.2.2.2,fun j _ h=>by omega⟩,HS.out.2.1,HS.out.2.2.1,HS.out.1⟩
 case round=>
  clear HS;obtain⟨k,M,N,hk,rfl,rfl,hH,hM,hN,hb⟩:=hrel;have Bk:=hb.size;have Bf:=hM.lt;have Bg:=hN.lt
  by_cases hkl:k<R.length
  ·have Ap:=H0.out.2.1.wr H0.out.1 (oO.of hb hB)
   obtain⟨b,s,rfl,Ba,Ab,q0,q1⟩:=Ap.get hkl;obtain⟨sa,sn,sc⟩:=s;obtain⟨Ac,Ar⟩:=HF.out R[k] (List.getElem_mem hkl);have Av:=He hkl
   have Aj:rV R[k].toks=some R[k].eq:=by
    unfold aI.eq;obtain⟨i,hi⟩:=Option.isSome_iff_exists.1 Ar;rw[hi];rfl
   have AQ:=GN R[k];have AA:kW R<=1000000:=AB (fun r hr=>(HF.out r hr).1);have AG:Hid (∀j (h:j<R.length),j=k->R[j]=R[k]):=Hh (fun j h e=>by subst e;rfl);generalize R[k]=r at *
   have Al:∀W,Below wr.heap.size wr W->Calls Tryz.prog 65 #[.agg #[.slice sa sn sc,.int .i64 r.dep]] W fun e w'=>e=.returned (.int .i64 (r.eq:Nat))/\Below W.heap.size W w':=fun W hW=>by
    have:=wF W _ r.toks r.dep ((Ab.below hW lz).toks) Ac.l;rw[Aj] at this;exact this
   have Az:∀W,Below wr.heap.size wr W->Calls Tryz.prog 67 #[.agg #[.slice sa sn sc,.int .i64 r.dep],.int .i64 0,.int .i64 (r.eq:Nat)] W fun e w'=>e=.returned (.string (ay (bq r)))/\Below W.heap.size W w':=fun W hW=>
    ry W _ r.toks r.dep 0 r.eq ((Ab.below hW lz).toks) Ac.d (Nat.zero_le _) AQ Ac.l (by have:=Ac.head;show (bq r).length<=_;omega)
   have AO:=tN (bq r);have AP:=Ac.head;have Ah:Hid (LA (scan (bs (ay (bq r))) 0)=iA (bq r)/\(ay (bq r)).size=(bq r).length):=Hh ⟨rfl,by show (bq r).toArray.size=_;simp⟩;have A6:=fun W (hW:Below w.heap.size w W)=>JI (ay (bq r)) W ((H0.out.2.2.go (hW.mono hB)).out) (by rw[Ah.out.2];omega);rw[Ah.out.1] at A6;have HI:=Jh hH (And.intro hM (And.intro hN hb));have HW:=Hh Av;generalize (scan (bs (ay (bq r))) 0).2.isNone=vb at *
   have AV:Hid (∀(hm:k<M.size) (hn:k<N.size),P5 R (k+1) (M.set k (.string (ay (bq r))) hm) (N.set k (.int .i64 (iA (bq r):Nat)) hn)):=Hh (fun hm hn=>by
    refine⟨by simpa using hH.m,by simpa using hH.n,fun j hj hjk=>?_⟩
    by_cases e:j=k
    ·subst e
     rw[AG.out j hj rfl];simp
    ·rw[Array.getElem?_set_ne _ (fun q=>e q.symm),Array.getElem?_set_ne _ (fun q=>e q.symm)]
     exact hH.h j hj (by omega))
   generalize ay (bq r)=hd at *;generalize iA (bq r)=cn at *;generalize r.eq=eq at *;generalize r.dep=dep at *;have A1:k<M.size:=by rw[hH.m];exact hkl
   have A9:k<N.size:=by rw[hH.n];exact hkl
   have i1:(0:Int)<=(k:Int):=by omega
   have i2:(k:Int)<(R.length:Int):=by omega
   have Bl:kW (R.take k)<=1000000:=AB (fun x hx=>(HF.out x (List.mem_of_mem_take hx)).1);clear Ap Ab Ac Ar Aj AQ hH hM hN hb AG Av;simp only[eO] at q0;have Ai:Below wr.heap.size wr (wr.alloc (.cells #[.slice sa sn sc,.int .i64 dep] 103)):=(Below.refl _ wr).alloc lz _;have AH:=ae.new wr #[.slice sa sn sc,.int .i64 dep] 103;have HA:=Jh Ai AH;have H5:Hid (∀W,Below wr.heap.size wr W->ae W w.heap.size M 9/\ae W (w.heap.size+1) N 3/\Below w.heap.size w W):=Hh fun W hW=>⟨HI.out.2.1.below hW HI.out.2.1.lt,HI.out.2.2.1.below hW HI.out.2.2.1.lt,aQ HI.out.2.2.2 hW⟩;clear Ai AH AA;go_upto_region 6 with fail
   obtain⟨g0,g1⟩:=HA.out.2.m2 rfl;have AS:=HA.out.1.drew;go_cut [] (fun wc=>∃w6,Below wr.heap.size wr w6/\ae w6 wr.heap.size #[.slice sa sn sc,.int .i64 dep] 103/\wc=w6.setCell ⟨w.heap.size,k,none⟩ (.string hd))
   case first=>
    go_region_held3 (fun w'=>w'.cell? ⟨wr.heap.size,0,none⟩=some (.slice sa sn sc)/\w'.cell? ⟨wr.heap.size,1,none⟩=some (.int .i64 dep)) (first|(with_reducible exact⟨g0,g1⟩)|(with_reducible exact⟨g70,g71⟩)|(with_reducible exact⟨g60,g61⟩)|(with_reducible exact⟨g50,g51⟩)|go_keep) (first
     |(go_at_call 67;(with_reducible refine (Az _ hx5).mono ?_);rintro _ w6 ⟨rfl,hb6⟩;have Aw:=aQ hx5 hb6;have Ax:=hy5.below hb6 hy5.lt;obtain⟨g60,g61⟩:=Ax.m2 rfl;have AD:=(H5.out w6 Aw).1;have Bh:=AD.lt;have c6:=AD.cell k _ (Array.getElem?_eq_getElem A1);have f6:=AD.frozen k;have AT:=Ax.setOther ⟨w.heap.size,k,none⟩ (.string hd) (by show w.heap.size≠wr.heap.size;omega);have g70:=AT.cell 0 _ rfl;have g71:=AT.cell 1 _ rfl)
     |(go_at_call 65;(with_reducible refine (Al _ AS).mono ?_);rintro _ w5 ⟨rfl,hb5⟩;have hx5:=aQ AS hb5;have hy5:=HA.out.2.drew.below hb5 HA.out.2.lt;have g50:=hy5.cell 0 _ rfl;have g51:=hy5.cell 1 _ rfl))
    all_goals
     go_wp2_with fail;go_meet
     exact⟨w6,Aw,Ax,rfl⟩
   case rest=>
    obtain⟨w6,Aw,Ax,rfl⟩:=hcut;have h6:=H5.out w6 Aw;have Ay:=h6.1.set k A1 (.string hd);have Am:=h6.2.1.setOther ⟨w.heap.size,k,none⟩ (.string hd) (by show w.heap.size≠w.heap.size+1;omega);have hb6:=h6.2.2.setCell (p:=⟨w.heap.size,k,none⟩) lz (.string hd);have H6:=Jh Ay (And.intro Am hb6);have c6:=Ay.cell k (.string hd) (by simp);have d6:=Am.cell k _ (Array.getElem?_eq_getElem A9);have e6:=Am.frozen k;have l6:=Ay.lt;have l7:=Am.lt;have Ak:=A6 _ hb6;have Bm:max ((kW (R.take k):Nat):Int) ((cn:Nat):Int)=((kW (R.take (k+1)):Nat):Int):=by rw[HW.out];omega
    clear Aw Ax h6 Ay Am hb6 H5 A6 Al Az;go_wp2_with fail;refine Ak.mono ?_;rintro _ _ ⟨rfl,rfl⟩;clear Ak;go_wp2_with fail;go_roundw
    case rel=>exact⟨k+1,_,_,hkl,by go_num,rfl,AV.out A1 A9,H6.out.1.setOther ⟨w.heap.size+1,k,none⟩ _ (by show w.heap.size+1≠w.heap.size;omega),H6.out.2.1.set k A9 _,H6.out.2.2.setCell (p:=⟨w.heap.size+1,k,none⟩) (by show w.heap.size<=w.heap.size+1;omega) _⟩
    case measure=>simp[intOf];omega
  ·obtain rfl:k=R.length:=by omega
   rw[List.take_length];have A7:=oO.of (g:=g) hb hB;have H1:=Jh (H0.out.1.below hb) (And.intro (H0.out.2.1.wr H0.out.1 A7) (And.intro (H0.out.2.2.go (hb.mono hB)) A7));have HM:=Jh hH (And.intro hM hN);have AA:kW R<=1000000:=AB (fun r hr=>(HF.out r hr).1);have Aq:mK R=R.flatMap (fO (kW R)):=rfl;have A3:=Hh Aq;obtain⟨WD,A0⟩:=exq (kW R);rw[<-A0] at A3 AA ⊢;have Be:=Hh A0;have AU:Hid (∀j (h:j<R.length),iA (bq R[j])<=WD):=Hh (fun j h=>by rw[A0];exact JR (List.getElem_mem h));clear hH hM hN hb A7 Aq A0 hkl hk;obtain⟨wq,AC⟩:=exq wr;have HQ:=Hh AC;rw[<-AC] at H1 HM;clear AC;go_wp2_with fail;go_loopw [52] (fun i wr=>∃(k:Nat),k<=R.length/\i=.int .i64 (k:Int)/\BW B wr g (l++(R.take k).flatMap (fO WD))/\oO B g wq wr) (fun i _=>R.length-(intOf i).toNat)
   case atStart=>exact⟨0,Nat.zero_le _,rfl,by rw[List.take_zero,List.flatMap_nil,List.append_nil,<-HQ.out];exact H1.out.1,by rw[<-HQ.out];exact oO.refl _ _ _⟩
   case round=>
    obtain⟨k,hk,rfl,Af,hp⟩:=hrel
    by_cases hkl:k<R.length
    ·have Ap:=H1.out.2.1.wr H1.out.1 hp
     obtain⟨b,s,rfl,Ba,Ab,q0,q1⟩:=Ap.get hkl;obtain⟨sa,sn,sc⟩:=s;obtain⟨Ac,Ar⟩:=HF.out R[k] (List.getElem_mem hkl)
     have Aj:rV R[k].toks=some R[k].eq:=by
      unfold aI.eq;obtain⟨i,hi⟩:=Option.isSome_iff_exists.1 Ar;rw[hi];rfl
     have Ae:=(pK Aj).2;obtain⟨tb,Aa,rfl,Bd,-,-,-⟩:=Ab.toks.get Ae;obtain⟨m0,n0⟩:=HM.out.1.h k hkl hkl;have Bb:=AU.out k hkl;have At:=IY (W:=WD) hkl;have Ag:=MV (R:=R) (W:=WD) (k+1);have AZ:=HL.out;rw[A3.out] at AZ;have AO:=tN (bq R[k]);have AP:=Ac.head
     have A2:sn=R[k].toks.length:=by
      obtain⟨a',c',e'⟩:=Ab.len;simp only[eO,Value.slice.injEq] at e';exact e'.2.1
     have AI:fO WD R[k]=bq R[k]++(nS (WD-iA (bq R[k])+1)++(mP (R[k].toks[R[k].eq]'Ae)++(cu R[k].toks R[k].ind (R[k].eq+1) R[k].toks.length++[10]))):=by
      unfold fO;rw[List.getElem?_eq_getElem Ae];rfl
     rw[AI] at At
     have AL:BN B B0 g wq w.heap.size M N wr.heap.size (some ⟨tb,Aa,none⟩,sn,sc) R[k].dep R[k].toks (l++(R.take k).flatMap (fO WD)) (wr.alloc (.cells #[.slice (some ⟨tb,Aa,none⟩) sn sc,.int .i64 R[k].dep] 103)):=by
      have Ai:Below wr.heap.size wr (wr.alloc (.cells #[.slice (some ⟨tb,Aa,none⟩) sn sc,.int .i64 R[k].dep] 103)):=(Below.refl _ wr).alloc lz _;refine⟨Af.below Ai,(hp.cells HM.out.2.1 (H1.out.1.ne HM.out.2.1 (by decide)) (by decide)).alloc _,(hp.cells HM.out.2.2 (H1.out.1.ne HM.out.2.2 (by decide)) (by decide)).alloc _,ae.new _ _ _,Ab.below Ai lz,hp.trans (oO.of Ai (by have:=Af.lt;have:=Af.1;omega))⟩
     have hX:∀W L,BN B B0 g wq w.heap.size M N wr.heap.size (some ⟨tb,Aa,none⟩,sn,sc) R[k].dep R[k].toks L W->W.cell? ⟨tb,Aa+R[k].eq*3+1,none⟩=some (.string R[k].toks[R[k].eq].text)/\tb<W.heap.size:=fun W L h=>by
      obtain⟨b',o',e',AX,-,AY,-⟩:=h.t.toks.get Ae;cases e'
      exact⟨AY,AX⟩
     have Al:∀W L,BN B B0 g wq w.heap.size M N wr.heap.size (some ⟨tb,Aa,none⟩,sn,sc) R[k].dep R[k].toks L W->Calls Tryz.prog 65 #[.agg #[.slice (some ⟨tb,Aa,none⟩) sn sc,.int .i64 R[k].dep]] W fun e w'=>e=.returned (.int .i64 (R[k].eq:Nat))/\BN B B0 g wq w.heap.size M N wr.heap.size (some ⟨tb,Aa,none⟩,sn,sc) R[k].dep R[k].toks L w':=fun W L h=>by
      have:=wF W _ R[k].toks R[k].dep h.t.toks Ac.l;rw[Aj] at this;refine this.mono ?_;rintro e w' ⟨rfl,hb'⟩;exact⟨rfl,h.below hb'⟩
     have AR:(cu R[k].toks R[k].ind (R[k].eq+1) R[k].toks.length).length<=500000000:=by
      have:=Ag;rw[At] at this;simp only[List.length_append] at this;omega
     have Az:∀W L,BN B B0 g wq w.heap.size M N wr.heap.size (some ⟨tb,Aa,none⟩,sn,sc) R[k].dep R[k].toks L W->Calls Tryz.prog 67 #[.agg #[.slice (some ⟨tb,Aa,none⟩) sn sc,.int .i64 R[k].dep],.int .i64 ((R[k].eq:Int)+1),.int .i64 (sn:Nat)] W fun e w'=>e=.returned (.string (ay (cu R[k].toks R[k].ind (R[k].eq+1) R[k].toks.length)))/\BN B B0 g wq w.heap.size M N wr.heap.size (some ⟨tb,Aa,none⟩,sn,sc) R[k].dep R[k].toks L w':=fun W L h=>by
      rw[A2,show ((R[k].eq:Int)+1)=((R[k].eq+1:Nat):Int) by omega];have h2:=h;rw[A2] at h2;refine (ry W _ R[k].toks R[k].dep (R[k].eq+1) R[k].toks.length h2.t.toks Ac.d Ae lz Ac.l AR).mono ?_;rintro e w' ⟨rfl,hb'⟩;rw[A2] at h;exact⟨rfl,h.below hb'⟩
     have A5:Hid (((R.take k).flatMap (fO WD)).length+((bq R[k]).length+((WD-iA (bq R[k])+1)+((R[k].toks[R[k].eq]'Ae).text.data.toList.length+((cu R[k].toks R[k].ind (R[k].eq+1) R[k].toks.length).length+1))))<=(R.flatMap (fO WD)).length):=Hh (by
      have:=Ag;rw[At] at this
      simpa [nS] using this)
     have AE:Hid ((R.take (k+1)).flatMap (fO WD)=(R.take k).flatMap (fO WD)++(bq R[k]++(nS (WD-iA (bq R[k])+1)++((R[k].toks[R[k].eq]'Ae).text.data.toList++(cu R[k].toks R[k].ind (R[k].eq+1) R[k].toks.length++[10]))))):=Hh At;have AW:=Hh AL;have Bc:R[k].eq<sn:=by omega
     have Bj:sn<=1000000:=by have:=Ac.l;omega
     have Ah:Hid ((ay (bq R[k])).data.toList=bq R[k]):=Hh rfl;have AF:Hid ((ay (cu R[k].toks R[k].ind (R[k].eq+1) R[k].toks.length)).data.toList=cu R[k].toks R[k].ind (R[k].eq+1) R[k].toks.length):=Hh rfl;clear Ap Ab Ar Aj At Ag A2 AI AL AR Ac hp Af;generalize R[k].toks=toks at *;generalize R[k].ind=ind at *;generalize bq R[k]=HB at *;generalize R[k].dep=dep at *;generalize R[k].eq=eq at *;generalize toks[eq].text=tx at *;generalize cu toks ind (eq+1) toks.length=PB at *;generalize ay HB=hd at *;generalize ay PB=pr at *;generalize iA HB=cn at *;obtain⟨Ad,Au⟩:=exq (WD-cn+1);have k5:IntKind.i64.wrap ((WD:Int)-(cn:Int))=(WD:Int)-(cn:Int):=IntWalk.i64_in _ (by omega);have k6:IntKind.i64.wrap ((WD:Int)-(cn:Int)+1)=(Ad:Int):=by rw[IntWalk.i64_in _ (by omega)];omega
     rw[<-Au] at A5 AE;have Bi:Ad<=1000001:=by omega
     have Ao:=fun W=>ED Ad W (by omega);have A4:Hid ((JK Ad).data.toList=nS Ad/\(JK Ad).size=Ad):=Hh ⟨rfl,wH Ad⟩;generalize JK Ad=sp at *;simp only[eO] at q0;have A1:=HM.out.1.m;have i1:(0:Int)<=(k:Int):=by omega
     have i2:(k:Int)<(R.length:Int):=by omega
     have i3:(0:Int)<=(eq:Int):=by omega
     have i4:(eq:Int)<(sn:Int):=by omega
     clear Ae Bd Bc Bb AO AP Au;go_wp2_with fail;refine (Al _ _ AW.out).mono ?_;rintro _ w4 ⟨rfl,h4⟩;have H4:=Hh h4;have a0:=h4.m.cell k _ m0;have a1:=h4.n.cell k _ n0;have a2:=h4.r.cell 0 (.slice (some ⟨tb,Aa,none⟩) sn sc) rfl;have a3:=h4.r.cell 1 _ rfl;obtain⟨a4,a5⟩:=hX _ _ h4;have a6:=h4.m.lt;have a7:=h4.n.lt;have a8:=h4.r.lt;have H5:Hid (∀W,Below w4.drew.heap.size w4.drew W->BN B B0 g wq w.heap.size M N wr.heap.size (some ⟨tb,Aa,none⟩,sn,sc) dep toks (l++(R.take k).flatMap (fO WD)) W):=Hh fun W hW=>H4.out.below (((Below.refl _ w4).drew).trans hW)
     have An:∀W,BN B B0 g wq w.heap.size M N wr.heap.size (some ⟨tb,Aa,none⟩,sn,sc) dep toks (l++(R.take k).flatMap (fO WD)) W->Calls Tryz.prog 66 #[.pointer (some ⟨g,0,none⟩),.slice (some ⟨W.heap.size,0,none⟩) 3 3] (W.alloc (.cells #[.string hd,.string sp,.string tx] 9)) fun e w'=>e=.returned (.tuple #[])/\BN B B0 g wq w.heap.size M N wr.heap.size (some ⟨tb,Aa,none⟩,sn,sc) dep toks ((l++(R.take k).flatMap (fO WD))++iI [hd,sp,tx]) w':=fun W h=>h.put [hd,sp,tx] (by
      have e:(iI [hd,sp,tx]).length=HB.length+(Ad+tx.data.toList.length):=by simp[iI,Ah.out,A4.out.1,nS]
      have:=A5.out;rw[e,List.length_append]
      omega) (by simp)
     clear h4 Al;go_upto_region 14 with fail
     go_cut [] (fun wc=>BN B B0 g wq w.heap.size M N wr.heap.size (some ⟨tb,Aa,none⟩,sn,sc) dep toks ((l++(R.take k).flatMap (fO WD))++iI [hd,sp,tx]) wc)
     case first=>
      go_region_held3 (fun w'=>w'.cell? ⟨w.heap.size,k,none⟩=some (.string hd)/\w'.cell? ⟨w.heap.size+1,k,none⟩=some (.int .i64 (cn:Nat))/\w'.cell? ⟨wr.heap.size,0,none⟩=some (.slice (some ⟨tb,Aa,none⟩) sn sc)/\w'.cell? ⟨tb,Aa+eq*3+1,none⟩=some (.string tx)) (first|(with_reducible exact⟨a0,a1,a2,a4⟩)|(with_reducible exact⟨g60,g61,g62,g64⟩)|(with_reducible exact⟨g50,g51,g52,g54⟩)|go_keep) (first
       |(go_at_call 66;(refine (An _ hx5).mono ?_);rintro _ w6 ⟨rfl,h6⟩;have g60:=h6.m.cell k _ m0;have g61:=h6.n.cell k _ n0;have g62:=h6.r.cell 0 (.slice (some ⟨tb,Aa,none⟩) sn sc) rfl;have g64:=(hX _ _ h6).1)
       |(go_at_call 111;(with_reducible refine (Ao _).mono ?_);rintro _ w5 ⟨rfl,hb5⟩;have hx5:=H5.out w5 hb5;have g50:=hx5.m.cell k _ m0;have g51:=hx5.n.cell k _ n0;have g52:=hx5.r.cell 0 (.slice (some ⟨tb,Aa,none⟩) sn sc) rfl;obtain⟨g54,z5⟩:=hX _ _ hx5;have z6:=hx5.m.lt;have z7:=hx5.n.lt;have z8:=hx5.r.lt))
      all_goals
       go_wp2_with fail;go_meet
       exact h6
     case rest=>
      have h7:=hcut;have a2:=h7.r.cell 0 (.slice (some ⟨tb,Aa,none⟩) sn sc) rfl;have a3:=h7.r.cell 1 _ rfl;have a8:=h7.r.lt;have AK:=Az _ _ h7;clear hcut h7 An H5 Ao a0 a1 a4 a5 a6 a7;go_wp2_with fail;refine AK.mono ?_;rintro _ w8 ⟨rfl,h8⟩
      have AJ:=h8.put [pr,⟨#[10]⟩] (by
       have e1:(iI [hd,sp,tx]).length=HB.length+(Ad+tx.data.toList.length):=by simp[iI,Ah.out,A4.out.1,nS]
       have e2:(iI [pr,⟨#[10]⟩]).length=PB.length+1:=by simp[iI,AF.out]
       have:=A5.out;rw[e2,List.length_append,List.length_append,e1]
       omega) (by simp)
      clear AK h8;go_wp2_with fail;refine AJ.mono ?_;rintro _ w9 ⟨rfl,h9⟩
      have HN:Hid (BW B w9 g (l++(R.take (k+1)).flatMap (fO WD))/\oO B g wq w9):=Hh ⟨by
       have e:l++(R.take (k+1)).flatMap (fO WD)=(l++(R.take k).flatMap (fO WD))++iI [hd,sp,tx]++iI [pr,⟨#[10]⟩]:=by
        rw[AE.out];simp[iI,Ah.out,A4.out.1,AF.out]
       rw[e]
       exact h9.bw,h9.p⟩
      clear AJ h9;go_wp2_with fail;go_roundw
      case rel=>exact⟨k+1,hkl,by go_num,HN.out.1,HN.out.2⟩
      case measure=>simp[intOf];omega
    ·obtain rfl:k=R.length:=by omega
     rw[List.take_length] at Af;have HN:Hid (BW B wr g (l++mK R)/\oO B g w wr):=Hh ⟨by rw[A3.out];exact Af,H1.out.2.2.2.trans hp⟩;clear Af hp;go_wp2_with fail;refine bodyPost_end (v:=.tuple #[]) (by simp[results,Tryz.results64,go_sem]) rfl ?_;exact⟨rfl,HN.out.1,HN.out.2⟩
end Go.Proofs.YtbcdaaobbebooaaGreatDoor
namespace Go.Proofs.YtbcdaaobbebooaaGreatDoor
def mO(r:List ag):Nat:=(r.map fun t=>1+(mP t).length).sum
def Ga(l:List (List ag)):Nat:=(l.map mO).sum
theorem sj(a b:List ag):mO (a++b)=mO a+mO b:=by simp[mO]
theorem lG(t:ag)(r:List ag):mO (t::r)=1+(mP t).length+mO r:=by simp[mO]
theorem oU(r:List ag)(l:List (List ag)):Ga (r::l)=mO r+Ga l:=by simp[Ga]
theorem F9(r:List ag):r.length<=mO r:=by
 induction r with
 |nil=>exact Nat.le_refl _
 |cons t r ih=>rw[lG,List.length_cons];omega
theorem F8{r:List ag}{t:ag}(h:t∈r):(mP t).length<=mO r:=by
 induction r with
 |nil=>cases h
 |cons u r ih=>
  rw[lG];rcases List.mem_cons.1 h with rfl|h
  ·omega
  ·have:=ih h;omega
theorem vU:∀(k:Nat) (l:Bs) (p:Nat),l.length<=k->mO (aG l p).1<=2*l.length
 | 0,l,p,h=>by
  obtain rfl:=List.eq_nil_of_length_eq_zero (Nat.le_zero.1 h);exact Nat.le_refl _
 |k+1,[],p,_=>Nat.le_refl _
 | k+1,c::r,p,h=>by
  simp only[List.length_cons] at h
  by_cases hb:bG c=true
  ·rw[bO hb]
   have:=vU k r (p+1) (by omega);simp only[List.length_cons];omega
  ·have hb':bG c=false:=by simpa using hb
   cases ho:dN (c::r) with
   |bad off e=>rw[eB hb' ho];simp[mO]
   |tok kd sz=>
    rw[di hb' ho];have hs:=dh ho;have:=vU k ((c::r).drop sz) (p+sz) (by rw[List.length_drop,List.length_cons];omega);rw[List.length_drop] at this;rw[lG];simp only[mP,ay,List.length_take,List.length_cons] at this hs ⊢;omega
theorem wQ(size:Int):∀(toks cur:List ag) (fr o:Int),Ga ((fU size toks cur fr o).map (·.toks))<=mO cur+mO toks/\(fU size toks cur fr o).length<=toks.length+1/\∀r∈fU size toks cur fr o,r.toks.length<=cur.length+toks.length
 | [],cur,fr,o=>by
  rw[fU];split
  ·refine⟨by simp[Ga,qF],by simp,fun r hr=>?_⟩
   rw[List.mem_singleton.1 hr];simp[qF]
  ·exact⟨by simp[Ga],by simp,fun r hr=>by cases hr⟩
 | t::toks,cur,fr,o=>by
  rw[fU,lG,List.length_cons];split
  ·obtain⟨h1,h2,h3⟩:=wQ size toks [] (t.pos+1) (eZ o cur)
   rw[List.map_cons,oU,List.length_cons];have e:(qF o cur fr t.pos).toks=cur:=rfl;rw[e];refine⟨by simp only[mO,List.map_nil,List.sum_nil] at h1 ⊢;omega,by omega,fun r hr=>?_⟩;rcases List.mem_cons.1 hr with rfl|hr
   ·rw[e];omega
   ·have:=h3 r hr;simp only[List.length_nil] at this;omega
  ·obtain⟨h1,h2,h3⟩:=wQ size toks (cur++[t]) fr o
   rw[sj,lG] at h1;refine⟨by simp only[mO,List.map_nil,List.sum_nil] at h1 ⊢;omega,by omega,fun r hr=>?_⟩;have:=h3 r hr;simp only[List.length_append,List.length_cons,List.length_nil] at this;omega
theorem wO(l:Bs):Ga ((bV l).map (·.toks))<=2*l.length/\(bV l).length<=l.length+1/\∀r∈bV l,r.toks.length<=l.length:=by
 unfold bV iT;split
 ·have h:=wQ l.length (aG l 0).1 [] 0 0
  have h2:=vU l.length l 0 lz;have h3:=lS l.length l 0 lz;refine⟨?_,?_,fun r hr=>?_⟩
  ·have:=h.1
   simp only[mO,List.map_nil,List.sum_nil] at this h2 ⊢;simp only[if_true] at this ⊢;omega
  ·have:=h.2.1;simp only[if_true] at this ⊢;omega
  ·have:=h.2.2 r (by simpa using hr)
   simp only[List.length_nil] at this;omega
 ·exact⟨by simp[Ga],by simp,fun r hr=>by cases hr⟩
theorem DZ:∀l:List (List ag),Ga (dF l)=Ga l
 |[]=>rfl
 |[]::l=>by rw[dF,oU,DZ l];simp[mO]
 |(t::q)::l=>rfl
theorem Ob(r:List ag)(l:List (List ag)):mO (ql r l).1+Ga (ql r l).2<=mO r+Ga l:=by
 unfold ql;split
 ·cases hd:dF l with
  |nil=>exact Nat.le_refl _
  |cons x q=>
   have h:=DZ l;rw[hd,oU] at h;simp only;split
   ·simp only[sj];omega
   ·exact Nat.le_refl _
 ·exact Nat.le_refl _
theorem BF:∀(n:Nat) (gap:Bool) (l:List (List ag)),(∀f∈eU n gap l,mO f.toks<=Ga l)/\(eU n gap l).length<=l.length
 |0,_,l=>⟨fun f hf=>(by cases hf),Nat.zero_le _⟩
 |n+1,_,[]=>⟨fun f hf=>(by cases hf),Nat.zero_le _⟩
 | n+1,gap,[]::l=>by
  obtain⟨h1,h2⟩:=BF n true l;rw[eU];exact⟨fun f hf=>by have:=h1 f hf;rw[oU];omega,by simp only[List.length_cons];omega⟩
 | n+1,gap,(t::q)::l=>by
  obtain⟨h1,h2⟩:=BF n false (ql (t::q) l).2;have h3:=Ob (t::q) l;have h4:=Bw (t::q) l;rw[eU,oU];refine⟨fun f hf=>?_,by simp only[List.length_cons];omega⟩;rcases List.mem_cons.1 hf with rfl|hf
  ·simp only;omega
  ·have:=h1 f hf;omega
theorem Gv{M:Nat}:∀(l:List vH) (d:Int) (pv:Option Bool),(∀f∈l,mO f.toks<=M)->(∀r∈jM l d pv,mO r.toks<=M)/\(jM l d pv).length<=2*l.length
 |[],_,_,_=>⟨fun r hr=>(by cases hr),Nat.le_refl _⟩
 | f::l,d,pv,h=>by
  obtain⟨h1,h2⟩:=Gv l (eZ d f.toks) (some (mq f.toks)) fun g hg=>h g (by simp[hg]);rw[jM,List.length_append,List.length_cons,List.length_cons];refine⟨fun r hr=>?_,?_⟩
  ·rcases List.mem_append.1 hr with hr|hr
   ·split at hr
    ·rw[List.mem_singleton.1 hr];simp[mO]
    ·cases hr
   ·rcases List.mem_cons.1 hr with rfl|hr
    ·exact h f (by simp)
    ·exact h1 r hr
  ·split
   ·simp only[List.length_singleton];omega
   ·simp only[List.length_nil];omega
theorem wE(l:List (List ag)):(∀r∈dx l,mO r.toks<=Ga l)/\(dx l).length<=2*l.length:=by
 unfold dx;have h:=BF l.length false l;have h2:=Gv (eU l.length false l) 0 none h.1;exact⟨h2.1,by omega⟩
theorem pq(row:List ag)(ind:Nat):∀k,k<=row.length->(cu row ind 0 k).length<=ind+mO (row.take k)
 |0,_=>by rw[uA];exact Nat.zero_le _
 | k+1,h=>by
  have ih:=pq row ind k (by omega);have hk:k<row.length:=h;rw[CY (Nat.zero_le _) hk,List.take_add_one,List.getElem?_eq_getElem hk,sj,List.length_append,List.length_append];have e:mO (some row[k]).toList=1+(mP row[k]).length:=by simp[mO]
  rw[e];unfold oI;split
  ·next h0=>
   subst h0;rw[uA];simp only[nS,List.length_replicate,List.length_nil,List.take_zero];omega
  ·have:=vY row k
   simp only[nS,List.length_replicate];omega
theorem rF(row:List ag)(ind:Nat):(cu row ind 0 row.length).length<=ind+mO row:=by
 have:=pq row ind row.length lz
 rwa [List.take_length] at this
theorem Jr(l:List (Nat×ag))(k:Nat):(gU (l.drop k)).length<=(gU l).length:=by
 have:=tQ (l.take k) (l.drop k);rw[List.take_append_drop] at this;rw[this,List.length_append];omega
theorem Kq(row:List ag)(ind fr en:Nat):(cu row ind fr en).length<=(cu row ind 0 en).length:=by
 unfold cu;rw[List.drop_zero];exact Jr _ _
theorem wN{l:Bs}(h:(bT l).2.2=0):∀r∈dx ((bV l).map (·.toks)),0<=r.dep/\r.dep<=64:=by
 obtain⟨h1,x,h2⟩:=IW h;obtain⟨d1,d2⟩:=zy (iO l) [bW] [x] (by simp) (by simp) h2;have h3:=Bj (iO l).length false (iO l) 0 none d1 d2 (by omega);intro r hr
 have:=h3 (Pp r) (by
  rw[<-show dx (iO l)=jM (eU (iO l).length false (iO l)) (0:Nat) none from rfl,<-Mi h1]
  exact List.mem_map_of_mem hr)
 exact this
theorem Kb{l:Bs}(h:(bT l).2.2=0)(hl:l.length<=400000):∀r∈dx ((bV l).map (·.toks)),zk r:=by
 intro r hr;have hd:=wN h r hr;have hw:=(wE ((bV l).map (·.toks))).1 r hr;have h2:=(wO l).1;refine⟨⟨hd.1,by omega⟩,by have:=F9 r.toks;omega,?_⟩;have:=rF r.toks r.ind;unfold aI.ind at this ⊢;omega
theorem I5{M W:Nat}{r:aI}(h1:r.ind+mO r.toks<=M)(hW:W<=M):(fO W r).length<=4*M+2:=by
 have hp:=rF r.toks r.ind
 have hh:(bq r).length<=M:=Nat.le_trans (pq r.toks r.ind r.eq (GN r)) (by
  have:=sj (r.toks.take r.eq) (r.toks.drop r.eq);rw[List.take_append_drop] at this
  omega)
 have ht:=Kq r.toks r.ind (r.eq+1) r.toks.length
 have hx:(mP (r.toks[r.eq]?.getD ⟨0,⟨#[]⟩,0⟩)).length<=M:=by
  cases hq:r.toks[r.eq]? with
  |none=>exact Nat.zero_le _
  |some t=>have:=F8 (List.mem_of_getElem? hq);simp only[Option.getD_some];omega
 unfold fO;simp only[List.length_append,nS,List.length_replicate,List.length_singleton];omega
theorem Ke{M:Nat}{r:aI}(h1:r.ind+mO r.toks<=M):(vw r).length<=4*M+2:=by
 have hp:=rF r.toks r.ind;unfold vw;simp only[List.length_append,List.length_singleton];omega
theorem Mf{M:Nat}(run:List aI)(h:∀r∈run,r.ind+mO r.toks<=M):kW run<=M:=by
 unfold kW
 have hk:∀(l:List aI) (a:Nat),a<=M->(∀r∈l,r.ind+mO r.toks<=M)->l.foldl (fun m r=>max m (iA (bq r))) a<=M:=by
  intro l
  induction l with
  |nil=>intro a ha _;exact ha
  |cons r l ih=>
   intro a ha hl;refine ih _ (Nat.max_le.2 ⟨ha,?_⟩) fun q hq=>hl q (by simp[hq]);have h0:=hl r (by simp);have h1:=tN (bq r);have hh:=pq r.toks r.ind r.eq (GN r);have:=sj (r.toks.take r.eq) (r.toks.drop r.eq);rw[List.take_append_drop] at this;unfold bq at h1 ⊢;omega
 exact hk run 0 (Nat.zero_le _) h
theorem Ee{M:Nat}(run:List aI)(h:∀r∈run,r.ind+mO r.toks<=M):(mK run).length<=run.length*(4*M+2):=by
 unfold mK;have hW:=Mf run h;generalize kW run=W at *
 induction run with
 |nil=>exact Nat.zero_le _
 |cons r run ih=>
  rw[List.flatMap_cons,List.length_append,List.length_cons,Nat.succ_mul];have:=I5 (h r (by simp)) hW;have:=ih fun q hq=>h q (by simp[hq]);omega
theorem uu{M:Nat}:∀(l run:List aI),(∀r∈l,r.ind+mO r.toks<=M)->(∀r∈run,r.ind+mO r.toks<=M)->(gP l run).length<=(l.length+run.length)*(4*M+2)
 |[],run,_,h=>by rw[gP,List.length_nil,Nat.zero_add];exact Ee run h
 | r::l,run,h1,h2=>by
  have hr:=h1 r (by simp);have hl:∀q∈l,q.ind+mO q.toks<=M:=fun q hq=>h1 q (by simp[hq]);rw[gP];split
  ·have:=uu l (run++[r]) hl (fun q hq=>by
    rcases List.mem_append.1 hq with hq|hq
    ·exact h2 q hq
    ·rw[List.mem_singleton.1 hq];exact hr)
   rw[List.length_append,List.length_singleton] at this;rw[List.length_cons,show l.length+1+run.length=l.length+(run.length+1) by omega];exact this
  ·have e1:=Ee run h2
   have e2:=Ke hr;have e3:=uu l [] hl (fun q hq=>by cases hq);rw[List.length_nil,Nat.add_zero] at e3;rw[List.length_append,List.length_append,List.length_cons,Nat.add_mul,Nat.add_mul,Nat.one_mul];omega
theorem Hu{l:Bs}(h:(bT l).2.2=0):(jQ ((bV l).map (·.toks))).length<=(2*(l.length+1))*(4*(128+2*l.length)+2):=by
 have h1:=wO l;have h2:=wE ((bV l).map (·.toks));have h3:=wN h
 have:=uu (M:=128+2*l.length) (dx ((bV l).map (·.toks))) [] (fun r hr=>by
  have a:=h2.1 r hr;have b:=h3 r hr;unfold aI.ind
  omega) (fun q hq=>by cases hq)
 rw[List.length_nil,Nat.add_zero] at this;unfold jQ;refine Nat.le_trans this (Nat.mul_le_mul_right _ ?_);have:=h2.2;rw[List.length_map] at this;omega
end Go.Proofs.YtbcdaaobbebooaaGreatDoor
namespace Go.Proofs.YtbcdaaobbebooaaGreatDoor
def og(l:List ag):List ag:=l.filter fun t=>decide (t.kind≠5)
theorem xA{l:List ag}(h:∀t∈l,t.kind≠5):og l=l:=by
 unfold og;rw[List.filter_eq_self];intro t ht;exact decide_eq_true (h t ht)
theorem Di(a b:List ag):og (a++b)=og a++og b:=List.filter_append ..
theorem zK(x:ByteArray)(p:Int)(l:List ag):og (⟨5,x,p⟩::l)=og l:=by
 unfold og;rw[List.filter_cons_of_neg (by simp)]
theorem Ev(l:Bs):∀(p:Nat) (o:Int),(aG l p).2.2=0->og (aG l p).1=((iP (jH l) p o).map (·.toks)).flatten:=by
 refine tL (P:=fun l=>∀(p:Nat) (o:Int),(aG l p).2.2=0->og (aG l p).1=((iP (jH l) p o).map (·.toks)).flatten) ?_ ?_ l
 ·intro a ha p o _
  rw[nM a ha,iP,xA (gz a.length a p lz ha)]
  by_cases h0:a=[]
  ·subst h0;rfl
  ·rw[if_neg h0]
   simp[qF]
 ·intro a b ha ih p o h
  obtain⟨h1,h2,h3⟩:=qj a b p h;rw[h3,ou a b ha,Di,zK,xA (gz a.length a p lz ha)]
  obtain⟨x,r,hx⟩:∃x r,jH b=x::r:=by
   cases hc:jH b with
   |nil=>exact absurd hc (BH b)
   |cons x r=>exact⟨x,r,rfl⟩
  have ih:=ih (p+a.length+1) (eZ o (aG a p).1) h2;rw[hx] at ih ⊢;rw[iP,List.map_cons,List.flatten_cons,<-ih];rfl
theorem E8{P:List (Nat×ag)}:∀p:Nat,(∀x∈P,x.2.kind≠5)->∀t∈kQ P p,t.kind≠5:=by
 induction P with
 |nil=>intro p _ t ht;cases ht
 |cons x P ih=>
  intro p h t ht;rw[kQ] at ht;rcases List.mem_cons.1 ht with rfl|ht
  ·exact h x (by simp)
  ·exact ih _ (fun y hy=>h y (by simp[hy])) t ht
theorem Gx{g:Nat->Nat}:∀(i:Nat) (l:List ag),∀x∈kX g i l,x.2∈l
 |_,[],x,h=>by cases h
 | i,t::l,x,h=>by
  rw[kX] at h;rcases List.mem_cons.1 h with rfl|h
  ·simp
  ·exact List.mem_cons_of_mem _ (Gx (i+1) l x h)
theorem Gb:∀(l:List (Nat×aI)) (p:Nat),(∀x∈l,∀t∈x.2.toks,t.kind≠5)->m0 (og (Cf l p))=m0 ((l.map (·.2.toks)).flatten)
 |[],_,_=>rfl
 | x::l,p,h=>by
  have hp:∀t∈kQ (ME x) p,t.kind≠5:=E8 p fun y hy=>h x (by simp) y.2 (Gx _ _ y hy);rw[Cf,Di,zK,xA hp];show (kQ (ME x) p++_).map n0=_;rw[List.map_append,wY];have ih:=Gb l (p+(kU x).length+1) (fun y hy=>h y (by simp[hy]));unfold ME;rw[Bl,show (og (Cf l (p+(kU x).length+1))).map n0=m0 (og (Cf l (p+(kU x).length+1))) from rfl,ih];simp[m0]
theorem Hm{l:Bs}(h:(bT l).2.2=0):m0 (og (aG (jQ ((bV l).map (·.toks))) 0).1)=m0 (og (aG l 0).1):=by
 obtain⟨h1,h2,h3,-⟩:=rq h;have h0:=rM h;rw[h2,Ev l 0 0 h0,<-mo h0,<-h3];simp only;rw[Gb _ 0 (fun x hx=>(h1 x hx).1.line)];have:=(ru ((bV l).map (·.toks))).2;rw[<-this,List.map_map];rfl
def zb(r:List ag):Nat:=(r.map fun t=>(mP t).length).sum
theorem GX(a b:List ag):zb (a++b)=zb a+zb b:=by simp[zb]
theorem tT(t:ag)(r:List ag):zb (t::r)=(mP t).length+zb r:=by simp[zb]
theorem JN{r:List ag}(h:∀t∈r,mP t≠[]):mO r<=2*zb r:=by
 induction r with
 |nil=>exact Nat.le_refl _
 |cons t r ih=>
  have:=List.length_pos_iff.2 (h t (by simp));have:=ih (fun u hu=>h u (by simp[hu]));rw[lG,tT];omega
theorem vW:∀(k:Nat) (l:Bs) (p:Nat),l.length<=k->zb (aG l p).1<=l.length
 |_,[],p,_=>Nat.le_refl _
 |0,c::r,p,h=>by simp at h
 | k+1,c::r,p,h=>by
  simp only[List.length_cons] at h
  by_cases hb:bG c=true
  ·rw[bO hb]
   have:=vW k r (p+1) (by omega);simp only[List.length_cons];omega
  ·have hb':bG c=false:=by simpa using hb
   cases ho:dN (c::r) with
   |bad off e=>rw[eB hb' ho];simp[zb]
   |tok kd sz=>
    rw[di hb' ho];have hs:=dh ho;have:=vW k ((c::r).drop sz) (p+sz) (by rw[List.length_drop,List.length_cons];omega);rw[List.length_drop] at this;rw[tT];simp only[mP,ay,List.length_take,List.length_cons] at this hs ⊢;omega
def Fp(r:List ag):Nat:=if r=[] then 0 else zb r+1
def yM(l:List (List ag)):Nat:=(l.map Fp).sum
theorem eP(r:List ag)(l:List (List ag)):yM (r::l)=Fp r+yM l:=by simp[yM]
theorem KH(r:List ag):Fp r<=zb r+1:=by unfold Fp;split<;>omega
theorem Kc(l:Bs):∀(p:Nat) (o:Int),(aG l p).2.2=0->yM ((iP (jH l) p o).map (·.toks))<=l.length+1:=by
 refine tL (P:=fun l=>∀(p:Nat) (o:Int),(aG l p).2.2=0->yM ((iP (jH l) p o).map (·.toks))<=l.length+1) ?_ ?_ l
 ·intro a ha p o _
  rw[nM a ha,iP]
  by_cases h0:a=[]
  ·subst h0;exact Nat.zero_le _
  ·rw[if_neg h0]
   have h1:=vW a.length a p lz;have h2:=KH (aG a p).1;show yM [(aG a p).1]<=_;rw[eP];simp only[yM,List.map_nil,List.sum_nil];omega
 ·intro a b ha ih p o h
  obtain⟨h1,h2,h3⟩:=qj a b p h;rw[ou a b ha]
  obtain⟨x,r,hx⟩:∃x r,jH b=x::r:=by
   cases hc:jH b with
   |nil=>exact absurd hc (BH b)
   |cons x r=>exact⟨x,r,rfl⟩
  have ih:=ih (p+a.length+1) (eZ o (aG a p).1) h2;rw[hx] at ih ⊢;rw[iP,List.map_cons,eP];have h4:=vW a.length a p lz;have h5:=KH (aG a p).1;have e:(qF o (aG a p).1 p ((p+a.length:Nat):Int)).toks=(aG a p).1:=rfl;rw[e,List.length_append,List.length_cons];omega
theorem D6:∀l:List (List ag),yM (dF l)=yM l
 |[]=>rfl
 |[]::l=>by rw[dF,eP,D6 l];simp[Fp]
 |(t::q)::l=>rfl
theorem Od(t:ag)(q:List ag)(l:List (List ag)):Fp (ql (t::q) l).1+yM (ql (t::q) l).2<=Fp (t::q)+yM l:=by
 unfold ql;split
 ·cases hd:dF l with
  |nil=>exact Nat.le_refl _
  |cons x r=>
   have h:=D6 l;have hx:=(ji hd).1;rw[hd,eP] at h;simp only;split
   ·simp only[Fp,List.cons_append,reduceCtorEq,if_false,hx] at h ⊢
    rw[<-List.cons_append,GX];omega
   ·exact Nat.le_refl _
 ·exact Nat.le_refl _
theorem FO:∀(n:Nat) (gap:Bool) (l:List (List ag)),yM ((eU n gap l).map (·.toks))<=yM l/\∀f∈eU n gap l,f.toks≠[]
 |0,_,l=>⟨Nat.zero_le _,fun f hf=>(by cases hf)⟩
 |n+1,_,[]=>⟨Nat.zero_le _,fun f hf=>(by cases hf)⟩
 | n+1,gap,[]::l=>by
  obtain⟨h1,h2⟩:=FO n true l;rw[eU,eP];exact⟨by omega,h2⟩
 | n+1,gap,(t::q)::l=>by
  obtain⟨h1,h2⟩:=FO n false (ql (t::q) l).2;have h3:=Od t q l;rw[eU,eP,List.map_cons,eP];simp only;refine⟨by omega,fun f hf=>?_⟩;rcases List.mem_cons.1 hf with rfl|hf
  ·simp only
   unfold ql;split
   ·split
    ·split<;>simp
    ·simp
   ·simp
  ·exact h2 f hf
theorem KI:∀(F:List vH) (d:Int) (pv:Option Bool),(∀f∈F,f.toks≠[])->yM ((jM F d pv).map (·.toks))=yM (F.map (·.toks))/\(jM F d pv).length<=2*F.length/\((∀f∈F,2<=Fp f.toks)->2*F.length<=yM (F.map (·.toks)))
 |[],_,_,_=>⟨rfl,Nat.le_refl _,fun _=>Nat.zero_le _⟩
 | f::F,d,pv,h=>by
  obtain⟨h1,h2,h3⟩:=KI F (eZ d f.toks) (some (mq f.toks)) fun g hg=>h g (by simp[hg]);rw[jM,List.map_cons,eP,List.length_append,List.length_cons,List.length_cons];refine⟨?_,?_,fun hm=>by have:=h3 fun g hg=>hm g (by simp[hg]);have:=hm f (by simp);omega⟩
  ·rw[List.map_append,List.map_cons]
   split
   ·show yM ([]::f.toks::_)=_
    rw[eP,eP,h1];simp[Fp]
   ·show yM (f.toks::_)=_
    rw[eP,h1]
  ·split
   ·simp only[List.length_singleton];omega
   ·simp only[List.length_nil];omega
theorem Gu:∀(F:List vH) (d:Int) (pv:Option Bool),∀f∈F,∃r∈jM F d pv,r.toks=f.toks
 |[],_,_=>by intro f hf;cases hf
 | g::F,d,pv=>by
  intro f hf;rw[jM];rcases List.mem_cons.1 hf with rfl|hf
  ·exact⟨⟨f.toks,gD d f.toks⟩,by simp,rfl⟩
  ·obtain⟨r,h1,h2⟩:=Gu F (eZ d g.toks) (some (mq g.toks)) f hf
   exact⟨r,by simp[h1],h2⟩
theorem yu{g:Nat->Nat}{ind e w:Nat}(hg:∀j,g j<=1+(if j=0 then ind else 0)+(if j=e then w else 0)):∀(i:Nat) (l:List ag),(gU (kX g i l)).length<=mO l+(if i=0 then ind else 0)+(if i<=e then w else 0)
 |i,[]=>by simp[kX,gU]
 | i,t::l=>by
  have ih:=yu hg (i+1) l;have h:=hg i;rw[kX,lF,List.length_append,List.length_append,lG];have hs:(nS (g i)).length=g i:=by simp[nS]
  show (nS (g i)).length+((mP t).length+(gU (kX g (i+1) l)).length)<=_;rw[hs];rw[if_neg (show ¬i+1=0 by omega)] at ih
  by_cases h1:i=e
  ·subst h1
   rw[if_pos rfl] at h;rw[if_neg (by omega)] at ih;rw[if_pos lz];omega
  ·rw[if_neg h1] at h
   by_cases h2:i+1<=e
   ·rw[if_pos h2] at ih
    rw[if_pos (show i<=e by omega)];omega
   ·rw[if_neg h2] at ih
    omega
def O3(r:aI):Nat:=131+mO r.toks
def BR(r:aI):Bool:=(rV r.toks).isSome
theorem KQ{x:Nat×aI}{W:Nat}(hd:x.2.ind<=128)(hw:x.1<=W):(oF x).length<=O3 x.2+(if BR x.2 then W else 0):=by
 obtain⟨w,r⟩:=x;simp only at hd hw;unfold oF kU ME O3 BR;rw[List.length_append,List.length_singleton]
 cases he:rV r.toks with
 |none=>
  have:=yu (g:=gW w r) (ind:=r.ind) (e:=0) (w:=0) (fun j=>by
   unfold gW oI;rw[he,if_neg (by simp)];have:=vY r.toks j
   split<;>simp<;>omega) 0 r.toks
  simp at this ⊢
  omega
 |some e=>
  have:=yu (g:=gW w r) (ind:=r.ind) (e:=e) (w:=w) (fun j=>by
   unfold gW oI;rw[he];have:=vY r.toks j
   by_cases hj:e=j
   ·subst hj
    simp
    omega
   ·rw[if_neg (by intro q;cases q;exact hj rfl)]
    split<;>omega) 0 r.toks
  simp at this ⊢
  omega
theorem NB(run:List aI)(W:Nat)(h:∀r∈run,iA (bq r)<=W):kW run<=W:=by
 have hk:∀(q:List aI) (a:Nat),a<=W->(∀r∈q,iA (bq r)<=W)->q.foldl (fun m r=>max m (iA (bq r))) a<=W:=by
  intro q
  induction q with
  |nil=>intro a ha _;exact ha
  |cons r q ih=>intro a ha hq;exact ih _ (Nat.max_le.2 ⟨ha,hq r (by simp)⟩) (fun y hy=>hq y (by simp[hy]))
 exact hk run 0 (Nat.zero_le _) h
theorem JU:∀(l run:List aI) (W:Nat),(∀r∈run++l,BR r=true->iA (bq r)<=W)->(∀r∈run,BR r=true)->∀x∈Ma l run,x.1<=W
 | [],run,W,h,hr=>by
  intro x hx;rw[Ma] at hx;obtain⟨r,h1,rfl⟩:=List.mem_map.1 hx;exact NB run W (fun r hm=>h r (by simp[hm]) (hr r hm))
 | r::l,run,W,h,hr=>by
  intro x hx;rw[Ma] at hx;split at hx
  ·next he=>
   exact JU l (run++[r]) W (fun y hy=>h y (by simpa using hy)) (fun y hy=>by
    rcases List.mem_append.1 hy with hy|hy
    ·exact hr y hy
    ·rw[List.mem_singleton.1 hy];exact he) x hx
  ·rcases List.mem_append.1 hx with hx|hx
   ·obtain⟨r,h1,rfl⟩:=List.mem_map.1 hx
    exact NB run W (fun r hm=>h r (by simp[hm]) (hr r hm))
   ·rcases List.mem_cons.1 hx with rfl|hx
    ·exact Nat.zero_le _
    ·exact JU l [] W (fun y hy=>h y (by simp at hy;simp[hy])) (fun y hy=>by cases hy) x hx
theorem zM{W:Nat}:∀l:List (Nat×aI),(∀x∈l,x.2.ind<=128/\x.1<=W)->(l.flatMap oF).length<=((l.map (·.2)).map O3).sum+((l.map (·.2)).filter BR).length*W
 |[],_=>Nat.zero_le _
 | x::l,h=>by
  have ih:=zM l (fun y hy=>h y (by simp[hy]));have h1:=KQ (h x (by simp)).1 (h x (by simp)).2;rw[List.flatMap_cons,List.length_append,List.map_cons,List.map_cons,List.sum_cons]
  cases ha:BR x.2 with
  |true=>
   rw[ha,if_pos rfl] at h1;rw[List.filter_cons_of_pos ha,List.length_cons,Nat.succ_mul];omega
  |false=>
   rw[ha,if_neg (by decide)] at h1;rw[List.filter_cons_of_neg (by rw[ha];decide)];omega
theorem Lx:∀l:List aI,(∀r∈l,∀t∈r.toks,mP t≠[])->(l.map O3).sum<=131*l.length+2*yM (l.map (·.toks))
 |[],_=>Nat.le_refl _
 | r::l,h=>by
  have ih:=Lx l (fun q hq=>h q (by simp[hq]));have h1:=JN (h r (by simp));rw[List.map_cons,List.sum_cons,List.map_cons,eP,List.length_cons];have h3:O3 r=131+mO r.toks:=rfl
  have h2:zb r.toks<=Fp r.toks:=by
   unfold Fp;split
   ·next e=>rw[e];exact Nat.le_refl _
   ·omega
  omega
theorem O9{r:aI}(h:BR r=true)(ht:∀t∈r.toks,mP t≠[])(hd:r.ind<=128):2<=zb r.toks/\iA (bq r)<=128+2*(zb r.toks-1):=by
 obtain⟨e,he⟩:=Option.isSome_iff_exists.1 h;have Aa:=pK he;have Ab:r.eq=e:=by unfold aI.eq;rw[he];rfl
 have hs:r.toks=r.toks.take e++r.toks[e]::r.toks.drop (e+1):=by rw[<-List.drop_eq_getElem_cons Aa.2,List.take_append_drop]
 have hb:=congrArg zb hs;rw[GX,tT] at hb;have h1:=List.length_pos_iff.2 (ht r.toks[e] (List.getElem_mem Aa.2));have h2:=JN (r:=r.toks.take e) (fun t q=>ht t (List.mem_of_mem_take q));have h3:=F9 (r.toks.take e);rw[List.length_take] at h3;have h4:=pq r.toks r.ind e (by omega);have h5:=tN (bq r);unfold bq at h5 ⊢;rw[Ab] at h5 ⊢;omega
theorem GY:∀l:List aI,(∀r∈l,BR r=true->2<=zb r.toks/\iA (bq r)<=128+2*(zb r.toks-1))->(∀r∈l,BR r=true->r.toks≠[])->
  ∃W,(∀r∈l,BR r=true->iA (bq r)<=W)/\((l.filter BR).length=0\/∃b,2<=b/\W<=128+2*(b-1)/\3*((l.filter BR).length-1)+(b+1)<=yM (l.map (·.toks)))
 |[],_,_=>⟨0,(fun r hr=>by cases hr),.inl rfl⟩
 | r::l,h,h0=>by
  obtain⟨W,h1,h2⟩:=GY l (fun q hq=>h q (by simp[hq])) (fun q hq=>h0 q (by simp[hq]))
  cases ha:BR r with
  |false=>
   refine⟨W,fun q hq hqa=>?_,?_⟩
   ·rcases List.mem_cons.1 hq with rfl|hq
    ·rw[ha] at hqa;cases hqa
    ·exact h1 q hq hqa
   ·rw[List.filter_cons_of_neg (by rw[ha];decide),List.map_cons,eP]
    rcases h2 with h2|⟨b,q1,q2,q3⟩
    ·exact .inl h2
    ·exact .inr ⟨b,q1,q2,by omega⟩
  |true=>
   obtain⟨g1,g2⟩:=h r (by simp) ha;have hm:Fp r.toks=zb r.toks+1:=by unfold Fp;rw[if_neg (h0 r (by simp) ha)]
   rcases h2 with h2|⟨b,q1,q2,q3⟩
   ·have hno:∀q∈l,BR q=false:=fun q hq=>by
     cases hqa:BR q with
     |false=>rfl
     |true=>
      have:q∈l.filter BR:=List.mem_filter.2 ⟨hq,hqa⟩;rw[List.eq_nil_of_length_eq_zero h2] at this;cases this
    refine⟨iA (bq r),fun q hq hqa=>?_,.inr ⟨zb r.toks,g1,g2,?_⟩⟩
    ·rcases List.mem_cons.1 hq with rfl|hq
     ·exact Nat.le_refl _
     ·rw[hno q hq] at hqa;cases hqa
    ·rw[List.filter_cons_of_pos ha,List.length_cons,List.map_cons,eP,hm]
     omega
   ·refine⟨max W (iA (bq r)),fun q hq hqa=>?_,.inr ?_⟩
    ·rcases List.mem_cons.1 hq with rfl|hq
     ·exact Nat.le_max_right _ _
     ·exact Nat.le_trans (h1 q hq hqa) (Nat.le_max_left _ _)
    ·rw[List.filter_cons_of_pos ha,List.length_cons,List.map_cons,eP,hm]
     by_cases hc:W<=iA (bq r)
     ·exact⟨zb r.toks,g1,by rw[Nat.max_eq_right hc];exact g2,by omega⟩
     ·exact⟨b,q1,by rw[Nat.max_eq_left (by omega)];exact q2,by omega⟩
theorem Mr{n k b W:Nat}(h1:2<=b)(h2:W<=128+2*(b-1))(h3:3*(k-1)+(b+1)<=n)(hn:n<=1501):k*W<=500000:=by
 have hb:b<=1500:=by omega
 have hk:3*k<=n+2-b:=by omega
 have h4:3*(k*W)<=(n+2-b)*(126+2*b):=by
  rw[<-Nat.mul_assoc];exact Nat.mul_le_mul hk (by omega)
 have h5:(n+2-b)*(126+2*b)<=(1503-b)*(126+2*b):=Nat.mul_le_mul_right _ (by omega)
 have h6:(1503-b)*(126+2*b)<=1500000:=by
  obtain⟨c,hc⟩:=exq (1503-b);have e:126+2*b=3132-2*c:=by omega
  rw[<-hc,e]
  by_cases h:c<=783
  ·obtain⟨d,hd⟩:∃d,c+d=783:=⟨783-c,by omega⟩
   have:3132-2*c=1566+2*d:=by omega
   rw[this];have e2:c*(1566+2*d)=2*(c*(783+d)):=by rw[Nat.mul_left_comm];congr 1;omega
   have e3:c*(783+d)<=783*783:=by
    have:c=783-d:=by omega
    rw[this,Nat.mul_comm,<-Nat.mul_self_sub_mul_self_eq];omega
   rw[e2];omega
  ·obtain⟨d,hd⟩:∃d,c=783+d:=⟨c-783,by omega⟩
   have:3132-2*c=1566-2*d:=by omega
   rw[this,hd]
   by_cases hd2:d<=783
   ·have e2:(783+d)*(1566-2*d)=2*((783+d)*(783-d)):=by rw[Nat.mul_left_comm];congr 1;omega
    have e3:(783+d)*(783-d)<=783*783:=by
     rw[<-Nat.mul_self_sub_mul_self_eq];omega
    rw[e2];omega
   ·have:1566-2*d=0:=by omega
    rw[this];omega
 omega
theorem Ey{l:Bs}(h:(bT l).2.2=0)(hl:l.length<=1500):(jQ ((bV l).map (·.toks))).length<=750000:=by
 obtain⟨h1,h2,h3,-⟩:=rq h;have h0:=rM h;have Ab:=wN h;have Af:=Kc l 0 0 h0;rw[<-mo h0] at Af;generalize (bV l).map (·.toks)=L at *;obtain⟨s1,s2⟩:=ru L
 have Aa:∀r∈dx L,(∀t∈r.toks,mP t≠[])/\r.ind<=128:=fun r hr=>by
  refine⟨fun t ht=>?_,by have:=Ab r hr;unfold aI.ind;omega⟩;rw[<-s2] at hr;obtain⟨x,hx,rfl⟩:=List.mem_map.1 hr;obtain⟨c,q,e,-⟩:=mX ((h1 x hx).1.told t ht);rw[e];simp
 obtain⟨e1,e2⟩:=FO L.length false L;obtain⟨m1,m2,m3⟩:=KI (eU L.length false L) 0 none e2;have hR:dx L=jM (eU L.length false L) 0 none:=rfl;rw[<-hR] at m1 m2;have hM:yM ((dx L).map (·.toks))<=1501:=by omega
 have Ah:=m3 fun f hf=>by
  obtain⟨r,hr,e⟩:=Gu _ 0 none f hf;rw[<-hR] at hr;have Ac:=e2 f hf;unfold Fp;rw[if_neg Ac]
  cases hft:f.toks with
  |nil=>exact absurd hft Ac
  |cons t q=>
   have:=List.length_pos_iff.2 ((Aa r hr).1 t (by rw[e,hft];simp));rw[tT];omega
 have Ae:(dx L).length<=1501:=by omega
 obtain⟨W,w1,w2⟩:=GY (dx L) (fun r hr ha=>O9 ha (Aa r hr).1 (Aa r hr).2) (fun r hr ha e=>by
  unfold BR at ha;rw[e] at ha
  cases ha)
 have hw:=JU (dx L) [] W (fun r hr=>w1 r (by simpa using hr)) (fun r hr=>by cases hr);have hL:=zM (W:=W) (wD L) (fun x hx=>⟨(Aa x.2 (by rw[<-s2];exact List.mem_map_of_mem hx)).2,hw x hx⟩);rw[<-s1,s2] at hL;have Ag:=Lx (dx L) (fun r hr=>(Aa r hr).1)
 have Ai:((dx L).filter BR).length*W<=500000:=by
  rcases w2 with w2|⟨b,q1,q2,q3⟩
  ·rw[w2];omega
  ·exact Mr q1 q2 (Nat.le_trans q3 hM) lz
 have Ad:131*(dx L).length+2*yM ((dx L).map (·.toks))<=131*1501+2*1501:=by omega
 omega
end Go.Proofs.YtbcdaaobbebooaaGreatDoor
namespace Go.Proofs.YtbcdaaobbebooaaGreatDoor
end Go.Proofs.YtbcdaaobbebooaaGreatDoor
namespace Go.Proofs.YtbcdaaobbebooaaGreatDoor
open Go.RowKit Go.Tab
end Go.Proofs.YtbcdaaobbebooaaGreatDoor
