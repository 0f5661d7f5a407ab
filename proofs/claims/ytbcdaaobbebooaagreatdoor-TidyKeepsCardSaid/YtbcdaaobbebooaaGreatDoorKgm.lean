import Derived.Test.YtbcdaaobbebooaaGreatDoorKgk
import Derived.Test.YtbcdaaobbebooaaGreatDoorKgl
set_option linter.unusedSimpArgs false
set_option linter.unusedVariables false
set_option maxRecDepth 100000
set_option maxHeartbeats 20000000
namespace Go.Proofs.YtbcdaaobbebooaaGreatDoor
open Go.RowKit Go.Tab
theorem jT.fresh{P:Nat->Prop}{B:Nat}{w:World}{x:bA}{cs:List Value}(h:aP P w x cs)(h6:cs[6]?=some (.slice none 0 0)):jT P B w ⟨x,cs,.slice none 0 0⟩:=by
 obtain⟨b,n,e,ls,Ab⟩:=x;unfold aP at h;obtain⟨vo,vt,vk,lv,a,Aa,rfl,h1,h2,-⟩:=h.open;simp only[List.getElem?_cons_succ,List.getElem?_cons_zero,Option.some.injEq,Value.slice.injEq] at h6;obtain⟨rfl,hl,rfl⟩:=h6;obtain rfl:=List.eq_nil_of_length_eq_zero hl;exact⟨b,n,e,ls,vo,vt,vk,lv,[],rfl,rfl,h1,h2,World.ownsRow_nil _ _ _ _,fun s hs=>by cases hs⟩
theorem jT.itm{P Q:Nat->Prop}{B:Nat}{w:World}{c:kZ}(h:jT P B w c)(hq:∀k,P k->k<w.heap.size->Q k)(hi:∀k,c.iv.ownBlock=some k->Q k):aP Q w c.x c.cs:=by
 obtain⟨b,n,e,ls,vo,vt,vk,lv,L,h1,h2,h3,h4,h5,h6⟩:=h;rw[h1,h2];have hm:∀s∈L,aP Q w s.1 s.2:=fun s hs=>aP.move lz (fun _ _ _=>rfl) hq _ _ (h6 s hs)
 have h7:∀cs∈L.map (·.2),cs.length=7:=fun cs hcs=>by
  obtain⟨s,hs,rfl⟩:=List.mem_map.1 hcs;exact lm.len7 (hm s hs)
 have Ab:JG B w c.iv (L.map (·.2)):=⟨by rw[List.length_map,<-List.flatMap_def];exact h5,h7⟩;have e3:=af.move lz (fun _ _ _=>rfl) hq e _ h3;have e4:=h4.move (Q:=Q) lz (fun _ _ _=>rfl) hq
 have Aa:∃a cap,c.iv=.slice a L.length cap/\L.length<=cap/\cap<=maxLen/\(a=none->cap=0)/\∀x,a=some x->x.spot=none/\c.iv.ownBlock=some x.block:=by
  rcases h5.2 with ⟨q1,q2⟩|⟨g,cap,cur,q1,-,-,q2,q3,-⟩
  ·exact⟨none,0,by rw[q1,q2],by rw[q2];exact Nat.le_refl _,Nat.zero_le _,fun _=>rfl,fun x hx=>by cases hx⟩
  ·exact⟨_,cap,q1,q2,q3,(fun h=>by cases h),fun x hx=>by cases hx;exact⟨rfl,by rw[q1];rfl⟩⟩
 obtain⟨a,cap,q1,q2,q3,q4,q5⟩:=Aa;unfold aP;simp only[lm];refine⟨vo,vt,vk,lv,a,cap,by rw[q1,List.length_map],e3,e4,by rw[List.length_map];exact q2,q3,q4,fun x hx hne=>?_⟩;obtain⟨r1,r2⟩:=q5 x hx;refine⟨r1,⟨(World.ownsRow.lt h5 _ r2).2,hi _ r2⟩,fJ.make _ _ (fun k hk=>?_)⟩;rw[List.length_map] at hk;rw[q1] at Ab;obtain⟨g,he,-,-,hc,-⟩:=Ab.cellAt (k:=k) (by simpa using hk);rw[hx] at he;cases he
 refine⟨L[k].2,fun j u hu=>?_,?_⟩
 ·rw[Nat.zero_add]
  exact hc j u (by simpa using hu)
 ·rw[List.getElem_map]
  exact hm _ (List.getElem_mem hk)
theorem mM.push{B g g2 cap2:Nat}{rb:Option Nat}{w w':World}{v:Value}{C:List kZ}{c:kZ}(h:mM B g rb w v C)(hx:jT (zi B g rb v C) B w c)(hn:c.iv.ownBlock=none)
  (h1:w'.ownsRow B 54 7 (.slice (some ⟨g2,0,none⟩) (C.length+1) cap2) (C.length+1) (C.flatMap (·.cs)++c.cs)) (h3:v.ownBlock=some g2\/w.heap.size<=g2) (hs:w.heap.size<=w'.heap.size)
  (hf:∀b,b<w.heap.size->v.ownBlock≠some b->b≠g->w'.heap[b]?=w.heap[b]?):mM B g rb w' (.slice (some ⟨g2,0,none⟩) (C.length+1) cap2) (C++[c]):=by
 have hP:∀b,zi B g rb v C b->b<w.heap.size->zi B g rb (.slice (some ⟨g2,0,none⟩) (C.length+1) cap2) (C++[c]) b:=fun b hb hl=>by
  refine⟨hb.1,hb.2.1,hb.2.2.1,fun e=>?_,fun d hd=>?_⟩
  ·simp only[Value.ownBlock,Option.some.injEq] at e
   subst e;exact h3.elim hb.2.2.2.1 (fun q=>by omega)
  ·rcases List.mem_append.1 hd with hd|hd
   ·exact hb.2.2.2.2 d hd
   ·simp at hd;subst hd;rw[hn];simp
 have hC:∀b,zi B g rb v C b->b<w.heap.size->w'.heap[b]?=w.heap[b]?:=fun b hb hl=>hf b hl hb.2.2.2.1 hb.2.1
 have Aa:∀d∈C,∀b,d.iv.ownBlock=some b->b≠g2:=fun d hd b e q=>by
  subst q;exact h3.elim (h.apart.one d hd b e).1 (fun q=>by have:=(h.lt (.inr ⟨d,hd,e⟩)).2;omega)
 refine⟨Nat.lt_of_lt_of_le h.gl hs,fun b e=>Nat.lt_of_lt_of_le (h.rl b e) hs,by simpa using h1,⟨fun e=>?_,fun b e e2=>?_,h.apart.rg,fun d hd b e=>?_,?_⟩,fun d hd=>?_⟩
 ·simp only[Value.ownBlock,Option.some.injEq] at e
  subst e;exact h3.elim h.apart.vg (fun q=>by have:=h.gl;omega)
 ·simp only[Value.ownBlock,Option.some.injEq] at e
  subst e;exact h3.elim (fun q=>h.apart.vr _ q e2) (fun q=>by have:=h.rl _ e2;omega)
 ·rcases List.mem_append.1 hd with hd|hd
  ·exact⟨fun q=>by simp only[Value.ownBlock,Option.some.injEq] at q;exact Aa d hd b e q.symm,(h.apart.one d hd b e).2⟩
  ·simp at hd;subst hd;rw[hn] at e;cases e
 ·rw[List.pairwise_append]
  refine⟨h.apart.two,by simp,fun d _ d2 hd2 b _=>?_⟩;simp at hd2;subst hd2;rw[hn];simp
 ·rcases List.mem_append.1 hd with hd|hd
  ·exact (h.all d hd).move hs hC hP (fun b e=>hf b (h.lt (.inr ⟨d,hd,e⟩)).2 (h.apart.one d hd b e).1 (h.apart.one d hd b e).2.1)
  ·simp at hd;subst hd
   exact hx.move hs hC hP (fun b e=>by rw[hn] at e;cases e)
theorem mM.pop{B g ob cap:Nat}{rb:Option Nat}{w w':World}{C:List kZ}{c:kZ}(h:mM B g rb w (.slice (some ⟨ob,0,none⟩) (C.length+1) cap) (C++[c]))(hC0:0<C.length)(hs:w.heap.size<=w'.heap.size)(hf:∀b,b<w.heap.size->b≠g->w'.heap[b]?=w.heap[b]?) :
  mM B g rb w' (.slice (some ⟨ob,0,none⟩) C.length cap) C/\aP (zi B g rb (.slice (some ⟨ob,0,none⟩) C.length cap) C) w' c.x c.cs:=by
 have h7:∀d∈C,d.cs.length=7:=fun d hd=>(h.all d (by simp[hd])).len
 have hP:∀b,zi B g rb (.slice (some ⟨ob,0,none⟩) (C.length+1) cap) (C++[c]) b->b<w.heap.size->zi B g rb (.slice (some ⟨ob,0,none⟩) C.length cap) C b:=fun b hb hl=>
  ⟨hb.1,hb.2.1,hb.2.2.1,hb.2.2.2.1,fun d hd=>hb.2.2.2.2 d (by simp[hd])⟩
 have hK:∀b,zi B g rb (.slice (some ⟨ob,0,none⟩) (C.length+1) cap) (C++[c]) b->b<w.heap.size->w'.heap[b]?=w.heap[b]?:=fun b hb hl=>hf b hl hb.2.1
 have Aa:w.ownsRow B 54 7 (.slice (some ⟨ob,0,none⟩) C.length cap) C.length (C.flatMap (·.cs)):=by
  have hr:=h.row;rw[show (C++[c]).length=C.length+1 by simp] at hr;obtain⟨r1,r2⟩:=hr;refine⟨kH C h7,?_⟩;rcases r2 with ⟨q,-⟩|⟨g',cap',cur,q,q1,q2,q3,q4,q5,q6⟩
  ·cases q
  ·cases q
   refine .inr ⟨_,_,cur,rfl,q1,q2,by omega,q4,q5,?_⟩;have:=congrArg (List.take (C.length*7)) q6;rw[List.take_take,List.flatMap_append,List.take_append_of_le_length (by rw[kH C h7];exact Nat.le_refl _),List.take_of_length_le (l:=C.flatMap _) (by rw[kH C h7];exact Nat.le_refl _)] at this;rw[<-this]
   congr 1
   omega
 have hw:=h.apart.two;rw[List.pairwise_append] at hw;refine⟨⟨Nat.lt_of_lt_of_le h.gl hs,fun b e=>Nat.lt_of_lt_of_le (h.rl b e) hs,bZ Aa (fun k e=>hf k (h.lt (.inl e)).2 (fun q=>h.apart.vg (by subst q;exact e))),⟨h.apart.vg,h.apart.vr,h.apart.rg,fun d hd b e=>h.apart.one d (by simp[hd]) b e,hw.1⟩,fun d hd=>?_⟩,?_⟩
 ·exact (h.all d (by simp[hd])).move hs hK hP (fun b e=>hf b (h.lt (.inr ⟨d,by simp[hd],e⟩)).2 (h.apart.one d (by simp[hd]) b e).2.1)
 ·have h9:jT (zi B g rb (.slice (some ⟨ob,0,none⟩) C.length cap) C) B w' c:=(h.all c (by simp)).move hs hK hP (fun b e=>hf b (h.lt (.inr ⟨c,by simp,e⟩)).2 (h.apart.one c (by simp) b e).2.1)
  refine h9.itm (fun _ q _=>q) (fun b e=>?_);have a1:=h.apart.one c (by simp) b e;exact⟨(h.lt (.inr ⟨c,by simp,e⟩)).1,a1.2.1,a1.2.2,a1.1,fun d hd e2=>hw.2.2 d hd c (by simp) b e2 e⟩
def kN(B:Nat)(rb:Option Nat)(w w':World):Prop:=Below B w w'/\∀b,rb=some b->w'.heap[b]?=w.heap[b]?
theorem kN.trans{B:Nat}{rb:Option Nat}{a b c:World}(h:kN B rb a b)(hs:B<=a.heap.size)(k:kN B rb b c):kN B rb a c:=⟨h.1.trans k.1,fun x e=>(k.2 x e).trans (h.2 x e)⟩
theorem Eg{B g:Nat}{rb:Option Nat}{w:World}{v:Value}{C:List kZ}{c:kZ}{x:bA}{xs:List Value}(a e:Int)(h:mM B g rb w v (C++[c]))(hp:iK w g v a e)(hx:aP (zi B g rb v (C++[c])) w x xs)(hn:C.length<=1000000)(hk:c.x.items.length<=1000000)(hB:B<=w.heap.size) :
  Calls Tryz.prog 90 #[.pointer (some ⟨g,0,none⟩),.agg xs.toArray] w fun r w'=>r=.returned (.tuple #[])/\∃c',c'.x=c.x.add x/\mM B g rb w' v (C++[c'])/\iK w' g v a e/\kN B rb w w':=by
 have h7:∀d∈C,d.cs.length=7:=fun d hd=>(h.all d (by simp[hd])).len;have hc:=h.all c (by simp);obtain⟨bb,n,ex,ls,vo,vt,vk,lv,L,q1,q2,q3,q4,q5,q6⟩:=hc;have Ad:L.length<=1000000:=by rw[q1] at hk;simpa [bA.items] using hk
 have Ab:=h.row;rw[show (C++[c]).length=C.length+1 by simp] at Ab
 obtain⟨ob,oc,Aa,rfl,-⟩:∃ob oc,∃Aa:Array Value,v=.slice (some ⟨ob,0,none⟩) (C.length+1) oc/\True:=by
  rcases Ab.2 with ⟨-,q⟩|⟨g',cap',Aa,q,-⟩
  ·omega
  ·exact⟨g',cap',Aa,q,trivial⟩
 obtain⟨xn,xo,xt,va,vn,vc,la,ln,lc,ia,ik,ic,rfl⟩:=aP.shape7 hx;have hA:=h.apart.one c (by simp);have Ac:=(DR C c h7 6).trans (h.all c (by simp)).cell6;refine (Nr g ob oc C.length L.length B a e ((C++[c]).flatMap (·.cs)) (L.flatMap (·.2)) c.iv x.block xn xo xt va vn vc la ln lc ia ik ic w hp Ab Ac q5 (fun q=>(hA ob q).1 rfl) (fun q=>h.apart.vg (by rw[q];rfl)) (fun q=>(hA g q).2.1 rfl) hn Ad hB).mono ?_;rintro r w' ⟨rfl,g2,cap2,r1,r2,r3,r4,r5⟩;have hf:∀b,b<w.heap.size->(Value.slice (some ⟨ob,0,none⟩) (C.length+1) oc).ownBlock≠some b->c.iv.ownBlock≠some b->w'.heap[b]?=w.heap[b]?:=fun b hb h1 h2=>r5 b hb (fun q=>h1 (by rw[q];rfl)) h2;refine⟨rfl,_,rfl,mM.add h hx q5 r1 r2 r3 r4.size hf,?_,?_,fun b eb=>?_⟩
 ·exact (hf g h.gl h.apart.vg (fun q=>(hA g q).2.1 rfl)).trans hp
 ·exact⟨r4.os,r4.tape,r4.output,r4.size,fun k hk=>hf k (by omega) (fun q=>by have:=(h.lt (.inl q)).1;omega) (fun q=>by have:=(h.lt (.inr ⟨c,by simp,q⟩)).1;omega)⟩
 ·exact hf b (h.rl b eb) (fun q=>h.apart.vr b q eb) (fun q=>(hA b q).2.2 eb)
def yJ(B g n g3 cap3:Nat)(a e:Int)(os xs:List Value)(v:Value)(W W':World):Prop:=
 W'.ownsRow B 54 7 (.slice (some ⟨g3,0,none⟩) (n+1) cap3) (n+1) (os++xs)/\iK W' g (.slice (some ⟨g3,0,none⟩) (n+1) cap3) a e/\(v.ownBlock=some g3\/g3=W.heap.size)/\Below 0 W W'/\∀b,b<W.heap.size->v.ownBlock≠some b->b≠g->W'.heap[b]?=W.heap[b]?
section
variable {B g n g3 cap3:Nat} {a e:Int} {os xs:List Value} {v:Value} {W w3:World}
theorem IA(hx:xs.length=7)(hL:os.length=n*7)(hne:¬g3=g)(h1:w3.ownsRow B 54 7 (.slice (some ⟨g3,0,none⟩) (n+1) cap3) (n+1) (os++aj))(h2:W.grownBy w3 v.ownBlock)(hat:v.ownBlock=some g3\/g3=W.heap.size)
  (h3:ae w3 g #[v,.int .i64 a,.int .i64 e] 83):yJ B g n g3 cap3 a e os xs v W ((w3.setCells g3 (n*7) xs).setCell ⟨g,0,none⟩ (.slice (some ⟨g3,0,none⟩) (n+1) cap3)):=by
 have a1:=nD xs (n*7) h1;rw[<-hL,o7 xs aj os (by rw[hx];rfl),hL] at a1;have a2:=kG g3 xs (n*7) w3;have a3:=(h3.kept a2 (fun q=>hne (Option.some.inj q).symm)).setI 0 (.slice (some ⟨g3,0,none⟩) (n+1) cap3);have a5:(w3.setCells g3 (n*7) xs).grownBy ((w3.setCells g3 (n*7) xs).setCell ⟨g,0,none⟩ (.slice (some ⟨g3,0,none⟩) (n+1) cap3)) (some g):=⟨rfl,rfl,rfl,by simp[World.setCell],fun k _ hk=>heap_setCell_other _ ⟨g,0,none⟩ k _ (fun q=>hk (by simp[q]))⟩;refine⟨a1.kept a5 (.inr (fun q=>hne (by simpa [Value.ownBlock] using q))),a3,hat,(((Below.refl 0 W).grown h2 (Nat.zero_le _) (fun _ _=>Nat.zero_le _)).grown a2 (Nat.zero_le _) (fun _ _=>Nat.zero_le _)).grown a5 (Nat.zero_le _) (fun _ _=>Nat.zero_le _),fun b hb h4 h5=>?_⟩;have z2:=h2.size;have z3:=a2.size;rw[a5.block b (by omega) (fun q=>h5 (Option.some.inj q)),a2.block b (by omega) (fun q=>hat.elim (fun r=>h4 (r.trans q.symm)) (fun r=>by have:=Option.some.inj q;omega)),h2.block b hb (fun q=>h4 q.symm)]
theorem Iz(hx:xs.length=7)(hL:os.length=n*7)(hne:¬g3=g)(h1:w3.ownsRow B 54 7 (.slice (some ⟨g3,0,none⟩) (n+1) cap3) (n+1) (os++aj))(h2:W.grownBy w3 v.ownBlock)(hat:v.ownBlock=some g3\/g3=W.heap.size)
  (h3:ae w3 g #[v,.int .i64 a,.int .i64 e] 83):yJ B g n g3 cap3 a e os xs v W ((w3.setCell ⟨g,0,none⟩ (.slice (some ⟨g3,0,none⟩) (n+1) cap3)).setCells g3 (n*7) xs):=by
 have a5:w3.grownBy (w3.setCell ⟨g,0,none⟩ (.slice (some ⟨g3,0,none⟩) (n+1) cap3)) (some g):=⟨rfl,rfl,rfl,by simp[World.setCell],fun k _ hk=>heap_setCell_other _ ⟨g,0,none⟩ k _ (fun q=>hk (by simp[q]))⟩;have a1:=nD xs (n*7) (h1.kept a5 (.inr (fun q=>hne (by simpa [Value.ownBlock] using q))));rw[<-hL,o7 xs aj os (by rw[hx];rfl),hL] at a1;have a2:=kG g3 xs (n*7) (w3.setCell ⟨g,0,none⟩ (.slice (some ⟨g3,0,none⟩) (n+1) cap3));have a3:=(h3.setI 0 (.slice (some ⟨g3,0,none⟩) (n+1) cap3)).kept a2 (fun q=>hne (Option.some.inj q).symm);refine⟨a1,a3,hat,(((Below.refl 0 W).grown h2 (Nat.zero_le _) (fun _ _=>Nat.zero_le _)).grown a5 (Nat.zero_le _) (fun _ _=>Nat.zero_le _)).grown a2 (Nat.zero_le _) (fun _ _=>Nat.zero_le _),fun b hb h4 h5=>?_⟩;have z2:=h2.size;have z3:=a5.size;rw[a2.block b (by omega) (fun q=>hat.elim (fun r=>h4 (r.trans q.symm)) (fun r=>by have:=Option.some.inj q;omega)),a5.block b (by omega) (fun q=>h5 (Option.some.inj q)),h2.block b hb (fun q=>h4 q.symm)]
theorem Gp{a0 a1 a2 a3 a4 a5 a6:Value}(hL:os.length=n*7)(hne:¬g3=g)(h1:w3.ownsRow B 54 7 (.slice (some ⟨g3,0,none⟩) (n+1) cap3) (n+1) (os++aj))(h2:W.grownBy w3 v.ownBlock)(hat:v.ownBlock=some g3\/g3=W.heap.size)
  (h3:ae w3 g #[v,.int .i64 a,.int .i64 e] 83):yJ B g n g3 cap3 a e os [a0,a1,a2,a3,a4,a5,a6] v W ((((((((w3.setCell ⟨g3,n*7,none⟩ a0).setCell ⟨g3,n*7+1,none⟩ a1).setCell ⟨g3,n*7+2,none⟩ a2).setCell ⟨g3,n*7+3,none⟩ a3).setCell ⟨g3,n*7+4,none⟩ a4).setCell ⟨g3,n*7+5,none⟩ a5).setCell ⟨g3,n*7+6,none⟩ a6).setCell ⟨g,0,none⟩ (.slice (some ⟨g3,0,none⟩) (n+1) cap3)):=
 IA (xs:=[a0,a1,a2,a3,a4,a5,a6]) rfl hL hne h1 h2 hat h3
theorem Gn{a0 a1 a2 a3 a4 a5 a6:Value}(hL:os.length=n*7)(hne:¬g3=g)(h1:w3.ownsRow B 54 7 (.slice (some ⟨g3,0,none⟩) (n+1) cap3) (n+1) (os++aj))(h2:W.grownBy w3 v.ownBlock)(hat:v.ownBlock=some g3\/g3=W.heap.size)
  (h3:ae w3 g #[v,.int .i64 a,.int .i64 e] 83):yJ B g n g3 cap3 a e os [a0,a1,a2,a3,a4,a5,a6] v W ((((((((w3.setCell ⟨g,0,none⟩ (.slice (some ⟨g3,0,none⟩) (n+1) cap3)).setCell ⟨g3,n*7,none⟩ a0).setCell ⟨g3,n*7+1,none⟩ a1).setCell ⟨g3,n*7+2,none⟩ a2).setCell ⟨g3,n*7+3,none⟩ a3).setCell ⟨g3,n*7+4,none⟩ a4).setCell ⟨g3,n*7+5,none⟩ a5).setCell ⟨g3,n*7+6,none⟩ a6):=
 Iz (xs:=[a0,a1,a2,a3,a4,a5,a6]) rfl hL hne h1 h2 hat h3
end
theorem Gq{w:World}{B n g:Nat}{v:Value}{os:List Value}{a e:Int}(hb:B<=w.heap.size)(h1:w.ownsRow B 54 7 v n os)(h2:iK w g v a e) :
  ((w.alloc (.cells aj.toArray 54)).drew.ownsRow B 54 7 v n os)/\(ae (w.alloc (.cells aj.toArray 54)).drew g #[v,.int .i64 a,.int .i64 e] 83)/\
  (∀(j:Nat) (u:Value),aj[j]?=some u->(w.alloc (.cells aj.toArray 54)).drew.cell? ⟨w.heap.size,j,none⟩=some u)/\B<=(w.alloc (.cells aj.toArray 54)).drew.heap.size/\(w.alloc (.cells aj.toArray 54)).drew.heap.size=w.heap.size+1/\Below w.heap.size w (w.alloc (.cells aj.toArray 54)).drew:=
 have hA:Below w.heap.size w (w.alloc (.cells aj.toArray 54)).drew:=((Below.refl _ w).alloc lz _).drew
 ⟨show (w.alloc (.cells aj.toArray 54)).ownsRow _ _ _ _ _ _ from h1.alloc _,h2.below hA h2.lt,fun j u hu=>F6 w rfl j u hu,Nat.le_trans hb hA.size,World.size_alloc w _,hA⟩
theorem CR{v:Value}{g g3 H n:Nat}(h:v.ownBlock=some g3\/g3=H)(hH:H=n+1)(hne:v.ownBlock≠some g)(hl:g<n):¬g3=g:=fun e=>h.elim (fun q=>hne (by rw[q,e])) (fun q=>by omega)
theorem mM.inn{B g:Nat}{rb:Option Nat}{w:World}{v:Value}{C:List kZ}(h:mM B g rb w v C)(hB:B<=w.heap.size)(b:Nat)(hb:w.heap.size<=b):zi B g rb v C b:=
 ⟨Nat.le_trans hB hb,fun e=>by have:=h.gl;omega,fun e=>by have:=h.rl b e;omega,fun e=>by have:=(h.lt (.inl e)).2;omega,fun c hc e=>by have:=(h.lt (.inr ⟨c,hc,e⟩)).2;omega⟩
theorem mM.below{B g:Nat}{rb:Option Nat}{w w':World}{v:Value}{C:List kZ}(h:mM B g rb w v C)(hb:Below w.heap.size w w'):mM B g rb w' v C:=
 h.keep hb.size (fun b hl _ _=>hb.block b hl) (fun b e=>⟨.inl e,Nat.lt_of_lt_of_le (h.rl b e) hb.size⟩)
theorem mM.save{B g:Nat}{rb:Option Nat}{w w':World}{v:Value}{C:List kZ}(h:mM B g rb w v C)(hb:aB g w w'):mM B g rb w' v C:=
 h.keep hb.1.size (fun b hl h1 _=>hb.2 b hl h1) (fun b e=>⟨.inl e,Nat.lt_of_lt_of_le (h.rl b e) hb.1.size⟩)
def G7(B g:Nat)(rb:Option Nat)(r:List bA×Int×Int)(w:World)(e:Ending)(w':World):Prop:=
 e=.returned (.tuple #[])/\∃v',PG B g rb w' v' r.1/\iK w' g v' r.2.1 r.2.2/\kN B rb w w'
theorem Ir{B g:Nat}{rb:Option Nat}{w w4:World}{v:Value}{C:List kZ}{x:bA}{xs:List Value}{o:Obj}(h:mM B g rb w v C)(hB:B<=w.heap.size)(hg:B<=g)(hs:aB g (w.alloc o) w4)(hin:aP (fun b=>(w.alloc o).heap.size<=b) w4 x xs) :
  mM B g rb w4 v C/\aP (zi B g rb v C) w4 x xs/\kN B rb w w4:=by
 have hA:Below w.heap.size w (w.alloc o):=(Below.refl _ w).alloc lz _;have h1:=h.below hA;refine⟨h1.save hs,aP.move lz (fun _ _ _=>rfl) (fun b hb _=>h1.inn (Nat.le_trans hB hA.size) b hb) _ _ hin,?_,fun b e=>?_⟩
 ·exact (hA.mono hB).trans ⟨hs.1.os,hs.1.tape,hs.1.output,hs.1.size,fun k hk=>hs.2 k (by have:=hA.size;omega) (by omega)⟩
 ·exact (hs.2 b (by have:=h.rl b e;have:=hA.size;omega) (fun q=>h.apart.rg (by rw[e,q]))).trans (hA.block b (h.rl b e))
theorem zB{B g:Nat}{rb:Option Nat}{w w4 w5:World}{v:Value}{C:List kZ}{x:bA}{xs:List Value}{a e:Int}{p:Prop}(h:mM B g rb w4 v C/\iK w4 g v a e/\aP (zi B g rb v C) w4 x xs/\kN B rb w w4/\p)(hb:Below w4.heap.size w4 w5)(hB:B<=w.heap.size) :
  mM B g rb w5 v C/\iK w5 g v a e/\aP (zi B g rb v C) w5 x xs/\kN B rb w w5:=
 ⟨h.1.below hb,h.2.1.below hb h.1.gl,aP.below hb _ _ h.2.2.1,h.2.2.2.1.trans hB ⟨hb.mono (Nat.le_trans hB h.2.2.2.1.1.size),fun b e=>hb.block b (h.1.rl b e)⟩⟩
theorem zH{B g n ob oc g3 cap3:Nat}{rb:Option Nat}{w w5 W W':World}{C:List kZ}{c:kZ}{x:bA}{xs os:List Value}{a e:Int}(h:mM B g rb w5 (.slice (some ⟨ob,0,none⟩) (C.length+1) oc) (C++[c])/\iK w5 g (.slice (some ⟨ob,0,none⟩) (C.length+1) oc) a e/\aP (zi B g rb (.slice (some ⟨ob,0,none⟩) (C.length+1) oc) (C++[c])) w5 x xs/\kN B rb w w5)
  (hg:B<=g) (h6:xs[6]?=some (.slice none 0 0)) (hn:n=C.length+1) (hos:os=(C++[c]).flatMap (·.cs)) (hB:B<=w.heap.size) (hW:Below w5.heap.size w5 W) (hs:W.heap.size=w5.heap.size+1) (hE:yJ B g n g3 cap3 a e os xs (.slice (some ⟨ob,0,none⟩) n oc) W W') :
  mM B g rb W' (.slice (some ⟨g3,0,none⟩) (C.length+1+1) cap3) ((C++[c])++[⟨x,xs,.slice none 0 0⟩])/\iK W' g (.slice (some ⟨g3,0,none⟩) (C.length+1+1) cap3) a e/\kN B rb w W':=by
 subst hn;subst hos;obtain⟨e1,e2,e3,e4,e5⟩:=hE;have hf:∀b,b<w5.heap.size->(Value.slice (some ⟨ob,0,none⟩) (C.length+1) oc).ownBlock≠some b->b≠g->W'.heap[b]?=w5.heap[b]?:=fun b hb h1 h2=>(e5 b (by omega) h1 h2).trans (hW.block b hb);have Aa:w5.heap.size<=W'.heap.size:=by have:=e4.size;omega
 have hl:(C++[c]).length=C.length+1:=by simp
 have Ab:=Nat.le_trans hB h.2.2.2.1.size;have hp:=mM.push (g2:=g3) (cap2:=cap3) (c:=⟨x,xs,.slice none 0 0⟩) h.1 (jT.fresh h.2.2.1 h6) rfl (by rw[hl];exact e1) (e3.imp id (fun q=>by omega)) Aa hf;rw[hl] at hp;refine⟨hp,e2,h.2.2.2.trans hB ⟨⟨(e4.os).trans hW.os,(e4.tape).trans hW.tape,(e4.output).trans hW.output,Aa,fun k hk=>hf k (by omega) (fun q=>by have:=(h.1.lt (.inl q)).1;omega) (fun q=>?_)⟩,fun b eb=>hf b (h.1.rl b eb) (fun q=>h.1.apart.vr b q eb) (fun q=>h.1.apart.rg (by rw[eb,q]))⟩⟩;omega
theorem FU{B g n ob oc g3 cap3:Nat}{rb:Option Nat}{w w5 W W':World}{C:List kZ}{c:kZ}{x:bA}{xs os:List Value}(h:mM B g rb w5 (.slice (some ⟨ob,0,none⟩) (C.length+1) oc) (C++[c])/\iK w5 g (.slice (some ⟨ob,0,none⟩) (C.length+1) oc) 0 0/\aP (zi B g rb (.slice (some ⟨ob,0,none⟩) (C.length+1) oc) (C++[c])) w5 x xs/\kN B rb w w5)
  (hg:B<=g) (h6:xs[6]?=some (.slice none 0 0)) (hn:n=C.length+1) (hos:os=(C++[c]).flatMap (·.cs)) (hB:B<=w.heap.size) (hW:Below w5.heap.size w5 W) (hs:W.heap.size=w5.heap.size+1) (hE:yJ B g n g3 cap3 0 0 os xs (.slice (some ⟨ob,0,none⟩) n oc) W W') :
  G7 B g rb (dJ ((C++[c]).map (·.x)) (.begins x)) w (.returned (.tuple #[])) W':=by
 obtain⟨p1,p2,p3⟩:=zH h hg h6 hn hos hB hW hs hE;exact⟨rfl,_,⟨_,by simp[dJ],p1⟩,p2,p3⟩
theorem jT.shape{P:Nat->Prop}{B:Nat}{w:World}{c:kZ}(h:jT P B w c):∃(b:Bool) (n vo vt:ByteArray) (va:Option Addr) (vn vc:Nat) (la:Option Addr) (ln lc:Nat) (ia:Option Addr) (k cap:Nat),c.cs=[.bool b,.string n,.string vo,.string vt,.slice va vn vc,.slice la ln lc,.slice ia k cap]:=by
 obtain⟨b,n,e,ls,vo,vt,vk,lv,L,-,h2,h3,h4,h5,-⟩:=h;obtain⟨va,vn,vc,rfl⟩:=Ab h3;obtain⟨la,lc,rfl,-⟩:=h4.1.len;rcases h5.2 with ⟨q,-⟩|⟨g,cap,cur,q,-⟩
 ·rw[q] at h2;exact⟨_,_,_,_,_,_,_,_,_,_,_,_,_,h2⟩
 ·rw[q] at h2;exact⟨_,_,_,_,_,_,_,_,_,_,_,_,_,h2⟩
theorem JY{B g ob oc:Nat}{rb:Option Nat}{w:World}{C:List kZ}{c:kZ}(h:mM B g rb w (.slice (some ⟨ob,0,none⟩) (C.length+1) oc) (C++[c]))(j:Nat)(u:Value)(hu:c.cs[j]?=some u):w.cell? ⟨ob,C.length*7+j,none⟩=some u:=by
 have h7:∀d∈C,d.cs.length=7:=fun d hd=>(h.all d (by simp[hd])).len;have hj:j<7:=by have:=(List.getElem?_eq_some_iff.1 hu).1;rw[(h.all c (by simp)).len] at this;exact this
 have Aa:=h.row;rw[show (C++[c]).length=C.length+1 by simp] at Aa;rw[Aa.cellAt _ (by omega),DR C c h7 j,hu]
theorem EO{B g:Nat}{rb:Option Nat}{w w4 w5:World}{v:Value}{C:List kZ}{a e:Int}{p:Prop}(h:mM B g rb w4 v C/\iK w4 g v a e/\p/\kN B rb w w4)(hb:Below w4.heap.size w4 w5)(hB:B<=w.heap.size) :
  mM B g rb w5 v C/\iK w5 g v a e/\True/\kN B rb w w5:=
 ⟨h.1.below hb,h.2.1.below hb h.1.gl,trivial,h.2.2.2.trans hB ⟨hb.mono (Nat.le_trans hB h.2.2.2.1.size),fun b e=>hb.block b (h.1.rl b e)⟩⟩
theorem DV{B g ob oc m:Nat}{rb:Option Nat}{w wc:World}{C:List kZ}{c:kZ}{xs:List Value}{p:Prop}(h:mM B g rb wc (.slice (some ⟨ob,0,none⟩) (C.length+1) oc) (C++[c])/\iK wc g (.slice (some ⟨ob,0,none⟩) (C.length+1) oc) 0 0/\p/\kN B rb w wc)
  (hC0:0<C.length) (hcs:c.cs=xs) (hC:C.length<=900001) (hk:∀d∈C,d.x.items.length<=900000) (hB:B<=w.heap.size) (hg:B<=g) (hm:m=C.length) :
  Calls Tryz.prog 90 #[.pointer (some ⟨g,0,none⟩),.agg xs.toArray] (wc.setCell ⟨g,0,none⟩ (.slice (some ⟨ob,0,none⟩) m oc)).drew fun e w'=>e=.returned (.tuple #[])/\G7 B g rb (dJ ((C++[c]).map (·.x)) .fin) w (.returned (.tuple #[])) w':=by
 subst hm;subst hcs;have Aa:wc.heap.size<=(wc.setCell ⟨g,0,none⟩ (.slice (some ⟨ob,0,none⟩) C.length oc)).drew.heap.size:=by show _<=(wc.setCell _ _).heap.size;simp[World.setCell]
 have hf:∀b,b<wc.heap.size->b≠g->(wc.setCell ⟨g,0,none⟩ (.slice (some ⟨ob,0,none⟩) C.length oc)).drew.heap[b]?=wc.heap[b]?:=fun b _ hb=>heap_setCell_other wc ⟨g,0,none⟩ b _ hb;obtain⟨h1,h2⟩:=h.1.pop (w':=(wc.setCell ⟨g,0,none⟩ (.slice (some ⟨ob,0,none⟩) C.length oc)).drew) hC0 Aa hf;have hp:iK (wc.setCell ⟨g,0,none⟩ (.slice (some ⟨ob,0,none⟩) C.length oc)).drew g (.slice (some ⟨ob,0,none⟩) C.length oc) 0 0:=h.2.1.setI 0 _;have Ac:kN B rb wc (wc.setCell ⟨g,0,none⟩ (.slice (some ⟨ob,0,none⟩) C.length oc)).drew:=⟨⟨rfl,rfl,rfl,Aa,fun k hk=>hf k (Nat.lt_of_lt_of_le hk (Nat.le_trans hB h.2.2.2.1.size)) (by omega)⟩,fun b eb=>hf b (h.1.rl b eb) (fun q=>h.1.apart.rg (by rw[eb,q]))⟩;have Ab:=Nat.le_trans hB h.2.2.2.1.size;generalize (wc.setCell ⟨g,0,none⟩ (.slice (some ⟨ob,0,none⟩) C.length oc)).drew=wd at *;rcases List.eq_nil_or_concat C with rfl|⟨C1,d,hCd⟩
 ·simp at hC0
 ·rw[List.concat_eq_append] at hCd
  subst hCd;refine (Eg 0 0 h1 hp h2 (by simp at hC;omega) (Nat.le_trans (hk d (by simp)) (by omega)) (Nat.le_trans Ab Aa)).mono ?_;rintro _ w' ⟨rfl,c2,e2,s2,p2,k2⟩;refine⟨rfl,rfl,_,⟨C1++[c2],?_,s2⟩,p2,(h.2.2.2.trans hB Ac).trans hB k2⟩;simp only[dJ,List.map_append,List.map_cons,List.map_nil,List.dropLast_concat,List.getLast?_concat,Option.getD_some,e2];exact jy _ _ _
theorem Hd{P:Program}{code:Code}{Q:Exit->Act->World->Prop}{a:Act}{W:World}{Pr:World->Prop}(h:Pr W)(k:∀z,Pr z->Code.wp P code Q a z):Code.wp P code Q a W:=k W h
theorem Ki(B g:Nat)(rb:Option Nat)(v:Value)(C:List kZ)(c:kZ)(row:List ag)(lv:Value)(stop:Int)(last:Bool)(w:World)(hS:mM B g rb w v (C++[c]))(h:iK w g v 0 0)(hr:aH w lv row)(ho:∀b,lv.ownBlock=some b->b<w.heap.size)(hT:jk w)(hn:row.length<=900000)(hsh:∀t∈row,t.text.size<=1048576)(hq:∀t∈row,t.kind=3->jD t.text≠none)
  (hC:C.length<=900000) (hk:∀d∈C++[c],d.x.items.length<=900000) (hB:B<=w.heap.size) (hg:B<=g) :
  Calls Tryz.prog 49 #[.pointer (some ⟨g,0,none⟩),iE lv stop last] w (G7 B g rb (bB ((C++[c]).map (·.x)) row stop last) w):=by
 obtain⟨ob,oc,rfl⟩:∃ob oc,v=.slice (some ⟨ob,0,none⟩) (C.length+1) oc:=by
  have Bc:=hS.row;rw[show (C++[c]).length=C.length+1 by simp] at Bc;obtain⟨g',A7,q,-⟩:=World.ownsRow.form Bc (by omega);exact⟨g',A7,q⟩
 rw[iW];have hA:Below w.heap.size w (w.alloc (.cells #[lv,.int .i64 stop,.bool last] 86)):=(Below.refl _ w).alloc lz _;have hK:=KZ g (some ⟨ob,0,none⟩) (C.length+1) oc row lv stop last _ (h.below hA hS.gl) (hr.below hA lz) (fun b e=>Nat.lt_of_lt_of_le (ho b e) hA.size) (hT.below hA) hn hsh hq;rw[show ((C++[c]).map (·.x)).length=C.length+1 by simp];have HF:Hid (aY (C.length+1) row stop last=.fin->0<C.length):=Hh (fun q=>by have:=qi q;omega);generalize aY (C.length+1) row stop last=R at *;obtain⟨la,lc,rfl,By,Bz,-⟩:=hr.len;have HH:=Jh hS (And.intro hB (And.intro hg (And.intro hC hk)));clear hS h hr ho hT hn hsh hq hC hk hB hA;generalize row.length=N at *;simp only[iE] at hK;go_enter Tryz.func49,Tryz.ntmps49;go_wp2_with fail;refine hK.mono ?_;clear hK;rintro _ w4 ⟨hsv,p4,cs,rfl,hin,hi6⟩;obtain⟨h4,A4,Bb⟩:=Ir HH.out.1 HH.out.2.1 HH.out.2.2.1 hsv hin;obtain⟨xn,xo,xt,va,vn,vc,Ar,ln,As,ia,ik,ic,rfl⟩:=aP.shape7 hin;simp only[List.getElem?_cons_succ,List.getElem?_cons_zero,Option.some.injEq,Value.slice.injEq] at hi6;obtain⟨rfl,rfl,rfl⟩:=hi6;clear hsv hin;have HX:=Jh h4 (And.intro p4 (And.intro A4 (And.intro Bb trivial)));clear h4 p4 A4 Bb;generalize (zL R).block=xb at *;go_wp2_with (with_reducible first|refine bH ?_)
 refine Stop.out ?_;refine az rfl 54 _ _ rfl rfl _ rfl #[.bool xb,.string xn,.string xo,.string xt,.slice va vn vc,.slice Ar ln As,.slice none 0 0] rfl _ _ (ae.new w4 aj.toArray 54) rfl (by kernel_rfl) (MJ _ _ _ _ _ _ _ _ _ _ _ _ _) ?_;rw[World.setRow_alloc_new];have AZ:Below w4.heap.size w4 (w4.alloc (.cells #[.bool xb,.string xn,.string xo,.string xt,.slice va vn vc,.slice Ar ln As,.slice none 0 0] 54)):=(Below.refl _ w4).alloc lz _;have Aq:ae (w4.alloc (.cells #[.bool xb,.string xn,.string xo,.string xt,.slice va vn vc,.slice Ar ln As,.slice none 0 0] 54)) w4.heap.size #[.bool xb,.string xn,.string xo,.string xt,.slice va vn vc,.slice Ar ln As,.slice none 0 0] 54:=ae.new w4 #[.bool xb,.string xn,.string xo,.string xt,.slice va vn vc,.slice Ar ln As,.slice none 0 0] 54;have HX:=Hh (zB HX.out AZ HH.out.2.1);have Bx:=Aq.lt;generalize w4.alloc (.cells #[.bool xb,.string xn,.string xo,.string xt,.slice va vn vc,.slice Ar ln As,.slice none 0 0] 54)=w5 at *;have HQ:=Hh Aq;clear AZ
 cases R with
 |wrong a e=>
  simp only[xG];clear Aq;go_wp2_with fail;refine bodyPost_end (v:=.tuple #[]) (by simp[results,Tryz.results49,go_sem]) rfl ?_;exact⟨rfl,_,⟨_,rfl,HX.out.1⟩,HX.out.2.1,HX.out.2.2.2⟩
 |empty=>
  simp only[xG];clear Aq;go_wp2_with fail;refine bodyPost_end (v:=.tuple #[]) (by simp[results,Tryz.results49,go_sem]) rfl ?_;exact⟨rfl,_,⟨_,rfl,HX.out.1⟩,HX.out.2.1,HX.out.2.2.2⟩
 |attr x=>
  simp only[xG];have hC:=Eg _ _ HX.out.1 HX.out.2.1 HX.out.2.2.1 (Nat.le_trans HH.out.2.2.2.1 (by omega)) (Nat.le_trans (HH.out.2.2.2.2 c (by simp)) (by omega)) (Nat.le_trans HH.out.2.1 HX.out.2.2.2.1.size);obtain⟨Ac,Aj,Ad,Ak,Ae,Al,Af,Am,Ag,An,Ah,Ao,Ai,Ap⟩:=Aq.n7 rfl;clear Aq;go_wp2_with fail;refine hC.mono ?_;clear hC;rintro _ w6 ⟨rfl,c2,e2,s2,p2,k2⟩;have H6:=Jh e2 (And.intro s2 (And.intro p2 k2));clear e2 s2 p2 k2 Ac Ad Ae Af Ag Ah Ai Aj Ak Al Am An Ao Ap;go_wp2_with fail;refine bodyPost_end (v:=.tuple #[]) (by simp[results,Tryz.results49,go_sem]) rfl ?_;refine⟨rfl,_,⟨C++[c2],?_,H6.out.2.1⟩,H6.out.2.2.1,HX.out.2.2.2.trans HH.out.2.1 H6.out.2.2.2⟩;simp only[dJ,List.map_append,List.map_cons,List.map_nil,H6.out.1];exact jy _ _ _
 |begins x=>
  simp only[xG];obtain⟨Ac,Aj,Ad,Ak,Ae,Al,Af,Am,Ag,An,Ah,Ao,Ai,Ap⟩:=Aq.n7 rfl;clear Aq;obtain⟨i0,A9,A3⟩:=Option.map_eq_some_iff.1 Tryz.infoItm;simp only[Prod.mk.injEq] at A3;obtain⟨AF,AG,AH⟩:=A3
  obtain⟨n,os,v,HV,Bv,HL,Aa,A0,A1⟩:∃(n:Nat) (os:List Value) (v:Value),Hid (n=C.length+1/\os=(C++[c]).flatMap (·.cs)/\v=.slice (some ⟨ob,0,none⟩) n oc)/\n<=1000000/\Hid (os.length=n*7)/\
    Hid (((w5.alloc (.cells aj.toArray 54)).drew.ownsRow B 54 7 (.slice (some ⟨ob,0,none⟩) n oc) n os)/\(ae (w5.alloc (.cells aj.toArray 54)).drew g #[.slice (some ⟨ob,0,none⟩) n oc,.int .i64 0,.int .i64 0] 83)/\
    (∀(j:Nat) (u:Value),aj[j]?=some u->(w5.alloc (.cells aj.toArray 54)).drew.cell? ⟨w5.heap.size,j,none⟩=some u)/\B<=(w5.alloc (.cells aj.toArray 54)).drew.heap.size/\(w5.alloc (.cells aj.toArray 54)).drew.heap.size=w5.heap.size+1/\Below w5.heap.size w5 (w5.alloc (.cells aj.toArray 54)).drew)/\
    w5.cell? ⟨g,0,none⟩=some (.slice (some ⟨ob,0,none⟩) n oc)/\¬ob=g:=by
   have hr:=HX.out.1.row;rw[show (C++[c]).length=C.length+1 by simp] at hr;exact⟨_,_,_,Hh ⟨rfl,rfl,rfl⟩,by have:=HH.out.2.2.2.1;omega,Hh hr.1,Hh (Gq (Nat.le_trans HH.out.2.1 HX.out.2.2.2.1.size) hr HX.out.2.1),HX.out.2.1.cell 0 _ rfl,fun q=>HX.out.1.apart.vg (by rw[q];rfl)⟩
  have Az:=HX.out.1.gl;have Ba:(n:Int)<(n:Int)+1:=by omega
  go_wp2_with fail
  go_region_law (first
   |(refine step_append_lies _ rfl _ _ 42 rfl B 54 i0 _ 7 128 Tryz.underlying42 A9 AF AG AH rfl (by decide) (.slice (some ⟨ob,0,none⟩) n oc) n os (by rfl) (by exact Aa.out.1) ⟨w5.heap.size,0,none⟩ 1 1 aj (by rfl) rfl (by intro j u hu;rw[Addr.add_lit,Nat.zero_add];exact Aa.out.2.2.1 j u hu) qX (by omega) (by unfold maxLen;omega) (by omega) (by exact Aa.out.2.2.2.1) _ rfl ?_;intro g3 cap3 w3 hown3 hgrow3 hat3 hlt3;have Av:=Aa.out.2.1.kept hgrow3 (fun q=>A1 (Option.some.inj q).symm);obtain⟨Bm,Bn⟩:=Av.n1 rfl;have m0:=Bf hown3 HL.out;have Be:=hown3.frozenAt (n*7);have m1:=gu hown3 HL.out 1 _ rfl;have Bg:=hown3.frozenAt (n*7+1);have m2:=gu hown3 HL.out 2 _ rfl;have Bh:=hown3.frozenAt (n*7+2);have m3:=gu hown3 HL.out 3 _ rfl;have Bi:=hown3.frozenAt (n*7+3);have m4:=gu hown3 HL.out 4 _ rfl;have Bj:=hown3.frozenAt (n*7+4);have m5:=gu hown3 HL.out 5 _ rfl;have Bk:=hown3.frozenAt (n*7+5);have m6:=gu hown3 HL.out 6 _ rfl;have Bl:=hown3.frozenAt (n*7+6);have Au:=CR hat3 Aa.out.2.2.2.2.1 (fun q=>A1 (Option.some.inj q)) Az;have A8:¬g=g3:=fun e=>Au e.symm;have HG:=Jh hown3 (And.intro hgrow3 (And.intro hat3 Av));clear hown3 hgrow3 hat3 Av))
  all_goals
   go_wp2_with fail
  all_goals
   refine bodyPost_end (v:=.tuple #[]) (by simp[results,Tryz.results49,go_sem]) rfl ?_
  all_goals
   obtain⟨q1,q2,q3,q4⟩:=HG.out;refine FU (g3:=g3) (cap3:=cap3) (xs:=[.bool xb,.string xn,.string xo,.string xt,.slice va vn vc,.slice Ar ln As,.slice none 0 0]) HX.out HH.out.2.2.1 rfl HV.out.1 HV.out.2.1 HH.out.2.1 Aa.out.2.2.2.2.2 Aa.out.2.2.2.2.1 ?_
   first
    |with_reducible exact Gp HL.out Au q1 q2 q3 q4
    |with_reducible exact Gn HL.out Au q1 q2 q3 q4
 |bare x=>
  simp only[xG];obtain⟨Ac,Aj,Ad,Ak,Ae,Al,Af,Am,Ag,An,Ah,Ao,Ai,Ap⟩:=Aq.n7 rfl;clear Aq;obtain⟨i0,A9,A3⟩:=Option.map_eq_some_iff.1 Tryz.infoItm;simp only[Prod.mk.injEq] at A3;obtain⟨AF,AG,AH⟩:=A3
  obtain⟨n,os,v,HV,Bv,HL,Aa,A0,A1⟩:∃(n:Nat) (os:List Value) (v:Value),Hid (n=C.length+1/\os=(C++[c]).flatMap (·.cs)/\v=.slice (some ⟨ob,0,none⟩) n oc)/\n<=1000000/\Hid (os.length=n*7)/\
    Hid (((w5.alloc (.cells aj.toArray 54)).drew.ownsRow B 54 7 (.slice (some ⟨ob,0,none⟩) n oc) n os)/\(ae (w5.alloc (.cells aj.toArray 54)).drew g #[.slice (some ⟨ob,0,none⟩) n oc,.int .i64 0,.int .i64 0] 83)/\
    (∀(j:Nat) (u:Value),aj[j]?=some u->(w5.alloc (.cells aj.toArray 54)).drew.cell? ⟨w5.heap.size,j,none⟩=some u)/\B<=(w5.alloc (.cells aj.toArray 54)).drew.heap.size/\(w5.alloc (.cells aj.toArray 54)).drew.heap.size=w5.heap.size+1/\Below w5.heap.size w5 (w5.alloc (.cells aj.toArray 54)).drew)/\
    w5.cell? ⟨g,0,none⟩=some (.slice (some ⟨ob,0,none⟩) n oc)/\¬ob=g:=by
   have hr:=HX.out.1.row;rw[show (C++[c]).length=C.length+1 by simp] at hr;exact⟨_,_,_,Hh ⟨rfl,rfl,rfl⟩,by have:=HH.out.2.2.2.1;omega,Hh hr.1,Hh (Gq (Nat.le_trans HH.out.2.1 HX.out.2.2.2.1.size) hr HX.out.2.1),HX.out.2.1.cell 0 _ rfl,fun q=>HX.out.1.apart.vg (by rw[q];rfl)⟩
  have Az:=HX.out.1.gl;have Ba:(n:Int)<(n:Int)+1:=by omega
  go_wp2_with fail
  go_region_law (first
   |(refine step_append_lies _ rfl _ _ 42 rfl B 54 i0 _ 7 128 Tryz.underlying42 A9 AF AG AH rfl (by decide) (.slice (some ⟨ob,0,none⟩) n oc) n os (by rfl) (by exact Aa.out.1) ⟨w5.heap.size,0,none⟩ 1 1 aj (by rfl) rfl (by intro j u hu;rw[Addr.add_lit,Nat.zero_add];exact Aa.out.2.2.1 j u hu) qX (by omega) (by unfold maxLen;omega) (by omega) (by exact Aa.out.2.2.2.1) _ rfl ?_;intro g3 cap3 w3 hown3 hgrow3 hat3 hlt3;have Av:=Aa.out.2.1.kept hgrow3 (fun q=>A1 (Option.some.inj q).symm);obtain⟨Bm,Bn⟩:=Av.n1 rfl;have m0:=Bf hown3 HL.out;have Be:=hown3.frozenAt (n*7);have m1:=gu hown3 HL.out 1 _ rfl;have Bg:=hown3.frozenAt (n*7+1);have m2:=gu hown3 HL.out 2 _ rfl;have Bh:=hown3.frozenAt (n*7+2);have m3:=gu hown3 HL.out 3 _ rfl;have Bi:=hown3.frozenAt (n*7+3);have m4:=gu hown3 HL.out 4 _ rfl;have Bj:=hown3.frozenAt (n*7+4);have m5:=gu hown3 HL.out 5 _ rfl;have Bk:=hown3.frozenAt (n*7+5);have m6:=gu hown3 HL.out 6 _ rfl;have Bl:=hown3.frozenAt (n*7+6);have Au:=CR hat3 Aa.out.2.2.2.2.1 (fun q=>A1 (Option.some.inj q)) Az;have A8:¬g=g3:=fun e=>Au e.symm;have HG:=Jh hown3 (And.intro hgrow3 (And.intro hat3 Av));clear hown3 hgrow3 hat3 Av))
  all_goals go_upto_region 10 with fail
  all_goals
   obtain⟨q1,q2,q3,q4⟩:=HG.out
   refine Hd (Pr:=yJ B g n g3 cap3 0 0 os [.bool xb,.string xn,.string xo,.string xt,.slice va vn vc,.slice Ar ln As,.slice none 0 0] (.slice (some ⟨ob,0,none⟩) n oc) (w5.alloc (.cells aj.toArray 54)).drew) (by
    first
     |with_reducible exact Gp HL.out Au q1 q2 q3 q4
     |with_reducible exact Gn HL.out Au q1 q2 q3 q4) (fun wc hE=>?_)
   clear q1 q2 q3 q4 HG m0 m1 m2 m3 m4 m5 m6 Be Bg Bh Bi Bj Bk Bl Bm Bn;obtain⟨p1,p2,p3⟩:=zH HX.out HH.out.2.2.1 rfl HV.out.1 HV.out.2.1 HH.out.2.1 Aa.out.2.2.2.2.2 Aa.out.2.2.2.2.1 hE;have Bd:(kZ.mk (zL (oL.bare x)) [.bool xb,.string xn,.string xo,.string xt,.slice va vn vc,.slice Ar ln As,.slice none 0 0] (.slice none 0 0)).x=x:=rfl;generalize (kZ.mk (zL (oL.bare x)) [.bool xb,.string xn,.string xo,.string xt,.slice va vn vc,.slice Ar ln As,.slice none 0 0] (.slice none 0 0))=c9 at *;have Bp:=Hh Bd;clear Bd;have AA:(C++[c]).length=C.length+1:=by simp
   rw[<-AA] at p1 p2;have AX:=Jh p1 (And.intro p2 (And.intro trivial p3));have AW:=Hh AA;clear p1 p2 p3 hE AA A0 A1 Az Ba;clear Ac Ad Ae Af Ag Ah Ai Aj Ak Al Am An Ao Ap;have HX:=AX;clear AX;obtain⟨tb,tn,tO,tt,ta,t1,t2,Ay,t3,t4,Ax,t5,t6,At⟩:=(HX.out.1.all c9 (by simp)).shape
   obtain⟨n2,m,HV,Bs,Bw,Bt,A0,f0,f1,f2,f3,f4,f5,f6⟩:∃(n2 m:Nat),Hid (n2=(C++[c]).length+1/\m=(C++[c]).length)/\m<=1000000/\(n2:Int)-1=(m:Int)/\m<n2/\wc.cell? ⟨g,0,none⟩=some (.slice (some ⟨g3,0,none⟩) n2 cap3)/\wc.cell? ⟨g3,m*7,none⟩=some (.bool tb)/\wc.cell? ⟨g3,m*7+1,none⟩=some (.string tn)/\wc.cell? ⟨g3,m*7+2,none⟩=some (.string tO)/\
     wc.cell? ⟨g3,m*7+3,none⟩=some (.string tt)/\wc.cell? ⟨g3,m*7+4,none⟩=some (.slice ta t1 t2)/\wc.cell? ⟨g3,m*7+5,none⟩=some (.slice Ay t3 t4)/\wc.cell? ⟨g3,m*7+6,none⟩=some (.slice Ax t5 t6):=by
    have ht:=JY HX.out.1;rw[At] at ht;exact⟨_,_,Hh ⟨rfl,rfl⟩,by have:=HH.out.2.2.2.1;rw[AW.out];omega,by omega,by omega,HX.out.2.1.cell 0 _ rfl,ht 0 _ rfl,ht 1 _ rfl,ht 2 _ rfl,ht 3 _ rfl,ht 4 _ rfl,ht 5 _ rfl,ht 6 _ rfl⟩
   have Az:=HX.out.1.gl;have A5:=Jh At trivial;have AB:g3<wc.heap.size:=(HX.out.1.lt (.inl rfl)).2;clear At;go_cut [6] (fun x wk=>∃p6:Nat,x=.pointer (some ⟨p6,0,none⟩)/\ae wk p6 #[.bool tb,.string tn,.string tO,.string tt,.slice ta t1 t2,.slice Ay t3 t4,.slice Ax t5 t6] 54/\¬p6=g/\Below wc.heap.size wc wk)
   case first=>
    go_region
    all_goals go_wp2_with fail
    all_goals go_meet
    all_goals exact⟨_,rfl,(ae.new _ _ _).drew,by omega,((Below.refl _ _).alloc lz _).drew⟩
   case rest=>
    obtain⟨p6,rfl,k6,AC,A2⟩:=hcut;have Ab:=Hh (EO ⟨HX.out.1,HX.out.2.1,trivial,HX.out.2.2.2⟩ A2 HH.out.2.1);obtain⟨Aw,AE⟩:=Ab.out.2.1.n1 rfl;have Br:=Ab.out.1.gl
    have Bu:m<=cap3:=by
     have hr:=Ab.out.1.row;rcases hr.2 with ⟨q,-⟩|⟨_,_,_,q,-,-,q3,-⟩
     ·cases q
     ·injection q with _ q1 q2
      have:=HV.out;omega
    have Bq:=k6.lt;rw[<-HV.out.1] at Aw;have Bo:=Hh k6;have AD:¬g=p6:=fun e=>AC e.symm;clear A0 f0 f1 f2 f3 f4 f5 f6 A2;obtain⟨AI,AP,AJ,AQ,AK,AR,AL,AS,AM,AT,AN,AU,AO,AV⟩:=k6.n7 rfl;clear k6;go_wp2_with fail;go_region
    all_goals go_wp2_with fail
    all_goals
     have hA:=DV (xs:=[.bool tb,.string tn,.string tO,.string tt,.slice ta t1 t2,.slice Ay t3 t4,.slice Ax t5 t6]) ⟨Ab.out.1,Ab.out.2.1,Ab.out.2.2.1,Ab.out.2.2.2⟩ (by simp) A5.out.1 (by have:=HH.out.2.2.2.1;rw[AW.out];omega) HH.out.2.2.2.2 HH.out.2.1 HH.out.2.2.1 HV.out.2;refine hA.mono ?_;clear hA;rintro _ w9 ⟨rfl,hR9⟩;have A6:=Hh hR9;clear hR9;go_wp2_with fail;refine bodyPost_end (v:=.tuple #[]) (by simp[results,Tryz.results49,go_sem]) rfl ?_;have hR9:=A6.out;rw[List.map_append (l₁:=C++[c]),List.map_cons,List.map_nil,wT,Bp.out] at hR9;exact hR9
 |fin=>
  simp only[xG];have AY:=HF.out rfl;obtain⟨tb,tn,tO,tt,ta,t1,t2,Ay,t3,t4,Ax,t5,t6,At⟩:=(HX.out.1.all c (by simp)).shape
  obtain⟨n,m,HV,Bs,Bw,Bt,A0,f0,f1,f2,f3,f4,f5,f6⟩:∃(n m:Nat),Hid (n=C.length+1/\m=C.length)/\m<=1000000/\(n:Int)-1=(m:Int)/\m<n/\w5.cell? ⟨g,0,none⟩=some (.slice (some ⟨ob,0,none⟩) n oc)/\w5.cell? ⟨ob,m*7,none⟩=some (.bool tb)/\w5.cell? ⟨ob,m*7+1,none⟩=some (.string tn)/\w5.cell? ⟨ob,m*7+2,none⟩=some (.string tO)/\
    w5.cell? ⟨ob,m*7+3,none⟩=some (.string tt)/\w5.cell? ⟨ob,m*7+4,none⟩=some (.slice ta t1 t2)/\w5.cell? ⟨ob,m*7+5,none⟩=some (.slice Ay t3 t4)/\w5.cell? ⟨ob,m*7+6,none⟩=some (.slice Ax t5 t6):=by
   have ht:=JY HX.out.1;rw[At] at ht;exact⟨_,_,Hh ⟨rfl,rfl⟩,by have:=HH.out.2.2.2.1;omega,by omega,by omega,HX.out.2.1.cell 0 _ rfl,ht 0 _ rfl,ht 1 _ rfl,ht 2 _ rfl,ht 3 _ rfl,ht 4 _ rfl,ht 5 _ rfl,ht 6 _ rfl⟩
  have Az:=HX.out.1.gl;have A5:=Jh At AY;have AB:ob<w5.heap.size:=(HX.out.1.lt (.inl rfl)).2;clear Aq At AY;go_upto_region 10 with fail
  go_cut [6] (fun x wc=>∃p6:Nat,x=.pointer (some ⟨p6,0,none⟩)/\ae wc p6 #[.bool tb,.string tn,.string tO,.string tt,.slice ta t1 t2,.slice Ay t3 t4,.slice Ax t5 t6] 54/\¬p6=g/\Below w5.heap.size w5 wc)
  case first=>
   go_region
   all_goals go_wp2_with fail
   all_goals go_meet
   all_goals exact⟨_,rfl,(ae.new _ _ _).drew,by omega,((Below.refl _ _).alloc lz _).drew⟩
  case rest=>
   obtain⟨p6,rfl,k6,AC,A2⟩:=hcut;have Ab:=Hh (zB (p:=True) ⟨HX.out.1,HX.out.2.1,HX.out.2.2.1,HX.out.2.2.2,trivial⟩ A2 HH.out.2.1);obtain⟨Aw,AE⟩:=Ab.out.2.1.n1 rfl;have Br:=Ab.out.1.gl
   have Bu:m<=oc:=by
    have hr:=Ab.out.1.row;rcases hr.2 with ⟨q,-⟩|⟨_,_,_,q,-,-,q3,-⟩
    ·cases q
    ·injection q with _ q1 q2
     have:=HV.out;omega
   have Bq:=k6.lt;rw[<-HV.out.1] at Aw;have Bo:=Hh k6;have AD:¬g=p6:=fun e=>AC e.symm;clear A0 f0 f1 f2 f3 f4 f5 f6 A2;obtain⟨AI,AP,AJ,AQ,AK,AR,AL,AS,AM,AT,AN,AU,AO,AV⟩:=k6.n7 rfl;clear k6;go_wp2_with fail;go_region
   all_goals go_wp2_with fail
   all_goals
    have hA:=DV (xs:=[.bool tb,.string tn,.string tO,.string tt,.slice ta t1 t2,.slice Ay t3 t4,.slice Ax t5 t6]) ⟨Ab.out.1,Ab.out.2.1,Ab.out.2.2.1,Ab.out.2.2.2⟩ A5.out.2 A5.out.1 (Nat.le_succ_of_le HH.out.2.2.2.1) (fun d hd=>HH.out.2.2.2.2 d (by simp[hd])) HH.out.2.1 HH.out.2.2.1 HV.out.2;refine hA.mono ?_;clear hA;rintro _ w9 ⟨rfl,hR9⟩;have A6:=Hh hR9;clear hR9;go_wp2_with fail;refine bodyPost_end (v:=.tuple #[]) (by simp[results,Tryz.results49,go_sem]) rfl ?_;exact A6.out
end Go.Proofs.YtbcdaaobbebooaaGreatDoor
namespace Go.Proofs.YtbcdaaobbebooaaGreatDoor
def Small(m:Nat)(st:List bA):Prop:=st≠[]/\st.length<=m+1/\∀x∈st,x.items.length<=m
theorem Small.le{m k:Nat}{st:List bA}(h:Small m st)(hk:m<=k):Small k st:=⟨h.1,Nat.le_trans h.2.1 (by omega),fun x hx=>Nat.le_trans (h.2.2 x hx) hk⟩
def oL.leaf:oL->Prop
 |.attr x=>x.items=[]
 |.begins x=>x.items=[]
 |.bare x=>x.items=[]
 |_=>True
theorem je(row:List ag)(stop:Int)(last:Bool)(i:Nat):(dZ row stop last i).leaf:=by
 obtain⟨a,e,-,h⟩:=eD row stop last i;rw[h];trivial
theorem Fx(n:Nat)(row:List ag)(stop:Int)(last:Bool):(aY n row stop last).leaf:=by
 cases row with
 |nil=>trivial
 |cons t r=>
  simp only[aY];split
  ·split
   ·exact je ..
   ·split
    ·exact je ..
    ·trivial
  ·split
   ·exact je ..
   ·split
    ·unfold jI
     split
     ·exact je ..
     ·split
      ·rfl
      ·split<;>trivial
    ·unfold fE
     simp only;split
     ·exact je ..
     ·split
      ·split<;>trivial
      ·split
       ·rfl
       ·split
        ·exact je ..
        ·split
         ·exact je ..
         ·rfl
def oL.calm:oL->Prop
 |.wrong a e=>e=0->a=0
 |_=>True
theorem jf(row:List ag)(stop:Int)(last:Bool)(i:Nat):(dZ row stop last i).calm:=by
 obtain⟨a,e,he,h⟩:=eD row stop last i;rw[h];exact fun q=>absurd q he
theorem Fz(n:Nat)(row:List ag)(stop:Int)(last:Bool):(aY n row stop last).calm:=by
 cases row with
 |nil=>trivial
 |cons t r=>
  simp only[aY];split
  ·split
   ·exact jf ..
   ·split
    ·exact jf ..
    ·trivial
  ·split
   ·exact jf ..
   ·split
    ·unfold jI
     split
     ·exact jf ..
     ·split
      ·trivial
      ·next h1 h2=>
       split
       ·exact fun q=>absurd q h2
       ·exact fun _=>rfl
    ·unfold fE
     simp only;split
     ·exact jf ..
     ·split
      ·split
       ·exact fun q=>by cases q
       ·exact fun _=>rfl
      ·split
       ·trivial
       ·split
        ·exact jf ..
        ·split
         ·exact jf ..
         ·trivial
theorem EP{st:List bA}{row:List ag}{stop:Int}{last:Bool}(h:(bB st row stop last).2.2=0):(bB st row stop last).2.1=0:=by
 rw[iW] at h ⊢;have hc:=Fz st.length row stop last
 revert h hc
 cases aY st.length row stop last with
 |wrong a e=>intro h hc;exact hc h
 |_=>intro _ _;rfl
theorem kY:∀(st:List bA) (x:bA) (m:Nat),(∀y∈st,y.items.length<=m)->∀y∈iJ st x,y.items.length<=m+1
 |[],_,_,_,y,hy=>by cases hy
 | [t],x,m,h,y,hy=>by
  simp only[iJ,List.mem_singleton] at hy;subst hy;rw[bA.add_items,List.length_append];have:=h t (by simp)
  simpa using this
 | t::u::r,x,m,h,y,hy=>by
  simp only[iJ,List.mem_cons] at hy;rcases hy with rfl|hy
  ·exact Nat.le_succ_of_le (h _ (by simp))
  ·exact kY (u::r) x m (fun z hz=>h z (by simp at hz ⊢;exact .inr hz)) y hy
theorem Cz{m:Nat}{st:List bA}(h:Small m st)(row:List ag)(stop:Int)(last:Bool):Small (m+1) (bB st row stop last).1:=by
 refine⟨pg h.1 row stop last,?_⟩;rw[iW];have hl:=Fx st.length row stop last
 revert hl
 cases aY st.length row stop last with
 |wrong a e=>intro _;exact (h.le (Nat.le_succ m)).2
 |empty=>intro _;exact (h.le (Nat.le_succ m)).2
 |attr x=>intro _;exact⟨by simp only[dJ];rw[iq];have:=h.2.1;omega,kY _ _ _ h.2.2⟩
 |begins x=>
  intro hl;refine⟨by simp only[dJ,List.length_append,List.length_singleton];have:=h.2.1;omega,fun y hy=>?_⟩;simp only[dJ,List.mem_append,List.mem_singleton] at hy;rcases hy with hy|rfl
  ·exact Nat.le_succ_of_le (h.2.2 y hy)
  ·simp only[oL.leaf] at hl
   rw[hl];exact Nat.zero_le _
 |bare x=>intro _;exact⟨by simp only[dJ];rw[iq];have:=h.2.1;omega,kY _ _ _ h.2.2⟩
 |fin=>
  intro _;refine⟨by simp only[dJ];rw[iq,List.length_dropLast];have:=h.2.1;omega,kY _ _ _ (fun y hy=>h.2.2 y (List.dropLast_subset st hy))⟩
theorem BS:Small 0 [bW]:=⟨by simp,by simp,fun x hx=>by simp at hx;subst hx;simp[bW,bA.items]⟩
def iV(size:Int)(toks:List ag)(k:Nat)(st:List bA)(row:List ag):Prop:=bN size toks [bW] []=bN size (toks.drop k) st row
theorem iV.zero(size:Int)(toks:List ag):iV size toks 0 [bW] []:=rfl
section
variable {size:Int} {toks:List ag} {k:Nat} {st:List bA} {row:List ag}
theorem iV.open(h:iV size toks k st row)(hk:k<toks.length):bN size toks [bW] []=(if toks[k].kind=6\/toks[k].kind=7 then bN size (toks.drop (k+1)) st row
  else if toks[k].kind=5 then
   (if (bB st row toks[k].pos false).2.2≠0 then ([],(bB st row toks[k].pos false).2) else bN size (toks.drop (k+1)) (bB st row toks[k].pos false).1 [])
  else bN size (toks.drop (k+1)) st (row++[toks[k]])):=by
 unfold iV at h;rw[h,List.drop_eq_getElem_cons hk,bN]
theorem iV.skip(h:iV size toks k st row)(hk:k<toks.length)(h6:toks[k].kind=6\/toks[k].kind=7):iV size toks (k+1) st row:=by
 have:=h.open hk;rw[if_pos h6] at this;exact this
theorem iV.bad(h:iV size toks k st row)(hk:k<toks.length)(h5:toks[k].kind=5)(he:(bB st row toks[k].pos false).2.2≠0):bN size toks [bW] []=([],(bB st row toks[k].pos false).2):=by
 have:=h.open hk;rw[if_neg (by omega),if_pos h5,if_pos he] at this;exact this
theorem iV.line(h:iV size toks k st row)(hk:k<toks.length)(h5:toks[k].kind=5)(he:(bB st row toks[k].pos false).2.2=0):iV size toks (k+1) (bB st row toks[k].pos false).1 []:=by
 have:=h.open hk;rw[if_neg (by omega),if_pos h5,if_neg (by omega)] at this;exact this
theorem iV.tok(h:iV size toks k st row)(hk:k<toks.length)(h5:toks[k].kind≠5)(h6:¬(toks[k].kind=6\/toks[k].kind=7)):iV size toks (k+1) st (row++[toks[k]]):=by
 have:=h.open hk;rw[if_neg h6,if_neg h5] at this;exact this
theorem iV.last(h:iV size toks k st row)(hk:toks.length<=k):bN size toks [bW] []=(if (bB st row size true).2.2≠0 then ([],(bB st row size true).2)
  else if 1<(bB st row size true).1.length then ([],size,2)
  else (((bB st row size true).1.head?.getD bW).items,-1,0)):=by
 unfold iV at h;rw[h,List.drop_eq_nil_of_le hk,bN]
end
end Go.Proofs.YtbcdaaobbebooaaGreatDoor
namespace Go.Proofs.YtbcdaaobbebooaaGreatDoor
open Go.RowKit Go.Tab
def Pj(R:List bA×Int×Int)(w:World)(e:Ending)(w':World):Prop:=(∃v,e=.returned (.tuple #[v,.int .i64 R.2.1,.int .i64 R.2.2])/\dU w' v R.1)/\Below w.heap.size w w'
theorem dU.nil{w:World}:dU w (.slice none 0 0) []:=⟨none,0,rfl,Nat.le_refl _,Nat.zero_le _,fun _=>rfl,fun x h=>by cases h⟩
theorem Aw.items{w:World}{t:bA}{cs:List Value}{v:Value}(h:Aw w t cs)(h6:cs[6]?=some v):dU w v t.items:=by
 obtain⟨b,n,e,ls,Ab⟩:=t;obtain⟨vo,vt,vk,lv,a,Aa,rfl,-,-,h3,h4,h5,h7⟩:=lm.open h;simp only[List.getElem?_cons_succ,List.getElem?_cons_zero,Option.some.injEq] at h6;subst h6;exact⟨a,Aa,rfl,h3,h4,h5,h7⟩
structure BQ(toks:List ag)(size:Int)(B g k:Nat)(C:List kZ)(row:List ag)(rv v:Value)(w wr:World):Prop where
 st:mM B g rv.ownBlock wr v C
 box:iK wr g v 0 0
 own:aO B wr rv row
 kept:Below B w wr
 big:B<=wr.heap.size
 rest:iV size toks k (C.map (·.x)) row
 small:Small k (C.map (·.x))
 len:row.length<=k
 mem:∀t∈row,t∈toks
section
variable {toks:List ag} {size:Int} {B g k:Nat} {C:List kZ} {row:List ag} {rv v:Value} {w wr:World}
theorem BQ.below(h:BQ toks size B g k C row rv v w wr){w':World}(hb:Below wr.heap.size wr w'):BQ toks size B g k C row rv v w w':=
 ⟨h.st.below hb,h.box.below hb h.st.gl,h.own.below hb lz,h.kept.trans (hb.mono h.big),Nat.le_trans h.big hb.size,h.rest,h.small,h.len,h.mem⟩
theorem BQ.skip(h:BQ toks size B g k C row rv v w wr)(hk:k<toks.length)(h6:toks[k].kind=6\/toks[k].kind=7):BQ toks size B g (k+1) C row rv v w wr:=
 ⟨h.st,h.box,h.own,h.kept,h.big,h.rest.skip hk h6,h.small.le (Nat.le_succ k),Nat.le_succ_of_le h.len,h.mem⟩
theorem BQ.tok(h:BQ toks size B g k C row rv v w wr)(hk:k<toks.length)(h5:toks[k].kind≠5)(h6:¬(toks[k].kind=6\/toks[k].kind=7)){g3 n cap3:Nat}{w3:World}
  (h1:aO B w3 (.slice (some ⟨g3,0,none⟩) n cap3) (row++[toks[k]])) (h2:wr.grownBy w3 rv.ownBlock) (h3:rv.ownBlock=some g3\/g3=wr.heap.size) (h4:g3<w3.heap.size) :
  BQ toks size B g (k+1) C (row++[toks[k]]) (.slice (some ⟨g3,0,none⟩) n cap3) v w w3:=by
 have Ab:∀b,rv.ownBlock=some b->B<=b/\b<wr.heap.size:=World.ownsRow.lt h.own;have Aa:∀b,b<wr.heap.size->b≠g->rv.ownBlock≠some b->w3.heap[b]?=wr.heap[b]?:=fun b hb _ hn=>h2.block b hb (fun e=>hn e.symm);refine⟨h.st.keep h2.size Aa (fun b e=>?_),?_,h1,h.kept.trans ⟨h2.os,h2.tape,h2.output,h2.size,fun b hb=>h2.block b (Nat.lt_of_lt_of_le hb h.big) (fun e=>by have:=(Ab b e.symm).1;omega)⟩,Nat.le_trans h.big h2.size,h.rest.tok hk h5 h6,h.small.le (Nat.le_succ k),by rw[List.length_append];simpa using h.len,fun t ht=>?_⟩
 ·simp only[Value.ownBlock,Option.some.injEq] at e
  subst e;exact⟨h3.imp id (fun q=>by omega),h4⟩
 ·exact h.box.kept h2 (fun e=>h.st.apart.rg e.symm)
 ·rcases List.mem_append.1 ht with ht|ht
  ·exact h.mem t ht
  ·simp at ht;subst ht;exact List.getElem_mem hk
theorem aO.none{base:Nat}{a:Option Addr}{n cap:Nat}{l:List ag}(h:aO base w (.slice a n cap) l):aO base w (.slice a 0 cap) []:=by
 obtain⟨h1,h2⟩:=h;refine⟨rfl,?_⟩;rcases h2 with ⟨h2,-⟩|⟨g,cap',cur,he,hb,hg,h3,h4,h5,h6⟩
 ·cases h2;exact .inl ⟨rfl,rfl⟩
 ·cases he;exact .inr ⟨_,_,cur,rfl,hb,hg,Nat.zero_le _,h4,h5,by simp⟩
theorem aO.capB{base:Nat}{a:Option Addr}{n cap:Nat}{l:List ag}(h:aO base w (.slice a n cap) l):n=l.length/\n<=cap/\cap<=maxLen:=by
 obtain⟨h1,h2⟩:=h;rcases h2 with ⟨h2,h3⟩|⟨g,cap',cur,he,hb,hg,h3,h4,h5,h6⟩
 ·cases h2;exact⟨h3.symm,Nat.le_refl _,Nat.zero_le _⟩
 ·cases he;exact⟨rfl,h3,h4⟩
theorem BQ.line{a:Option Addr}{n cap:Nat}(h:BQ toks size B g k C row (.slice a n cap) v w wr)(hk:k<toks.length)(h5:toks[k].kind=5)(he:(bB (C.map (·.x)) row toks[k].pos false).2.2=0){w3:World}{v3:Value}{C3:List kZ}{e1:Int}
  (h0:(bB (C.map (·.x)) row toks[k].pos false).1=C3.map (·.x)) (h1:mM B g (Value.slice a n cap).ownBlock w3 v3 C3) (h2:iK w3 g v3 e1 (bB (C.map (·.x)) row toks[k].pos false).2.2) (h21:e1=0) (h3:kN B (Value.slice a n cap).ownBlock wr w3) :
  BQ toks size B g (k+1) C3 [] (.slice a 0 cap) v3 w w3:=by
 rw[he] at h2;subst h21;have Aa:(Value.slice a 0 cap).ownBlock=(Value.slice a n cap).ownBlock:=by cases a<;>rfl
 exact⟨by rw[Aa];exact h1,h2,(h.own.moved (fun b e=>h3.2 b e)).none,h.kept.trans h3.1,Nat.le_trans h.big h3.1.size,by rw[<-h0];exact h.rest.line hk h5 he,by rw[<-h0];exact Cz h.small _ _ _,Nat.zero_le _,fun t ht=>by cases ht⟩
end
section
variable {P:Program} {w:World} {ops:Array Oper} {rest:List Oper} {o:Oper} {a:Act} {Q:Exit->Act->World->Prop}
theorem ma(hgd:Region.wanted o (yielded ops a.tmps)=true)(x hi:Operand)(t:TypeId)(sz:Nat)(ho:o.op=.slice t x none (some hi) none)
  (ht:P.underlying t=some (.slice (P.elem t))) (hs:(P.info? (P.elem t)).map (fun i=>i.size)=some sz)
  (ad:Option Addr) (n cap:Nat) (hx:a.eval x=.slice ad n cap) (k:IntKind) (eH:a.eval hi=.int k 0)
  (hK:wpList P ops Q rest (a.put o.dst (.slice ad 0 cap)) w):wpList P ops Q (o::rest) a w:=by
 refine gV hgd fun K hK'=>?_;have Aa:=run_slice_h (P:=P) w t ad n cap ht k 0 (by omega) (by omega);unfold Oper.wp;simp only[execOp,ho,hx,eH,Option.map_some,Option.map_none,Sem.run_bind,run_sliceAt_slice (P:=P) w t _ _ _ _ ht,Aa,sG hs,Result.andThen,Sem.run_pure,Oper.upon_value,Int.toNat_zero]
 have e1:sliced ad 0 0 cap sz=.slice ad 0 cap:=by
  unfold sliced
  cases ad with
  |none=>simp
  |some y=>simp[Addr.add]
 rw[e1];exact hK' _ _ hK
theorem yO(hgd:Region.wanted o (yielded ops a.tmps)=true)(l c:Operand)(t:TypeId)(hop:o.op=.makeSlice t l c)
  (e:TypeId) (bytes size:Nat) (z:Value) (ht:P.underlying t=some (.slice e)) (hi:(P.info? e).map (fun i=>(i.zero,i.size,i.bytes))=some (some z,size,bytes))
  (kl kc:IntKind) (n:Nat) (hl:a.eval l=.int kl (n:Int)) (hc:a.eval c=.int kc (n:Int)) (hby:bytes*n<=281474976710656) (hm:n<=maxLen)
  (hK:wpList P ops Q rest (a.put o.dst (.slice (some ⟨w.heap.size,0,Option.none⟩) n n)) (w.alloc (.cells (madeCells z.cells (n*size)) e))):wpList P ops Q (o::rest) a w:=by
 obtain⟨i,Ac,Aa⟩:=Option.map_eq_some_iff.1 hi;simp only[Prod.mk.injEq] at Aa;obtain⟨hz,hs,hb⟩:=Aa;refine gV hgd fun K hK'=>?_
 have Ab:(i.bytes:Int)*(n:Int)<=281474976710656:=by
  have h:((i.bytes*n:Nat):Int)<=281474976710656:=by rw[hb];omega
  rwa [Int.natCast_mul] at h
 have hr:=run_make (P:=P) w t e i z ht Ac hz kl kc n n (by omega) (Int.le_refl _) Ab (by simp[maxLen] at hm;omega);simp only[Int.toNat_natCast,hs] at hr;unfold Oper.wp;simp[execOp,hop,hl,hc,hr,Result.andThen]
 exact hK' _ _ hK
end
theorem BQ.start(toks:List ag)(size:Int)(w:World) :
  BQ toks size w.heap.size (w.heap.size+1) 0 [⟨bW,aj,.slice none 0 0⟩] [] (.slice none 0 0) (.slice (some ⟨w.heap.size,0,none⟩) 1 1) w
   ((w.alloc (.cells aj.toArray 54)).alloc (.cells #[.slice (some ⟨w.heap.size,0,none⟩) 1 1,.int .i64 0,.int .i64 0] 83)):=by
 have hB:Below w.heap.size w ((w.alloc (.cells aj.toArray 54)).alloc (.cells #[.slice (some ⟨w.heap.size,0,none⟩) 1 1,.int .i64 0,.int .i64 0] 83)):=((Below.refl _ w).alloc lz _).alloc (by simp) _;have hc:=ae.new (w.alloc (.cells aj.toArray 54)) #[.slice (some ⟨w.heap.size,0,none⟩) 1 1,.int .i64 0,.int .i64 0] 83;rw[World.size_alloc] at hc
 have Aa:((w.alloc (.cells aj.toArray 54)).alloc (.cells #[.slice (some ⟨w.heap.size,0,none⟩) 1 1,.int .i64 0,.int .i64 0] 83)).ownsRow w.heap.size 54 7 (.slice (some ⟨w.heap.size,0,none⟩) 1 1) 1 aj:=by
  refine World.ownsRow.alloc (w:=w.alloc (.cells aj.toArray 54)) ⟨rfl,.inr ⟨w.heap.size,1,aj.toArray,rfl,Nat.le_refl _,?_,Nat.le_refl _,by unfold maxLen;omega,rfl,rfl⟩⟩ _;exact ae.new w aj.toArray 54
 refine⟨⟨by simp,fun b e=>(by cases e),Aa,⟨?_,fun b _ e=>(by cases e),(fun e=>by cases e),fun c hc b e=>?_,by simp⟩,fun c hc=>?_⟩,hc,aO.nil,hB,hB.size,iV.zero size toks,BS,Nat.le_refl _,fun t ht=>by cases ht⟩
 ·simp only[Value.ownBlock,ne_eq,Option.some.injEq];omega
 ·simp at hc;subst hc;cases e
 ·simp at hc;subst hc
  exact jT.fresh (aP.zero _ _) rfl
theorem mM.end{B g:Nat}{rb:Option Nat}{w:World}{v:Value}{C:List kZ}(h:mM B g rb w v C)(hn:¬1<C.length)(h0:C≠[]) :
  ∃ob oc iv,v=.slice (some ⟨ob,0,none⟩) 1 oc/\w.cell? ⟨ob,6,none⟩=some iv/\dU w iv ((C.map (·.x)).head?.getD bW).items:=by
 obtain⟨c,rfl⟩:∃c,C=[c]:=by
  match C,hn,h0 with
  |[c],_,_=>exact⟨c,rfl⟩
  |_::_::_,hn,_=>simp at hn
 have hc:=h.all c (by simp);obtain⟨ob,oc,q,-⟩:=World.ownsRow.form h.row (by simp);have q':v=.slice (some ⟨ob,0,none⟩) 1 oc:=q;subst q';have Aa:=h.row;refine⟨ob,oc,c.iv,rfl,?_,?_⟩
 ·have:=Aa.cellAt 6 (by simp)
  rw[this]
  simpa using hc.cell6
 ·exact Aw.items (aP.at _ _ (hc.itm (Q:=fun _=>True) (fun _ _ _=>trivial) (fun _ _=>trivial))) hc.cell6
theorem zD{toks:List ag}{size:Int}{B g k:Nat}{C:List kZ}{row:List ag}{rv v:Value}{w wr:World}(h:BQ toks size B g k C row rv v w wr)(stop:Int)(last:Bool)(hT:jk wr)(hk:k<=800000)(hB:B<=g)(hsh:∀t∈toks,t.text.size<=1048576)(hq:∀t∈toks,t.kind=3->jD t.text≠none) :
  Calls Tryz.prog 49 #[.pointer (some ⟨g,0,none⟩),iE rv stop last] wr (G7 B g rv.ownBlock (bB (C.map (·.x)) row stop last) wr):=by
 rcases List.eq_nil_or_concat C with rfl|⟨C0,c,hC⟩
 ·exact absurd rfl h.small.1
 ·rw[List.concat_eq_append] at hC
  subst hC;have hl:=h.small.2.1;simp only[List.length_map,List.length_append,List.length_singleton] at hl
  exact Ki B g rv.ownBlock v C0 c row rv stop last wr h.st h.box h.own.toks (fun b e=>(World.ownsRow.lt h.own b e).2) hT (by have:=h.len;omega) (fun t ht=>hsh t (h.mem t ht)) (fun t ht=>hq t (h.mem t ht)) (by omega)
   (fun d hd=>by have:=h.small.2.2 d.x (List.mem_map.2 ⟨d,hd,rfl⟩);omega) h.big hB
theorem ja{w:World}{ops:Array Oper}{rest:List Oper}{o:Oper}{a:Act}{Q:Exit->Act->World->Prop}(hgd:o.guard=none)(s x:Operand)
  (ho:o.op=.call { callee:=.builtin .append,args:=#[s,x],argTypes:=#[22,22] })
  (base:Nat) (l:List ag) (t:ag) (hown:aO base w (a.eval s) l) (g:Nat) (hx:a.eval x=.slice (some ⟨g,0,none⟩) 1 1)
  (hc:ae w g #[.int .i64 t.kind,.string t.text,.int .i64 t.pos] 63)
  (hm:l.length<=1000000) (hbase:base<=w.heap.size) (H:Nat) (hH:w.heap.size=H)
  (hK:∀gb cap w',aO base w' (.slice (some ⟨gb,0,none⟩) (l.length+1) cap) (l++[t])->w.grownBy w' (a.eval s).ownBlock->((a.eval s).ownBlock=some gb\/gb=H)->gb<w'.heap.size->
   wpList Tryz.prog ops Q rest (a.put o.dst (.slice (some ⟨gb,0,none⟩) (l.length+1) cap)) w'):wpList Tryz.prog ops Q (o::rest) a w:=by
 obtain⟨i,Aa,Ab,Ac,Ad⟩:=info_parts Tryz.infoTok;refine wpList_append_lies w hgd s x 22 ho base 63 i _ 3 32 Tryz.underlying22 Aa Ab Ac Ad rfl (by decide) (a.eval s) l.length (l.flatMap jL) rfl hown ⟨g,0,none⟩ 1 1 (jL t) hx rfl ?_ (wB t) (by omega) (by unfold maxLen;omega) (by omega) hbase H hH ?_
 ·intro j u hu
  rw[Addr.add_lit,Nat.zero_add];exact hc.cell _ _ (by simpa [jL] using hu)
 ·intro gb cap w' hown' hg hat hlt
  exact hK gb cap w' (by unfold aO;simpa using hown') hg hat hlt
theorem qV(s:ByteArray)(w:World)(hT:jk w)(hs:s.size<=800000):Calls Tryz.prog 18 #[.string s] w (Pj (bT s.data.toList) w):=by
 have hL:=ol s w hT (by omega);obtain⟨A4,As⟩:=xM s.data.toList
 have Av:∀t∈(iT s.data.toList).1,t.kind=3->jD t.text≠none:=by
  have:=sZ s.data.toList.length s.data.toList 0 lz;unfold iT;split
  ·exact this
  ·intro t ht
   cases ht
 have AL:s.data.toList.length=s.size:=jc s;rw[AL] at A4 As;have hR:bT s.data.toList=(if (iT s.data.toList).2.2≠0 then ([],(iT s.data.toList).2) else bN s.size (iT s.data.toList).1 [bW] []):=by unfold bT;rw[AL]
 rw[hR];generalize iT s.data.toList=X at *;obtain⟨Aa,AR,er⟩:=X;simp only at hL A4 As Av ⊢;clear hR AL;obtain⟨R,AH⟩:=exq ((if er≠0 then (([]:List bA),AR,er) else bN s.size Aa [bW] []));rw[<-AH];have AO:=Hh AH;clear AH;have HT:=Jh As Av;clear As Av;go_enter Tryz.func18,Tryz.ntmps18;go_wp2_with fail;refine hL.mono ?_;clear hL;rintro _ w1 ⟨tv,rfl,hown,hb1⟩
 by_cases he:er=0
 ·subst he
  have AI:=hT.below hb1;have AK:=AI.utf.pos;have AC:=hown.toks;obtain⟨ta,tc,rfl⟩:=hown.len;have Ay:=Jh hb1 AI;have Be:=Hh AC;have AP:Hid (R=bN s.size Aa [bW] []):=Hh (by rw[AO.out,if_neg (fun q=>q rfl)]);clear hown AC hb1 AI AK hT;obtain⟨G,hG⟩:=exq (w1.heap.size+1);have HG:=Hh hG;go_wp2_with (with_reducible first|refine ng ?_)
  refine Stop.out ?_;refine yO rfl _ _ _ rfl 54 128 7 _ Tryz.underlying42 Tryz.infoItm _ _ 1 rfl rfl (by omega) (by unfold maxLen;omega) ?_;rw[show madeCells (Value.agg #[.bool false,.string ⟨#[]⟩,.string ⟨#[]⟩,.string ⟨#[]⟩,.slice none 0 0,.slice none 0 0,.slice none 0 0]).cells (1*7)=aj.toArray by kernel_rfl];go_wp2_with fail;rw[<-hG];have An:=BQ.start Aa s.size w1;rw[<-hG] at An;clear hG;go_loopw [7,9,25] (fun rv _ i wr=>∃(k:Nat) (C:List kZ) (row:List ag) (v:Value),k<=Aa.length/\i=.int .i64 (k:Int)/\BQ Aa s.size w1.heap.size G k C row rv v w1 wr) (fun _ _ i _=>Aa.length-(intOf i).toNat)
  case atStart=>exact⟨0,_,[],_,Nat.zero_le _,rfl,An⟩
  case round=>
   clear An;obtain⟨k,C,row,v,hk,rfl,hI⟩:=hrel;have AB:=jk.below Ay.out.2 hI.kept;have Bi:G<wr.heap.size:=hI.st.gl;have Bl:w1.heap.size<=wr.heap.size:=hI.big;obtain⟨ra,rc,rfl⟩:=hI.own.len
   by_cases hkl:k<Aa.length
   ·obtain⟨bb,Bm,rfl,Bj,q0,q1,q2⟩:=(Be.out.below hI.kept lz).get hkl
    have hA:Below wr.heap.size wr (wr.alloc (.cells #[.int .i64 Aa[k].kind,.string Aa[k].text,.int .i64 Aa[k].pos] 63)):=(Below.refl _ wr).alloc lz _;have Az:=hI.below hA;have Ar:=ae.new wr #[.int .i64 Aa[k].kind,.string Aa[k].text,.int .i64 Aa[k].pos] 63;have HS:=Hh (fun h6=>Az.skip hkl h6);have HR:=Jh (fun stop last=>zD Az stop last (AB.below hA) (by omega) (by have:=HG.out;omega) (fun t ht=>Nat.le_trans (HT.out.1 t ht) (by omega)) HT.out.2) (And.intro hI Az);have Ao:=hI.box;clear hI Az AB hA;have A1:∃kd tx ps,Aa[k].kind=kd/\Aa[k].text=tx/\Aa[k].pos=ps:=⟨_,_,_,rfl,rfl,rfl⟩;obtain⟨kd,tx,ps,A3,A8,A6⟩:=A1;have HK:=Jh A3 (And.intro A8 A6);rw[A3,A8,A6] at Ar;rw[A3] at q0;rw[A8] at q1;rw[A6] at q2;have HQ:Hid (wr.alloc (.cells #[.int .i64 Aa[k].kind,.string Aa[k].text,.int .i64 Aa[k].pos] 63)=wr.alloc (.cells #[.int .i64 kd,.string tx,.int .i64 ps] 63)):=Hh (by rw[A3,A8,A6]);clear A3 A8 A6
    by_cases h6:kd=6\/kd=7
    ·have hS:=HS.out (by rw[HK.out.1];exact h6)
     rw[HQ.out] at hS;have AQ:=Hh hS;obtain⟨Ab,Ae,Ac,Af,Ad,Ag⟩:=Ao.n3 rfl;clear hS HS HR Ao Ar;rcases h6 with rfl|rfl
     ·have e5:((6:Int) != 5)=true:=by decide
      go_wp2_with fail;go_roundw
      case rel=>exact⟨k+1,C,row,v,hkl,by go_num,AQ.out⟩
      case measure=>simp[intOf];omega
     ·go_wp2_with fail
      go_roundw
      case rel=>exact⟨k+1,C,row,v,hkl,by go_num,AQ.out⟩
      case measure=>simp[intOf];omega
    ·by_cases h5:kd=5
     ·subst h5
      have Aw:=HR.out.1 ps false;obtain⟨RR,AG⟩:=exq (bB (C.map (·.x)) row ps false);rw[<-AG] at Aw;rw[HQ.out] at Aw;have Ap:=Hh AG;obtain⟨Ab,Ae,Ac,Af,Ad,Ag⟩:=Ao.n3 rfl;clear AG Ao h6;have e6:((5:Int)==6)=false:=by decide
      have e7:((5:Int)==7)=false:=by decide
      go_wp2_with fail;refine Aw.mono ?_;clear Aw Ar Ab Ac Ad Ae Af Ag;rintro _ w3 ⟨rfl,v3,⟨C3,hC3,hS3⟩,hP3,hK3⟩;have AU:G<w3.heap.size:=hS3.gl;have AJ:=HR.out.2.1.own.capB;obtain⟨-,Bb,A2⟩:=AJ;unfold maxLen at A2
      by_cases he5:RR.2.2=0
      ·have hz:RR.2.1=0:=by rw[Ap.out] at he5 ⊢;exact EP he5
       rw[he5,hz] at hP3
       have hL:Hid (BQ Aa s.size w1.heap.size G (k+1) C3 [] (.slice ra 0 rc) v3 w1 w3):=Hh (by
        have Az:=HR.out.2.2;have h9:RR=bB (C.map (·.x)) row Aa[k].pos false:=by rw[HK.out.2.2];exact Ap.out
        rw[h9] at he5 hC3;refine Az.line hkl HK.out.1 he5 hC3 hS3 (e1:=0) ?_ rfl (by rw[HQ.out];exact hK3)
        rw[he5];exact hP3)
       obtain⟨Ah,Ak,Ai,Al,Aj,Am⟩:=hP3.n3 rfl;clear hP3 hC3 hS3 hK3 HR HS he5 hz Ap HQ;go_wp2_with (with_reducible first|refine jW ?_)
       refine Stop.out ?_;refine ma rfl _ _ _ 3 rfl Tryz.underlying22 (by kernel_rfl) ra row.length rc rfl _ rfl ?_;go_wp2_with fail;go_roundw
       case rel=>exact⟨k+1,C3,[],v3,hkl,by go_num,hL.out⟩
       case measure=>simp[intOf];omega
      ·have At:Hid (R=([],RR.2)):=Hh (by
        have h9:RR=bB (C.map (·.x)) row Aa[k].pos false:=by rw[HK.out.2.2];exact Ap.out
        rw[AP.out,h9]
        exact HR.out.2.1.rest.bad hkl HK.out.1 (by rw[<-h9];exact he5))
       have A0:Hid (Below w.heap.size w w3):=Hh (Ay.out.1.trans ((HR.out.2.1.kept.trans ((Below.refl _ wr).alloc HR.out.2.1.big (.cells #[.int .i64 5,.string tx,.int .i64 ps] 63) |>.trans hK3.1)).mono Ay.out.1.size));have AD:(RR.2.2 != 0)=true:=by simpa using he5
       have Bf:Hid (RR.2=(RR.2.1,RR.2.2)):=Hh rfl;clear hC3 hS3 hK3 HR HS Ap HQ he5;generalize RR.2.1=pa at *;generalize RR.2.2=pe at *;obtain⟨Ah,Ak,Ai,Al,Aj,Am⟩:=hP3.n3 rfl;clear hP3;go_wp2_with (with_reducible first|refine jW ?_)
       refine Stop.out ?_;refine ma rfl _ _ _ 3 rfl Tryz.underlying22 (by kernel_rfl) ra row.length rc rfl _ rfl ?_;go_wp2_with fail;go_quiet (fail)
       go_wp2_with fail;refine bodyPost_ret (v:=.tuple #[.slice none 0 0,.int .i64 pa,.int .i64 pe]) (by simp[results,Tryz.results18,go_sem]) rfl ?_;rw[At.out,Bf.out];exact⟨⟨_,rfl,dU.nil⟩,ah A0.out _⟩
     ·have AT:Aa[k].kind≠5/\¬(Aa[k].kind=6\/Aa[k].kind=7):=by rw[HK.out.1];exact⟨h5,h6⟩
      have e5:(kd==5)=false:=by simpa using h5
      have e6:(kd==6)=false:=by simp at h6 ⊢;omega
      have e7:(kd==7)=false:=by simp at h6 ⊢;omega
      have AN:=Hh AT;have A7:aO w1.heap.size (wr.alloc (.cells #[.int .i64 kd,.string tx,.int .i64 ps] 63)) (.slice ra row.length rc) row:=by rw[<-HQ.out];exact HR.out.2.2.own
      have Bk:=HR.out.2.1.len;obtain⟨Ab,Ae,Ac,Af,Ad,Ag⟩:=Ao.n3 rfl;clear Ao AT h5 h6;go_wp2_with (with_reducible first|refine aK ?_)
      refine Stop.out ?_
      refine ja rfl _ _ rfl w1.heap.size row ⟨kd,tx,ps⟩ (by exact A7.alloc _) (wr.heap.size+1) (by first|rfl|simp) (by
       have:=ae.new (wr.alloc (.cells #[.int .i64 kd,.string tx,.int .i64 ps] 63)) #[.int .i64 kd,.string tx,.int .i64 ps] 63;rw[World.size_alloc] at this
       exact this) (by omega) (by simp;omega) (wr.heap.size+2) (by simp) ?_
      intro g3 cap3 w3 hown3 hg3 hat3 hlt3
      have AF:Hid (BQ Aa s.size w1.heap.size G (k+1) C (row++[Aa[k]]) (.slice (some ⟨g3,0,none⟩) (row.length+1) cap3) v w1 w3):=Hh (by
       have A9:=HR.out.2.2;rw[HQ.out] at A9;have A9:=A9.below ((Below.refl _ _).alloc lz (.cells #[.int .i64 kd,.string tx,.int .i64 ps] 63))
       have AC:Aa[k]=⟨kd,tx,ps⟩:=by
        obtain⟨z1,z2,z3⟩:=HK.out;rw[<-z1,<-z2,<-z3]
       have A5:aO w1.heap.size w3 (.slice (some ⟨g3,0,none⟩) (row.length+1) cap3) (row++[Aa[k]]):=by rw[AC];exact hown3
       exact A9.tok hkl AN.out.1 AN.out.2 A5 hg3 (hat3.imp id (fun q=>by simpa using q)) hlt3)
      have Ao:=AF.out.box;have AU:G<w3.heap.size:=AF.out.st.gl;clear hown3 hg3 hat3 hlt3 A7 Ar HR HQ HS q0 q1 q2 Ab Ac Ad Ae Af Ag;obtain⟨Ab,Ae,Ac,Af,Ad,Ag⟩:=Ao.n3 rfl;clear Ao;go_wp2_with fail;go_roundw
      case rel=>exact⟨k+1,C,_,v,hkl,by go_num,by simpa using AF.out⟩
      case measure=>simp[intOf];omega
   ·obtain rfl:k=Aa.length:=by omega
    have Aw:=zD hI s.size true AB (by omega) (by have:=HG.out;omega) (fun t ht=>Nat.le_trans (HT.out.1 t ht) (by omega)) HT.out.2;have Aq:=hI.rest.last lz;have Bd:=pg hI.small.1 row s.size true;have HI:=Hh hI;rw[<-AP.out] at Aq;have Ao:=hI.box;generalize bB (C.map (·.x)) row s.size true=RR at *;have Ap:=Jh Aq Bd;clear hI AB Aq Bd;obtain⟨Ab,Ae,Ac,Af,Ad,Ag⟩:=Ao.n3 rfl;clear Ao;go_wp2_with fail;refine Aw.mono ?_;clear Aw Ab Ac Ad Ae Af Ag;rintro _ w3 ⟨rfl,v3,⟨C3,hC3,hS3⟩,hP3,hK3⟩;have AU:G<w3.heap.size:=hS3.gl;have A0:Hid (Below w.heap.size w w3):=Hh (Ay.out.1.trans ((HI.out.kept.trans hK3.1).mono Ay.out.1.size));clear HI hK3
    by_cases he5:RR.2.2=0
    ·have AM:C3≠[]:=fun e=>Ap.out.2 (by rw[hC3,e];rfl)
     have Ax:=Ap.out.1;rw[if_neg (fun q=>q he5),hC3] at Ax;rw[he5] at hP3;generalize RR.2.1=pa at *;clear Ap he5
     by_cases hn:1<C3.length
     ·rw[if_pos (by simpa using hn)] at Ax
      have AA:=Hh Ax;obtain⟨ob,oc,Bg,-⟩:=World.ownsRow.form hS3.row (by omega);subst Bg;have hF:=qB G _ _ _ s.size 2 w3 hP3;have hm:(1:Int)<(C3.length:Int):=by omega
      generalize C3.length=n3 at *;obtain⟨Ah,Ak,Ai,Al,Aj,Am⟩:=hP3.n3 rfl;clear hP3 hS3 hC3 AM hn Ax;go_wp2_with fail;refine hF.mono ?_;clear hF Ah Ai Aj Ak Al Am;rintro _ w4 ⟨rfl,hP4,hw4⟩
      have AE:Hid (Below w.heap.size w w4):=Hh (by
       rw[hw4];have h1:=HG.out;have h2:=Ay.out.1.size
       exact (A0.out.setCell (p:=⟨G,1,none⟩) (by show w.heap.size<=G;omega) _).setCell (p:=⟨G,2,none⟩) (by show w.heap.size<=G;omega) _)
      have Bh:G<w4.heap.size:=hP4.lt;obtain⟨AV,AY,AW,AZ,AX,Ba⟩:=hP4.n3 rfl;clear hP4 hw4;have e2:((2:Int) != 0)=true:=by decide
      go_wp2_with fail;go_quiet (fail)
      go_wp2_with fail;refine bodyPost_ret (v:=.tuple #[.slice none 0 0,.int .i64 s.size,.int .i64 2]) (by simp[results,Tryz.results18,go_sem]) rfl ?_;rw[AA.out];exact⟨⟨_,rfl,dU.nil⟩,ah AE.out _⟩
     ·rw[if_neg (by simpa using hn)] at Ax
      obtain⟨ob,oc,iv,rfl,Bc,Au⟩:=hS3.end hn AM;have AA:=Jh Ax Au;obtain⟨ia,ic,rfl,-⟩:=Au.len;generalize ((C3.map (·.x)).head?.getD bW).items=its at *;obtain⟨Ah,Ak,Ai,Al,Aj,Am⟩:=hP3.n3 rfl;clear hP3 hS3 hC3 AM hn Ax Au;go_wp2_with fail;refine bodyPost_ret (v:=.tuple #[.slice ia its.length ic,.int .i64 (-1),.int .i64 0]) (by simp[results,Tryz.results18,go_sem]) rfl ?_;rw[AA.out.1];exact⟨⟨_,rfl,AA.out.2⟩,A0.out⟩
    ·have At:Hid (R=([],RR.2.1,RR.2.2)):=Hh (by rw[Ap.out.1,if_pos he5])
     have AD:(RR.2.2 != 0)=true:=by simpa using he5
     have AS:(RR.2.2==0)=false:=by simpa using he5
     clear hC3 hS3 Ap he5;generalize RR.2.1=pa at *;generalize RR.2.2=pe at *;obtain⟨Ah,Ak,Ai,Al,Aj,Am⟩:=hP3.n3 rfl;clear hP3;go_wp2_with fail;go_quiet (fail)
     go_wp2_with fail;refine bodyPost_ret (v:=.tuple #[.slice none 0 0,.int .i64 pa,.int .i64 pe]) (by simp[results,Tryz.results18,go_sem]) rfl ?_;rw[At.out];exact⟨⟨_,rfl,dU.nil⟩,ah A0.out _⟩
 ·have e0:(er != 0)=true:=by simpa using he
  go_wp2_with fail;refine bodyPost_end (v:=.tuple #[.slice none 0 0,.int .i64 AR,.int .i64 er]) (by simp[results,Tryz.results18,go_sem]) rfl ?_;rw[AO.out,if_pos he];exact⟨⟨_,rfl,dU.nil⟩,hb1⟩
end Go.Proofs.YtbcdaaobbebooaaGreatDoor
namespace Go.Proofs.YtbcdaaobbebooaaGreatDoor
theorem xN:∀(k:Nat) (l:Bs) (p:Nat),l.length<=k->(∀t∈(aG l p).1,0<=t.pos/\t.pos<=(p+l.length:Nat))/\-1<=(aG l p).2.1/\(aG l p).2.1<=(p+l.length:Nat)
 | 0,l,p,h=>by
  obtain rfl:=List.eq_nil_of_length_eq_zero (Nat.le_zero.1 h);rw[dH];exact⟨fun t ht=>(by cases ht),by simp,by simp only;omega⟩
 | k+1,[],p,_=>by
  rw[dH];exact⟨fun t ht=>(by cases ht),by simp,by simp only;omega⟩
 | k+1,c::r,p,h=>by
  simp only[List.length_cons] at h ⊢
  by_cases hb:bG c=true
  ·rw[bO hb]
   obtain⟨h1,h2,h3⟩:=xN k r (p+1) (by omega);exact⟨fun t ht=>by have:=h1 t ht;omega,h2,by omega⟩
  ·have hb:bG c=false:=by simpa using hb
   cases ho:dN (c::r) with
   |bad off e=>
    rw[eB hb ho];have:=Db ho;simp only[List.length_cons] at this;exact⟨fun t ht=>(by cases ht),by simp only;omega,by simp only;omega⟩
   |tok kd sz=>
    have hs:=dh ho;rw[di hb ho];simp only[List.length_cons] at hs;obtain⟨h1,h2,h3⟩:=xN k ((c::r).drop sz) (p+sz) (by rw[List.length_drop,List.length_cons];omega);rw[List.length_drop,List.length_cons] at h1 h3;refine⟨fun t ht=>?_,h2,by simp only at h3 ⊢;omega⟩;rcases List.mem_cons.1 ht with rfl|ht
    ·simp only;omega
    ·have:=h1 t ht;omega
end Go.Proofs.YtbcdaaobbebooaaGreatDoor
