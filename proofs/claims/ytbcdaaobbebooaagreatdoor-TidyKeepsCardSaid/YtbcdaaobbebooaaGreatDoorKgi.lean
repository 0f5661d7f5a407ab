import Derived.Test.YtbcdaaobbebooaaGreatDoorKgh
set_option linter.unusedSimpArgs false
set_option linter.unusedVariables false
set_option maxRecDepth 100000
set_option maxHeartbeats 20000000
namespace Go.Proofs.YtbcdaaobbebooaaGreatDoor
theorem GK:∀(r x:Bs),r.length<=uf (r++x)->uf r=r.length
 |[],_,_=>rfl
 | c::r,x,h=>by
  simp only[List.cons_append,uf,List.length_cons] at h ⊢;split at h
  ·next hc=>rw[if_pos hc,GK r x (by omega)]
  ·omega
theorem Gz:∀u:Bs,10∉u.take (bR u)
 |[]=>by simp
 | c::u=>by
  rw[bR];split
  ·simp
  ·next h=>
   rw[List.take_succ_cons];intro hm;rcases List.mem_cons.1 hm with e|e
   ·exact h e.symm
   ·exact Gz u e
theorem xH:∀u:Bs,10∉u->bR u=u.length
 |[],_=>rfl
 | c::u,h=>by
  simp only[List.mem_cons,not_or] at h;rw[bR,if_neg (fun e=>h.1 e.symm),xH u h.2];rfl
theorem ym{p:UInt8->Bool}:∀l:Bs,(l.dropWhile p).dropWhile p=l.dropWhile p
 |[]=>rfl
 | c::l=>by
  by_cases h:p c=true
  ·rw[List.dropWhile_cons_of_pos h];exact ym l
  ·rw[List.dropWhile_cons_of_neg h,List.dropWhile_cons_of_neg h]
theorem zA(u:Bs):∃ws:Bs,u.take (bR u)=fQ u++ws/\(∀w∈ws,bG w=true)/\Lib.trimRightS (fQ u) iX=fQ u:=by
 unfold fQ Lib.trimRightS;refine⟨((u.take (bR u)).reverse.takeWhile (iX.contains ·)).reverse,?_,?_,?_⟩
 ·rw[<-List.reverse_append,List.takeWhile_append_dropWhile,List.reverse_reverse]
 ·intro w hw
  rw[List.mem_reverse] at hw;exact List.all_eq_true.1 (List.all_takeWhile (p:=(iX.contains ·))) w hw
 ·rw[List.reverse_reverse,ym]
theorem EN{t rest:Bs}(h:t.length=(fQ (t++rest)).length):t=fQ (t++rest)/\10∉t/\fQ t=t/\∃ws,(t++rest).take (bR (t++rest))=t++ws/\∀w∈ws,bG w=true:=by
 obtain⟨ws,h1,h2,h3⟩:=zA (t++rest)
 have Ab:t.length<=bR (t++rest):=by
  have:=congrArg List.length h1;rw[List.length_append,List.length_take,<-h] at this;omega
 have e:t=fQ (t++rest):=by
  have q:=congrArg (List.take t.length) h1;rw[List.take_take,Nat.min_eq_left Ab,List.take_left] at q;rw[h,List.take_left] at q;exact q
 have Aa:10∉t:=fun hm=>Gz (t++rest) (by rw[h1,<-e];exact List.mem_append_left _ hm);refine⟨e,Aa,?_,ws,by rw[h1,<-e],h2⟩;rw[<-e] at h3;unfold fQ;rw[xH t Aa,List.take_of_length_le lz,h3]
theorem Ac:∀(l:Bs) (m:Nat),fD l=some m->fD (l.take (m+2))=some m
 |[],_,h=>by cases h
 | c::l,m,h=>by
  rw[fD] at h;split at h
  ·next hc=>
   cases h
   cases l with
   |nil=>simp at hc
   |cons d l=>
    simp only[List.head?_cons,Option.some.injEq] at hc;simp[fD,hc.1,hc.2]
  ·next hc=>
   obtain⟨j,hj,rfl⟩:=Option.map_eq_some_iff.1 h;have ih:=Ac l j hj;have h2:=qp l j hj;rw[show j+1+2=(j+2)+1 by omega,List.take_succ_cons,fD]
   have hh:(l.take (j+2)).head?=l.head?:=by
    cases l with
    |nil=>simp at h2
    |cons d l=>rfl
   rw[hh,if_neg hc,ih];rfl
def P8(c:UInt8)(s:Bs):Prop:=(s.head?≠some 61/\s.head?≠some 38/\s.head?≠some 124/\s.head?≠some 47/\s.head?≠some 42)\/(c≠61/\c≠33/\c≠60/\c≠62/\c≠38/\c≠124/\c≠47)
def yG(t:ag):Prop:=∃(c:UInt8) (r rest:Bs) (k:Nat),mP t=c::r/\bG c=false/\t.kind=(k:Int)/\dN (mP t++rest)=.tok k (mP t).length
structure OI(t:ag)(s:Bs):Prop where
 id:t.kind=1->uf s=0
 num:t.kind=2->lh s
 sg:t.kind=4->(mP t).length=2\/∃c,mP t=[c]/\P8 c s
 rem:t.kind=6->s=[]\/∃b,s=10::b
theorem uD:∀(k:Nat) (l:Bs) (p:Nat),l.length<=k->∀t∈(aG l p).1,yG t
 |_,[],p,_=>by rw[dH];intro t ht;cases ht
 |0,c::r,p,hk=>by simp at hk
 | k+1,c::r,p,hk=>by
  simp only[List.length_cons] at hk
  cases hb:bG c with
  |true=>rw[bO hb];exact uD k r (p+1) (by omega)
  |false=>
   cases ho:dN (c::r) with
   |bad o e=>rw[eB hb ho];intro t ht;cases ht
   |tok kd sz=>
    have hs:=dh ho;rw[di hb ho];intro t ht;simp only[List.mem_cons] at ht;rcases ht with rfl|ht
    ·obtain⟨j,rfl⟩:∃j,sz=j+1:=⟨sz-1,by omega⟩
     refine⟨c,r.take j,(c::r).drop (j+1),kd,?_,hb,rfl,?_⟩
     ·show (ay ((c::r).take (j+1))).data.toList=_
      rw[bU,List.take_succ_cons]
     ·show dN ((ay ((c::r).take (j+1))).data.toList++_)=.tok kd ((ay ((c::r).take (j+1))).data.toList).length
      rw[bU,List.take_append_drop,ho,List.length_take,Nat.min_eq_left hs.2]
    ·exact uD k _ _ (by rw[List.length_drop,List.length_cons];omega) t ht
theorem Jn{t:Bs}(h:Jo t=0)(h0:t≠[]):cB t=t.length:=by
 unfold Jo decR at h;split at h
 ·next q=>exact q.1
 ·exact absurd h (by decide)
theorem Fh{t:ag}(ht:yG t){s:Bs}(hs:OI t s):∃k:Nat,t.kind=(k:Int)/\dN (mP t++s)=.tok k (mP t).length:=by
 obtain⟨c,r,Aa,k,e,hb,hk,ho⟩:=ht;refine⟨k,hk,?_⟩;obtain⟨h1,h2,h4,h6⟩:=hs;rw[hk] at h1 h2 h4 h6;rw[e] at ho h4 ⊢
 have Af:∀(q:Bs) (k2 m:Nat),fP q k2=.tok k m->k=k2:=fun q k2 m h=>by
  unfold fP at h;split at h
  ·cases h
  ·injection h with h _;exact h.symm
 rw[List.cons_append] at ho ⊢;rw[dN] at ho ⊢;split at ho
 ·next hc=>
  rw[if_pos hc]
  injection ho with hk1 hn
  subst hk1;have hi:=GK r Aa (by simp only[List.length_cons] at hn;omega);rw[tC (h1 rfl),hi,List.length_cons,Nat.add_comm]
 next hc=>
 rw[if_neg hc];split at ho
 ·next hg=>
  rw[if_pos hg]
  have An:k=2:=by
   unfold l9 at ho;split at ho
   ·injection ho with hk _;exact hk.symm
   ·cases ho
  subst An
  have hn:l9 (c::r)=.tok 2 (c::r).length:=by
   unfold l9 at ho;split at ho
   ·next hd=>
    injection ho with _ hn
    rw[hn,<-List.cons_append,List.take_left] at hd;unfold l9;rw[Jn hd (by simp),List.take_of_length_le lz,if_pos hd]
   ·cases ho
  rw[<-List.cons_append];exact Dh hn (by simp) (h2 rfl)
 next hg=>
 rw[if_neg hg];split at ho
 ·next hq=>
  rw[if_pos hq];unfold nz at ho;split at ho
  ·next hz=>
   injection ho with hk3 hn
   subst hk3;have As:=jd (gy (c::(r++Aa))) hz;have hm:=nV (l:=nb (c::(r++Aa))) (m:=nb s) (gy _) (gy s) hz
   have ht:(nb (c::(r++Aa))).take (aV (nb (c::(r++Aa)))).2.1=nb (c::r):=by
    rw[hn];unfold nb;rw[<-List.map_take,<-List.cons_append,List.take_left]
   rw[ht,<-Bi,List.cons_append] at hm;unfold nz;rw[hm,if_pos hz,hn]
  ·cases ho
 next hq=>
 rw[if_neg hq];split at ho
 ·next h10=>
  rw[if_pos h10];exact ho
 next h10=>
 rw[if_neg h10];split at ho
 ·next hr=>
  have Ao:=Af _ _ _ ho;subst Ao
  have Ab:(c::r).length=(fQ ((c::r)++Aa)).length:=by
   unfold fP at ho;split at ho
   ·cases ho
   ·injection ho with _ hn;exact hn.symm
  obtain⟨g1,g2,g3,ws,g4,g5⟩:=EN Ab
  have hR:fQ ((c::r)++s)=c::r:=by
   rcases h6 rfl with rfl|⟨b,rfl⟩
   ·rw[List.append_nil,g3]
   ·rw[AY,g3]
  have Ae:c=35\/(c=47/\(r++s).head?=some 47):=by
   rcases hr with hr|⟨hr,hr2⟩
   ·exact .inl hr
   ·refine .inr ⟨hr,?_⟩
    cases r with
    |cons d r=>exact hr2
    |nil=>
     exfalso
     cases Aa with
     |nil=>cases hr2
     |cons d Aa=>
      simp only[List.nil_append,List.head?_cons,Option.some.injEq] at hr2;subst hr2;subst hr
      have e2:bR ([47]++47::Aa)=(bR Aa+1)+1:=by
       show bR (47::47::Aa)=_;rw[bR,if_neg (by decide),bR,if_neg (by decide)]
      rw[e2] at g4;simp only[List.cons_append,List.nil_append,List.take_succ_cons,List.cons.injEq,true_and] at g4;have:=g5 47 (by rw[<-g4];simp)
      revert this;decide
  rw[if_pos Ae,<-List.cons_append,hR];rw[<-List.cons_append,<-g1] at ho;exact ho
 next hr=>
 split at ho
 ·next ha=>
  have Ad:=ha.1;unfold dS at ho;split at ho
  ·cases ho
  ·next m hm=>
   split at ho
   ·cases ho
   ·next hct=>
    have Ap:=Af _ _ _ ho;subst Ap;have Aq:=qp _ _ hm;rw[List.length_drop] at Aq
    have Ab:(c::r).length=m+4:=by
     unfold fP at ho;split at ho
     ·cases ho
     ·injection ho with _ hn
      rw[List.length_take] at hn;omega
    have Aj:((c::(r++Aa)).take (m+4))=c::r:=by rw[<-Ab,<-List.cons_append,List.take_left]
    have hA:dS (c::r)=.tok 7 (c::r).length:=by
     have Am:=Ac _ _ hm;have e4:((c::(r++Aa)).drop 2).take (m+2)=((c::(r++Aa)).take (m+4)).drop 2:=by rw[List.drop_take];rfl
     rw[e4,Aj] at Am;unfold dS;rw[Am];simp only;rw[<-Aj,List.take_take,Nat.min_eq_left (by omega),if_neg hct,List.take_take,Nat.min_self];exact ho.trans (by rw[Aj])
    have Ak:2<=(c::r).length:=by omega
    have hh:(r++s).head?=some 42:=by
     cases r with
     |nil=>simp at Ak
     |cons d r=>exact ha.2
    have Ai:¬(c=35\/c=47/\(r++s).head?=some 47):=by
     rw[hh,Ad];decide
    rw[if_neg Ai,if_pos ⟨Ad,hh⟩,<-List.cons_append];exact yD hA Ak
 next ha=>
 split at ho
 ·cases ho
 next h0=>
 injection ho with hk4 hn
 subst hk4
 have Al:∀(x:Bs),r≠[]->(r++x).head?=r.head?:=fun x hr0=>by
  cases r with
  |nil=>exact absurd rfl hr0
  |cons d r=>rfl
 rcases h4 rfl with h|⟨c2,h,hsg⟩
 ·have hr0:r≠[]:=by rintro rfl;simp at h
  rw[Al Aa hr0] at hr ha;rw[Al s hr0,if_neg hr,if_neg ha];have e1:=vM (c:=c) (r:=r) (s:=Aa) (.inl hr0);have e2:=vM (c:=c) (r:=r) (s:=s) (.inl hr0);rw[e1] at h0 hn;rw[e2,if_neg h0,hn]
 ·simp only[List.cons.injEq] at h
  obtain⟨rfl,rfl⟩:=h;simp only[List.nil_append,List.length_singleton] at *
  have Ah:∀x:Bs,zw (c::x)=1->ni.contains c=true:=fun x hx=>by
   unfold zw at hx;split at hx
   ·cases hx
   ·simp only at hx
    split at hx
    ·next q=>exact q
    ·cases hx
  have Ag:=Ah Aa hn
  have hN:zw (c::s)=1:=by
   have hd:kS.any (fun d=>d.isPrefixOf (c::s))=false:=by
    simp only[kS,List.any_cons,List.any_nil,yV];rcases hsg with ⟨q1,q2,q3,-,-⟩|⟨q1,q2,q3,q4,q5,q6,-⟩
    ·simp[q1,q2,q3]
    ·simp[q1,q2,q3,q4,q5,q6]
   unfold zw;rw[hd];simp only[Bool.false_eq_true,if_false,Ag,if_true]
  have Ai:¬(c=35\/c=47/\s.head?=some 47):=by
   rintro (q|⟨q,q2⟩)
   ·subst q;revert Ag;decide
   ·rcases hsg with ⟨-,-,-,q4,-⟩|⟨-,-,-,-,-,-,q7⟩
    ·exact q4 q2
    ·exact q7 q
  have Ar:¬(c=47/\s.head?=some 42):=by
   rintro⟨q,q2⟩;rcases hsg with ⟨-,-,-,-,q5⟩|⟨-,-,-,-,-,-,q7⟩
   ·exact q5 q2
   ·exact q7 q
  rw[if_neg Ai,if_neg Ar,hN];rfl
end Go.Proofs.YtbcdaaobbebooaaGreatDoor
namespace Go.Proofs.YtbcdaaobbebooaaGreatDoor
theorem iY{g:eX}{f:dR->Nat->eX}(h:(il g f).2.2=0):g.2.2=0/\il g f=f g.1 g.2.1:=by
 by_cases he:g.2.2=0
 ·exact⟨he,bP he⟩
 ·rw[aZ he] at h;exact absurd h he
theorem mH{r:List ag}{n:Nat}:(cZ r n).2.2≠0:=by unfold cZ;split<;>simp
def EC(t:ag):Bool:=gX t || aM t [33,45,40,91]
def DY(t:ag):Bool:=gX t || aM t [41,93]
def vE(a b:ag):Bool:=(!gH a qD || decide (b.kind=1))&&(!gH a dz || EC b)
def qz:List ag->Bool
 |[]=>true
 |[_]=>true
 |a::b::r=>vE a b&&qz (b::r)
def Bo(l:List ag):Bool:=match l.getLast? with|some t=>DY t|none=>false
def Oj(l:List ag):Bool:=match l with|t::_=>EC t|[]=>false
theorem BI:∀(l:List ag) (a b:ag) (m:List ag),qz (l++[a])=true->qz (b::m)=true->vE a b=true->qz (l++a::b::m)=true
 |[],a,b,m,_,h2,h3=>by simp only[List.nil_append,qz,h2,h3];rfl
 | [x],a,b,m,h1,h2,h3=>by
  simp only[List.cons_append,List.nil_append,qz,Bool.and_true] at h1;simp only[List.cons_append,List.nil_append,qz,h1,h2,h3];rfl
 | x::y::l,a,b,m,h1,h2,h3=>by
  simp only[List.cons_append,qz,Bool.and_eq_true] at h1 ⊢;exact⟨h1.1,BI (y::l) a b m h1.2 h2 h3⟩
theorem lU{t:ag}{v w:ByteArray}(h:gH t v=true)(hn:v≠w):gH t w=false:=by
 unfold gH at h ⊢;rw[Bool.and_eq_true,decide_eq_true_eq,decide_eq_true_eq] at h;rw[decide_eq_false (p:=t.text=w) (by rw[h.2];exact hn),Bool.and_false]
theorem mW{t:ag}(h:gX t=true)(w:ByteArray):gH t w=false:=by
 unfold gX at h;unfold gH;rw[decide_eq_false (p:=t.kind=4),Bool.false_and];intro e;rw[e] at h
 revert h;decide
theorem Lm{t:ag}(h:DY t=true):gX t=true\/gH t p9=true\/gH t o9=true:=by
 unfold DY at h;simp only[dI,JB,Bool.or_false,Bool.or_eq_true] at h;exact h
theorem Ll{t:ag}(h:DY t=true){w:ByteArray}(h1:p9≠w)(h2:o9≠w):gH t w=false:=by
 rcases Lm h with h|h|h
 ·exact mW h w
 ·exact lU h h1
 ·exact lU h h2
theorem BK{a b:ag}(h:DY a=true):vE a b=true:=by
 unfold vE;rw[Ll h (w:=qD) (by decide) (by decide),Ll h (w:=dz) (by decide) (by decide)];rfl
theorem LW{a b:ag}{w:ByteArray}(h:gH a w=true)(h1:w≠qD)(h2:w≠dz):vE a b=true:=by
 unfold vE;rw[lU h h1,lU h h2];rfl
structure qI(l:List ag):Prop where
 c:qz l=true
 f:Oj l=true
 e:Bo l=true
theorem qI.last{l:List ag}(h:Bo l=true):∃q t,l=q++[t]/\DY t=true:=by
 rcases List.eq_nil_or_concat l with rfl|⟨q,t,rfl⟩
 ·cases h
 ·rw[List.concat_eq_append] at h ⊢
  unfold Bo at h;rw[List.getLast?_concat] at h;exact⟨q,t,rfl,h⟩
theorem nH(l:List ag){m:List ag}(h:Bo m=true):Bo (l++m)=true:=by
 obtain⟨q,t,rfl,ht⟩:=qI.last h;unfold Bo;rw[<-List.append_assoc,List.getLast?_concat];exact ht
theorem Le{l:List ag}(h:Oj l=true)(m:List ag):Oj (l++m)=true:=by
 cases l with
 |nil=>cases h
 |cons t l=>exact h
theorem LF{l m:List ag}(h1:qz l=true)(h2:Bo l=true)(h3:qz m=true):qz (l++m)=true:=by
 obtain⟨q,t,rfl,ht⟩:=qI.last h2
 cases m with
 |nil=>rw[List.append_nil];exact h1
 |cons b m=>
  rw[List.append_assoc];exact BI q t b m h1 h3 (BK ht)
theorem qI.join{l m:List ag}(h:qI l)(hc:qz m=true)(he:Bo m=true):qI (l++m):=⟨LF h.c h.e hc,Le h.f m,nH l he⟩
theorem nN{t:ag}{w:ByteArray}(ht:gH t w=true)(h1:w≠qD)(h2:w≠dz){m:List ag}(h:qz m=true):qz (t::m)=true:=by
 cases m with
 |nil=>rfl
 |cons b m=>simp only[qz,LW ht h1 h2,h];rfl
theorem NG{t:ag}{w:ByteArray}(h:gH t w=true)(hw:w=p9\/w=o9):DY t=true:=by
 unfold DY;rcases hw with rfl|rfl
 ·rw[dI,show gH t (ay [41])=true from h,Bool.true_or,Bool.or_true]
 ·rw[dI,dI,show gH t (ay [93])=true from h,Bool.true_or,Bool.or_true,Bool.or_true]
theorem qI.two{l m:List ag}{t:ag}{w:ByteArray}(h:qI l)(ht:gH t w=true)(h1:w≠qD)(h2:w≠dz)(hm:qI m):qI (l++t::m):=
 h.join (nN ht h1 h2 hm.c) (nH [t] hm.e)
theorem qI.shut{l:List ag}{t:ag}{w:ByteArray}(h:qI l)(ht:gH t w=true)(hw:w=p9\/w=o9):qI (l++[t]):=
 h.join rfl (by show DY t=true;exact NG ht hw)
theorem qI.word{t:ag}(h:gX t=true):qI [t]:=⟨rfl,by show EC t=true;unfold EC;rw[h];rfl,by show DY t=true;unfold DY;rw[h];rfl⟩
theorem lT{r:List ag}{k:Nat}{w:ByteArray}(h:bK (r.drop k) w=true):∃t,gH t w=true/\r.drop k=t::r.drop (k+1)/\∀n,r.take (k+1+n)=r.take k++t::(r.drop (k+1)).take n:=by
 cases hd:r.drop k with
 |nil=>rw[hd] at h;cases h
 |cons t q=>
  rw[hd] at h;have hq:r.drop (k+1)=q:=by rw[<-List.drop_drop,hd];rfl
  refine⟨t,h,by rw[hq],fun n=>?_⟩;rw[Nat.add_assoc,List.take_add,hd,Nat.add_comm 1 n,List.take_succ_cons,hq]
theorem Oe{r:List ag}{lv:Nat}{o:ByteArray}(h:GG r lv=some o)(h6:lv<=6):∃t,gH t o=true/\r=t::r.drop 1/\o≠qD/\o≠dz:=by
 cases r with
 |nil=>cases h
 |cons t r=>
  unfold GG at h;simp only at h;split at h
  ·next hc=>
   cases h
   have hn:∀w:ByteArray,Dn w = -1\/Dn w=7->t.text≠w:=fun w hw e=>by rw[<-e] at hw;omega
   exact⟨t,by unfold gH;rw[decide_eq_true hc.1,decide_eq_true rfl];rfl,rfl,hn _ (.inl (by kernel_rfl)),hn _ (.inr (by kernel_rfl))⟩
  ·cases h
structure Qa(l:List ag):Prop where
 c:qz l=true
 e:Bo l=true
def Ny:Nt->List ag->Nat->Prop
 |.choice,r,n=>qI (r.take n)
 |.term lv,r,n=>lv<=7->qI (r.take n)
 |.tloop lv _,r,n=>lv<=6->∀l,qI l->qI (l++r.take n)
 |.tight,r,n=>qI (r.take n)
 |.post,r,n=>qI (r.take n)
 |.ploop _,r,n=>∀l,qI l->qI (l++r.take n)
 |.prime,r,n=>qI (r.take n)
 |.many s,r,n=>(s=p9\/s=o9)->(∀t q,r=t::q->gH t AO=true\/gH t AP=true)->r≠[]->1<=n/\Qa (r.take n)
 |.mloop s _,r,n=>(s=p9\/s=o9)->qI (r.take n)
theorem Bd{t:ag}(h:gH t AO=true\/gH t AP=true){m:List ag}(hm:qz m=true):qz (t::m)=true:=by
 rcases h with h|h
 ·exact nN h (by decide) (by decide) hm
 ·exact nN h (by decide) (by decide) hm
theorem P6:∀(n:Nat) (t:Nt) (r:List ag) (d:Nat),(ai n t r d).2.2=0->Ny t r (ai n t r d).2.1:=by
 intro n
 induction n with
 |zero=>intro t r d h;simp[ai] at h
 |succ n ih=>
  intro t r d h
  cases t with
  |choice=>
   simp only[ai] at h ⊢;obtain⟨h1,h2⟩:=iY h;rw[h2] at h ⊢;have i1:=ih (.term 1) r d h1 (by omega)
   by_cases hq:bK (r.drop (ai n (.term 1) r d).2.1) sQ=false
   ·rw[if_pos hq];exact i1
   ·rw[if_neg hq] at h ⊢
    split at h
    ·simp[lX] at h
    ·next hd=>
     rw[if_neg hd];obtain⟨h3,h4⟩:=iY h;rw[h4] at h ⊢;have i2:=ih .choice (r.drop ((ai n (.term 1) r d).2.1+1)) (d+1) h3;simp only[Ny] at i2;generalize ai n .choice (r.drop ((ai n (.term 1) r d).2.1+1)) (d+1)=B at *;generalize ai n (.term 1) r d=A at *
     by_cases hc:bK (r.drop (dO (A.2.1+1) B).2.1) Mc=false
     ·rw[if_pos hc] at h;exact absurd h mH
     ·rw[if_neg hc] at h ⊢
      obtain⟨h5,h6⟩:=iY h;rw[h6];have i3:=ih .choice (r.drop ((dO (A.2.1+1) B).2.1+1)) (d+1) h5;simp only[Ny] at i3 ⊢;generalize ai n .choice (r.drop ((dO (A.2.1+1) B).2.1+1)) (d+1)=C at *;obtain⟨t1,e1,-,e2⟩:=lT (by simpa using hq);obtain⟨t2,e3,-,e4⟩:=lT (by simpa using hc);simp only[dO] at e2 e4 i3 ⊢;rw[e4,e2];have:=(i1.two e1 (by decide) (by decide) i2).two e3 (by decide) (by decide) i3
      simpa using this
  |term lv=>
   simp only[ai] at h ⊢;intro l7;split at h
   ·next h7=>
    rw[if_pos h7];exact ih .tight r d h
   ·next h7=>
    rw[if_neg h7];obtain⟨h1,h2⟩:=iY h;rw[h2] at h ⊢;have i1:=ih (.term (lv+1)) r d h1 (by omega);generalize ai n (.term (lv+1)) r d=A at *;have i2:=ih (.tloop lv A.1) (r.drop A.2.1) d h (by omega) _ i1;simp only[dO];rw[List.take_add];exact i2
  |tloop lv a=>
   simp only[ai] at h ⊢;intro l6 l hl;split at h
   ·next hn=>
    (try simp only[hn])
    simpa using hl
   ·next o ho=>
    (try simp only[ho])
    obtain⟨h1,h2⟩:=iY h;rw[h2] at h ⊢;have i1:=ih (.term (lv+1)) (r.drop 1) d h1 (by omega);generalize ai n (.term (lv+1)) (r.drop 1) d=A at *;simp only[dO] at h ⊢;obtain⟨t,e1,e2,e3,e4⟩:=Oe ho l6;have i2:=ih (.tloop lv (.mk o iL [a,A.1])) (r.drop (1+A.2.1)) d h l6 _ (hl.two e1 e3 e4 i1);rw[List.take_add,Nat.add_comm 1 A.2.1];rw[Nat.add_comm 1 A.2.1] at i2;rw[e2,List.take_succ_cons,<-List.append_assoc];rw[e2] at i2
    simpa using i2
  |tight=>
   simp only[ai] at h ⊢;split at h
   ·next hb=>
    rw[if_pos hb];exact ih .post r d h
   ·next hb=>
    rw[if_neg hb];split at h
    ·simp[lX] at h
    ·next hd=>
     rw[if_neg hd];obtain⟨h1,h2⟩:=iY h;rw[h2];have i1:=ih .tight (r.drop 1) (d+1) h1;simp only[Ny] at i1 ⊢;generalize ai n .tight (r.drop 1) (d+1)=A at *;simp only[dO]
     have hs:bK (r.drop 0) dz=true\/bK (r.drop 0) jB=true:=by
      rw[List.drop_zero];cases h1:bK r dz<;>cases h2:bK r jB
      ·exact absurd ⟨h1,h2⟩ hb
      all_goals simp
     obtain⟨x,m,hx⟩:∃x m,(r.drop 1).take A.2.1=x::m:=by
      cases hm:(r.drop 1).take A.2.1 with
      |nil=>rw[hm] at i1;have:=i1.f;cases this
      |cons x m=>exact⟨x,m,rfl⟩
     rcases hs with hs|hs
     ·obtain⟨t,e1,-,e2⟩:=lT hs
      have e2:=e2 A.2.1;simp only[Nat.zero_add,List.take_zero,List.nil_append] at e2;rw[e2];refine⟨?_,?_,nH [t] i1.e⟩
      ·rw[hx] at i1 ⊢
       have hf:EC x=true:=i1.f;simp only[qz,i1.c,vE,hf,lU e1 (show dz≠qD by decide)];simp
      ·show EC t=true
       unfold EC;rw[dI,show gH t (ay [33])=true from e1,Bool.true_or,Bool.or_true]
     ·obtain⟨t,e1,-,e2⟩:=lT hs
      have e2:=e2 A.2.1;simp only[Nat.zero_add,List.take_zero,List.nil_append] at e2;rw[e2];refine⟨nN e1 (by decide) (by decide) i1.c,?_,nH [t] i1.e⟩;show EC t=true;unfold EC;rw[dI,dI,show gH t (ay [45])=true from e1,Bool.true_or,Bool.or_true,Bool.or_true]
  |post=>
   simp only[ai] at h ⊢;obtain⟨h1,h2⟩:=iY h;rw[h2] at h ⊢;have i1:=ih .prime r d h1;simp only[Ny] at i1 ⊢;generalize ai n .prime r d=A at *;have i2:=ih (.ploop A.1) (r.drop A.2.1) d h _ i1;simp only[dO];rw[List.take_add];exact i2
  |ploop a=>
   simp only[ai] at h ⊢;intro l hl;split at h
   ·next hdot=>
    rw[if_pos hdot];split at h
    ·exact absurd h mH
    ·next t q hq=>
     simp only[hq];split at h
     ·next hk=>
      rw[if_pos hk];obtain⟨t0,e1,e2,-⟩:=lT (k:=0) (by rw[List.drop_zero];exact hdot);rw[List.drop_zero,Nat.zero_add,hq] at e2;have Ab:gX t=true:=by unfold gX;rw[decide_eq_true hk];rfl
      have Aa:qI (l++[t0,t]):=by
       refine hl.join ?_ (by show DY t=true;unfold DY;rw[Ab];rfl);simp only[qz,vE,decide_eq_true hk,lU e1 (show qD≠dz by decide)];simp
      have i1:=ih (.ploop (.mk nG t.text [a])) (r.drop 2) d h _ Aa;simp only[dO];rw[List.take_add];rw[show r.take 2=[t0,t] by rw[e2];rfl]
      simpa using i1
     ·exact absurd h mH
   ·next hdot=>
    rw[if_neg hdot];split at h
    ·next hlb=>
     rw[if_pos hlb];split at h
     ·simp[lX] at h
     ·next hd=>
      rw[if_neg hd];obtain⟨h1,h2⟩:=iY h;rw[h2] at h ⊢;have i1:=ih .choice (r.drop 1) (d+1) h1;simp only[Ny] at i1;generalize ai n .choice (r.drop 1) (d+1)=A at *
      by_cases hc:bK (r.drop (dO 1 A).2.1) o9=false
      ·rw[if_pos hc] at h;exact absurd h mH
      ·rw[if_neg hc] at h ⊢
       obtain⟨t0,e1,-,e2⟩:=lT (k:=0) (by rw[List.drop_zero];exact hlb);obtain⟨t1,e3,-,e4⟩:=lT (by simpa using hc);simp only[dO] at e4 h ⊢;have e2:=e2 A.2.1;simp only[Nat.zero_add,List.take_zero,List.nil_append] at e2;have Aa:=(hl.two e1 (by decide) (by decide) i1).shut e3 (.inr rfl);have i2:=ih (.ploop (.mk vB iL [a,A.1])) (r.drop (1+A.2.1+1)) d h _ Aa;rw[e4,e2]
       simpa using i2
    ·next hlb=>
     rw[if_neg hlb]
     simpa using hl
  |prime=>
   cases r with
   |nil=>simp only[ai] at h;exact absurd h mH
   |cons t r=>
    simp only[ai] at h ⊢;simp only[Ny];split at h
    ·next h1=>
     rw[if_pos h1];have Ab:gX t=true:=by unfold gX;rw[decide_eq_true h1];rfl
     split at h
     ·next hp=>
      rw[if_pos hp];obtain⟨h3,h4⟩:=iY h;rw[h4];have hr:∀t' q,r=t'::q->gH t' AO=true\/gH t' AP=true:=fun t' q e=>by subst e;exact .inl hp
      have i1:=(ih (.many p9) r d h3) (.inl rfl) hr (by rintro rfl;cases hp);generalize ai n (.many p9) r d=A at *;simp only[dO];rw[Nat.add_comm,List.take_succ_cons];have:=(qI.word Ab).join i1.2.c i1.2.e
      simpa using this
     ·next hp=>
      rw[if_neg hp];exact qI.word Ab
    ·next h1=>
     rw[if_neg h1];split at h
     ·next h2=>
      rw[if_pos h2];exact qI.word (by unfold gX;rw[decide_eq_true h2];simp)
     ·next h2=>
      rw[if_neg h2];split at h
      ·next h3=>
       rw[if_pos h3];split at h
       ·cases h
       ·next s hs=>
        simp only[hs];exact qI.word (by unfold gX;rw[decide_eq_true h3];simp)
      ·next h3=>
       rw[if_neg h3];split at h
       ·next h4=>
        rw[if_pos h4];obtain⟨h5,h6⟩:=iY h;rw[h6];have i1:=(ih (.many o9) (t::r) d h5) (.inr rfl) (fun t' q e=>by cases e;exact .inr h4) (by simp);generalize ai n (.many o9) (t::r) d=A at *;obtain⟨i0,i1⟩:=i1;obtain⟨k,hk⟩:∃k,A.2.1=k+1:=⟨A.2.1-1,by omega⟩;simp only;refine⟨i1.c,?_,i1.e⟩;rw[hk,List.take_succ_cons];show EC t=true;unfold EC;rw[dI,dI,dI,dI,show gH t (ay [91])=true from h4];simp
       ·next h4=>
        rw[if_neg h4];split at h
        ·next h5=>
         rw[if_pos h5];split at h
         ·simp[lX] at h
         ·next h6=>
          rw[if_neg h6];obtain⟨h7,h8⟩:=iY h;rw[h8] at h ⊢;have i1:=ih .choice r (d+1) h7;simp only[Ny] at i1;generalize ai n .choice r (d+1)=A at *
          by_cases hc:bK ((t::r).drop (dO 1 A).2.1) p9=false
          ·rw[if_pos hc] at h;exact absurd h mH
          ·rw[if_neg hc] at h ⊢
           obtain⟨t1,e3,-,e4⟩:=lT (by simpa using hc);have e4:=e4 0;simp only[dO,Nat.add_zero,List.take_zero] at e4 ⊢;rw[e4,Nat.add_comm 1,List.take_succ_cons];have h9:=i1.shut e3 (.inl rfl);refine⟨?_,?_,?_⟩
           ·have:=Bd (t:=t) (.inl h5) h9.c
            simpa using this
           ·show EC t=true
            unfold EC;rw[dI,dI,dI,show gH t (ay [40])=true from h5];simp
           ·have:=nH [t] h9.e
            simpa using this
        ·exact absurd h mH
  |many s=>
   simp only[ai] at h ⊢;intro hs hr hne
   cases r with
   |nil=>exact absurd rfl hne
   |cons t q=>
    have ht:=hr t q rfl;split at h
    ·simp[lX] at h
    ·next hd=>
     rw[if_neg hd];split at h
     ·next hh=>
      rw[if_pos hh];obtain⟨t1,e1,e2,-⟩:=lT hh;simp only[List.drop_succ_cons,List.drop_zero] at e2;refine⟨by simp,?_,?_⟩
      ·rw[e2]
       exact Bd ht rfl
      ·rw[e2]
       show DY t1=true;exact NG e1 hs
     ·next hh=>
      rw[if_neg hh];have i1:=ih (.mloop s []) ((t::q).drop 1) d h hs;simp only[List.drop_succ_cons,List.drop_zero] at i1 ⊢;simp only[dO];rw[Nat.add_comm 1,List.take_succ_cons];exact⟨by omega,Bd ht i1.c,nH [t] i1.e⟩
  |mloop s l=>
   simp only[ai] at h ⊢;intro hs;obtain⟨h1,h2⟩:=iY h;rw[h2] at h ⊢;have i1:=ih .choice r (d+1) h1;simp only[Ny] at i1;generalize ai n .choice r (d+1)=A at *;split at h
   ·next hc=>
    rw[if_pos hc];obtain⟨t1,e1,-,e2⟩:=lT hc;have i2:=ih (.mloop s (l++[A.1])) (r.drop (A.2.1+1)) d h hs;simp only[dO];rw[e2];exact i1.two e1 (by decide) (by decide) i2
   ·next hc=>
    rw[if_neg hc];split at h
    ·next h3=>
     rw[if_pos h3];obtain⟨t1,e1,-,e2⟩:=lT h3;have e2:=e2 0;simp only[Nat.add_zero,List.take_zero] at e2;simp only;rw[e2];exact i1.shut e1 hs
    ·exact absurd h mH
end Go.Proofs.YtbcdaaobbebooaaGreatDoor
namespace Go.Proofs.YtbcdaaobbebooaaGreatDoor
open Go.RowKit Go.Tab
def u7(w:World)(a:Option Addr)(kids:List dR):Prop:=∀(x:Addr),a=some x->kids≠[]->x.spot=none/\x.block<w.heap.size/\fG w x.block x.off kids
theorem u7.below{w w':World}{a:Option Addr}{kids:List dR}(h:u7 w a kids)(hb:Below w.heap.size w w'):u7 w' a kids:=fun x hx hne=>by
 obtain⟨g1,g2,g3⟩:=h x hx hne;exact⟨g1,Nat.lt_of_lt_of_le g2 hb.size,fG.below hb g2 kids _ g3⟩
theorem eu.open{w:World}{o t:ByteArray}{kids:List dR}{cs:List Value}(h:eu w (.mk o t kids) cs):∃a cap,cs=[.string o,.string t,.slice a kids.length cap]/\kids.length<=cap/\cap<=maxLen/\(a=none->cap=0)/\u7 w a kids:=by
 simp only[eu] at h;exact h
abbrev vX(cs:List Value):Value:=.agg cs.toArray
theorem EU(n:Nat)(IH:∀(s t:dR),s.bulk<=n->∀(w:World) (cs ds:List Value),eu w s cs->eu w t ds->Calls Tryz.prog 51 #[vX cs,vX ds] w (nP (s=t) w))
  (o1 t1:ByteArray) (kids1:List dR) (o2 t2:ByteArray) (kids2:List dR) (hn:(dR.mk o1 t1 kids1).bulk<=n+1) (p:Prop) (hp:p↔dR.mk o1 t1 kids1=dR.mk o2 t2 kids2)
  (w:World) (cs ds:List Value) (hv:eu w (.mk o1 t1 kids1) cs) (hv2:eu w (.mk o2 t2 kids2) ds):Calls Tryz.prog 51 #[vX cs,vX ds] w (nP p w):=by
 have AT:Ak kids1<=n:=by simp only[dR.bulk] at hn;omega
 obtain⟨a,A1,rfl,hl,hm,A5,hx⟩:=hv.open;obtain⟨a2,Ac,rfl,AV,AK,Az,AC⟩:=hv2.open;clear hv hv2 hn;unfold maxLen at hm AK;simp only[vX];have Af:Below w.heap.size w ((w.alloc (.cells #[.string o1,.string t1,.slice a kids1.length A1] 52)).alloc (.cells #[.string o2,.string t2,.slice a2 kids2.length Ac] 52)):=((Below.refl _ w).alloc lz _).alloc (by simp) _
 by_cases ho:o1=o2
 ·subst ho
  by_cases ht:t1=t2
  ·subst ht
   by_cases hlen:kids1.length=kids2.length
   ·have hq:((kids1.length:Int) != (kids2.length:Int))=false:=by simp[hlen]
    have HP:=Hh hp;have HL:=Hh hlen;have HX:=Hh hx;have AI:=Hh AC;have AH:=Hh IH;obtain⟨Ah,Ai,AO,AP⟩:=Mh (Below.refl ((w.alloc (.cells #[.string o1,.string t1,.slice a kids1.length A1] 52)).alloc (.cells #[.string o1,.string t1,.slice a2 kids2.length Ac] 52)).heap.size ((w.alloc (.cells #[.string o1,.string t1,.slice a kids1.length A1] 52)).alloc (.cells #[.string o1,.string t1,.slice a2 kids2.length Ac] 52)));have AF:=Hh Ah;have AG:=Hh Ai;have HB:=Hh Af;clear hp hlen hx AC IH Ah Ai Af;go_enter Tryz.func51,Tryz.ntmps51;go_wp2_with fail;generalize (w.alloc (.cells #[.string o1,.string t1,.slice a kids1.length A1] 52)).alloc (.cells #[.string o1,.string t1,.slice a2 kids2.length Ac] 52)=w2 at *;go_loopw [5] (fun i wr=>∃k:Nat,k<=kids1.length/\i=.int .i64 (k:Int)/\(∀j (h1:j<kids1.length) (h2:j<kids2.length),j<k->kids1[j]=kids2[j])/\Below w2.heap.size w2 wr) (fun i _=>kids1.length-(intOf i).toNat)
    case atStart=>exact⟨0,Nat.zero_le _,rfl,fun j _ _ h=>by omega,Below.refl _ _⟩
    case round=>
     obtain⟨k,hk,rfl,Al,Am⟩:=hrel;have Ah:=AF.out.below Am AO;have Ai:=AG.out.below Am AP;have AM:=Ah.lt;have AN:=Ai.lt;have A3:=Hh Am;have HA:=Hh Al;clear Al
     by_cases hkl:k<kids1.length
     ·have Ad:k<kids2.length:=by have:=HL.out;omega
      have AL:kids1≠[]:=by intro h0;rw[h0] at hkl;simp at hkl
      have A4:kids2≠[]:=by intro h0;rw[h0] at Ad;simp at Ad
      cases a with
      |none=>have:=A5 rfl;omega
      |some x=>
      cases a2 with
      |none=>have:=Az rfl;omega
      |some x2=>
      obtain⟨bb,Bg,sp⟩:=x;obtain⟨AS,AQ,Bh⟩:=x2;obtain⟨rfl,A2,Ag⟩:=u7.below (u7.below HX.out HB.out) Am _ rfl AL;obtain⟨rfl,Ae,Ab⟩:=u7.below (u7.below AI.out HB.out) Am _ rfl A4;simp only at A2 Ag Ae Ab;obtain⟨Bb,AA,AB⟩:=fG.get Ag k hkl;obtain⟨Bc,AE,Bd,Bf,Be,rfl,m0,m1,m2⟩:=Lh AB AA;obtain⟨AW,A8,A9⟩:=fG.get Ab k Ad;obtain⟨AX,AD,AY,Ba,AZ,rfl,n0,n1,n2⟩:=Lh A9 A8;have A7:=AH.out kids1[k] kids2[k] (by have:=Aj hkl;omega)
      have HD:Hid (kids1[k]=kids2[k]->∀j (h1:j<kids1.length) (h2:j<kids2.length),j<k+1->kids1[j]=kids2[j]):=Hh (fun heq j h1 h2 h=>by
        by_cases hjk:j=k
        ·subst hjk;exact heq
        ·exact HA.out j h1 h2 (by omega))
      have HN:Hid (¬kids1[k]=kids2[k]->kids1≠kids2):=Hh (fun h=>AR hkl Ad h);clear HA AA A8;generalize kids1[k]=kid at *;generalize kids2[k]=jid at *;obtain⟨b,hb⟩:=um (kid=jid);have Aa:=fun (x:jK wr)=>jK.call x (nP.fix hb (A7 x.w _ _ (AB.under x) (A9.under x)));clear A7;have A0:=Hh hb;clear hb;have p0:=fun x:jK wr=>(x.below.cell (p:=⟨w.heap.size,2,none⟩) AM).trans (Ah.cell 2 _ rfl);have p1:=fun x:jK wr=>(x.below.cell (p:=⟨w.heap.size+1,2,none⟩) AN).trans (Ai.cell 2 _ rfl);have M0:=fun x:jK wr=>(x.below.cell (by exact A2)).trans m0;have M1:=fun x:jK wr=>(x.below.cell (by exact A2)).trans m1;have M2:=fun x:jK wr=>(x.below.cell (by exact A2)).trans m2;have O0:=fun x:jK wr=>(x.below.cell (by exact Ae)).trans n0;have O1:=fun x:jK wr=>(x.below.cell (by exact Ae)).trans n1;have O2:=fun x:jK wr=>(x.below.cell (by exact Ae)).trans n2;clear m0 m1 m2 n0 n1 n2;obtain⟨An,Aq,Ao,Ar,Ap,As⟩:=Ah.n3 rfl;obtain⟨At,Aw,Au,Ax,Av,Ay⟩:=Ai.n3 rfl;simp only[vX] at Aa;go_wp2_with fail;refine oC wr (by kernel_rfl) (by kernel_rfl) (Below.refl _ _) ?_
      repeat (go_big_quiet_step ((go_at_call 51;exact Aa _)))
      refine wpQuiet_nil ?_;rintro _ ⟨x,rfl⟩;have AJ:=A3.out.trans (x.below.mono A3.out.size);have A6:=Hh AJ;clear M0 M1 M2 O0 O1 O2 p0 p1 Aa;cases b
      ·have HY:=Hh (HN.out (fun h=>by have:=A0.out.2 h;cases this))
       clear A0 HN HD;go_wp2_with fail;go_ret;refine⟨⟨false,rfl,lN (fun h=>?_)⟩,HB.out.trans (A6.out.mono HB.out.size)⟩;have h2:=HP.out.1 h;simp only[dR.mk.injEq] at h2;exact HY.out h2.2.2
      ·have HY:=Hh (HD.out (A0.out.1 rfl))
       clear A0 HN HD;go_wp2_with fail;go_roundw
       case rel=>exact⟨k+1,by omega,by go_num,HY.out,A6.out⟩
       case measure=>simp[intOf];omega
     ·obtain rfl:k=kids1.length:=by omega
      have hR:=Hh (AU HL.out (fun j h1 h2=>HA.out j h1 h2 h1));clear HA;obtain⟨An,Aq,Ao,Ar,Ap,As⟩:=Ah.n3 rfl;obtain⟨At,Aw,Au,Ax,Av,Ay⟩:=Ai.n3 rfl;go_wp2_with fail;go_ret;refine⟨⟨true,rfl,F7 (HP.out.2 ?_)⟩,HB.out.trans (A3.out.mono HB.out.size)⟩;rw[hR.out]
   ·have hq:((kids1.length:Int) != (kids2.length:Int))=true:=by rw[bne_iff_ne];omega
    have HN:Hid (¬p):=Hh (fun h=>by have:=hp.1 h;simp only[dR.mk.injEq] at this;exact hlen (by rw[this.2.2]));have HB:=Hh Af;clear hlen hp Af;go_enter Tryz.func51,Tryz.ntmps51;go_wp2;go_ret;exact⟨⟨false,rfl,lN (fun h=>(HN.out h).elim)⟩,HB.out⟩
  ·have hq:=nT ht
   have HN:Hid (¬p):=Hh (fun h=>by have:=hp.1 h;simp only[dR.mk.injEq] at this;exact ht this.2.1);have HB:=Hh Af;clear ht hp Af;go_enter Tryz.func51,Tryz.ntmps51;go_wp2;go_ret;exact⟨⟨false,rfl,lN (fun h=>(HN.out h).elim)⟩,HB.out⟩
 ·have hq:=nT ho
  have HN:Hid (¬p):=Hh (fun h=>by have:=hp.1 h;simp only[dR.mk.injEq] at this;exact ho this.1);have HB:=Hh Af;clear ho hp Af;go_enter Tryz.func51,Tryz.ntmps51;go_wp2;go_ret;exact⟨⟨false,rfl,lN (fun h=>(HN.out h).elim)⟩,HB.out⟩
theorem ET(n:Nat):∀(s t:dR),s.bulk<=n->∀(w:World) (cs ds:List Value),eu w s cs->eu w t ds->Calls Tryz.prog 51 #[vX cs,vX ds] w (nP (s=t) w):=by
 induction n with
 |zero=>intro t _ h;have:=Js t;omega
 |succ n IH=>
  intro s t h w cs ds hv hv2;cases s
  cases t
  exact EU n IH _ _ _ _ _ _ h _ Iff.rfl w cs ds hv hv2
theorem Iw(s t:dR)(w:World)(cs ds:List Value)(hv:eu w s cs)(hv2:eu w t ds):Calls Tryz.prog 51 #[vX cs,vX ds] w (nP (s=t) w):=
 ET s.bulk s t lz w cs ds hv hv2
theorem uE:∀(k:Nat) (l:Bs) (p:Nat),l.length<=k->∀t∈(aG l p).1,t.text.size<=l.length
 | 0,l,p,h=>by
  obtain rfl:=List.eq_nil_of_length_eq_zero (Nat.le_zero.1 h);intro t ht;rw[dH] at ht;cases ht
 | k+1,[],p,_=>by
  intro t ht;rw[dH] at ht;cases ht
 | k+1,c::r,p,h=>by
  simp only[List.length_cons] at h ⊢
  by_cases hb:bG c=true
  ·rw[bO hb]
   intro t ht;have:=uE k r (p+1) (by omega) t ht;omega
  ·have hb:bG c=false:=by simpa using hb
   cases ho:dN (c::r) with
   |bad off e=>
    rw[eB hb ho];intro t ht;cases ht
   |tok kd sz=>
    have hs:=dh ho;rw[di hb ho];intro t ht;rcases List.mem_cons.1 ht with rfl|ht
    ·show (ay ((c::r).take sz)).size<=_
     have:(ay ((c::r).take sz)).size=((c::r).take sz).length:=by unfold ay;simp[ByteArray.size]
     rw[this,List.length_take,List.length_cons];omega
    ·have:=uE k ((c::r).drop sz) (p+sz) (by rw[List.length_drop,List.length_cons];omega) t ht
     rw[List.length_drop,List.length_cons] at this;omega
theorem xM(l:Bs):(iT l).1.length<=l.length/\∀t∈(iT l).1,t.text.size<=l.length:=by
 unfold iT;split
 ·exact⟨lS _ _ _ lz,uE _ _ _ lz⟩
 ·exact⟨Nat.zero_le _,fun t ht=>by cases ht⟩
theorem jc(s:ByteArray):s.data.toList.length=s.size:=by rw[Array.length_toList];rfl
end Go.Proofs.YtbcdaaobbebooaaGreatDoor
namespace Go.Proofs.YtbcdaaobbebooaaGreatDoor
def AA(r:List ag)(g:eX):Prop:=g.2.2=0\/g.2.2=2\/g.2.2 = -1\/g.2.1<r.length
theorem AA.and{r:List ag}{g:eX}{f:dR->Nat->eX}(h:AA r g)(hf:AA r (f g.1 g.2.1)):AA r (il g f):=by
 by_cases he:g.2.2=0
 ·rw[bP he];exact hf
 ·rw[aZ he];exact h
theorem AA.up{r:List ag}{g:eX}{n:Nat}(h:AA (r.drop n) g):AA r (dO n g):=by
 rcases h with h|h|h|h
 ·exact .inl h
 ·exact .inr (.inl h)
 ·exact .inr (.inr (.inl h))
 ·refine .inr (.inr (.inr ?_))
  rw[List.length_drop] at h;simp only[dO];omega
theorem AA.ok{r:List ag}{x:dR}{n:Nat}:AA r (x,n,0):=.inl rfl
theorem AA.bad{r:List ag}{n:Nat}:AA r (cZ (r.drop n) n):=by
 unfold cZ;split
 ·exact .inr (.inl rfl)
 ·next h=>
  refine .inr (.inr (.inr ?_));refine Nat.lt_of_not_le fun hle=>h ?_;exact List.drop_eq_nil_of_le hle
theorem AA.bad0{r:List ag}:AA r (cZ r 0):=by simpa using AA.bad (r:=r) (n:=0)
theorem AA.deep{r:List ag}{n:Nat}(h:n<r.length):AA r (lX n):=.inr (.inr (.inr h))
theorem K7{r:List ag}{k:Nat}{w:ByteArray}(h:bK (r.drop k) w=true):k<r.length:=by
 have:=bI h;rw[List.length_drop] at this;omega
theorem M7{r:List ag}{k:Nat}{w:ByteArray}(h:¬bK (r.drop k) w=false):k<r.length:=K7 (by simpa using h)
theorem NY:∀(n:Nat) (t:Nt) (r:List ag) (d:Nat),t.okX r->AA r (ai n t r d):=by
 intro n
 induction n with
 |zero=>intro t r d _;exact .inr (.inr (.inl rfl))
 |succ n IH=>
  intro t r d ht
  cases t with
  |choice=>
   rw[ai];refine (IH (.term 1) r d (by simp only[Nt.okX];omega)).and ?_;split
   ·exact .ok
   ·next hq=>
    split
    ·exact .deep (M7 hq)
    ·refine (IH .choice _ _ trivial).up.and ?_
     split
     ·exact .bad
     ·exact (IH .choice _ _ trivial).up.and .ok
  |term lv=>
   simp only[Nt.okX] at ht;rw[ai];split
   ·exact IH _ _ _ trivial
   ·exact (IH (.term (lv+1)) r d (by simp only[Nt.okX];omega)).and (IH (.tloop lv _) _ _ (by simp only[Nt.okX];omega)).up
  |tloop lv a=>
   simp only[Nt.okX] at ht;rw[ai];split
   ·exact .ok
   ·exact (IH (.term (lv+1)) _ d (by simp only[Nt.okX];omega)).up.and (IH (.tloop lv _) _ _ (by simp only[Nt.okX];omega)).up
  |tight=>
   rw[ai];split
   ·exact IH _ _ _ trivial
   ·next hs=>
    split
    ·refine .deep ?_
     refine List.length_pos_iff.2 fun h=>hs ?_;rw[h];exact⟨rfl,rfl⟩
    ·exact (IH .tight _ _ trivial).up.and .ok
  |post=>
   rw[ai];exact (IH .prime _ _ trivial).and (IH (.ploop _) _ _ trivial).up
  |ploop a=>
   rw[ai];split
   ·next hdot=>
    have hl:=bI hdot;split
    ·next hq=>
     have:=AA.bad (r:=r) (n:=1);rw[hq] at this;exact this
    ·next t q hq=>
     split
     ·exact (IH (.ploop _) _ _ trivial).up
     ·exact .bad
   ·split
    ·next hlb=>
     split
     ·exact .deep (bI hlb)
     ·refine (IH .choice _ _ trivial).up.and ?_
      split
      ·exact .bad
      ·exact (IH (.ploop _) _ _ trivial).up
    ·exact .ok
  |prime=>
   cases r with
   |nil=>simp only[ai];exact .bad0
   |cons t r'=>
    simp only[ai];split
    ·split
     ·next hs=>exact (AA.up (r:=t::r') (n:=1) (IH (.many p9) r' d (bI hs))).and .ok
     ·exact .ok
    ·split
     ·exact .ok
     ·split
      ·split
       ·exact .inr (.inr (.inr (by simp)))
       ·exact .ok
      ·split
       ·exact (IH (.many o9) (t::r') d (by simp[Nt.okX])).and .ok
       ·split
        ·split
         ·exact .deep (by simp)
         ·refine (AA.up (r:=t::r') (n:=1) (IH .choice r' (d+1) trivial)).and ?_
          split
          ·exact .bad
          ·exact .ok
        ·exact .bad0
  |many s=>
   have hl:1<=r.length:=ht;rw[ai];split
   ·exact .deep hl
   ·split
    ·exact .ok
    ·exact (IH (.mloop s []) _ _ trivial).up
  |mloop s l=>
   rw[ai];refine (IH .choice r (d+1) trivial).and ?_;split
   ·exact (IH (.mloop s _) _ _ trivial).up
   ·split
    ·exact .ok
    ·exact .bad
theorem Ba(l:List ag)(h0:(gp l).2.2≠0)(h2:(gp l).2.2≠2):(gp l).2.1<l.length:=by
 unfold gp at h0 h2 ⊢
 by_cases hb:1000<l.length
 ·rw[if_pos hb];exact hb
 ·rw[if_neg hb] at h0 h2 ⊢
  by_cases h:(ai (gT .choice l) .choice l 0).2.2=0
  ·rw[if_pos h] at h0;exact absurd h h0
  ·rw[if_neg h] at h0 h2 ⊢
   have hf:=nC (gT .choice l) .choice l 0 lz trivial;rcases NY (gT .choice l) .choice l 0 trivial with q|q|q|q
   ·exact absurd q h
   ·exact absurd q h2
   ·exact absurd q hf.1
   ·exact q
theorem CZ(l:List ag):(gp l).2.1<=l.length:=by
 unfold gp;have hf:=nC (gT .choice l) .choice l 0 lz trivial;split
 ·next h=>show 1000<=_;omega
 ·split
  ·exact hf.2.1
  ·exact hf.2.1
end Go.Proofs.YtbcdaaobbebooaaGreatDoor
namespace Go.Proofs.YtbcdaaobbebooaaGreatDoor
def KT(f:ag->ag):Prop:=∀t,(f t).kind=t.kind/\(f t).text=t.text
section
variable {f:ag->ag} (hf:KT f)
include hf
theorem oo(r:List ag)(w:ByteArray):bK (r.map f) w=bK r w:=by
 cases r with
 |nil=>rfl
 |cons t r=>simp only[List.map_cons,bK,(hf t).1,(hf t).2]
theorem M8(r:List ag)(lv:Nat):GG (r.map f) lv=GG r lv:=by
 cases r with
 |nil=>rfl
 |cons t r=>simp only[List.map_cons,GG,(hf t).1,(hf t).2]
omit hf in
theorem tY(r:List ag)(n:Nat):cZ (r.map f) n=cZ r n:=by cases r<;>rfl
theorem Kr:∀(n:Nat) (t:Nt) (r:List ag) (d:Nat),ai n t (r.map f) d=ai n t r d:=by
 intro n
 induction n with
 |zero=>intros;rfl
 |succ n ih=>
  intro t r d
  cases t with
  |ploop a=>
   simp only[ai,<-List.map_drop,oo hf,tY,ih]
   cases hq:r.drop 1 with
   |nil=>rfl
   |cons t q=>simp only[List.map_cons,(hf t).1,(hf t).2]
  |prime=>
   cases r with
   |nil=>rfl
   | cons t r=>
    have e1:=oo hf (t::r);have e2:=tY (f:=f) (t::r);have e3:=ih (.many o9) (t::r);have e4:=fun k=>List.map_drop (l:=t::r) (i:=k) (f:=f);simp only[List.map_cons] at e1 e2 e3 e4;simp only[List.map_cons,ai,(hf t).1,(hf t).2,e1,e2,e3,<-e4,oo hf,tY,ih]
  |_=>simp only[ai,<-List.map_drop,oo hf,M8 hf,tY,ih]
theorem Kt(r:List ag):gp (r.map f)=gp r:=by
 unfold gp gT;simp only[List.length_map,Kr hf]
theorem Dw:∀r:List ag,fA (r.map f)=fA r
 |[]=>rfl
 |t::r=>by simp only[List.map_cons,fA,(hf t).1,(hf t).2,Dw r]
end
theorem bA.add_items(t x:bA):(t.add x).items=t.items++[x]:=by cases t;rfl
theorem Iu{n:Nat}{row:List ag}{stop:Int}{last:Bool}{st:List bA}(hl:st.length=n)(h:aY n row stop last=.fin):st.length≠1:=by
 rw[hl];exact qi h
theorem eD(row:List ag)(stop:Int)(last:Bool)(i:Nat):∃a e,e≠0/\dZ row stop last i=.wrong a e:=by
 unfold dZ;split
 ·exact⟨_,3,by decide,rfl⟩
 ·split
  ·exact⟨_,2,by decide,rfl⟩
  ·exact⟨_,3,by decide,rfl⟩
theorem xI(n:Nat)(row:List ag)(stop stop2:Int)(last last2:Bool):aY n row stop2 last2=aY n row stop last\/∃a e,e≠0/\aY n row stop last=.wrong a e:=by
 cases row with
 |nil=>exact .inl rfl
 |cons t r=>
  simp only[aY];split
  ·split
   ·exact .inr (eD _ _ _ _)
   ·split
    ·exact .inr (eD _ _ _ _)
    ·exact .inl rfl
  ·split
   ·exact .inr (eD _ _ _ _)
   ·split
    ·unfold jI
     split
     ·exact .inr (eD _ _ _ _)
     ·exact .inl rfl
    ·unfold fE
     simp only;split
     ·exact .inr (eD _ _ _ _)
     ·split
      ·exact .inl rfl
      ·split
       ·exact .inl rfl
       ·split
        ·exact .inr (eD _ _ _ _)
        ·split
         ·exact .inr (eD _ _ _ _)
         ·exact .inl rfl
theorem uN{st:List bA}(h:st≠[])(x:bA):iJ st x≠[]:=fun e=>by
 have:=iq st x;rw[e] at this;exact h (List.eq_nil_of_length_eq_zero this.symm)
theorem pg{st:List bA}(hs:st≠[])(row:List ag)(stop:Int)(last:Bool):(bB st row stop last).1≠[]:=by
 rw[iW];have hf:=fun e=>Iu (st:=st) (row:=row) (stop:=stop) (last:=last) rfl e
 revert hf
 cases aY st.length row stop last with
 |wrong a e=>intro _;exact hs
 |empty=>intro _;exact hs
 |attr x=>intro _;exact uN hs x
 |begins x=>intro _;simp[dJ]
 |bare x=>intro _;exact uN hs x
 |fin=>
  intro hf;refine uN (fun e=>hf rfl ?_) _;have h1:=congrArg List.length e;have h2:=List.length_pos_iff.2 hs;rw[List.length_dropLast,List.length_nil] at h1;omega
theorem zN{l:Bs}(h:(aG l 0).2.2=0):bT l=bN l.length (aG l 0).1 [bW] []:=by
 unfold bT iT;rw[if_pos h];simp
theorem rO{l:Bs}(h:(aG l 0).2.2≠0):bT l=([],(aG l 0).2):=by
 unfold bT iT;rw[if_neg h];simp only;rw[if_pos h]
theorem rM{l:Bs}(h:(bT l).2.2=0):(aG l 0).2.2=0:=by
 by_cases h2:(aG l 0).2.2=0
 ·exact h2
 ·rw[rO h2] at h;exact h
end Go.Proofs.YtbcdaaobbebooaaGreatDoor
namespace Go.Proofs.YtbcdaaobbebooaaGreatDoor
def D9(p:List ag):Bool:=match p with|t::_=>gH t nW|[]=>false
def xx(p:List ag):Bool:=match p.getLast? with|some t=>gH t ut|none=>false
def OG(p:List ag):Bool:=match p with|_::e::_=>gH e Ie|_=>false
theorem GU(r:List ag):oN r=D9 (fw r):=rfl
theorem Kv(r:List ag):mq r=xx (fw r):=rfl
inductive yI:Nat->List ag->oL->Prop where
 |empty {n:Nat}:yI n [] .empty
 |fin {n:Nat} {t:ag} (h:gH t nW=true) (hn:n≠1):yI n [t] .fin
 |attr {n:Nat} {a e:ag} {q:List ag} {x:bA} (ha:a.kind=1) (he:gH e Ie=true) (hs:qI q):yI n (a::e::q) (.attr x)
 |begins {n:Nat} {a t:ag} {ls:List ag} {x:bA} (ha:a.kind=1) (hl:∀u∈ls,u.kind=3) (ht:gH t ut=true) (hn:n<=64):yI n (a::(ls++[t])) (.begins x)
 |bare {n:Nat} {a t u:ag} {ls:List ag} {x:bA} (ha:a.kind=1) (hl:∀u∈ls,u.kind=3) (ht:gH t ut=true) (hu:gH u nW=true) (hn:n<=64):yI n (a::(ls++[t,u])) (.bare x)
theorem MF{q:List ag}(h:(gp q).2.2=0):qI (q.take (gp q).2.1):=by
 unfold gp at h ⊢;split at h
 ·cases h
 ·next h1=>
  rw[if_neg h1];split at h
  ·next h2=>rw[if_pos h2];exact P6 _ .choice q 0 h2
  ·next h2=>exact absurd h h2
theorem Dx:∀r:List ag,∃ls,r=ls++r.drop (fA r).length/\(∀u∈ls,u.kind=3)/\ls.length=(fA r).length
 |[]=>⟨[],rfl,(fun u h=>by cases h),rfl⟩
 | t::r=>by
  by_cases h:t.kind=3
  ·obtain⟨ls,h1,h2,h3⟩:=Dx r
   refine⟨t::ls,?_,?_,?_⟩
   ·rw[fA,if_pos h,List.length_cons,List.drop_succ_cons,List.cons_append,<-h1]
   ·intro u hu
    rcases List.mem_cons.1 hu with rfl|hu
    ·exact h
    ·exact h2 u hu
   ·rw[fA,if_pos h,List.length_cons,List.length_cons,h3]
  ·exact⟨[],by rw[fA,if_neg h];rfl,(fun u h=>by cases h),by rw[fA,if_neg h];rfl⟩
theorem FF{r:List ag}{w:ByteArray}(h:bK r w=true):∃t q,r=t::q/\gH t w=true:=by
 cases r with
 |nil=>cases h
 |cons t q=>exact⟨t,q,rfl,h⟩
theorem vO(n:Nat)(p:List ag)(stop:Int)(last:Bool):(∃a e,e≠0/\aY n p stop last=.wrong a e)\/yI n p (aY n p stop last):=by
 cases p with
 |nil=>exact .inr .empty
 |cons t r=>
  simp only[aY];split
  ·next h1=>
   split
   ·exact .inl (eD _ _ _ _)
   ·next hn=>
    split
    ·exact .inl (eD _ _ _ _)
    ·next h2=>
     cases r with
     |nil=>exact .inr (.fin h1 hn)
     |cons u r=>simp at h2
  ·split
   ·exact .inl (eD _ _ _ _)
   ·next h1=>
    have ha:t.kind=1:=by omega
    split
    ·next he=>
     obtain⟨e,q,rfl,he⟩:=FF he;unfold jI;simp only[List.drop_succ_cons,List.drop_zero,List.length_cons];split
     ·exact .inl (eD _ _ _ _)
     ·next hx=>
      split
      ·next h0=>
       have Af:=MG q h0
       have hq:q.take (gp q).2.1=q:=List.take_of_length_le (by
        refine Nat.le_of_not_lt fun hlt=>hx (.inr ⟨h0,by omega⟩))
       have hs:=MF h0;rw[hq] at hs;exact .inr (.attr ha he hs)
      ·next h0=>
       have hlt:=Ba q h0 (fun e=>hx (.inl e))
       have Ab:(t::e::q)[2+(gp q).2.1]?=some q[(gp q).2.1]:=by
        rw[Nat.add_comm 2];simp only[List.getElem?_cons_succ];rw[List.getElem?_eq_getElem hlt]
       rw[Ab];exact .inl ⟨_,_,h0,rfl⟩
    ·next he=>
     unfold fE;obtain⟨ls,e1,e2,e3⟩:=Dx r;simp only[List.drop_succ_cons,List.drop_zero]
     have hd:∀k,(t::r).drop (1+(fA r).length+k)=(r.drop (fA r).length).drop k:=fun k=>by
      rw[show 1+(fA r).length+k=((fA r).length+k)+1 by omega,List.drop_succ_cons,List.drop_drop]
     have Ac:=hd 0;have Ae:=hd 1;rw[Nat.add_zero,List.drop_zero] at Ac
     have Aa:r.length=(fA r).length+(r.drop (fA r).length).length:=by
      have:=congrArg List.length e1;rw[List.length_append,e3] at this;exact this
     have Ad:r.drop (1+(fA r).length)=(r.drop (fA r).length).drop 1:=by rw[List.drop_drop,Nat.add_comm]
     rw[Ac]
     (try rw[Ad])
     generalize r.drop (fA r).length=q at *;split
     ·exact .inl (eD _ _ _ _)
     ·next h2=>
      obtain⟨b,q2,rfl,hb⟩:=FF (r:=q) (w:=ut) (by simpa using h2);split
      ·have Ab:(t::r)[1+(fA r).length]?=some b:=by
        have:=congrArg List.head? Ac;rw[List.head?_drop] at this;exact this
       rw[Ab];exact .inl ⟨_,_,by decide,rfl⟩
      ·next h64=>
       have hn:n<=64:=by omega
       simp only[List.length_cons] at Aa ⊢;split
       ·next hl=>
        have:q2=[]:=List.eq_nil_of_length_eq_zero (by omega);subst this;rw[e1];exact .inr (.begins ha e2 hb hn)
       ·next hl=>
        split
        ·exact .inl (eD _ _ _ _)
        ·next h3=>
         obtain⟨c,q3,hq,hc⟩:=FF (r:=(b::q2).drop 1) (w:=nW) (by simpa using h3);simp only[List.drop_succ_cons,List.drop_zero] at hq;subst hq;split
         ·exact .inl (eD _ _ _ _)
         ·next h4=>
          have:q3=[]:=List.eq_nil_of_length_eq_zero (by simp only[List.length_cons] at Aa;omega);subst this;rw[e1];exact .inr (.bare ha e2 hb hc hn)
theorem BV{t:ag}(h:t.kind=1):gX t=true:=by unfold gX;rw[decide_eq_true h];rfl
theorem JQ{t:ag}(h:t.kind=3):gX t=true:=by unfold gX;rw[decide_eq_true h];simp
structure PM(p:List ag)(r:oL):Prop where
 cl:D9 p=true↔r=.fin
 op:xx p=true↔∃x,r=.begins x
 at_:OG p=true↔∃x,r=.attr x
 ch:qz p=true
 fin:r=.fin->∃t,p=[t]
theorem Eb{a:ag}{m:List ag}(hm:qz m=true):∀(ls:List ag),a.kind=1->(∀u∈ls,u.kind=3)->qz (a::(ls++m))=true:=by
 intro ls ha hl
 have hw:∀(ls:List ag) (a:ag),gX a=true->(∀u∈ls,u.kind=3)->qz (a::(ls++m))=true:=by
  intro ls
  induction ls with
  |nil=>
   intro a ha _
   cases m with
   |nil=>rfl
   |cons b m=>
    simp only[List.nil_append,qz,hm,Bool.and_true];exact BK (by unfold DY;rw[ha];rfl)
  |cons u ls ih=>
   intro a ha hl;simp only[List.cons_append,qz,Bool.and_eq_true];exact⟨BK (by unfold DY;rw[ha];rfl),ih u (JQ (hl u (by simp))) (fun v hv=>hl v (by simp[hv]))⟩
 exact hw ls a (BV ha) hl
theorem uH(l:List ag)(a:ag):(l++[a]).getLast?=some a:=List.getLast?_concat
theorem yI.facts{n:Nat}{p:List ag}{r:oL}(h:yI n p r):PM p r:=by
 cases h with
 |empty=>exact⟨by simp[D9],by simp[xx],by simp[OG],rfl,(fun h=>by cases h)⟩
 |fin h hn=>
  next t=>
  refine⟨by simp[D9,h],?_,by simp[OG],rfl,fun _=>⟨t,rfl⟩⟩;have:gH t ut=false:=lU h (by decide);simp[xx,this]
 |attr ha he hs=>
  next a e q x=>
  have h1:D9 (a::e::q)=false:=mW (BV ha) _
  have h2:xx (a::e::q)=false:=by
   obtain⟨q0,t,rfl,ht⟩:=qI.last hs.e;unfold xx;rw[<-List.cons_append,<-List.cons_append,uH];exact Ll ht (by decide) (by decide)
  refine⟨by simp[h1],by simp[h2],by simp[OG,he],?_,(fun h=>by cases h)⟩;have h3:=nN he (by decide) (by decide) hs.c;simp only[qz,h3,Bool.and_true];exact BK (by unfold DY;rw[BV ha];rfl)
 |begins ha hl ht hn=>
  next a t ls x=>
  have h1:D9 (a::(ls++[t]))=false:=mW (BV ha) _
  have h2:xx (a::(ls++[t]))=true:=by
   unfold xx;rw[<-List.cons_append,uH];exact ht
  refine⟨by simp[h1],by simp[h2],?_,Eb rfl ls ha hl,(fun h=>by cases h)⟩
  have h3:OG (a::(ls++[t]))=false:=by
   cases ls with
   |nil=>exact lU ht (by decide)
   |cons u ls=>exact mW (JQ (hl u (by simp))) _
  simp[h3]
 |bare ha hl ht hu hn=>
  next a t u ls x=>
  have h1:D9 (a::(ls++[t,u]))=false:=mW (BV ha) _
  have h2:xx (a::(ls++[t,u]))=false:=by
   unfold xx;rw[show a::(ls++[t,u])=(a::(ls++[t]))++[u] by simp,uH];exact lU hu (by decide)
  refine⟨by simp[h1],by simp[h2],?_,Eb ?_ ls ha hl,(fun h=>by cases h)⟩
  ·have h3:OG (a::(ls++[t,u]))=false:=by
    cases ls with
    |nil=>exact lU ht (by decide)
    |cons v ls=>exact mW (JQ (hl v (by simp))) _
   simp[h3]
  ·exact nN ht (by decide) (by decide) rfl
theorem zC{st:List bA}{p:List ag}{stop:Int}{last:Bool}(h:(bB st p stop last).2.2=0)(hs:st≠[]) :
  ∃r,aY st.length p stop last=r/\yI st.length p r/\(bB st p stop last).1=(dJ st r).1/\
   (if D9 p then 2<=st.length else True)/\(bB st p stop last).1.length=(if D9 p then st.length-1 else st.length)+(if xx p then 1 else 0)/\(xx p=true->st.length<=64):=by
 have hl:=List.length_pos_iff.2 hs;rcases vO st.length p stop last with ⟨a,e,h1,h2⟩|hk
 ·rw[iW,h2] at h
  exact absurd h h1
 ·refine⟨_,rfl,hk,by rw[iW],?_⟩
  rw[iW] at h ⊢;have hf:=hk.facts
  have Aa:xx p=true->st.length<=64:=fun ho=>by
   obtain⟨x,hx⟩:=hf.op.1 ho;rw[hx] at hk
   cases hk with
   |begins _ _ _ hn=>exact hn
  refine⟨?_,?_,Aa⟩
  ·split
   ·next hc=>
    have hx:=hf.cl.1 hc;have:=qi hx;omega
   ·trivial
  ·obtain⟨f1,f2,-,-,-⟩:=hf
   generalize aY st.length p stop last=r at *
   cases r with
   |wrong a e=>cases hk
   |empty=>
    have c:D9 p=false:=by simpa using f1
    have o:xx p=false:=by simpa using f2
    rw[c,o];rfl
   |attr x=>
    have c:D9 p=false:=by simpa using f1
    have o:xx p=false:=by simpa using f2
    rw[c,o];simp[dJ,iq]
   |begins x=>
    have c:D9 p=false:=by simpa using f1
    have o:xx p=true:=f2.2 ⟨x,rfl⟩;rw[c,o];simp[dJ]
   |bare x=>
    have c:D9 p=false:=by simpa using f1
    have o:xx p=false:=by simpa using f2
    rw[c,o];simp[dJ,iq]
   |fin=>
    have c:D9 p=true:=f1.2 rfl;have o:xx p=false:=by simpa using f2
    rw[c,o];simp[dJ,iq]
def n0(t:ag):ag:=⟨t.kind,t.text,0⟩
theorem KG:KT n0:=fun _=>⟨rfl,rfl⟩
def PV(a b:oL):Prop:=(∃e x y,a=.wrong x e/\b=.wrong y e)\/a=b
theorem KW(f:ag->ag)(row:List ag)(s s2:Int)(last:Bool)(i:Nat):PV (dZ (row.map f) s2 last i) (dZ row s last i):=by
 unfold dZ;rw[List.getElem?_map]
 cases row[i]? with
 |some t=>exact .inl ⟨_,_,_,rfl,rfl⟩
 |none=>cases last<;>exact .inl ⟨_,_,_,rfl,rfl⟩
theorem xJ{f:ag->ag}(hf:KT f)(n:Nat)(row:List ag)(s s2:Int)(last:Bool):PV (aY n (row.map f) s2 last) (aY n row s last):=by
 cases row with
 |nil=>exact .inr rfl
 |cons t r=>
  have e1:=oo hf (t::r);have e2:=KW f (t::r) s s2 last;simp only[List.map_cons] at e1 e2;simp only[List.map_cons,aY,e1,oo hf,(hf t).1,(hf t).2,List.length_cons,List.length_map];split
  ·split
   ·exact e2 _
   ·split
    ·exact e2 _
    ·exact .inr rfl
  ·split
   ·exact e2 _
   ·split
    ·unfold jI
     rw[<-List.map_cons,<-List.map_drop,Kt hf,List.length_map,List.getElem?_map];split
     ·exact e2 _
     ·split
      ·exact .inr rfl
      ·cases (t::r)[2+(gp ((t::r).drop 2)).2.1]? with
       |some t=>exact .inl ⟨_,_,_,rfl,rfl⟩
       |none=>exact .inr rfl
    ·unfold fE
     rw[<-List.map_cons];simp only[<-List.map_drop,Dw hf,oo hf,List.length_map,List.getElem?_map];split
     ·exact e2 _
     ·split
      ·cases (t::r)[1+(fA ((t::r).drop 1)).length]? with
       |some t=>exact .inl ⟨_,_,_,rfl,rfl⟩
       |none=>exact .inr rfl
      ·split
       ·exact .inr rfl
       ·split
        ·exact e2 _
        ·split
         ·exact e2 _
         ·exact .inr rfl
theorem KR{n:Nat}{row:List ag}{s s2:Int}{last last2:Bool}:(∃a e b e2,e≠0/\e2≠0/\aY n (row.map n0) s2 last2=.wrong a e/\aY n row s last=.wrong b e2)\/aY n (row.map n0) s2 last2=aY n row s last:=by
 rcases xI n row s s last last2 with h|⟨a,e,h1,h2⟩
 ·rcases xJ KG n row s s2 last2 with ⟨e,x,y,h3,h4⟩|h3
  ·rcases vO n row s last2 with ⟨a,e',h5,h6⟩|h5
   ·rw[h4] at h6
    cases h6
    exact .inl ⟨_,_,_,_,h5,h5,h3,by rw[<-h,h4]⟩
   ·rw[h4] at h5;cases h5
  ·exact .inr (by rw[h3,h])
 ·rcases xI n row s s last2 last with h3|⟨b,e2,h3,h4⟩
  ·rcases xJ KG n row s s2 last2 with ⟨e3,x,y,h5,h6⟩|h5
   ·rw[<-h3,h2] at h6
    cases h6
    exact .inl ⟨_,_,_,_,h1,h1,h5,h2⟩
   ·rw[<-h3,h2] at h5
    exact .inl ⟨_,_,_,_,h1,h1,h5,h2⟩
  ·rcases xJ KG n row s s2 last2 with ⟨e3,x,y,h5,h6⟩|h5
   ·rw[h4] at h6
    cases h6
    exact .inl ⟨_,_,_,_,h3,h1,h5,h2⟩
   ·rw[h4] at h5
    exact .inl ⟨_,_,_,_,h3,h1,h5,h2⟩
theorem wU(st:List bA)(row:List ag)(s s2:Int)(last last2:Bool):((bB st row s last).2.2=0↔(bB st (row.map n0) s2 last2).2.2=0)/\(bB st row s last).1=(bB st (row.map n0) s2 last2).1:=by
 rw[iW,iW];rcases KR (n:=st.length) (row:=row) (s:=s) (s2:=s2) (last:=last) (last2:=last2) with ⟨a,e,b,e2,h1,h2,h3,h4⟩|h
 ·rw[h3,h4]
  exact⟨⟨fun h=>absurd h h2,fun h=>absurd h h1⟩,rfl⟩
 ·rw[h];exact⟨Iff.rfl,rfl⟩
def dM:List (List ag)->List bA->Option (List bA)
 |[],st=>some st
 |r::l,st=>if (bB st (fw r) 0 true).2.2=0 then dM l (bB st (fw r) 0 true).1 else none
def vC(a:Bs):List ag:=(aG a 0).1.map n0
def iO(l:Bs):List (List ag):=(jH l).map vC
theorem vV(a:Bs)(p:Nat):(aG a p).1.map n0=vC a/\((aG a p).2.2=(aG a 0).2.2):=by
 have h:=uC a.length a 0 p lz;rw[Nat.zero_add] at h;rw[h];refine⟨?_,rfl⟩;unfold vC;simp only[List.map_map];rfl
theorem wZ(r:List ag):fw (r.map n0)=(fw r).map n0:=by
 unfold fw;rw[List.filter_map];rfl
theorem sO(a b:List ag):fw (a++b)=fw a++fw b:=List.filter_append ..
theorem pO(t:ag):dB t=true↔t.kind=6\/t.kind=7:=by unfold dB;simp
theorem Dr(size:Int)(t:ag)(r:List ag)(st:List bA)(row:List ag)(h5:t.kind≠5):bN size (t::r) st row=if t.kind=6\/t.kind=7 then bN size r st row else bN size r st (row++[t]):=by
 rw[bN,if_neg h5]
theorem uU(size:Int)(x:ByteArray)(q:Int)(tb:List ag):∀(ta:List ag) (st:List bA) (row:List ag),(∀t∈ta,t.kind≠5)->
  bN size (ta++⟨5,x,q⟩::tb) st row=if (bB st (row++fw ta) q false).2.2≠0 then ([],(bB st (row++fw ta) q false).2) else bN size tb (bB st (row++fw ta) q false).1 []
 | [],st,row,_=>by
  rw[List.nil_append,bN,if_neg (by show ¬((5:Int)=6\/(5:Int)=7);decide),if_pos rfl];simp[fw]
 | t::ta,st,row,h=>by
  have h5:=h t (by simp);have ih:=fun r=>uU size x q tb ta st r (fun u hu=>h u (by simp[hu]));rw[List.cons_append,bN]
  by_cases h6:t.kind=6\/t.kind=7
  ·rw[if_pos h6,ih,show fw (t::ta)=fw ta by unfold fw;rw[List.filter_cons_of_neg (by rw[(pO t).2 h6];decide)]]
  ·have hc:dB t=false:=by rw[<-Bool.not_eq_true];exact fun e=>h6 ((pO t).1 e)
   rw[if_neg h6,if_neg h5,ih,show fw (t::ta)=t::fw ta by unfold fw;rw[List.filter_cons_of_pos (by rw[hc];rfl)]];simp
theorem uV(size:Int):∀(ta:List ag) (st:List bA) (row:List ag),(∀t∈ta,t.kind≠5)->bN size ta st row=bN size [] st (row++fw ta)
 |[],st,row,_=>by simp[fw]
 | t::ta,st,row,h=>by
  have h5:=h t (by simp);have ih:=fun r=>uV size ta st r (fun u hu=>h u (by simp[hu]));rw[Dr size t ta st row h5]
  by_cases h6:t.kind=6\/t.kind=7
  ·rw[if_pos h6,ih,show fw (t::ta)=fw ta by unfold fw;rw[List.filter_cons_of_neg (by rw[(pO t).2 h6];decide)]]
  ·have hc:dB t=false:=by rw[<-Bool.not_eq_true];exact fun e=>h6 ((pO t).1 e)
   rw[if_neg h6,ih,show fw (t::ta)=t::fw ta by unfold fw;rw[List.filter_cons_of_pos (by rw[hc];rfl)]];simp
theorem Fv(size:Int)(l:Bs):∀(p:Nat) (st:List bA),(aG l p).2.2=0->st≠[]->
  ((bN size (aG l p).1 st []).2.2=0/\∃x,dM (iO l) st=some [x]/\bN size (aG l p).1 st []=(x.items,-1,0))\/((bN size (aG l p).1 st []).2.2≠0/\∀x,dM (iO l) st≠some [x]):=by
 refine tL (P:=fun l=>∀(p:Nat) (st:List bA),(aG l p).2.2=0->st≠[]->
  ((bN size (aG l p).1 st []).2.2=0/\∃x,dM (iO l) st=some [x]/\bN size (aG l p).1 st []=(x.items,-1,0))\/((bN size (aG l p).1 st []).2.2≠0/\∀x,dM (iO l) st≠some [x])) ?_ ?_ l
 ·intro a ha p st h hs
  rw[uV _ _ _ _ (gz a.length a p lz ha),List.nil_append,bN];unfold iO;rw[nM a ha,List.map_singleton,dM,dM];have hn:=wU st (fw (aG a p).1) size 0 true true;rw[<-wZ,(vV a p).1] at hn;have Aa:=pg hs (fw (vC a)) 0 true;rw[hn.2]
  by_cases h0:(bB st (fw (aG a p).1) size true).2.2=0
  ·rw[if_neg (fun q=>q h0),if_pos (hn.1.1 h0)]
   generalize (bB st (fw (vC a)) 0 true).1=S at *
   match S,Aa with
   |[x],_=>exact .inl ⟨rfl,x,rfl,rfl⟩
   |x::y::S,_=>exact .inr ⟨by simp,fun z hz=>by simp at hz⟩
  ·rw[if_pos h0,if_neg (fun q=>h0 (hn.1.2 q))]
   exact .inr ⟨h0,fun z hz=>by cases hz⟩
 ·intro a b ha ih p st h hs
  obtain⟨h1,h2,h3⟩:=qj a b p h;rw[h3];simp only;rw[uU _ _ _ _ _ _ _ (gz a.length a p lz ha),List.nil_append];unfold iO;rw[ou a b ha,List.map_cons,dM];have hn:=wU st (fw (aG a p).1) ((p+a.length:Nat):Int) 0 false true;rw[<-wZ,(vV a p).1] at hn;have Aa:=pg hs (fw (vC a)) 0 true
  by_cases h0:(bB st (fw (aG a p).1) ((p+a.length:Nat):Int) false).2.2=0
  ·rw[if_neg (fun q=>q h0),if_pos (hn.1.1 h0),hn.2]
   exact ih _ _ h2 Aa
  ·rw[if_pos h0,if_neg (fun q=>h0 (hn.1.2 q))]
   exact .inr ⟨h0,fun z hz=>by cases hz⟩
theorem rJ(l:Bs):((bT l).2.2=0/\(aG l 0).2.2=0/\∃x,dM (iO l) [bW]=some [x]/\bT l=(x.items,-1,0))\/((bT l).2.2≠0/\((aG l 0).2.2=0->∀x,dM (iO l) [bW]≠some [x])):=by
 by_cases h:(aG l 0).2.2=0
 ·rw[zN h]
  rcases Fv l.length l 0 [bW] h (by simp) with ⟨h1,h2⟩|⟨h1,h2⟩
  ·exact .inl ⟨h1,h,h2⟩
  ·exact .inr ⟨h1,fun _=>h2⟩
 ·rw[rO h]
  exact .inr ⟨h,fun q=>absurd q h⟩
end Go.Proofs.YtbcdaaobbebooaaGreatDoor
namespace Go.Proofs.YtbcdaaobbebooaaGreatDoor
def Pf:List (Nat×ag)->Bs->Prop
 |[],_=>True
 |x::r,s=>yG x.2/\OI x.2 (gU r++s)/\Pf r s
def kQ:List (Nat×ag)->Nat->List ag
 |[],_=>[]
 |x::r,p=>⟨x.2.kind,x.2.text,((p+x.1:Nat):Int)⟩::kQ r (p+x.1+(mP x.2).length)
theorem wY:∀(P:List (Nat×ag)) (p:Nat),(kQ P p).map n0=P.map (fun x=>n0 x.2)
 |[],_=>rfl
 |x::r,p=>by simp only[kQ,List.map_cons,wY r];rfl
theorem lF(x:Nat×ag)(r:List (Nat×ag)):gU (x::r)=nS x.1++(mP x.2++gU r):=by
 simp[gU,Ps]
theorem xK:∀(n:Nat) (l:Bs) (p:Nat),aG (nS n++l) p=aG l (p+n)
 |0,l,p=>by simp[nS]
 | n+1,l,p=>by
  have e:nS (n+1)++l=32::(nS n++l):=by simp[nS,List.replicate_succ]
  rw[e,bO rfl,xK n l (p+1)]
  congr 1
  omega
theorem rP:∀(P:List (Nat×ag)) (s:Bs) (p:Nat),Pf P s->aG (gU P++s) p=(kQ P p++(aG s (p+(gU P).length)).1,(aG s (p+(gU P).length)).2)
 |[],s,p,_=>by simp[gU,kQ]
 | x::r,s,p,h=>by
  obtain⟨h1,h2,h3⟩:=h;obtain⟨k,hk,ho⟩:=Fh h1 h2;obtain⟨c,t,rest,k2,e,hb,-,-⟩:=h1;have ih:=rP r s (p+x.1+(mP x.2).length) h3;rw[lF,List.append_assoc,xK,List.append_assoc];rw[e,List.cons_append] at ho ⊢;rw[di hb ho];have e2:(c::(t++(gU r++s))).take (c::t).length=c::t:=by rw[<-List.cons_append,List.take_left]
  have e3:(c::(t++(gU r++s))).drop (c::t).length=gU r++s:=by rw[<-List.cons_append,List.drop_left]
  rw[e2,e3,<-e,ih,kQ];have e4:p+x.1+(mP x.2).length+(gU r).length=p+(nS x.1++(mP x.2++gU r)).length:=by simp[nS];omega
  rw[e4];have e5:ay (mP x.2)=x.2.text:=(vL _).symm;rw[e5,<-hk];rfl
theorem mX{t:ag}(h:yG t):∃c r,mP t=c::r/\bG c=false/\(t.kind=1->jO c=true)/\(t.kind=2->dg c=true)/\(t.kind=3->c=34)/\(t.kind=4->(mP t).length=1\/(mP t).length=2):=by
 obtain⟨c,r,Ab,k,e,hb,hk,ho⟩:=h;refine⟨c,r,e,hb,?_⟩;rw[e] at ho ⊢;rw[List.cons_append] at ho;rw[hk]
 have Aa:∀(q:Bs) (k2 m:Nat),fP q k2=.tok k m->k=k2:=fun q k2 m h=>by
  unfold fP at h;split at h
  ·cases h
  ·injection h with h _;exact h.symm
 have Ac:∀n:Nat,k=n->∀m:Nat,m≠n->((k:Int)=(m:Int)->False):=fun n h m hm h2=>by omega
 rw[dN] at ho;split at ho
 ·next hc=>
  injection ho with hk1 _
  exact⟨fun _=>hc,fun q=>absurd q (by omega),fun q=>absurd q (by omega),fun q=>absurd q (by omega)⟩
 split at ho
 ·next hg=>
  have:k=2:=by
   unfold l9 at ho;split at ho
   ·injection ho with q _;exact q.symm
   ·cases ho
  exact⟨fun q=>absurd q (by omega),fun _=>hg,fun q=>absurd q (by omega),fun q=>absurd q (by omega)⟩
 split at ho
 ·next hq=>
  have:k=3:=by
   unfold nz at ho;split at ho
   ·injection ho with q _;exact q.symm
   ·cases ho
  exact⟨fun q=>absurd q (by omega),fun q=>absurd q (by omega),fun _=>hq,fun q=>absurd q (by omega)⟩
 split at ho
 ·injection ho with q _
  exact⟨fun q=>absurd q (by omega),fun q=>absurd q (by omega),fun q=>absurd q (by omega),fun q=>absurd q (by omega)⟩
 split at ho
 ·have:=Aa _ _ _ ho
  exact⟨fun q=>absurd q (by omega),fun q=>absurd q (by omega),fun q=>absurd q (by omega),fun q=>absurd q (by omega)⟩
 split at ho
 ·have:k=7:=by
   unfold dS at ho;split at ho
   ·cases ho
   ·split at ho
    ·cases ho
    ·exact Aa _ _ _ ho
  exact⟨fun q=>absurd q (by omega),fun q=>absurd q (by omega),fun q=>absurd q (by omega),fun q=>absurd q (by omega)⟩
 split at ho
 ·cases ho
 ·next h0=>
  injection ho with q hn
  refine⟨fun q=>absurd q (by omega),fun q=>absurd q (by omega),fun q=>absurd q (by omega),fun _=>?_⟩;rw[<-hn];unfold zw at h0 ⊢;split
  ·exact .inr rfl
  ·next hd=>
   simp only at h0 ⊢;rw[if_neg hd] at h0;split
   ·exact .inl rfl
   ·next h2=>rw[if_neg h2] at h0;exact absurd rfl h0
theorem kK{t:ag}{L:Bs}(h:aM t L=true):t.kind=4/\∃c∈L,mP t=[c]:=by
 unfold aM at h;rw[Bool.and_eq_true,decide_eq_true_eq] at h;refine⟨h.1,?_⟩;have h2:=h.2;split at h2
 ·next c hc=>exact⟨c,by simpa using h2,hc⟩
 ·cases h2
theorem lM{t:ag}{c:UInt8}{b:Bs}(ht:yG t)(h6:t.kind≠6)(h1:M9 c=false)(h2:c≠46\/bC b=0)(h3:c≠61/\c≠38/\c≠124/\c≠47/\c≠42)(h4:c≠69/\c≠101/\c≠43/\c≠45):OI t (c::b):=by
 have hd:dg c=false:=by unfold M9 at h1;simp only[Bool.or_eq_false_iff] at h1;exact h1.2
 refine⟨fun _=>by simp[uf,h1],fun _=>⟨by simp[bC,hd],?_,?_,?_⟩,fun h=>?_,fun h=>absurd h h6⟩
 ·rw[bX]
  rw[if_neg];rintro⟨q,q2⟩;rcases h2 with h2|h2
  ·exact h2 q
  ·rw[h2] at q2;exact absurd q2 (by decide)
 ·rw[iF,if_neg]
  rintro⟨q,-⟩;rcases q with q|q
  ·first|exact h4.1 q|exact h4.2.1 q
  ·first|exact h4.1 q|exact h4.2.1 q
 ·rw[mQ,if_neg]
  rintro (q|q)
  ·first|exact h4.2.2.1 q|exact h4.2.2.2 q
  ·first|exact h4.2.2.1 q|exact h4.2.2.2 q
 ·obtain⟨x,r,e,-,-,-,-,hl⟩:=mX ht
  rcases hl h with hl|hl
  ·right
   rw[e] at hl;have:r=[]:=List.eq_nil_of_length_eq_zero (by simpa using hl);subst this;exact⟨x,e,.inl (by simp[h3])⟩
  ·exact .inl hl
theorem MM{t:ag}{s:Bs}(ht:yG t)(hs:s=[]\/∃b,s=10::b):OI t s:=by
 refine⟨fun _=>?_,fun _=>?_,fun h=>?_,fun _=>hs⟩
 ·rcases hs with rfl|⟨b,rfl⟩
  ·rfl
  ·simp[uf,show M9 10=false from rfl]
 ·rcases hs with rfl|⟨b,rfl⟩
  ·exact⟨rfl,rfl,rfl,rfl⟩
  ·exact AJ b
 ·obtain⟨x,r,e,-,-,-,-,hl⟩:=mX ht
  rcases hl h with hl|hl
  ·right
   rw[e] at hl;have:r=[]:=List.eq_nil_of_length_eq_zero (by simpa using hl);subst this;refine⟨x,e,.inl ?_⟩;rcases hs with rfl|⟨b,rfl⟩<;>simp
  ·exact .inl hl
end Go.Proofs.YtbcdaaobbebooaaGreatDoor
