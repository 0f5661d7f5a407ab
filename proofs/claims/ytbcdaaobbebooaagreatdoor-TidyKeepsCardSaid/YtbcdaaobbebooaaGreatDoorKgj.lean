import Derived.Test.YtbcdaaobbebooaaGreatDoorKgi
set_option linter.unusedSimpArgs false
set_option linter.unusedVariables false
set_option maxRecDepth 100000
set_option maxHeartbeats 20000000
namespace Go.Proofs.YtbcdaaobbebooaaGreatDoor
def kX(g:Nat->Nat):Nat->List ag->List (Nat×ag)
 |_,[]=>[]
 |i,t::r=>(g i,t)::kX g (i+1) r
theorem Bl(g:Nat->Nat):∀(i:Nat) (l:List ag),(kX g i l).map (fun x=>n0 x.2)=l.map n0
 |_,[]=>rfl
 |i,t::r=>by simp only[kX,List.map_cons,Bl g (i+1) r]
theorem vS(g:Nat->Nat):∀(i:Nat) (l:List ag),(kX g i l).length=l.length
 |_,[]=>rfl
 |i,t::r=>by simp only[kX,List.length_cons,vS g (i+1) r]
theorem xD:∀(l:List ag) (g:Nat->Nat) (i:Nat),l.mapIdx (fun j t=>(g (i+j),t))=kX g i l
 |[],_,_=>rfl
 | t::r,g,i=>by
  rw[List.mapIdx_cons,kX,<-xD r g (i+1)];simp only[Nat.add_zero,List.cons.injEq,true_and]
  congr 1
  funext j t
  rw[show i+(j+1)=i+1+j by omega]
theorem A9(row:List ag)(ind:Nat):yX row ind=kX (oI row ind) 0 row:=by
 rw[<-xD];unfold yX;simp
structure uO(l:List ag):Prop where
 told:∀t∈l,yG t
 line:∀t∈l,t.kind≠5
 rem:∀(a b:List ag) (t:ag),l=a++t::b->t.kind=6->b=[]
 ch:qz (fw l)=true
theorem LD:∀(x:List ag) (a b:ag) (y:List ag),qz (x++a::b::y)=true->vE a b=true
 |[],a,b,y,h=>by simp only[List.nil_append,qz,Bool.and_eq_true] at h;exact h.1
 | [c],a,b,y,h=>by
  simp only[List.cons_append,List.nil_append,qz,Bool.and_eq_true] at h;exact h.2.1
 | c::d::x,a,b,y,h=>by
  simp only[List.cons_append,qz,Bool.and_eq_true] at h;exact LD (d::x) a b y h.2
theorem uO.adj{l:List ag}(h:uO l){x:List ag}{a b:ag}{y:List ag}(e:l=x++a::b::y)(ha:dB a=false)(hb:dB b=false):vE a b=true:=by
 have hc:=h.ch
 have:fw l=fw x++a::b::fw y:=by
  rw[e];unfold fw;rw[List.filter_append,List.filter_cons_of_pos (by rw[ha];rfl),List.filter_cons_of_pos (by rw[hb];rfl)]
 rw[this] at hc;exact LD _ a b _ hc
theorem DI{x:List ag}{a b:ag}{y:List ag}:qE (x++a::b::y) (x.length+1)=DF a b (yC (x++a::b::y) x.length):=by
 rw[qE];have e1:(x++a::b::y)[x.length]?=some a:=by rw[List.getElem?_append_right lz,Nat.sub_self];rfl
 have e2:(x++a::b::y)[x.length+1]?=some b:=by
  rw[List.getElem?_append_right (by omega),show x.length+1-x.length=1 by omega];rfl
 rw[e1,e2]
theorem zZ{a b:ag}{m:Bool}(h:DF a b m=0):dB a=false/\dB b=false/\
  (aM a [40,91,46,45,123]=true\/aM b [41,93,44,46]=true\/(aM b [40]=true/\a.kind=1)\/(aM b [91]=true/\(gX a=true\/aM a [41,93]=true))\/aM a [33]=true):=by
 unfold DF at h;split at h
 ·cases h
 next h0=>
 rw[Bool.or_eq_true,not_or] at h0;refine⟨by simpa using h0.1,by simpa using h0.2,?_⟩
 have hw:∀(L:Bs),(∀c∈L,c∈([40,91,46,45,123]:Bs))->aM a L=true->aM a [40,91,46,45,123]=true:=fun L hL hq=>by
  obtain⟨h4,c,hc,he⟩:=kK hq;unfold aM;unfold mP at he;rw[he,decide_eq_true h4]
  simpa using hL c hc
 split at h
 ·next h1=>
  rw[Bool.or_eq_true] at h1;rcases h1 with h1|h1
  ·exact .inl (hw _ (by decide) h1)
  ·exact .inr (.inl h1)
 split at h
 ·next h1=>
  rw[Bool.and_eq_true,decide_eq_true_eq] at h1;exact .inr (.inr (.inl h1))
 split at h
 ·next h1=>
  rw[Bool.and_eq_true,Bool.or_eq_true] at h1;exact .inr (.inr (.inr (.inl h1)))
 split at h
 ·next h1=>
  rw[Bool.or_eq_true,Bool.and_eq_true] at h1;rcases h1 with h1|h1
  ·exact .inr (.inr (.inr (.inr h1)))
  ·exact .inl (hw _ (by decide) h1.1)
 split at h
 ·next h1=>
  rw[Bool.and_eq_true] at h1;exact .inl (hw _ (by decide) h1.1)
 ·cases h
theorem LB{t:ag}(h:dB t=false):t.kind≠6/\t.kind≠7:=by
 unfold dB at h
 simpa using h
theorem zO{c:UInt8}(h:jO c=true\/dg c=true):c≠61/\c≠38/\c≠124/\c≠47/\c≠42:=by
 refine⟨?_,?_,?_,?_,?_⟩
 all_goals
  intro e;subst e
  revert h
  decide
theorem Mk{t:ag}(ht:yG t)(h:EC t=true):∃c r,mP t=c::r/\c≠61/\c≠38/\c≠124/\c≠47/\c≠42:=by
 unfold EC at h;rw[Bool.or_eq_true] at h;rcases h with h|h
 ·obtain⟨c,r,e,-,h1,h2,h3,-⟩:=mX ht
  refine⟨c,r,e,?_⟩;unfold gX at h;simp only[Bool.or_eq_true,decide_eq_true_eq] at h;rcases h with h|h|h
  ·exact zO (.inl (h1 h))
  ·exact zO (.inr (h2 h))
  ·rw[h3 h];decide
 ·obtain⟨-,c,hc,e⟩:=kK h
  refine⟨c,[],e,?_⟩;simp only[List.mem_cons,List.not_mem_nil,or_false] at hc;rcases hc with rfl|rfl|rfl|rfl<;>decide
theorem Lp{c:UInt8}{r:Bs}(h:jO c=true):bC (c::r)=0:=by
 have:dg c=false:=by
  unfold jO at h;unfold dg Jm;simp only[Bool.or_eq_true,decide_eq_true_eq] at h;have:c.toNat<256:=UInt8.toNat_lt c;simp
  omega
 simp[bC,this]
section
variable {l:List ag} {g:Nat->Nat} {s:Bs}
theorem Mo(h:uO l)(hg:∀i,1<=i->i<l.length->g i=0->qE l i=0)(hs:s=[]\/∃b,s=10::b){x:List ag}{t:ag}{r:List ag}(e:l=x++t::r):OI t (gU (kX g (x.length+1) r)++s):=by
 have ht:yG t:=h.told t (by rw[e];simp)
 cases r with
 |nil=>exact MM ht hs
 |cons u r=>
  have h6:t.kind≠6:=fun q=>by have:=h.rem x (u::r) t e q;cases this
  have Ae:l.length=x.length+2+r.length:=by rw[e];simp;omega
  rw[kX,lF,List.append_assoc]
  cases hgi:g (x.length+1) with
  |succ n=>
   have e2:nS (n+1)=32::nS n:=by simp[nS,List.replicate_succ]
   rw[e2,List.cons_append];exact lM ht h6 rfl (.inl (by decide)) (by decide) (by decide)
  |zero=>
   have hz:=hg (x.length+1) (by omega) (by omega) hgi;rw[e,DI] at hz;obtain⟨c1,c2,Ak⟩:=zZ hz;clear hz;have Ab:=h.adj e c1 c2;have hu:yG u:=h.told u (by rw[e];simp);have e2:nS 0=[]:=rfl;rw[e2,List.nil_append,List.append_assoc];obtain⟨k6,k7⟩:=LB c1
   have Af:∀L:Bs,aM t L=true->(∀c∈L,c≠61/\c≠33/\c≠60/\c≠62/\c≠38/\c≠124/\c≠47)->∀b,OI t b:=fun L hL hc b=>by
    obtain⟨h4,c,hm,he⟩:=kK hL;exact⟨fun q=>by omega,fun q=>by omega,fun _=>.inr ⟨c,he,.inr (hc c hm)⟩,fun q=>absurd q h6⟩
   rcases Ak with hz|hz|⟨hz,hk⟩|⟨hz,hk⟩|hz
   ·exact Af _ hz (by decide) _
   ·obtain⟨-,c,hc,he⟩:=kK hz
    rw[he,List.singleton_append]
    have Ah:c≠46\/bC (gU (kX g (x.length+1+1) r)++s)=0:=by
     by_cases hc46:c=46
     ·right
      subst hc46
      cases r with
      |nil=>
       rcases hs with rfl|⟨b,rfl⟩
       ·rfl
       ·simp[kX,gU,bC,show dg 10=false from rfl]
      |cons v r=>
       rw[kX,lF,List.append_assoc]
       cases hgj:g (x.length+1+1) with
       |succ n=>
        have e3:nS (n+1)=32::nS n:=by simp[nS,List.replicate_succ]
        rw[e3,List.cons_append];simp[bC,show dg 32=false from rfl]
       |zero=>
        have e':l=(x++[t])++u::v::r:=by rw[e];simp
        have Ag:=hg (x.length+1+1) (by omega) (by rw[Ae];simp) hgj;have Ai:x.length+1+1=(x++[t]).length+1:=by simp
        rw[Ai,e',DI] at Ag;obtain⟨-,c3,-⟩:=zZ Ag;have Aa:=h.adj e' c2 c3
        have Ad:gH u qD=true:=by
         unfold gH;rw[decide_eq_true (kK hz).1,decide_eq_true (kg he)];rfl
        have Aj:v.kind=1:=by
         unfold vE at Aa;rw[Bool.and_eq_true,Ad] at Aa
         simpa using Aa.1
        obtain⟨c',r',e4,-,hl,-⟩:=mX (h.told v (by rw[e'];simp));have e5:nS 0=[]:=rfl;rw[e5,List.nil_append,e4,List.cons_append,List.cons_append];exact Lp (hl Aj)
     ·exact .inl hc46
    simp only[List.mem_cons,List.not_mem_nil,or_false] at hc;rcases hc with rfl|rfl|rfl|rfl
    ·exact lM ht h6 rfl (.inl (by decide)) (by decide) (by decide)
    ·exact lM ht h6 rfl (.inl (by decide)) (by decide) (by decide)
    ·exact lM ht h6 rfl (.inl (by decide)) (by decide) (by decide)
    ·exact lM ht h6 rfl (Ah.imp id id) (by decide) (by decide)
   ·obtain⟨-,c,hc,he⟩:=kK hz
    simp only[List.mem_cons,List.not_mem_nil,or_false] at hc;subst hc;rw[he,List.singleton_append];exact lM ht h6 rfl (.inl (by decide)) (by decide) (by decide)
   ·obtain⟨-,c,hc,he⟩:=kK hz
    simp only[List.mem_cons,List.not_mem_nil,or_false] at hc;subst hc;rw[he,List.singleton_append];exact lM ht h6 rfl (.inl (by decide)) (by decide) (by decide)
   ·obtain⟨h4,c,hc,he⟩:=kK hz
    simp only[List.mem_cons,List.not_mem_nil,or_false] at hc;subst hc
    have Ac:gH t dz=true:=by
     unfold gH;rw[decide_eq_true h4,decide_eq_true (kg he)];rfl
    unfold vE at Ab;rw[Bool.and_eq_true,Ac] at Ab;obtain⟨c',r',e4,q1,q2,q3,q4,q5⟩:=Mk hu (by simpa using Ab.2);rw[e4,List.cons_append];exact⟨fun q=>by omega,fun q=>by omega,fun _=>.inr ⟨33,he,.inl (by simp[q1,q2,q3,q4,q5])⟩,fun q=>absurd q h6⟩
theorem rD(h:uO l)(hg:∀i,1<=i->i<l.length->g i=0->qE l i=0)(hs:s=[]\/∃b,s=10::b):∀(r x:List ag),l=x++r->Pf (kX g x.length r) s
 |[],_,_=>trivial
 | t::r,x,e=>by
  refine⟨h.told t (by rw[e];simp),Mo h hg hs e,?_⟩;have:=rD h hg hs r (x++[t]) (by rw[e];simp)
  rwa [List.length_append,List.length_singleton] at this
theorem MW(h:uO l)(hg:∀i,1<=i->i<l.length->g i=0->qE l i=0)(b:Bs)(p:Nat) :
  aG (gU (kX g 0 l)++10::b) p=(kQ (kX g 0 l) p++⟨5,ay [10],((p+(gU (kX g 0 l)).length:Nat):Int)⟩::(aG b (p+(gU (kX g 0 l)).length+1)).1,(aG b (p+(gU (kX g 0 l)).length+1)).2):=by
 rw[rP _ _ _ (show Pf (kX g 0 l) (10::b) from rD h hg (.inr ⟨b,rfl⟩) l [] rfl)];have ho:dN (10::b)=.tok 5 1:=by simp[dN,show jO 10=false from rfl,show dg 10=false from rfl]
 rw[di rfl ho];rfl
end
end Go.Proofs.YtbcdaaobbebooaaGreatDoor
namespace Go.Proofs.YtbcdaaobbebooaaGreatDoor
open Go.RowKit Go.Tab
def Gr(n:Nat)(r:List ag):Nat:=(if oN r then n-1 else n)+(if mq r then 1 else 0)
def Ig:List (List ag)->Nat->Prop
 |[],_=>True
 |r::l,n=>(oN r=true->1<=n)/\Gr n r<=64/\Ig l (Gr n r)
theorem yt{n:Nat}{r:List ag}(h:oN r=true->1<=n):gD n r=((if oN r then n-1 else n:Nat):Int):=by
 unfold gD
 cases hc:oN r with
 |true=>have:=h hc;simp;omega
 |false=>simp
theorem xy{n:Nat}{r:List ag}(h:oN r=true->1<=n):eZ n r=(Gr n r:Int):=by
 unfold eZ Gr;rw[yt h];cases mq r<;>simp
theorem zy:∀(l:List (List ag)) (st S:List bA),st≠[]->st.length<=65->dM l st=some S->Ig l (st.length-1)/\∀r∈l,oN r=true->mq r=false
 |[],st,S,_,_,_=>⟨trivial,fun r h=>by cases h⟩
 | r::l,st,S,hs,hst,h=>by
  rw[dM] at h
  by_cases h0:(bB st (fw r) 0 true).2.2=0
  ·rw[if_pos h0] at h
   obtain⟨r',h1,h2,h3,h4,h5,h6⟩:=zC h0 hs;have hl:=List.length_pos_iff.2 hs
   have hx:(bB st (fw r) 0 true).1.length-1=Gr (st.length-1) r:=by
    rw[h5];unfold Gr;rw[GU,Kv];cases hc:D9 (fw r)<;>cases ho:xx (fw r)<;>simp[hc] at h4 ⊢<;>omega
   have Aa:0<(bB st (fw r) 0 true).1.length/\(bB st (fw r) 0 true).1.length<=65:=by
    rw[h5];cases hc:D9 (fw r)<;>cases ho:xx (fw r)<;>simp[hc,ho] at h4 h6 ⊢<;>omega
   obtain⟨i1,i2⟩:=zy l _ S (List.length_pos_iff.1 Aa.1) Aa.2 h;rw[hx] at i1
   have Ab:oN r=true->mq r=false:=by
    intro hc;rw[GU] at hc;obtain⟨t,ht⟩:=h2.facts.fin (h2.facts.cl.1 hc);rw[Kv,ht];rw[ht] at hc
    cases hq:xx [t] with
    |false=>rfl
    |true=>
     simp only[D9,xx] at hc hq;have hc:gH t nW=true:=by simpa using hc
     have hq:gH t ut=true:=by simpa using hq
     have:=lU (v:=nW) (w:=ut) hc (by decide);rw[hq] at this;cases this
   refine⟨⟨fun hc=>?_,by rw[<-hx];omega,i1⟩,fun q hq=>?_⟩
   ·rw[GU] at hc
    rw[hc] at h4;simp at h4
    omega
   ·rcases List.mem_cons.1 hq with rfl|hq
    ·exact Ab
    ·exact i2 q hq
  ·rw[if_neg h0] at h;cases h
theorem zz:∀(l:List (List ag)) (n:Nat) (x:List ag) (q:List (List ag)),Ig l n->dF l=x::q->(oN x=true->1<=n)/\Gr n x<=64/\Ig q (Gr n x)
 |[],n,x,q,_,h=>by cases h
 | []::l,n,x,q,hr,h=>by
  rw[dF] at h;exact zz l n x q hr.2.2 h
 | (t::r)::l,n,x,q,hr,h=>by
  rw[dF] at h;cases h
  exact hr
theorem GH{t:ag}{v:ByteArray}(h:gH t v=true):dB t=false:=by
 cases hc:dB t with
 |false=>rfl
 |true=>
  have:=(pO t).1 hc;unfold gH at h;simp at h
  omega
theorem Dv{r:List ag}(h:jS r=true):mq r=true/\fw r≠[]:=by
 unfold jS at h
 cases hg:r.getLast? with
 |none=>rw[hg] at h;cases h
 |some t=>
  rw[hg] at h
  obtain⟨l,rfl⟩:∃l,r=l++[t]:=by
   have Aa:r≠[]:=by rintro rfl;cases hg
   rw[List.getLast?_eq_some_getLast Aa] at hg;exact⟨r.dropLast,by rw[<-Option.some.inj hg,List.dropLast_concat_getLast]⟩
  have hp:fw (l++[t])=fw l++[t]:=by rw[sO];simp[fw,GH h]
  unfold mq;rw[hp,List.getLast?_concat];exact⟨h,by simp⟩
theorem DD{r:List ag}(h:oG r=true):oN r=true/\fw r≠[]:=by
 cases r with
 |nil=>cases h
 |cons t q=>
  have h:gH t nW=true:=h;have hp:fw (t::q)=t::fw q:=by simp[fw,GH h]
  unfold oN;rw[hp];exact⟨h,by simp⟩
theorem Nk{a b:List ag}(h:fw a≠[]):oN (a++b)=oN a:=by
 unfold oN;rw[sO]
 cases hp:fw a with
 |nil=>exact absurd hp h
 |cons t q=>rfl
theorem MH{a b:List ag}(h:fw b≠[]):mq (a++b)=mq b:=by
 unfold mq;rw[sO,List.getLast?_append]
 cases hp:(fw b).getLast? with
 |none=>exact absurd (List.getLast?_eq_none_iff.1 hp) h
 |some t=>rfl
theorem Bj:∀(f:Nat) (gap:Bool) (l:List (List ag)) (n:Nat) (pv:Option Bool),Ig l n->(∀r∈l,oN r=true->mq r=false)->n<=64->∀q∈jM (eU f gap l) n pv,0<=q.dep/\q.dep<=64
 |0,_,l,n,pv,_,_,_,q,hq=>by cases hq
 |f+1,_,[],n,pv,_,_,_,q,hq=>by cases hq
 | f+1,gap,[]::l,n,pv,hr,hc,hn,q,hq=>by
  rw[eU] at hq;exact Bj f true l n pv hr.2.2 (fun r h=>hc r (by simp[h])) hn q hq
 | f+1,gap,(t::r)::l,n,pv,hr,hc,hn,q,hq=>by
  rw[eU,jM] at hq;simp only at hq
  have key:∃n2 l2,ql (t::r) l=((ql (t::r) l).1,l2)/\eZ n (ql (t::r) l).1=((n2:Nat):Int)/\n2<=64/\Ig l2 n2/\(∀r∈l2,oN r=true->mq r=false)/\oN (ql (t::r) l).1=oN (t::r):=by
   unfold ql
   by_cases hl:jS (t::r)=true
   ·rw[if_pos hl]
    cases hd:dF l with
    |nil=>exact⟨Gr n (t::r),l,rfl,xy hr.1,hr.2.1,hr.2.2,fun r h=>hc r (by simp[h]),rfl⟩
    |cons x q2=>
     simp only
     by_cases hh:oG x=true
     ·rw[if_pos hh]
      obtain⟨d1,d2,d3⟩:=zz l _ x q2 hr.2.2 hd;obtain⟨o1,o2⟩:=Dv hl;obtain⟨c1,c2⟩:=DD hh;have Ab:x∈l:=(ji hd).2.2 x (.inl rfl);have ox:mq x=false:=hc x (by simp[Ab]) c1;have Aa:=Nk (a:=t::r) (b:=x) o2;refine⟨Gr (Gr n (t::r)) x,q2,rfl,?_,d2,d3,fun r h=>hc r (by simp[(ji hd).2.2 r (.inr h)]),Aa⟩;unfold eZ;rw[MH c2,ox];have:gD n (t::r++x)=gD n (t::r):=by unfold gD;rw[Aa]
      rw[if_neg (by simp),this,yt hr.1];unfold Gr;rw[o1,c1,ox];simp
     ·rw[if_neg hh]
      exact⟨Gr n (t::r),l,rfl,xy hr.1,hr.2.1,hr.2.2,fun r h=>hc r (by simp[h]),rfl⟩
   ·rw[if_neg hl]
    exact⟨Gr n (t::r),l,rfl,xy hr.1,hr.2.1,hr.2.2,fun r h=>hc r (by simp[h]),rfl⟩
  obtain⟨n2,l2,e1,e2,h1,h2,h3,h4⟩:=key;rw[e1] at hq;simp only[e2] at hq;rcases List.mem_append.1 hq with hq|hq
  ·split at hq
   ·rw[List.mem_singleton.1 hq];exact⟨by decide,by decide⟩
   ·cases hq
  ·rcases List.mem_cons.1 hq with rfl|hq
   ·simp only
    have:gD n (ql (t::r) l).1=gD n (t::r):=by unfold gD;rw[h4]
    rw[this,yt hr.1];cases oN (t::r)<;>simp<;>omega
   ·exact Bj f false l2 n2 _ h2 h3 h1 q hq
end Go.Proofs.YtbcdaaobbebooaaGreatDoor
namespace Go.Proofs.YtbcdaaobbebooaaGreatDoor
theorem xL:∀(l r:Bs) (p:Nat),(∀x∈l,bG x=true)->aG (l++r) p=aG r (p+l.length)
 |[],r,p,_=>rfl
 | c::l,r,p,h=>by
  rw[List.cons_append,bO (h c (by simp)),xL l r (p+1) (fun x hx=>h x (by simp[hx])),List.length_cons]
  congr 1
  omega
end Go.Proofs.YtbcdaaobbebooaaGreatDoor
namespace Go.Proofs.YtbcdaaobbebooaaGreatDoor
abbrev m0(r:List ag):List ag:=r.map n0
theorem KV(r:List ag):jS (m0 r)=jS r:=by
 unfold jS;rw[List.getLast?_map];cases r.getLast?<;>rfl
theorem La(r:List ag):oG (m0 r)=oG r:=by cases r<;>rfl
theorem Ou(r:List ag):oN (m0 r)=oN r:=by
 unfold oN;rw[wZ];cases fw r<;>rfl
theorem N7(r:List ag):mq (m0 r)=mq r:=by
 unfold mq;rw[wZ,List.getLast?_map];cases (fw r).getLast?<;>rfl
theorem D5:∀l:List (List ag),dF (l.map m0)=(dF l).map m0
 |[]=>rfl
 | []::l=>by
  rw[List.map_cons,show m0 ([]:List ag)=[] from rfl,dF,dF];exact D5 l
 |(t::q)::l=>rfl
theorem Oc(r:List ag)(l:List (List ag)):ql (m0 r) (l.map m0)=(m0 (ql r l).1,(ql r l).2.map m0):=by
 unfold ql;rw[KV,D5];split
 ·cases dF l with
  |nil=>rfl
  |cons x q=>
   simp only[List.map_cons,La];split
   ·simp[m0]
   ·rfl
 ·rfl
def OD(f:vH):vH:=⟨m0 f.toks,f.after⟩
def Pp(r:aI):aI:=⟨m0 r.toks,r.dep⟩
theorem BG:∀(n:Nat) (gap:Bool) (l:List (List ag)),eU n gap (l.map m0)=(eU n gap l).map OD
 |0,_,_=>rfl
 |n+1,_,[]=>rfl
 | n+1,gap,[]::l=>by
  rw[List.map_cons,show m0 ([]:List ag)=[] from rfl,eU,eU];exact BG n true l
 | n+1,gap,(t::q)::l=>by
  have h:=Oc (t::q) l;rw[List.map_cons,show m0 (t::q)=n0 t::m0 q from rfl,eU,eU,<-show m0 (t::q)=n0 t::m0 q from rfl,h,List.map_cons,BG n false];rfl
theorem Gw:∀(l:List vH) (d:Int) (pv:Option Bool),jM (l.map OD) d pv=(jM l d pv).map Pp
 |[],_,_=>rfl
 | f::l,d,pv=>by
  have e1:oN (OD f).toks=oN f.toks:=Ou _;have e2:mq (OD f).toks=mq f.toks:=N7 _;have e3:gD d (OD f).toks=gD d f.toks:=by unfold gD;rw[e1]
  have e4:eZ d (OD f).toks=eZ d f.toks:=by unfold eZ;rw[e2,e3]
  rw[List.map_cons,jM,jM,e1,e2,e3,e4,Gw l,List.map_append,List.map_cons]
  congr 1
  show (if f.after&&(pv.isSome&&(!oN f.toks&&pv != some true)) then [(⟨[],0⟩:aI)] else [])=_;split<;>rfl
theorem Ci(l:List (List ag)):dx (l.map m0)=(dx l).map Pp:=by
 unfold dx;rw[List.length_map,BG,Gw]
theorem Ag:∀l:List (List ag),dF (l++[[]])=if dF l=[] then [] else dF l++[[]]
 |[]=>rfl
 | []::l=>by
  rw[List.cons_append,dF,dF];exact Ag l
 | (t::q)::l=>by
  rw[List.cons_append,dF,dF];simp
theorem M5(r:List ag)(l:List (List ag)):ql r (l++[[]])=((ql r l).1,(ql r l).2++[[]]):=by
 unfold ql;rw[Ag];split
 ·cases dF l with
  |nil=>rfl
  |cons x q=>
   simp only[List.cons_append,reduceCtorEq,if_false];split<;>rfl
 ·rfl
theorem Bw(r:List ag)(l:List (List ag)):(ql r l).2.length<=l.length:=by
 unfold ql;split
 ·cases hd:dF l with
  |nil=>exact Nat.le_refl _
  |cons x q=>
   have:=(ji hd).2.1;simp only;split
   ·simp only;omega
   ·exact Nat.le_refl _
 ·exact Nat.le_refl _
theorem yl:∀(n m:Nat) (gap:Bool) (l:List (List ag)),l.length<=n->l.length+1<=m->eU m gap (l++[[]])=eU n gap l
 |n,0,_,_,_,h=>by omega
 | n,m+1,gap,[],_,_=>by
  rw[List.nil_append,eU];cases m<;>cases n<;>rfl
 |0,m+1,gap,r::l,h,_=>by simp at h
 | n+1,m+1,gap,[]::l,h1,h2=>by
  simp only[List.length_cons] at h1 h2;rw[List.cons_append,eU,eU];exact yl n m true l (by omega) (by omega)
 | n+1,m+1,gap,(t::q)::l,h1,h2=>by
  simp only[List.length_cons] at h1 h2;have:=Bw (t::q) l;rw[List.cons_append,eU,eU,M5];simp only;rw[yl n m false _ (by omega) (by omega)]
theorem Hr(l:List (List ag)):dx (l++[[]])=dx l:=by
 unfold dx;rw[yl l.length _ false l lz (by simp)]
theorem Gh:∀(ls:List Bs) (p:Nat) (o:Int),ls.map vC=(iP ls p o).map (fun r=>m0 r.toks)\/ls.map vC=(iP ls p o).map (fun r=>m0 r.toks)++[[]]
 |[],_,_=>.inl rfl
 | [a],p,o=>by
  rw[iP]
  by_cases h:a=[]
  ·subst h
   right
   rw[if_pos rfl];rfl
  ·left
   rw[if_neg h];show [vC a]=[(aG a p).1.map n0];rw[(vV a p).1]
 | a::b::r,p,o=>by
  have e:m0 (qF o (aG a p).1 p ((p+a.length:Nat):Int)).toks=vC a:=(vV a p).1;rw[iP,List.map_cons (l:=b::r),List.map_cons (f:=fun r:j6=>m0 r.toks),e];rcases Gh (b::r) (p+a.length+1) (eZ o (aG a p).1) with h|h
  ·left;rw[h]
  ·right;rw[h];rfl
theorem Gg{l:Bs}(h:(aG l 0).2.2=0):iO l=((bV l).map (·.toks)).map m0\/iO l=((bV l).map (·.toks)).map m0++[[]]:=by
 rw[List.map_map,mo h];exact Gh (jH l) 0 0
theorem Mi{l:Bs}(h:(aG l 0).2.2=0):(dx ((bV l).map (·.toks))).map Pp=dx (iO l):=by
 rcases Gg h with e|e
 ·rw[e,Ci]
 ·rw[e,Hr,Ci]
theorem IW{l:Bs}(h:(bT l).2.2=0):(aG l 0).2.2=0/\∃x,dM (iO l) [bW]=some [x]:=by
 rcases rJ l with ⟨_,h2,x,h3,_⟩|⟨h1,_⟩
 ·exact⟨h2,x,h3⟩
 ·exact absurd h h1
end Go.Proofs.YtbcdaaobbebooaaGreatDoor
namespace Go.Proofs.YtbcdaaobbebooaaGreatDoor
theorem zQ{u:ag}(h:u.kind≠3):∀r:List ag,fA (r++[u])=fA r
 |[]=>by simp[fA,h]
 | t::r=>by
  simp only[List.cons_append,fA,zQ h r]
theorem GD{r:List ag}(h:r≠[])(x:List ag)(w:ByteArray):bK (r++x) w=bK r w:=by
 cases r with
 |nil=>exact absurd rfl h
 |cons t r=>rfl
theorem Fy{n:Nat}{p:List ag}{s s2:Int}{la la2:Bool}{x:bA}{u:ag}(h:aY n p s la=.begins x)(hu:gH u nW=true):aY n (p++[u]) s2 la2=.bare x:=by
 have Ae:u.kind=4:=by unfold gH at hu;simp at hu;exact hu.1
 have Aa:∀(row:List ag) (i:Nat),dZ row s la i≠.begins x:=fun row i=>by
  unfold dZ;split
  ·simp
  ·split<;>simp
 cases p with
 |nil=>cases h
 |cons t r=>
  rw[aY] at h;split at h
  ·split at h
   ·exact absurd h (Aa _ _)
   ·split at h
    ·exact absurd h (Aa _ _)
    ·cases h
  next h1=>
  split at h
  ·exact absurd h (Aa _ _)
  next h2=>
  split at h
  ·unfold jI at h
   split at h
   ·exact absurd h (Aa _ _)
   ·split at h
    ·cases h
    ·split at h<;>cases h
  next h3=>
  unfold fE at h;simp only[List.drop_succ_cons,List.drop_zero] at h;split at h
  ·exact absurd h (Aa _ _)
  next h4=>
  split at h
  ·split at h<;>cases h
  next h5=>
  split at h
  ·next h6=>
   injection h with hx
   have h4:bK ((t::r).drop (1+(fA r).length)) ut=true:=by simpa using h4
   have Ab:(t::r).drop (1+(fA r).length)≠[]:=by intro e;rw[e] at h4;cases h4
   have Ac:r≠[]:=by
    rintro rfl;simp[fA] at Ab
   rw[List.cons_append,aY];have e1:bK (t::(r++[u])) nW=bK (t::r) nW:=rfl;rw[e1,if_neg h1,if_neg h2,GD Ac,if_neg h3];unfold fE;simp only[List.drop_succ_cons,List.drop_zero,zQ (show u.kind≠3 by omega)]
   have Ad:1+(fA r).length<=(t::r).length:=by
    have:=List.length_pos_iff.2 Ab;rw[List.length_drop] at this;omega
   have e2:(t::(r++[u])).drop (1+(fA r).length)=(t::r).drop (1+(fA r).length)++[u]:=by
    rw[<-List.cons_append,List.drop_append_of_le_length Ad]
   have e3:(r++[u]).drop (1+(fA r).length)=[u]:=by
    have:r.length=1+(fA r).length:=by simpa using h6
    rw[<-this,List.drop_left]
   have e4:bK [u] nW=true:=hu
   have e5:(t::(r++[u])).length=1+(fA r).length+2:=by
    simp only[List.length_cons,List.length_append,List.length_nil] at h6 ⊢;omega
   rw[e2,GD Ab,h4,if_neg (by decide),if_neg h5,e5,if_neg (by omega),e3,e4,if_neg (by decide),if_neg (by omega),hx]
  next h6=>
  split at h
  ·exact absurd h (Aa _ _)
  ·split at h
   ·exact absurd h (Aa _ _)
   ·cases h
theorem lJ(l:List (List ag))(st:List bA):dM ([]::l) st=dM l st:=by
 rw[dM];have:bB st (fw []) 0 true=(st,0,0):=rfl;rw[this,if_pos rfl]
theorem wL:∀(l:List (List ag)) (st:List bA),dM (dF l) st=dM l st
 |[],_=>rfl
 |[]::l,st=>by rw[dF,lJ];exact wL l st
 |(t::q)::l,_=>rfl
theorem nu{r:List ag}{l:List (List ag)}{st:List bA}(hs:st≠[])(h:(dM (r::l) st).isSome=true) :
  ∃k,aY st.length (fw r) 0 true=k/\yI st.length (fw r) k/\dM (r::l) st=dM l (dJ st k).1/\(dJ st k).1≠[]/\(dM l (dJ st k).1).isSome=true:=by
 rw[dM] at h ⊢
 by_cases h0:(bB st (fw r) 0 true).2.2=0
 ·rw[if_pos h0] at h ⊢
  obtain⟨k,h1,h2,h3,-⟩:=zC h0 hs;have Aa:=pg hs (fw r) 0 true;rw[h3] at h ⊢;rw[h3] at Aa;exact⟨k,h1,h2,rfl,Aa,h⟩
 ·rw[if_neg h0] at h;cases h
theorem Gf{r:List ag}{l:List (List ag)}{st:List bA}{k:oL}(h:aY st.length (fw r) 0 true=k)(hk:(dJ st k).2.2=0):dM (r::l) st=dM l (dJ st k).1:=by
 rw[dM,iW,h,if_pos hk]
theorem Mq{n:Nat}{p:List ag}{k:oL}(h:yI n p k)(st:List bA):(dJ st k).2.2=0:=by cases h<;>rfl
theorem xQ{a x:List ag}{l q:List (List ag)}{st:List bA}(hs:st≠[])(h:(dM (a::l) st).isSome=true)(ha:jS a=true)(hd:dF l=x::q)(hx:oG x=true) :
  ∃y u,aY st.length (fw a) 0 true=.begins y/\fw x=[u]/\gH u nW=true/\dM (a::l) st=dM q (dJ st (.bare y)).1/\(dJ st (.bare y)).1≠[]/\(dM q (dJ st (.bare y)).1).isSome=true:=by
 obtain⟨k,h1,h2,h3,h4,h5⟩:=nu hs h;obtain⟨o1,o2⟩:=Dv ha;rw[Kv] at o1;obtain⟨y,rfl⟩:=h2.facts.op.1 o1;rw[<-wL l,hd] at h3 h5;obtain⟨k2,g1,g2,g3,g4,g5⟩:=nu h4 h5;obtain⟨c1,c2⟩:=DD hx;rw[GU] at c1;have Aa:=g2.facts.cl.1 c1;subst Aa;obtain⟨u,hu⟩:=g2.facts.fin rfl;rw[hu] at c1;have e:(dJ st (.begins y)).1=st++[y]:=rfl;rw[e,wT] at g3 g4 g5;rw[e] at h3;exact⟨y,u,h1,hu,c1,by rw[h3,g3],g4,g5⟩
theorem sI:∀(n:Nat) (gap:Bool) (l:List (List ag)) (st:List bA),l.length<=n->st≠[]->(dM l st).isSome=true->dM ((eU n gap l).map (·.toks)) st=dM l st
 | 0,_,l,st,hn,_,_=>by
  obtain rfl:=List.eq_nil_of_length_eq_zero (Nat.le_zero.1 hn);rfl
 |n+1,_,[],st,_,_,_=>rfl
 | n+1,gap,[]::l,st,hn,hs,h=>by
  rw[lJ] at h ⊢;rw[eU];exact sI n true l st (by simpa using hn) hs h
 | n+1,gap,(t::q)::l,st,hn,hs,h=>by
  simp only[List.length_cons] at hn;rw[eU,List.map_cons];simp only
  have hplain:dM ((t::q)::(eU n false l).map (·.toks)) st=dM ((t::q)::l) st:=by
   obtain⟨k,h1,h2,h3,h4,h5⟩:=nu hs h;rw[h3,Gf h1 (Mq h2 st)];exact sI n false l _ (by omega) h4 h5
  unfold ql
  by_cases hl:jS (t::q)=true
  ·rw[if_pos hl]
   cases hd:dF l with
   |nil=>exact hplain
   |cons x q2=>
    simp only
    by_cases hx:oG x=true
    ·rw[if_pos hx]
     obtain⟨y,u,h1,h2,h3,h4,h5,h6⟩:=xQ hs h hl hd hx;have hj:=Fy (s2:=0) (la2:=true) h1 h3;rw[<-h2,<-sO] at hj;rw[h4];rw[Gf hj rfl];exact sI n false q2 _ (by have:=(ji hd).2.1;omega) h5 h6
    ·rw[if_neg hx];exact hplain
  ·rw[if_neg hl];exact hplain
structure lY(l:List ag):Prop where
 told:∀t∈l,yG t
 line:∀t∈l,t.kind≠5
 rem:∀(a b:List ag) (t:ag),l=a++t::b->t.kind=6->b=[]
 nl:∀t∈l,10∉mP t
theorem lY.row{l:List ag}(h:lY l)(hc:qz (fw l)=true):uO l:=⟨h.told,h.line,h.rem,hc⟩
theorem lY.nil:lY []:=⟨fun t h=>(by cases h),fun t h=>(by cases h),fun a b t h=>(by simp at h),fun t h=>(by cases h)⟩
theorem I9{l:List ag}(h:jS l=true):∃p t,l=p++[t]/\gH t ut=true:=by
 rcases List.eq_nil_or_concat l with rfl|⟨p,t,rfl⟩
 ·cases h
 ·rw[List.concat_eq_append] at h ⊢
  unfold jS at h;rw[List.getLast?_concat] at h;exact⟨p,t,rfl,h⟩
theorem lY.join{a x:List ag}(h1:lY a)(h2:lY x)(ha:jS a=true):lY (a++x):=by
 refine⟨fun t h=>(List.mem_append.1 h).elim (h1.told t) (h2.told t),fun t h=>(List.mem_append.1 h).elim (h1.line t) (h2.line t),fun p b t e h6=>?_,fun t h=>(List.mem_append.1 h).elim (h1.nl t) (h2.nl t)⟩;rcases List.append_eq_append_iff.1 e with ⟨c,e1,e2⟩|⟨c,e1,e2⟩
 ·exact h2.rem c b t e2 h6
 ·cases c with
  |nil=>exact h2.rem [] b t (by simpa using e2.symm) h6
  |cons d c=>
   simp only[List.cons_append,List.cons.injEq] at e2;obtain⟨rfl,e3⟩:=e2;have hc:c=[]:=h1.rem p c t e1 h6;subst hc;obtain⟨p2,u,e4,hu⟩:=I9 ha;rw[e1] at e4
   have:t=u:=by
    have:=congrArg List.getLast? e4
    simpa using this
   subst this;unfold gH at hu;simp at hu
   omega
theorem tJ:∀(n:Nat) (gap:Bool) (l:List (List ag)) (st:List bA),l.length<=n->st≠[]->(dM l st).isSome=true->(∀r∈l,lY r)->∀f∈eU n gap l,lY f.toks/\uO f.toks/\f.toks≠[]
 |0,_,l,st,hn,_,_,_=>by intro f hf;cases hf
 |n+1,_,[],st,_,_,_,_=>by intro f hf;cases hf
 | n+1,gap,[]::l,st,hn,hs,h,hr=>by
  rw[lJ] at h;rw[eU];exact tJ n true l st (by simpa using hn) hs h (fun r q=>hr r (by simp[q]))
 | n+1,gap,(t::q)::l,st,hn,hs,h,hr=>by
  simp only[List.length_cons] at hn;rw[eU];have h0:=hr (t::q) (by simp)
  have hplain:∀f∈(⟨t::q,gap⟩:vH)::eU n false l,lY f.toks/\uO f.toks/\f.toks≠[]:=by
   obtain⟨k,h1,h2,h3,h4,h5⟩:=nu hs h;intro f hf;rcases List.mem_cons.1 hf with rfl|hf
   ·exact⟨h0,h0.row h2.facts.ch,by simp⟩
   ·exact tJ n false l _ (by omega) h4 h5 (fun r q=>hr r (by simp[q])) f hf
  unfold ql
  by_cases hl:jS (t::q)=true
  ·rw[if_pos hl]
   cases hd:dF l with
   |nil=>exact hplain
   |cons x q2=>
    simp only
    by_cases hx:oG x=true
    ·rw[if_pos hx]
     obtain⟨y,u,h1,h2,h3,h4,h5,h6⟩:=xQ hs h hl hd hx;have Ac:=(ji hd).2.2;have Ad:=hr x (by simp[Ac x (.inl rfl)]);have hj:=h0.join Ad hl;intro f hf;rcases List.mem_cons.1 hf with rfl|hf
     ·refine⟨hj,hj.row ?_,by simp⟩
      rw[sO,h2];obtain⟨k,g1,g2,-⟩:=nu hs h;rw[h1] at g1;subst g1;have Aa:=g2.facts.op.2 ⟨y,rfl⟩;have Ab:=g2.facts.ch;rcases List.eq_nil_or_concat (fw (t::q)) with e|⟨p,b,e⟩
      ·rw[e] at Aa;cases Aa
      ·rw[List.concat_eq_append] at e
       rw[e] at Aa Ab ⊢;unfold xx at Aa;rw[List.getLast?_concat] at Aa;rw[List.append_assoc];exact BI p b u [] Ab rfl (LW Aa (by decide) (by decide))
     ·exact tJ n false q2 _ (by have:=(ji hd).2.1;omega) h5 h6 (fun r q=>hr r (by simp[Ac r (.inr q)])) f hf
    ·rw[if_neg hx];exact hplain
  ·rw[if_neg hl];exact hplain
theorem yo:∀l:List (List ag),(dF l).flatten=l.flatten
 |[]=>rfl
 |[]::l=>by rw[dF,yo l];rfl
 |(t::q)::l=>rfl
theorem yj:∀(n:Nat) (gap:Bool) (l:List (List ag)),l.length<=n->((eU n gap l).map (·.toks)).flatten=l.flatten
 | 0,_,l,hn=>by
  obtain rfl:=List.eq_nil_of_length_eq_zero (Nat.le_zero.1 hn);rfl
 |n+1,_,[],_=>rfl
 | n+1,gap,[]::l,hn=>by
  rw[eU,yj n true l (by simpa using hn)];rfl
 | n+1,gap,(t::q)::l,hn=>by
  simp only[List.length_cons] at hn;have hj:=Bw (t::q) l;rw[eU,List.map_cons,List.flatten_cons,yj n false _ (by omega),List.flatten_cons];simp only;unfold ql;split
  ·cases hd:dF l with
   |nil=>rfl
   |cons x q2=>
    simp only;split
    ·rw[<-yo l,hd];simp
    ·rfl
  ·rfl
theorem Dk:∀(F:List vH) (d:Int) (pv:Option Bool),((jM F d pv).map (·.toks)).flatten=(F.map (·.toks)).flatten
 |[],_,_=>rfl
 | f::F,d,pv=>by
  rw[jM,List.map_append,List.flatten_append,List.map_cons,List.flatten_cons,Dk F,List.map_cons,List.flatten_cons];split<;>rfl
theorem Cr:∀(F:List vH) (d:Int) (pv:Option Bool) (st:List bA),dM ((jM F d pv).map (·.toks)) st=dM (F.map (·.toks)) st
 |[],_,_,_=>rfl
 | f::F,d,pv,st=>by
  have h:∀st,dM (f.toks::(jM F (eZ d f.toks) (some (mq f.toks))).map (·.toks)) st=dM (f.toks::F.map (·.toks)) st:=fun st=>by
   rw[dM,dM,Cr F]
  rw[jM,List.map_append,List.map_cons,List.map_cons];split
  ·show dM ([]::_) st=_
   rw[lJ];exact h st
  ·exact h st
theorem Gt:∀(F:List vH) (d:Int) (pv:Option Bool),∀r∈jM F d pv,r.toks=[]\/∃f∈F,f.toks=r.toks
 |[],_,_=>by intro r hr;cases hr
 | f::F,d,pv=>by
  intro r hr;rw[jM] at hr;rcases List.mem_append.1 hr with hr|hr
  ·split at hr
   ·rw[List.mem_singleton.1 hr];exact .inl rfl
   ·cases hr
  ·rcases List.mem_cons.1 hr with rfl|hr
   ·exact .inr ⟨f,by simp,rfl⟩
   ·rcases Gt F _ _ r hr with h|⟨g,h1,h2⟩
    ·exact .inl h
    ·exact .inr ⟨g,by simp[h1],h2⟩
theorem Ez{l:List (List ag)}{st:List bA}(hs:st≠[])(h:(dM l st).isSome=true)(hr:∀r∈l,lY r) :
  (∀r∈dx l,lY r.toks/\uO r.toks)/\((dx l).map (·.toks)).flatten=l.flatten/\dM ((dx l).map (·.toks)) st=dM l st:=by
 unfold dx;refine⟨fun r hm=>?_,by rw[Dk,yj _ _ _ lz],by rw[Cr,sI _ _ _ _ lz hs h]⟩;rcases Gt _ _ _ r hm with e|⟨f,h1,h2⟩
 ·rw[e];exact⟨lY.nil,lY.nil.row rfl⟩
 ·have:=tJ _ _ _ _ lz hs h hr f h1
  rw[<-h2];exact⟨this.1,this.2.1⟩
end Go.Proofs.YtbcdaaobbebooaaGreatDoor
namespace Go.Proofs.YtbcdaaobbebooaaGreatDoor
theorem Ew:∀(k:Nat) (l:Bs) (p:Nat),l.length<=k->∀t∈(aG l p).1,∀c∈mP t,c∈l
 |_,[],p,_=>by rw[dH];intro t ht;cases ht
 |0,c::r,p,hk=>by simp at hk
 | k+1,c::r,p,hk=>by
  simp only[List.length_cons] at hk
  cases hb:bG c with
  |true=>
   rw[bO hb];intro t ht x hx;exact List.mem_cons_of_mem _ (Ew k r (p+1) (by omega) t ht x hx)
  |false=>
   cases ho:dN (c::r) with
   |bad o e=>rw[eB hb ho];intro t ht;cases ht
   |tok kd sz=>
    have hs:=dh ho;rw[di hb ho];intro t ht x hx;rcases List.mem_cons.1 ht with rfl|ht
    ·exact List.mem_of_mem_take hx
    ·exact List.mem_of_mem_drop (Ew k _ _ (by rw[List.length_drop,List.length_cons];omega) t ht x hx)
theorem I7(l:Bs)(p:Nat)(h:∀c∈l,bG c=true):(aG l p).1=[]:=by
 have:=xL l [] p h;rw[List.append_nil] at this;rw[this,dH]
theorem Bu:∀(k:Nat) (l:Bs) (p:Nat),l.length<=k->10∉l->∀(a b:List ag) (t:ag),(aG l p).1=a++t::b->t.kind=6->b=[]
 |_,[],p,_,_=>by rw[dH];intro a b t e;simp at e
 |0,c::r,p,hk,_=>by simp at hk
 | k+1,c::r,p,hk,h10=>by
  simp only[List.length_cons] at hk
  cases hb:bG c with
  |true=>
   rw[bO hb];exact Bu k r (p+1) (by omega) (fun q=>h10 (by simp[q]))
  |false=>
   cases ho:dN (c::r) with
   |bad o e=>rw[eB hb ho];intro a b t e2;simp at e2
   |tok kd sz=>
    have hs:=dh ho;rw[di hb ho];intro a b t e h6
    cases a with
    |nil=>
     simp only[List.nil_append,List.cons.injEq] at e;obtain⟨rfl,rfl⟩:=e;have hkd:kd=6:=by have h6:(kd:Int)=6:=h6;omega
     subst hkd
     have hsz:sz=(fQ (c::r)).length:=by
      rw[dN] at ho;split at ho
      ·cases ho
      split at ho
      ·unfold l9 at ho;split at ho<;>cases ho
      split at ho
      ·unfold nz at ho;split at ho<;>cases ho
      split at ho
      ·cases ho
      split at ho
      ·unfold fP at ho
       split at ho
       ·cases ho
       ·injection ho with _ hn;exact hn.symm
      split at ho
      ·unfold dS at ho
       split at ho
       ·cases ho
       ·split at ho
        ·cases ho
        ·unfold fP at ho
         split at ho
         ·cases ho
         ·injection ho with q _;cases q
      split at ho
      ·cases ho
      ·cases ho
     obtain⟨ws,h1,h2,-⟩:=zA (c::r);rw[xH _ h10,List.take_of_length_le lz] at h1;have hq:∀u v:Bs,c::r=u++v->(c::r).drop u.length=v:=fun u v e=>by rw[e,List.drop_left]
     have hd:(c::r).drop sz=ws:=by rw[hsz];exact hq _ _ h1
     rw[hd];exact I7 ws _ h2
    |cons a0 a=>
     simp only[List.cons_append,List.cons.injEq] at e;exact Bu k _ _ (by rw[List.length_drop,List.length_cons];omega) (fun q=>h10 (List.mem_of_mem_drop q)) a b t e.2 h6
theorem Du{a:Bs}(h:10∉a)(p:Nat):lY (aG a p).1:=
 ⟨uD _ a p lz,gz _ a p lz h,Bu _ a p lz h,fun t ht h10=>h (Ew _ a p lz t ht 10 h10)⟩
theorem Ot:∀l:Bs,∀a∈jH l,10∉a:=fun l=>by
 refine tL (P:=fun l=>∀a∈jH l,10∉a) ?_ ?_ l
 ·intro a ha b hb
  rw[nM a ha,List.mem_singleton] at hb;subst hb;exact ha
 ·intro a b ha ih x hx
  rw[ou a b ha] at hx;rcases List.mem_cons.1 hx with rfl|hx
  ·exact ha
  ·exact ih x hx
theorem wP:∀(ls:List Bs) (p:Nat) (o:Int),(∀a∈ls,10∉a)->∀r∈iP ls p o,lY r.toks
 |[],_,_,_=>by intro r hr;cases hr
 | [a],p,o,h=>by
  intro r hr;rw[iP] at hr;split at hr
  ·cases hr
  ·rw[List.mem_singleton.1 hr]
   exact Du (h a (by simp)) p
 | a::b::q,p,o,h=>by
  intro r hr;rw[iP] at hr;rcases List.mem_cons.1 hr with rfl|hr
  ·exact Du (h a (by simp)) p
  ·exact wP (b::q) _ _ (fun x hx=>h x (by simp[hx])) r hr
theorem EH{l:Bs}(h:(aG l 0).2.2=0):∀r∈bV l,lY r.toks:=by
 rw[mo h];exact wP _ _ _ (Ot l)
def gW(W:Nat)(r:aI)(i:Nat):Nat:=if rV r.toks=some i then W-iA (bq r)+1 else oI r.toks r.ind i
def ME(x:Nat×aI):List (Nat×ag):=kX (gW x.1 x.2) 0 x.2.toks
def kU(x:Nat×aI):Bs:=gU (ME x)
def Ma:List aI->List aI->List (Nat×aI)
 |[],run=>run.map fun r=>(kW run,r)
 |r::l,run=>if (rV r.toks).isSome then Ma l (run++[r]) else run.map (fun r=>(kW run,r))++(0,r)::Ma l []
theorem vT(g:Nat->Nat):∀(i:Nat) (a b:List ag),kX g i (a++b)=kX g i a++kX g (i+a.length) b
 |i,[],b=>by simp[kX]
 | i,t::a,b=>by
  rw[List.cons_append,kX,kX,vT g (i+1) a b,List.cons_append,List.length_cons]
  congr 3
  omega
theorem qd{g g':Nat->Nat}:∀(i:Nat) (l:List ag),(∀j,i<=j->j<i+l.length->g j=g' j)->kX g i l=kX g' i l
 |_,[],_=>rfl
 | i,t::l,h=>by
  rw[kX,kX,h i lz (by simp),qd (i+1) l (fun j h1 h2=>h j (by omega) (by simp only[List.length_cons];omega))]
theorem xC(g:Nat->Nat)(i:Nat)(l:List ag)(n:Nat):(kX g i l).take n=kX g i (l.take n):=by
 by_cases h:n<=l.length
 ·conv=>lhs;rw[<-List.take_append_drop n l,vT]
  rw[List.take_left' (by rw[vS,List.length_take];omega)]
 ·rw[List.take_of_length_le (by rw[vS];omega),List.take_of_length_le (by omega)]
theorem KL(g:Nat->Nat)(i:Nat)(l:List ag)(n:Nat)(h:n<=l.length):(kX g i l).drop n=kX g (i+n) (l.drop n):=by
 conv=>lhs;rw[<-List.take_append_drop n l,vT]
 rw[List.drop_left' (by rw[vS,List.length_take];omega),List.length_take,Nat.min_eq_left h]
theorem I1{r:aI}(h:(rV r.toks).isSome=true)(W:Nat):fO W r=kU (W,r)++[10]:=by
 obtain⟨e,he⟩:=Option.isSome_iff_exists.1 h;have Ae:=(pK he).2;have Ad:r.eq=e:=by unfold aI.eq;rw[he];rfl
 unfold fO kU ME;rw[Ad]
 have Aa:r.toks=r.toks.take e++r.toks[e]::r.toks.drop (e+1):=by
  rw[<-List.drop_eq_getElem_cons Ae,List.take_append_drop]
 have Ab:bq r=gU (kX (gW W r) 0 (r.toks.take e)):=by
  unfold bq cu;rw[Ad,A9,List.drop_zero,xC]
  congr 1
  refine qd 0 _ (fun j _ hj=>?_);unfold gW;rw[he,if_neg];intro q;cases q
  rw[List.length_take] at hj;omega
 have Ac:cu r.toks r.ind (e+1) r.toks.length=gU (kX (gW W r) (e+1) (r.toks.drop (e+1))):=by
  unfold cu;rw[A9,xC,List.take_of_length_le lz,KL _ _ _ _ (by omega),Nat.zero_add]
  congr 1
  refine qd _ _ (fun j hj _=>?_);unfold gW;rw[he,if_neg];intro q;cases q
  omega
 have hg:gW W r e=W-iA (bq r)+1:=by unfold gW;rw[if_pos he]
 have Af:(r.toks.take e).length=e:=by rw[List.length_take];omega
 conv=>rhs;rw[Aa,vT,Nat.zero_add,Af,kX,tQ,lF,<-Ab,<-Ac,hg]
 simp only[List.getElem?_eq_getElem Ae,Option.getD_some,List.append_assoc]
theorem KP{r:aI}(h:rV r.toks=none)(W:Nat):vw r=kU (W,r)++[10]:=by
 unfold vw kU ME cu;rw[A9,xC,List.take_of_length_le lz,List.drop_zero]
 congr 2
 refine qd _ _ (fun j _ _=>?_);unfold gW;rw[h,if_neg (by simp)]
def oF(x:Nat×aI):Bs:=kU x++[10]
theorem Cq(run:List aI)(h:∀r∈run,(rV r.toks).isSome=true):mK run=(run.map fun r=>(kW run,r)).flatMap oF/\(run.map fun r=>(kW run,r)).map (·.2)=run:=by
 constructor
 ·unfold mK
  rw[List.flatMap_map]
  have hk:∀q:List aI,(∀r∈q,(rV r.toks).isSome=true)->q.flatMap (fO (kW run))=q.flatMap fun r=>oF (kW run,r):=by
   intro q
   induction q with
   |nil=>intro _;rfl
   |cons r q ih=>
    intro hq;rw[List.flatMap_cons,List.flatMap_cons,ih (fun x hx=>hq x (by simp[hx])),I1 (hq r (by simp))];rfl
  exact hk run h
 ·rw[List.map_map]
  exact List.map_id run
theorem AQ:∀(l run:List aI),(∀r∈run,(rV r.toks).isSome=true)->gP l run=(Ma l run).flatMap oF/\(Ma l run).map (·.2)=run++l
 | [],run,h=>by
  rw[gP,Ma,List.append_nil];exact Cq run h
 | r::l,run,h=>by
  rw[gP,Ma]
  by_cases he:(rV r.toks).isSome=true
  ·rw[if_pos he,if_pos he]
   have ih:=AQ l (run++[r]) (fun x hx=>by
    rcases List.mem_append.1 hx with hx|hx
    ·exact h x hx
    ·rw[List.mem_singleton.1 hx];exact he)
   exact⟨ih.1,by rw[ih.2];simp⟩
  ·rw[if_neg he,if_neg he]
   have ih:=AQ l [] (fun x hx=>by cases hx);have h0:=Cq run h;have hn:rV r.toks=none:=by simpa using he
   rw[List.flatMap_append,List.flatMap_cons,<-ih.1,<-h0.1,List.map_append,List.map_cons,ih.2,h0.2,KP hn 0];exact⟨rfl,by simp⟩
def wD(l:List (List ag)):List (Nat×aI):=Ma (dx l) []
theorem ru(l:List (List ag)):jQ l=(wD l).flatMap oF/\(wD l).map (·.2)=dx l:=by
 have:=AQ (dx l) [] (fun x hx=>by cases hx);exact this
theorem ND(W:Nat)(r:aI):∀i,1<=i->i<r.toks.length->gW W r i=0->qE r.toks i=0:=by
 intro i h1 _ h;unfold gW at h;split at h
 ·omega
 ·unfold oI at h
  rwa [if_neg (by omega)] at h
def Cf:List (Nat×aI)->Nat->List ag
 |[],_=>[]
 |x::l,p=>kQ (ME x) p++⟨5,ay [10],((p+(kU x).length:Nat):Int)⟩::Cf l (p+(kU x).length+1)
theorem KS:∀(l:List (Nat×aI)) (p:Nat),(∀x∈l,uO x.2.toks)->aG (l.flatMap oF) p=(Cf l p,-1,0)
 |[],p,_=>by rw[List.flatMap_nil,dH];rfl
 | x::l,p,h=>by
  have:=MW (h x (by simp)) (ND x.1 x.2) (l.flatMap oF) p;rw[List.flatMap_cons,show oF x=gU (kX (gW x.1 x.2) 0 x.2.toks)++[10] from rfl,List.append_assoc,List.singleton_append,this,KS l _ (fun y hy=>h y (by simp[hy]))];rfl
theorem IZ{x:Nat×aI}(h:lY x.2.toks):10∉kU x:=by
 have hk:∀(g:Nat->Nat) (l:List ag) (i:Nat),(∀t∈l,10∉mP t)->10∉gU (kX g i l):=by
  intro g l
  induction l with
  |nil=>intro i _;simp[kX,gU]
  |cons t l ih=>
   intro i ht;rw[kX,lF];intro hm;rcases List.mem_append.1 hm with hm|hm
   ·unfold nS at hm
    have:=List.eq_of_mem_replicate hm;exact absurd this (by decide)
   ·rcases List.mem_append.1 hm with hm|hm
    ·exact ht t (by simp) hm
    ·exact ih (i+1) (fun u hu=>ht u (by simp[hu])) hm
 exact hk _ _ 0 h.nl
theorem Lv:∀(l:List (Nat×aI)),(∀x∈l,lY x.2.toks)->jH (l.flatMap oF)=l.map kU++[[]]
 |[],_=>rfl
 | x::l,h=>by
  rw[List.flatMap_cons,show oF x=kU x++[10] from rfl,List.append_assoc,List.singleton_append,ou _ _ (IZ (h x (by simp))),Lv l (fun y hy=>h y (by simp[hy]))];rfl
theorem I6{x:Nat×aI}(h:uO x.2.toks):vC (kU x)=m0 x.2.toks:=by
 unfold vC kU ME;have:=rP _ [] 0 (show Pf (kX (gW x.1 x.2) 0 x.2.toks) [] from rD h (ND x.1 x.2) (.inl rfl) x.2.toks [] rfl);rw[List.append_nil] at this;rw[this,dH];simp only[List.append_nil];rw[wY,Bl]
theorem vN:∀(l:List (List ag)) (st:List bA),dM (l.map m0) st=dM l st
 |[],_=>rfl
 | r::l,st=>by
  have h:=wU st (fw r) 0 0 true true;rw[List.map_cons,dM,dM,show fw (m0 r)=(fw r).map n0 from wZ r,<-h.2,vN l]
  by_cases h0:(bB st (fw r) 0 true).2.2=0
  ·rw[if_pos h0,if_pos (h.1.1 h0)]
  ·rw[if_neg h0,if_neg (fun q=>h0 (h.1.2 q))]
theorem uy:∀(l:List (List ag)) (st:List bA),dM (l++[[]]) st=dM l st
 |[],st=>lJ [] st
 |r::l,st=>by rw[List.cons_append,dM,dM,uy l]
theorem Dq{l:Bs}(h:(bT l).2.2=0):(aG l 0).2.2=0/\∃x,dM ((bV l).map (·.toks)) [bW]=some [x]/\bT l=(x.items,-1,0):=by
 rcases rJ l with ⟨-,h0,x,h1,h2⟩|⟨h1,-⟩
 ·refine⟨h0,x,?_,h2⟩
  rcases Gg h0 with q|q
  ·rw[q,vN] at h1;exact h1
  ·rw[q,uy,vN] at h1;exact h1
 ·exact absurd h h1
theorem IX{l:Bs}{x:bA}(h0:(aG l 0).2.2=0)(h:dM (iO l) [bW]=some [x]):bT l=(x.items,-1,0):=by
 rcases rJ l with ⟨-,-,y,h1,h2⟩|⟨-,h1⟩
 ·rw[h] at h1
  cases h1
  exact h2
 ·exact absurd h (h1 h0 x)
theorem rq{l:Bs}(h:(bT l).2.2=0) :
  (∀x∈wD ((bV l).map (·.toks)),lY x.2.toks/\uO x.2.toks)/\aG (jQ ((bV l).map (·.toks))) 0=(Cf (wD ((bV l).map (·.toks))) 0,-1,0)/\
  ((dx ((bV l).map (·.toks))).map (·.toks)).flatten=((bV l).map (·.toks)).flatten/\bT (jQ ((bV l).map (·.toks)))=bT l:=by
 obtain⟨h0,x,h1,h2⟩:=Dq h
 have hR:∀r∈(bV l).map (·.toks),lY r:=fun r hr=>by
  obtain⟨d,hd,rfl⟩:=List.mem_map.1 hr;exact EH h0 d hd
 obtain⟨t1,t2,t3⟩:=Ez (st:=[bW]) (by simp) (by rw[h1];rfl) hR;generalize (bV l).map (·.toks)=L at *;obtain⟨s1,s2⟩:=ru L;have hx:∀x∈wD L,lY x.2.toks/\uO x.2.toks:=fun x hx=>t1 x.2 (by rw[<-s2];exact List.mem_map_of_mem hx)
 have Aa:aG (jQ L) 0=(Cf (wD L) 0,-1,0):=by
  rw[s1];exact KS _ 0 (fun x q=>(hx x q).2)
 refine⟨hx,Aa,t2,?_⟩;rw[h2];refine IX (by rw[Aa]) ?_
 have hN:iO (jQ L)=((dx L).map (·.toks)).map m0++[[]]:=by
  unfold iO;rw[s1,Lv _ (fun x q=>(hx x q).1),List.map_append,List.map_map,<-s2,List.map_map,List.map_map]
  congr 1
  refine List.map_congr_left (fun y hy=>?_);exact I6 (hx y hy).2
 rw[hN,uy,vN,t3,h1]
end Go.Proofs.YtbcdaaobbebooaaGreatDoor
namespace Go.Proofs.YtbcdaaobbebooaaGreatDoor
open Go.RowKit Go.Tab
section
variable (E:dR->List Value->Prop) (S:Value->List ByteArray->Prop) (B:Nat->Prop)
mutual
def lm(w:World):bA->List Value->Prop
 | .mk b n v ls its,cs=>∃vo vt vk lv a cap,cs=[.bool b,.string n,.string vo,.string vt,vk,lv,.slice a its.length cap]/\E v [.string vo,.string vt,vk]/\S lv ls/\
   its.length<=cap/\cap<=maxLen/\(a=none->cap=0)/\∀x,a=some x->its≠[]->x.spot=none/\B x.block/\fJ w x.block x.off its
def fJ(w:World)(b off:Nat):List bA->Prop
 |[]=>True
 |t::r=>(∃cs,(∀j u,cs[j]?=some u->w.cell? ⟨b,off+j,none⟩=some u)/\lm w t cs)/\fJ w b (off+7) r
end
end
section
variable {E E':dR->List Value->Prop} {S S':Value->List ByteArray->Prop} {B B':Nat->Prop} {w w':World}
mutual
theorem lm.map(hE:∀e cs,E e cs->E' e cs)(hS:∀v l,S v l->S' v l)(hB:∀b,B b->B' b)(hc:∀b,B b->∀off u,w.cell? ⟨b,off,none⟩=some u->w'.cell? ⟨b,off,none⟩=some u) :
  ∀(t:bA) (cs:List Value),lm E S B w t cs->lm E' S' B' w' t cs
 | .mk b n v ls its,cs,h=>by
  simp only[lm] at h ⊢;obtain⟨vo,vt,vk,lv,a,cap,h1,h2,h3,h4,h5,h6,h7⟩:=h;refine⟨vo,vt,vk,lv,a,cap,h1,hE _ _ h2,hS _ _ h3,h4,h5,h6,fun x hx hne=>?_⟩;obtain⟨g1,g2,g3⟩:=h7 x hx hne;exact⟨g1,hB _ g2,fJ.map hE hS hB hc g2 its x.off g3⟩
theorem fJ.map(hE:∀e cs,E e cs->E' e cs)(hS:∀v l,S v l->S' v l)(hB:∀b,B b->B' b)(hc:∀b,B b->∀off u,w.cell? ⟨b,off,none⟩=some u->w'.cell? ⟨b,off,none⟩=some u){b:Nat}(hb:B b) :
  ∀(l:List bA) (off:Nat),fJ E S B w b off l->fJ E' S' B' w' b off l
 |[],_,_=>by simp only[fJ]
 | t::r,off,h=>by
  simp only[fJ] at h ⊢;obtain⟨⟨cs,h1,h2⟩,h3⟩:=h;exact⟨⟨cs,fun j u hu=>hc b hb _ _ (h1 j u hu),lm.map hE hS hB hc t cs h2⟩,fJ.map hE hS hB hc hb r _ h3⟩
end
theorem lm.open{b:Bool}{n:ByteArray}{v:dR}{ls:List ByteArray}{its:List bA}{cs:List Value}(h:lm E S B w (.mk b n v ls its) cs) :
  ∃vo vt vk lv a cap,cs=[.bool b,.string n,.string vo,.string vt,vk,lv,.slice a its.length cap]/\E v [.string vo,.string vt,vk]/\S lv ls/\
   its.length<=cap/\cap<=maxLen/\(a=none->cap=0)/\∀x,a=some x->its≠[]->x.spot=none/\B x.block/\fJ E S B w x.block x.off its:=by
 simp only[lm] at h;exact h
theorem lm.len7{t:bA}{cs:List Value}(h:lm E S B w t cs):cs.length=7:=by
 cases t
 obtain⟨_,_,_,_,_,_,rfl,-⟩:=h.open;rfl
theorem fJ.get{b:Nat}:∀{l:List bA} {off:Nat},fJ E S B w b off l->∀k (hk:k<l.length),∃cs,(∀(j:Nat) (u:Value),cs[j]?=some u->w.cell? ⟨b,off+k*7+j,none⟩=some u)/\lm E S B w l[k] cs
 | t::r,off,h,0,_=>by
  simp only[fJ] at h
  simpa using h.1
 | t::r,off,h,k+1,hk=>by
  simp only[fJ] at h;obtain⟨cs,h1,h2⟩:=fJ.get h.2 k (by simpa using hk);refine⟨cs,fun j u hu=>?_,by simpa using h2⟩;rw[<-h1 j u hu]
  congr 2
  omega
theorem fJ.make{b:Nat}:∀(l:List bA) (off:Nat),(∀k (h:k<l.length),∃cs,(∀(j:Nat) (u:Value),cs[j]?=some u->w.cell? ⟨b,off+k*7+j,none⟩=some u)/\lm E S B w l[k] cs)->fJ E S B w b off l
 |[],_,_=>by simp only[fJ]
 | t::r,off,h=>by
  simp only[fJ];constructor
  ·obtain⟨cs,h1,h2⟩:=h 0 (by simp)
   exact⟨cs,fun j u hu=>by have:=h1 j u hu;simpa using this,by simpa using h2⟩
  ·refine fJ.make r (off+7) (fun k hk=>?_)
   obtain⟨cs,h1,h2⟩:=h (k+1) (by simp;omega);refine⟨cs,fun j u hu=>?_,by simpa using h2⟩;rw[<-h1 j u hu]
   congr 2
   omega
end
def Aw(w:World):bA->List Value->Prop:=lm (eu w) (RowOf Value.string w) (fun b=>b<w.heap.size) w
def lZ(P:Nat->Prop)(w:World)(v:Value)(l:List ByteArray):Prop:=RowOf Value.string w v l/\∀k,v.ownBlock=some k->P k/\k<w.heap.size
def aP(P:Nat->Prop)(w:World):bA->List Value->Prop:=lm (af P w) (lZ P w) (fun b=>b<w.heap.size/\P b) w
theorem aP.at{P:Nat->Prop}{w:World}(t:bA)(cs:List Value)(h:aP P w t cs):Aw w t cs:=
 lm.map (fun e cs h=>af.at e cs h) (fun _ _ h=>h.1) (fun _ h=>h.1) (fun _ _ _ _ h=>h) t cs h
theorem lZ.move{P Q:Nat->Prop}{w w':World}(hs:w.heap.size<=w'.heap.size)(hb:∀k,P k->k<w.heap.size->w'.heap[k]?=w.heap[k]?)(hq:∀k,P k->k<w.heap.size->Q k){v:Value}{l:List ByteArray}(h:lZ P w v l):lZ Q w' v l:=
 ⟨h.1.moved hs (fun b off hlt hv=>iB (hb b (h.2 b hv).1 hlt) off),fun k hk=>⟨hq k (h.2 k hk).1 (h.2 k hk).2,Nat.lt_of_lt_of_le (h.2 k hk).2 hs⟩⟩
theorem aP.move{P Q:Nat->Prop}{w w':World}(hs:w.heap.size<=w'.heap.size)(hb:∀k,P k->k<w.heap.size->w'.heap[k]?=w.heap[k]?)(hq:∀k,P k->k<w.heap.size->Q k)(t:bA)(cs:List Value)(h:aP P w t cs):aP Q w' t cs:=
 lm.map (fun e cs h=>af.move hs hb hq e cs h) (fun _ _ h=>h.move hs hb hq) (fun b h=>⟨Nat.lt_of_lt_of_le h.1 hs,hq b h.2 h.1⟩) (fun b h off u hu=>(iB (hb b h.2 h.1) off).trans hu) t cs h
theorem aP.below{P:Nat->Prop}{w w':World}(hb:Below w.heap.size w w')(t:bA)(cs:List Value)(h:aP P w t cs):aP P w' t cs:=
 aP.move hb.size (fun k _ hk=>hb.block k hk) (fun _ h _=>h) t cs h
theorem aP.leaf{P:Nat->Prop}{w:World}{b:Bool}{n:ByteArray}{v:dR}{ls:List ByteArray}{vo vt:ByteArray}{vk lv:Value}(hv:af P w v [.string vo,.string vt,vk])(hl:lZ P w lv ls) :
  aP P w (.mk b n v ls []) [.bool b,.string n,.string vo,.string vt,vk,lv,.slice none 0 0]:=by
 unfold aP;simp only[lm];exact⟨vo,vt,vk,lv,none,0,rfl,hv,hl,Nat.le_refl _,Nat.zero_le _,fun _=>rfl,fun x hx=>by cases hx⟩
theorem lZ.nil{P:Nat->Prop}{w:World}:lZ P w (.slice none 0 0) []:=⟨RowOf.nil,fun k hk=>by cases hk⟩
def dU(w:World)(v:Value)(l:List bA):Prop:=∃a cap,v=.slice a l.length cap/\l.length<=cap/\cap<=maxLen/\(a=none->cap=0)/\
 ∀x,a=some x->l≠[]->x.spot=none/\x.block<w.heap.size/\fJ (eu w) (RowOf Value.string w) (fun b=>b<w.heap.size) w x.block x.off l
theorem dU.below{w w':World}{v:Value}{l:List bA}(h:dU w v l)(hb:Below w.heap.size w w'):dU w' v l:=by
 obtain⟨a,Aa,h1,h2,h3,h4,h5⟩:=h;refine⟨a,Aa,h1,h2,h3,h4,fun x hx hne=>?_⟩;obtain⟨g1,g2,g3⟩:=h5 x hx hne;exact⟨g1,Nat.lt_of_lt_of_le g2 hb.size,fJ.map (fun e cs h=>eu.below hb e cs h) (fun _ _ h=>h.below hb lz) (fun b (h:b<w.heap.size)=>Nat.lt_of_lt_of_le h hb.size) (fun b (hlt:b<w.heap.size) off u hu=>(hb.cell (p:=⟨b,off,none⟩) hlt).trans hu) g2 _ _ g3⟩
theorem dU.len{w:World}{v:Value}{l:List bA}(h:dU w v l):∃a cap,v=.slice a l.length cap/\l.length<=cap/\cap<=maxLen/\(a=none->cap=0):=by
 obtain⟨a,cap,h1,h2,h3,h4,-⟩:=h;exact⟨a,cap,h1,h2,h3,h4⟩
theorem dU.get{w:World}{a:Option Addr}{n cap:Nat}{l:List bA}(h:dU w (.slice a n cap) l){k:Nat}(hk:k<l.length) :
  ∃b off cs,a=some ⟨b,off,none⟩/\b<w.heap.size/\(∀(j:Nat) (u:Value),cs[j]?=some u->w.cell? ⟨b,off+k*7+j,none⟩=some u)/\Aw w l[k] cs:=by
 obtain⟨a',Aa,he,h1,h2,h3,h4⟩:=h;cases he
 cases a with
 |none=>have:=h3 rfl;omega
 |some x=>
  obtain⟨b,off,sp⟩:=x;obtain⟨rfl,g2,g3⟩:=h4 _ rfl (by intro h0;subst h0;simp at hk);obtain⟨cs,q1,q2⟩:=fJ.get g3 k hk;exact⟨b,off,cs,rfl,g2,q1,q2⟩
def JG(base:Nat)(w:World)(v:Value)(css:List (List Value)):Prop:=w.ownsRow base 54 7 v css.length css.flatten/\∀cs∈css,cs.length=7
theorem JG.lt{base:Nat}{w:World}{v:Value}{css:List (List Value)}(h:JG base w v css):∀k,v.ownBlock=some k->base<=k/\k<w.heap.size:=World.ownsRow.lt h.1
theorem NF:∀(css:List (List Value)) (h:∀cs∈css,cs.length=7) (k:Nat) (hk:k<css.length) (j:Nat) (hj:j<7),css.flatten[k*7+j]?=(css[k])[j]?
 | c::r,h,0,_,j,hj=>by
  have hc:=h c (by simp);simp only[List.flatten_cons,Nat.zero_mul,Nat.zero_add,List.getElem_cons_zero];rw[List.getElem?_append_left (by omega)]
 | c::r,h,k+1,hk,j,hj=>by
  have hc:=h c (by simp);have ih:=NF r (fun cs hcs=>h cs (by simp[hcs])) k (by simpa using hk) j hj;simp only[List.flatten_cons,List.getElem_cons_succ];rw[List.getElem?_append_right (by omega),<-ih]
  congr 1
  omega
theorem JG.cellAt{base:Nat}{w:World}{a:Option Addr}{n cap:Nat}{css:List (List Value)}(h:JG base w (.slice a n cap) css){k:Nat}(hk:k<css.length) :
  ∃g,a=some ⟨g,0,none⟩/\base<=g/\g<w.heap.size/\(∀(j:Nat) (u:Value),css[k][j]?=some u->w.cell? ⟨g,k*7+j,none⟩=some u)/\∀off,w.frozen? ⟨g,off,none⟩=false:=by
 have Aa:=h.lt;obtain⟨⟨h1,h2⟩,h7⟩:=h;rcases h2 with ⟨he,h3⟩|⟨g,cap',cur,he,hb,hg,h3,h4,h5,h6⟩
 ·omega
 ·cases he
  refine⟨g,rfl,hb,(Aa g rfl).2,fun j u hu=>?_,fun off=>?_⟩
  ·have hj:j<7:=by have:=(List.getElem?_eq_some_iff.1 hu).1;rw[h7 _ (List.getElem_mem _)] at this;exact this
   rw[cell_of_row w g _ cur 54 (0,0) hg];have h8:=NF css h7 k hk j hj;rw[<-h6,List.getElem?_take,if_pos (by omega),hu] at h8
   simpa using h8
  ·simp[World.frozen?,hg]
theorem Tryz.infoItm:(Tryz.prog.info? 54).map (fun i=>(i.zero,i.size,i.bytes))=some (some (.agg #[.bool false,.string ⟨#[]⟩,.string ⟨#[]⟩,.string ⟨#[]⟩,.slice none 0 0,.slice none 0 0,.slice none 0 0]),7,128):=by kernel_rfl
abbrev iE(v:Value)(stop:Int)(last:Bool):Value:=.agg #[v,.int .i64 stop,.bool last]
abbrev dK(v:Value)(stop:Int)(last:Bool):Array Value:=#[v,.int .i64 stop,.bool last]
abbrev iK(w:World)(g:Nat)(v:Value)(a e:Int):Prop:=ae w g #[v,.int .i64 a,.int .i64 e] 83
def Fq:oL->Int×Int
 |.wrong a e=>(a,e)
 |_=>(0,0)
def xG:oL->Int
 |.wrong _ _=>0
 |.empty=>1
 |.attr _=>2
 |.begins _=>3
 |.bare _=>4
 |.fin=>5
def zL:oL->bA
 |.attr x=>x
 |.begins x=>x
 |.bare x=>x
 |_=>bW
def lI(t:ag)(s:ByteArray):Bool:=decide (t.kind=4)&&decide (t.text=s)
theorem pJ(t:ag)(r:List ag)(s:ByteArray):bK (t::r) s=lI t s:=rfl
theorem Cj(a b:ByteArray):(a.toList==b.toList)=decide (a=b):=by
 by_cases h:a=b
 ·subst h;simp
 ·rw[decide_eq_false h];exact nT h
theorem o6(t:ag)(s:ByteArray)(w:World):Calls Tryz.prog 131 #[jb t,.string s] w fun e w'=>e=.returned (.bool (lI t s))/\Below w.heap.size w w':=by
 obtain⟨k,tx,p⟩:=t;have Aa:Below w.heap.size w (w.alloc (.cells #[.int .i64 k,.string tx,.int .i64 p] 63)):=(Below.refl _ w).alloc lz _
 have ek:(k==4)=decide (k=4):=by
  by_cases h:k=4
  ·subst h;simp
  ·rw[decide_eq_false h];simpa using h
 have et:=Cj tx s;unfold lI;simp only[jb];generalize decide (k=4)=bk at *;generalize decide (tx=s)=bt at *;go_enter Tryz.func131,Tryz.ntmps131;cases bk<;>cases bt
 all_goals
  go_wp2;go_ret;exact⟨rfl,Aa⟩
theorem qB(g:Nat)(v:Value)(a0 e0 a e:Int)(w:World)(h:iK w g v a0 e0):Calls Tryz.prog 50 #[.pointer (some ⟨g,0,none⟩),.int .i64 a,.int .i64 e] w fun r w'=>r=.returned (.tuple #[])/\iK w' g v a e/\w'=(w.setCell ⟨g,1,none⟩ (.int .i64 a)).setCell ⟨g,2,none⟩ (.int .i64 e):=by
 have hl:=h.lt;have HH:=Hh h;obtain⟨Aa,Ad,Ab,Ae,Ac,Af⟩:=h.n3 rfl;clear h;go_enter Tryz.func50,Tryz.ntmps50;go_wp2;refine bodyPost_end (v:=.tuple #[]) (by simp[results,Tryz.results50,go_sem]) rfl ?_;exact⟨rfl,by simpa using (HH.out.setI 1 (.int .i64 a)).setI 2 (.int .i64 e),rfl⟩
def NM(g:Nat)(v:Value)(r:oL)(w:World)(e:Ending)(w':World):Prop:=e=.returned (.tuple #[])/\aB g w w'/\iK w' g v (Fq r).1 (Fq r).2
theorem jo(g:Nat)(v:Value)(row:List ag)(lv:Value)(stop:Int)(last:Bool)(i:Nat)(w:World)(h:iK w g v 0 0)(hr:aH w lv row)(hn:row.length<=1000000) :
  Calls Tryz.prog 132 #[.pointer (some ⟨g,0,none⟩),iE lv stop last,.int .i64 (i:Nat)] w (NM g v (dZ row stop last i) w):=by
 obtain⟨ra,rc,rfl,Ae,Ad,-⟩:=hr.len;unfold maxLen at Ad;have Aa:Below w.heap.size w (w.alloc (.cells (dK (.slice ra row.length rc) stop last) 86)):=(Below.refl _ w).alloc lz _;have hP:=h.below Aa h.lt;have Ab:=hr.below Aa lz;have hF:=fun a e=>qB g v 0 0 a e _ hP;have Ac:aB g w (w.alloc (.cells (dK (.slice ra row.length rc) stop last) 86)):=aB.of Aa;have HS:=Hh Ac;clear Aa Ac h hr;unfold dZ NM;simp only[iE]
 by_cases hi:i<row.length
 ·obtain⟨b,Ag,rfl,Af,c0,c1,c2⟩:=Ab.get hi
  rw[List.getElem?_eq_getElem hi];simp only[Fq];generalize row[i]=t at *;clear Ab;go_enter Tryz.func132,Tryz.ntmps132;go_wp2_with fail;refine (hF _ _).mono ?_;rintro _ w2 ⟨rfl,hp2,rfl⟩;go_wp2;refine bodyPost_end (v:=.tuple #[]) (by simp[results,Tryz.results132,go_sem]) rfl ?_;exact⟨rfl,(HS.out.set _ _).set _ _,hp2⟩
 ·rw[List.getElem?_eq_none (by omega)]
  simp only;clear Ab
  cases last with
  |true=>
   simp only[if_true,Fq];go_enter Tryz.func132,Tryz.ntmps132;go_wp2_with fail;refine (hF _ _).mono ?_;rintro _ w2 ⟨rfl,hp2,rfl⟩;go_wp2;refine bodyPost_end (v:=.tuple #[]) (by simp[results,Tryz.results132,go_sem]) rfl ?_;exact⟨rfl,(HS.out.set _ _).set _ _,hp2⟩
  |false=>
   simp only[Bool.false_eq_true,if_false,Fq];go_enter Tryz.func132,Tryz.ntmps132;go_wp2_with fail;refine (hF _ _).mono ?_;rintro _ w2 ⟨rfl,hp2,rfl⟩;go_wp2;refine bodyPost_end (v:=.tuple #[]) (by simp[results,Tryz.results132,go_sem]) rfl ?_;exact⟨rfl,(HS.out.set _ _).set _ _,hp2⟩
abbrev l5(t:ag):Obj:=.cells #[.int .i64 t.kind,.string t.text,.int .i64 t.pos] 63
theorem jF(a b:Int):(a==b)=decide (a=b):=rfl
theorem nI(t:ag)(w:World):Calls Tryz.prog 32 #[jb t] w fun e w'=>e=.returned (.bool (dB t))/\w'=w.alloc (l5 t):=by
 obtain⟨k,tx,p⟩:=t;have e6:=jF k 6;have e7:=jF k 7;unfold dB;simp only[jb];generalize decide (k=6)=b6 at *;generalize decide (k=7)=b7 at *;go_enter Tryz.func32,Tryz.ntmps32;cases b6<;>cases b7
 all_goals
  go_wp2;go_ret;exact⟨rfl,rfl⟩
theorem uk(t:ag)(w:World):Calls Tryz.prog 112 #[jb t] w fun e w'=>e=.returned (.bool (dB t))/\w'=w.alloc (l5 t):=by
 obtain⟨k,tx,p⟩:=t;have e6:=jF k 6;have e7:=jF k 7;unfold dB;simp only[jb];generalize decide (k=6)=b6 at *;generalize decide (k=7)=b7 at *;go_enter Tryz.func112,Tryz.ntmps112;cases b6<;>cases b7
 all_goals
  go_wp2;go_ret;exact⟨rfl,rfl⟩
theorem mY(t:ag)(s:ByteArray)(w:World):Calls Tryz.prog 69 #[jb t,.string s] w fun e w'=>e=.returned (.bool (gH t s))/\w'=w.alloc (l5 t):=by
 obtain⟨k,tx,p⟩:=t;have ek:=jF k 4;have et:=Cj tx s;unfold gH;simp only[jb];generalize decide (k=4)=bk at *;generalize decide (tx=s)=bt at *;go_enter Tryz.func69,Tryz.ntmps69;cases bk<;>cases bt
 all_goals
  go_wp2;go_ret;exact⟨rfl,rfl⟩
theorem Eo(t:ag)(w:World):Calls Tryz.prog 34 #[jb t] w fun e w'=>e=.returned (.bool (gX t))/\w'=w.alloc (l5 t):=by
 obtain⟨k,tx,p⟩:=t;have e1:=jF k 1;have e2:=jF k 2;have e3:=jF k 3;unfold gX;simp only[jb];generalize decide (k=1)=b1 at *;generalize decide (k=2)=b2 at *;generalize decide (k=3)=b3 at *;go_enter Tryz.func34,Tryz.ntmps34;cases b1<;>cases b2<;>cases b3
 all_goals
  go_wp2;go_ret;exact⟨rfl,rfl⟩
theorem LV{t:ag}{L:Bs}(h:t.kind≠4\/t.text.size≠1):aM t L=false:=by
 unfold aM
 by_cases hk:t.kind=4
 ·rcases h with h|h
  ·exact absurd hk h
  ·have:t.text.data.toList.length≠1:=h
   split
   ·next c hc=>rw[hc] at this;exact absurd rfl this
   ·rw[Bool.and_false]
 ·rw[decide_eq_false hk];rfl
theorem Np{k:Int}{c:UInt8}{p:Int}(L:Bs)(hk:k=4):aM ⟨k,⟨#[c]⟩,p⟩ L=L.contains c:=by
 unfold aM;rw[decide_eq_true hk];rfl
theorem N8{s:ByteArray}(h:s.size=1):∃c,s=⟨#[c]⟩:=by
 obtain⟨⟨l⟩⟩:=s
 match l,h with
 |[c],_=>exact⟨c,rfl⟩
theorem J3{L:Bs}{c:UInt8}{k:Nat}(hk:k<L.length):(L.take (k+1)).contains c=((L.take k).contains c || (c==L[k])):=by
 rw[List.take_succ_eq_append_getElem hk,List.contains_append,List.contains_cons,List.contains_nil,Bool.or_false]
theorem fq(t:ag)(all:ByteArray)(w:World)(hL:all.size<=1000):Calls Tryz.prog 33 #[jb t,.string all] w fun e w'=>e=.returned (.bool (aM t all.data.toList))/\Below w.heap.size w w':=by
 by_cases hq:t.kind=4/\t.text.size=1
 ·obtain⟨k,tx,p⟩:=t
  simp only at hq;obtain⟨hk,h1⟩:=hq;obtain⟨c,rfl⟩:=N8 h1;rw[Np _ hk];subst hk;clear h1;simp only[jb];have Ae:all.data.toList.length=all.size:=jc all;have Ab:(⟨#[c]⟩:ByteArray).size=1:=rfl;have Ac:((⟨#[c]⟩:ByteArray)[0]'(by rw[Ab];decide)).toNat=c.toNat:=rfl;go_enter Tryz.func33,Tryz.ntmps33;go_wp2_with fail;go_loopw [17] (fun i wr=>∃k:Nat,k<=all.size/\i=.int .i64 (k:Int)/\Hid ((all.data.toList.take k).contains c=false)/\∃n:Nat,wr=(w.alloc (.cells #[.int .i64 4,.string ⟨#[c]⟩,.int .i64 p] 63)).drewN n) (fun i _=>all.size-(intOf i).toNat)
  case atStart=>exact⟨0,Nat.zero_le _,rfl,Hh rfl,0,rfl⟩
  case round=>
   obtain⟨k,hk,rfl,HA,n,rfl⟩:=hrel;have Aa:∀m,Below w.heap.size w (((w.alloc (.cells #[.int .i64 4,.string ⟨#[c]⟩,.int .i64 p] 63)).drewN n).drewN m):=fun m=>ah (ah ((Below.refl _ w).alloc lz _) n) m;have HB:=Hh Aa;have Ad:((w.alloc (.cells #[.int .i64 4,.string ⟨#[c]⟩,.int .i64 p] 63)).drewN n).cell? ⟨w.heap.size,1,none⟩=some (.string ⟨#[c]⟩):=(ae.new w #[.int .i64 4,.string ⟨#[c]⟩,.int .i64 p] 63).cell 1 _ rfl;clear Aa
   by_cases hkl:k<all.size
   ·have hT:=J3 (L:=all.data.toList) (c:=c) (k:=k) (by omega)
    have hg:(all[k]'hkl).toNat=(all.data.toList[k]'(by omega)).toNat:=rfl;generalize all.data.toList[k]'(by omega)=d at *
    by_cases hd:c=d
    ·subst hd
     have e:((c.toNat:Int)==(c.toNat:Int))=true:=by simp
     have HC:Hid (all.data.toList.contains c=true):=Hh (by
      rw[List.contains_eq_mem,decide_eq_true_eq];have h2:((all.data.toList.take (k+1)).contains c)=true:=by rw[hT];simp
      rw[List.contains_eq_mem,decide_eq_true_eq] at h2
      exact List.mem_of_mem_take h2)
     clear hT;go_wp2_with fail;go_quiet (fail)
     go_wp2_with fail;go_ret;rw[HC.out];exact⟨rfl,HB.out _⟩
    ·have e:((d.toNat:Int)==(c.toNat:Int))=false:=by
      rw[beq_eq_false_iff_ne];intro e;exact hd (UInt8.toNat_inj.1 (by omega))
     have HC:Hid ((all.data.toList.take (k+1)).contains c=false):=Hh (by rw[hT,HA.out];simpa using hd);clear hT hd;go_wp2_with fail;go_quiet (fail)
     go_wp2_with fail;go_roundw
     case rel=>exact⟨k+1,hkl,by go_num,HC,n+nq,rfl⟩
     case measure=>simp[intOf];omega
   ·obtain rfl:k=all.size:=by omega
    rw[List.take_of_length_le (by omega)] at HA;go_wp2_with fail;go_ret;rw[HA.out];exact⟨rfl,HB.out 0⟩
 ·rw[LV (by by_cases h:t.kind=4;(· exact .inr (fun h2=>hq ⟨h,h2⟩));exact .inl h)]
  obtain⟨k,tx,p⟩:=t;simp only at hq;simp only[jb];have hk:=jF k 4
  by_cases h4:k=4
  ·subst h4
   have h1:((tx.size:Int) != 1)=true:=by simp;omega
   go_enter Tryz.func33,Tryz.ntmps33;go_wp2;go_ret;exact⟨rfl,(Below.refl _ w).alloc lz _⟩
  ·have h1:(k != 4)=true:=by simpa using h4
   go_enter Tryz.func33,Tryz.ntmps33;go_wp2;go_ret;exact⟨rfl,(Below.refl _ w).alloc lz _⟩
end Go.Proofs.YtbcdaaobbebooaaGreatDoor
