import Derived.Test.YtbcdaaobbebooaaGreatDoorMgp
set_option linter.unusedSimpArgs false
set_option linter.unusedVariables false
set_option maxRecDepth 100000
set_option maxHeartbeats 20000000
namespace Go.Proofs.YtbcdaaobbebooaaGreatDoor
theorem qQ{α:Type}(f:α->Bool):∀(l:List α) (x:α),x∈l.takeWhile f->f x=true
 |[],x,h=>by simp at h
 | a::r,x,h=>by
  rw[List.takeWhile_cons] at h;split at h
  ·next ha=>
   rcases List.mem_cons.1 h with rfl|h
   ·exact ha
   ·exact qQ f r x h
  ·cases h
theorem Ed(l cs:Bs):∃b,l=Lib.trimRightS l cs++b/\∀x∈b,cs.contains x=true:=by
 refine⟨(l.reverse.takeWhile (cs.contains ·)).reverse,?_,fun x hx=>?_⟩
 ·unfold Lib.trimRightS
  rw[<-List.reverse_append,List.takeWhile_append_dropWhile,List.reverse_reverse]
 ·rw[List.mem_reverse] at hx
  exact qQ _ _ x hx
end Go.Proofs.YtbcdaaobbebooaaGreatDoor
namespace Go.Proofs.YtbcdaaobbebooaaGreatDoor
abbrev m0(r:List ag):List ag:=r.map n0
theorem KL(r:List ag):gY (m0 r)=gY r:=by
 unfold gY;rw[List.getLast?_map];cases r.getLast?<;>rfl
theorem KW(r:List ag):l9 (m0 r)=l9 r:=by cases r<;>rfl
theorem Ob(r:List ag):kZ (m0 r)=kZ r:=by
 unfold kZ;rw[xI];cases eu r<;>rfl
theorem NL(r:List ag):iK (m0 r)=iK r:=by
 unfold iK;rw[xI,List.getLast?_map];cases (eu r).getLast?<;>rfl
theorem DC:∀l:List (List ag),dZ (l.map m0)=(dZ l).map m0
 |[]=>rfl
 | []::l=>by
  rw[List.map_cons,show m0 ([]:List ag)=[] from rfl,dZ,dZ];exact DC l
 |(t::q)::l=>rfl
theorem NS(r:List ag)(l:List (List ag)):pV (m0 r) (l.map m0)=(m0 (pV r l).1,(pV r l).2.map m0):=by
 unfold pV;rw[KL,DC];split
 ·cases dZ l with
  |nil=>rfl
  |cons x q=>
   simp only[List.map_cons,KW];split
   ·simp[m0]
   ·rfl
 ·rfl
def Ou(f:aO):aO:=⟨m0 f.toks,f.after⟩
def O5(r:aS):aS:=⟨m0 r.toks,r.dep⟩
theorem Bt:∀(n:Nat) (gap:Bool) (l:List (List ag)),fU n gap (l.map m0)=(fU n gap l).map Ou
 |0,_,_=>rfl
 |n+1,_,[]=>rfl
 | n+1,gap,[]::l=>by
  rw[List.map_cons,show m0 ([]:List ag)=[] from rfl,fU,fU];exact Bt n true l
 | n+1,gap,(t::q)::l=>by
  have h:=NS (t::q) l;rw[List.map_cons,show m0 (t::q)=n0 t::m0 q from rfl,fU,fU,<-show m0 (t::q)=n0 t::m0 q from rfl,h,List.map_cons,Bt n false];rfl
theorem Gf:∀(l:List aO) (d:Int) (pv:Option Bool),mE (l.map Ou) d pv=(mE l d pv).map O5
 |[],_,_=>rfl
 | f::l,d,pv=>by
  have e1:kZ (Ou f).toks=kZ f.toks:=Ob _;have e2:iK (Ou f).toks=iK f.toks:=NL _;have e3:dR d (Ou f).toks=dR d f.toks:=by unfold dR;rw[e1]
  have e4:dD d (Ou f).toks=dD d f.toks:=by unfold dD;rw[e2,e3]
  rw[List.map_cons,mE,mE,e1,e2,e3,e4,Gf l,List.map_append,List.map_cons]
  congr 1
  show (if f.after&&(pv.isSome&&(!kZ f.toks&&pv != some true)) then [(⟨[],0⟩:aS)] else [])=_;split<;>rfl
theorem BR(l:List (List ag)):il (l.map m0)=(il l).map O5:=by
 unfold il;rw[List.length_map,Bt,Gf]
theorem Ah:∀l:List (List ag),dZ (l++[[]])=if dZ l=[] then [] else dZ l++[[]]
 |[]=>rfl
 | []::l=>by
  rw[List.cons_append,dZ,dZ];exact Ah l
 | (t::q)::l=>by
  rw[List.cons_append,dZ,dZ];simp
theorem MI(r:List ag)(l:List (List ag)):pV r (l++[[]])=((pV r l).1,(pV r l).2++[[]]):=by
 unfold pV;rw[Ah];split
 ·cases dZ l with
  |nil=>rfl
  |cons x q=>
   simp only[List.cons_append,reduceCtorEq,if_false];split<;>rfl
 ·rfl
theorem Gi(r:List ag)(l:List (List ag)):(pV r l).2.length<=l.length:=by
 unfold pV;split
 ·cases hd:dZ l with
  |nil=>exact Nat.le_refl _
  |cons x q=>
   have:=(mg hd).2.1;simp only;split
   ·simp only;omega
   ·exact Nat.le_refl _
 ·exact Nat.le_refl _
theorem yB:∀(n m:Nat) (gap:Bool) (l:List (List ag)),l.length<=n->l.length+1<=m->fU m gap (l++[[]])=fU n gap l
 |n,0,_,_,_,h=>by omega
 | n,m+1,gap,[],_,_=>by
  rw[List.nil_append,fU];cases m<;>cases n<;>rfl
 |0,m+1,gap,r::l,h,_=>by simp at h
 | n+1,m+1,gap,[]::l,h1,h2=>by
  simp only[List.length_cons] at h1 h2;rw[List.cons_append,fU,fU];exact yB n m true l (by omega) (by omega)
 | n+1,m+1,gap,(t::q)::l,h1,h2=>by
  simp only[List.length_cons] at h1 h2;have:=Gi (t::q) l;rw[List.cons_append,fU,fU,MI];simp only;rw[yB n m false _ (by omega) (by omega)]
theorem G8(l:List (List ag)):il (l++[[]])=il l:=by
 unfold il;rw[yB l.length _ false l lz (by simp)]
theorem FX:∀(ls:List Bs) (p:Nat) (o:Int),ls.map y9=(mP ls p o).map (fun r=>m0 r.toks)\/ls.map y9=(mP ls p o).map (fun r=>m0 r.toks)++[[]]
 |[],_,_=>.inl rfl
 | [a],p,o=>by
  rw[mP]
  by_cases h:a=[]
  ·subst h
   right
   rw[if_pos rfl];rfl
  ·left
   rw[if_neg h];show [y9 a]=[(aY a p).1.map n0];rw[(wG a p).1]
 | a::b::r,p,o=>by
  have e:m0 (ui o (aY a p).1 p ((p+a.length:Nat):Int)).toks=y9 a:=(wG a p).1;rw[mP,List.map_cons (l:=b::r),List.map_cons (f:=fun r:kD=>m0 r.toks),e];rcases FX (b::r) (p+a.length+1) (dD o (aY a p).1) with h|h
  ·left;rw[h]
  ·right;rw[h];rfl
theorem FW{l:Bs}(h:(aY l 0).2.2=0):jA l=((bR l).map (·.toks)).map m0\/jA l=((bR l).map (·.toks)).map m0++[[]]:=by
 rw[List.map_map,vE h];exact FX (mF l) 0 0
theorem LX{l:Bs}(h:(aY l 0).2.2=0):(il ((bR l).map (·.toks))).map O5=il (jA l):=by
 rcases FW h with e|e
 ·rw[e,BR]
 ·rw[e,G8,BR]
theorem zQ{l:Bs}(h:(dK l).2.2=0):(aY l 0).2.2=0/\∃x,rJ (jA l) [bY]=some [x]:=by
 rcases ES l with ⟨_,h2,x,h3,_⟩|⟨h1,_⟩
 ·exact⟨h2,x,h3⟩
 ·exact absurd h h1
end Go.Proofs.YtbcdaaobbebooaaGreatDoor
namespace Go.Proofs.YtbcdaaobbebooaaGreatDoor
def nA(r:List ag):Nat:=(r.map fun t=>1+(vC t).length).sum
def qI(l:List (List ag)):Nat:=(l.map nA).sum
theorem qf(a b:List ag):nA (a++b)=nA a+nA b:=by simp[nA]
theorem oZ(t:ag)(r:List ag):nA (t::r)=1+(vC t).length+nA r:=by simp[nA]
theorem nC(r:List ag)(l:List (List ag)):qI (r::l)=nA r+qI l:=by simp[qI]
theorem su(r:List ag):r.length<=nA r:=by
 induction r with
 |nil=>exact Nat.le_refl _
 |cons t r ih=>rw[oZ,List.length_cons];omega
theorem FM{r:List ag}{t:ag}(h:t∈r):(vC t).length<=nA r:=by
 induction r with
 |nil=>cases h
 |cons u r ih=>
  rw[oZ];rcases List.mem_cons.1 h with rfl|h
  ·omega
  ·have:=ih h;omega
theorem FN{l:List (List ag)}{r:List ag}(h:r∈l):nA r<=qI l:=by
 induction l with
 |nil=>cases h
 |cons u l ih=>
  rw[nC];rcases List.mem_cons.1 h with rfl|h
  ·omega
  ·have:=ih h;omega
theorem wF:∀(k:Nat) (l:Bs) (p:Nat),l.length<=k->nA (aY l p).1<=2*l.length
 | 0,l,p,h=>by
  obtain rfl:=List.eq_nil_of_length_eq_zero (Nat.le_zero.1 h);exact Nat.le_refl _
 |k+1,[],p,_=>Nat.le_refl _
 | k+1,c::r,p,h=>by
  simp only[List.length_cons] at h
  by_cases hb:cz c=true
  ·rw[dF hb]
   have:=wF k r (p+1) (by omega);simp only[List.length_cons];omega
  ·have hb':cz c=false:=by simpa using hb
   cases ho:eY (c::r) with
   |bad off e=>rw[gp hb' ho];simp[nA]
   |tok kd sz=>
    rw[eF hb' ho];have hs:=dN ho;have:=wF k ((c::r).drop sz) (p+sz) (by rw[List.length_drop,List.length_cons];omega);rw[List.length_drop] at this;rw[oZ];simp only[vC,av,List.length_take,List.length_cons] at this hs ⊢;omega
theorem xz(size:Int):∀(toks cur:List ag) (fr o:Int),qI ((eD size toks cur fr o).map (·.toks))<=nA cur+nA toks/\(eD size toks cur fr o).length<=toks.length+1/\∀r∈eD size toks cur fr o,r.toks.length<=cur.length+toks.length
 | [],cur,fr,o=>by
  rw[eD];split
  ·refine⟨by simp[qI,ui],by simp,fun r hr=>?_⟩
   rw[List.mem_singleton.1 hr];simp[ui]
  ·exact⟨by simp[qI],by simp,fun r hr=>by cases hr⟩
 | t::toks,cur,fr,o=>by
  rw[eD,oZ,List.length_cons];split
  ·obtain⟨h1,h2,h3⟩:=xz size toks [] (t.pos+1) (dD o cur)
   rw[List.map_cons,nC,List.length_cons];have e:(ui o cur fr t.pos).toks=cur:=rfl;rw[e];refine⟨by simp only[nA,List.map_nil,List.sum_nil] at h1 ⊢;omega,by omega,fun r hr=>?_⟩;rcases List.mem_cons.1 hr with rfl|hr
   ·rw[e];omega
   ·have:=h3 r hr;simp only[List.length_nil] at this;omega
  ·obtain⟨h1,h2,h3⟩:=xz size toks (cur++[t]) fr o
   rw[qf,oZ] at h1;refine⟨by simp only[nA,List.map_nil,List.sum_nil] at h1 ⊢;omega,by omega,fun r hr=>?_⟩;have:=h3 r hr;simp only[List.length_append,List.length_cons,List.length_nil] at this;omega
theorem sK(l:Bs):qI ((bR l).map (·.toks))<=2*l.length/\(bR l).length<=l.length+1/\∀r∈bR l,r.toks.length<=l.length:=by
 unfold bR kz;split
 ·have h:=xz l.length (aY l 0).1 [] 0 0
  have h2:=wF l.length l 0 lz;have h3:=lZ l.length l 0 lz;refine⟨?_,?_,fun r hr=>?_⟩
  ·have:=h.1
   simp only[nA,List.map_nil,List.sum_nil] at this h2 ⊢;simp only[if_true] at this ⊢;omega
  ·have:=h.2.1;simp only[if_true] at this ⊢;omega
  ·have:=h.2.2 r (by simpa using hr)
   simp only[List.length_nil] at this;omega
 ·exact⟨by simp[qI],by simp,fun r hr=>by cases hr⟩
theorem Dz:∀l:List (List ag),qI (dZ l)=qI l
 |[]=>rfl
 |[]::l=>by rw[dZ,nC,Dz l];simp[nA]
 |(t::q)::l=>rfl
theorem NR(r:List ag)(l:List (List ag)):nA (pV r l).1+qI (pV r l).2<=nA r+qI l:=by
 unfold pV;split
 ·cases hd:dZ l with
  |nil=>exact Nat.le_refl _
  |cons x q=>
   have h:=Dz l;rw[hd,nC] at h;simp only;split
   ·simp only[qf];omega
   ·exact Nat.le_refl _
 ·exact Nat.le_refl _
theorem wI:∀(n:Nat) (gap:Bool) (l:List (List ag)),(∀f∈fU n gap l,nA f.toks<=qI l)/\(fU n gap l).length<=l.length
 |0,_,l=>⟨fun f hf=>(by cases hf),Nat.zero_le _⟩
 |n+1,_,[]=>⟨fun f hf=>(by cases hf),Nat.zero_le _⟩
 | n+1,gap,[]::l=>by
  obtain⟨h1,h2⟩:=wI n true l;rw[fU];exact⟨fun f hf=>by have:=h1 f hf;rw[nC];omega,by simp only[List.length_cons];omega⟩
 | n+1,gap,(t::q)::l=>by
  obtain⟨h1,h2⟩:=wI n false (pV (t::q) l).2;have h3:=NR (t::q) l;have h4:=Gi (t::q) l;rw[fU,nC];refine⟨fun f hf=>?_,by simp only[List.length_cons];omega⟩;rcases List.mem_cons.1 hf with rfl|hf
  ·simp only;omega
  ·have:=h1 f hf;omega
theorem Gd{M:Nat}:∀(l:List aO) (d:Int) (pv:Option Bool),(∀f∈l,nA f.toks<=M)->(∀r∈mE l d pv,nA r.toks<=M)/\(mE l d pv).length<=2*l.length
 |[],_,_,_=>⟨fun r hr=>(by cases hr),Nat.le_refl _⟩
 | f::l,d,pv,h=>by
  obtain⟨h1,h2⟩:=Gd l (dD d f.toks) (some (iK f.toks)) fun g hg=>h g (by simp[hg]);rw[mE,List.length_append,List.length_cons,List.length_cons];refine⟨fun r hr=>?_,?_⟩
  ·rcases List.mem_append.1 hr with hr|hr
   ·split at hr
    ·rw[List.mem_singleton.1 hr];simp[nA]
    ·cases hr
   ·rcases List.mem_cons.1 hr with rfl|hr
    ·exact h f (by simp)
    ·exact h1 r hr
  ·split
   ·simp only[List.length_singleton];omega
   ·simp only[List.length_nil];omega
theorem wT(l:List (List ag)):(∀r∈il l,nA r.toks<=qI l)/\(il l).length<=2*l.length:=by
 unfold il;have h:=wI l.length false l;have h2:=Gd (fU l.length false l) 0 none h.1;exact⟨h2.1,by omega⟩
theorem tH(row:List ag)(ind:Nat):∀k,k<=row.length->(aW row ind 0 k).length<=ind+nA (row.take k)
 |0,_=>by rw[lQ];exact Nat.zero_le _
 | k+1,h=>by
  have ih:=tH row ind k (by omega);have hk:k<row.length:=h;rw[tJ (Nat.zero_le _) hk,List.take_add_one,List.getElem?_eq_getElem hk,qf,List.length_append,List.length_append];have e:nA (some row[k]).toList=1+(vC row[k]).length:=by simp[nA]
  rw[e];unfold qX;split
  ·next h0=>
   subst h0;rw[lQ];simp only[kY,List.length_replicate,List.length_nil,List.take_zero];omega
  ·have:=Bj row k
   simp only[kY,List.length_replicate];omega
theorem ou(row:List ag)(ind:Nat):(aW row ind 0 row.length).length<=ind+nA row:=by
 have:=tH row ind row.length lz
 rwa [List.take_length] at this
theorem Jc(l:List (Nat×ag))(k:Nat):(zi (l.drop k)).length<=(zi l).length:=by
 have:=uq (l.take k) (l.drop k);rw[List.take_append_drop] at this;rw[this,List.length_append];omega
theorem Kj(row:List ag)(ind fr en:Nat):(aW row ind fr en).length<=(aW row ind 0 en).length:=by
 unfold aW;rw[List.drop_zero];exact Jc _ _
theorem xu{l:Bs}(h:(dK l).2.2=0):∀r∈il ((bR l).map (·.toks)),0<=r.dep/\r.dep<=64:=by
 obtain⟨h1,x,h2⟩:=zQ h;obtain⟨d1,d2⟩:=zC (jA l) [bY] [x] (by simp) (by simp) h2;have h3:=A8 (jA l).length false (jA l) 0 none d1 d2 (by omega);intro r hr
 have:=h3 (O5 r) (by
  rw[<-show il (jA l)=mE (fU (jA l).length false (jA l)) (0:Nat) none from rfl,<-LX h1]
  exact List.mem_map_of_mem hr)
 exact this
theorem JX{l:Bs}(h:(dK l).2.2=0)(hl:l.length<=400000):∀r∈il ((bR l).map (·.toks)),zw r:=by
 intro r hr;have hd:=xu h r hr;have hw:=(wT ((bR l).map (·.toks))).1 r hr;have h2:=(sK l).1;refine⟨⟨hd.1,by omega⟩,by have:=su r.toks;omega,?_⟩;have:=ou r.toks r.ind;unfold aS.ind at this ⊢;omega
theorem IR{M W:Nat}{r:aS}(h1:r.ind+nA r.toks<=M)(hW:W<=M):(fT W r).length<=4*M+2:=by
 have hp:=ou r.toks r.ind
 have hh:(bH r).length<=M:=Nat.le_trans (tH r.toks r.ind r.eq (Gv r)) (by
  have:=qf (r.toks.take r.eq) (r.toks.drop r.eq);rw[List.take_append_drop] at this
  omega)
 have ht:=Kj r.toks r.ind (r.eq+1) r.toks.length
 have hx:(vC (r.toks[r.eq]?.getD ⟨0,⟨#[]⟩,0⟩)).length<=M:=by
  cases hq:r.toks[r.eq]? with
  |none=>exact Nat.zero_le _
  |some t=>have:=FM (List.mem_of_getElem? hq);simp only[Option.getD_some];omega
 unfold fT;simp only[List.length_append,kY,List.length_replicate,List.length_singleton];omega
theorem J2{M:Nat}{r:aS}(h1:r.ind+nA r.toks<=M):(vT r).length<=4*M+2:=by
 have hp:=ou r.toks r.ind;unfold vT;simp only[List.length_append,List.length_singleton];omega
theorem LV{M:Nat}(run:List aS)(h:∀r∈run,r.ind+nA r.toks<=M):ol run<=M:=by
 unfold ol
 have hk:∀(l:List aS) (a:Nat),a<=M->(∀r∈l,r.ind+nA r.toks<=M)->l.foldl (fun m r=>max m (dG (bH r))) a<=M:=by
  intro l
  induction l with
  |nil=>intro a ha _;exact ha
  |cons r l ih=>
   intro a ha hl;refine ih _ (Nat.max_le.2 ⟨ha,?_⟩) fun q hq=>hl q (by simp[hq]);have h0:=hl r (by simp);have h1:=oH (bH r);have hh:=tH r.toks r.ind r.eq (Gv r);have:=qf (r.toks.take r.eq) (r.toks.drop r.eq);rw[List.take_append_drop] at this;unfold bH at h1 ⊢;omega
 exact hk run 0 (Nat.zero_le _) h
theorem DR{M:Nat}(run:List aS)(h:∀r∈run,r.ind+nA r.toks<=M):(lC run).length<=run.length*(4*M+2):=by
 unfold lC;have hW:=LV run h;generalize ol run=W at *
 induction run with
 |nil=>exact Nat.zero_le _
 |cons r run ih=>
  rw[List.flatMap_cons,List.length_append,List.length_cons,Nat.succ_mul];have:=IR (h r (by simp)) hW;have:=ih fun q hq=>h q (by simp[hq]);omega
theorem uJ{M:Nat}:∀(l run:List aS),(∀r∈l,r.ind+nA r.toks<=M)->(∀r∈run,r.ind+nA r.toks<=M)->(dP l run).length<=(l.length+run.length)*(4*M+2)
 |[],run,_,h=>by rw[dP,List.length_nil,Nat.zero_add];exact DR run h
 | r::l,run,h1,h2=>by
  have hr:=h1 r (by simp);have hl:∀q∈l,q.ind+nA q.toks<=M:=fun q hq=>h1 q (by simp[hq]);rw[dP];split
  ·have:=uJ l (run++[r]) hl (fun q hq=>by
    rcases List.mem_append.1 hq with hq|hq
    ·exact h2 q hq
    ·rw[List.mem_singleton.1 hq];exact hr)
   rw[List.length_append,List.length_singleton] at this;rw[List.length_cons,show l.length+1+run.length=l.length+(run.length+1) by omega];exact this
  ·have e1:=DR run h2
   have e2:=J2 hr;have e3:=uJ l [] hl (fun q hq=>by cases hq);rw[List.length_nil,Nat.add_zero] at e3;rw[List.length_append,List.length_append,List.length_cons,Nat.add_mul,Nat.add_mul,Nat.one_mul];omega
theorem Ha{l:Bs}(h:(dK l).2.2=0):(lD ((bR l).map (·.toks))).length<=(2*(l.length+1))*(4*(128+2*l.length)+2):=by
 have h1:=sK l;have h2:=wT ((bR l).map (·.toks));have h3:=xu h
 have:=uJ (M:=128+2*l.length) (il ((bR l).map (·.toks))) [] (fun r hr=>by
  have a:=h2.1 r hr;have b:=h3 r hr;unfold aS.ind
  omega) (fun q hq=>by cases hq)
 rw[List.length_nil,Nat.add_zero] at this;unfold lD;refine Nat.le_trans this (Nat.mul_le_mul_right _ ?_);have:=h2.2;rw[List.length_map] at this;omega
end Go.Proofs.YtbcdaaobbebooaaGreatDoor
namespace Go.Proofs.YtbcdaaobbebooaaGreatDoor
open Go.RowKit Go.Tab
def yP(d:eB×aO):List Value:=[bQ d.1,.bool d.2.after]
theorem Tryz.infoFu:(Tryz.prog.info? 115).map (fun i=>(i.zero,i.size,i.bytes))=some (some (.agg #[.slice none 0 0,.bool false]),2,32):=by kernel_rfl
structure yR(B1 B:Nat)(w:World)(lv:Value)(D:List (eB×aO)):Prop where
 own:w.ownsRow B1 115 2 lv D.length (D.flatMap yP)
 fin:∀d∈D,aI B w (bQ d.1) d.2.toks
theorem Dt:∀(D:List (eB×aO)) (j:Nat) (h:j<D.length),(D.flatMap yP)[j*2]?=some (bQ D[j].1)/\(D.flatMap yP)[j*2+1]?=some (.bool D[j].2.after)
 |p::l,0,_=>by simp[yP]
 | p::l,j+1,h=>by
  have ih:=Dt l j (by simpa using h);have e1:(j+1)*2=j*2+2:=by omega
  rw[e1]
  simpa [yP] using ih
theorem Gs(D:List (eB×aO)):(D.flatMap yP).length=D.length*2:=by
 induction D with
 |nil=>rfl
 |cons d D ih=>rw[List.flatMap_cons,List.length_append,ih,List.length_cons];simp only[yP,List.length_cons,List.length_nil];omega
section
variable {B1 B:Nat} {w w':World} {lv v':Value} {D:List (eB×aO)}
theorem yR.below(h:yR B1 B w lv D)(hb:Below w.heap.size w w'):yR B1 B w' lv D:=
 ⟨bJ h.own (fun k e=>hb.block k (World.ownsRow.lt h.own k e).2),fun d hd=>(h.fin d hd).below hb lz⟩
theorem yR.base_le{B2 B3:Nat}(h:yR B1 B w lv D)(hb:B2<=B1)(hb3:B3<=B):yR B2 B3 w lv D:=⟨pK h.own hb,fun d hd=>(h.fin d hd).base_le hb3⟩
theorem yR.len(h:yR B1 B w lv D):∃a c,lv=.slice a D.length c/\D.length<=c/\c<=maxLen:=by
 rcases h.own.2 with ⟨rfl,h3⟩|⟨g,cap,cur,rfl,hb,hg,h3,h4,-⟩
 ·exact⟨none,0,by rw[h3],by rw[h3];exact Nat.le_refl _,Nat.zero_le _⟩
 ·exact⟨_,cap,rfl,h3,h4⟩
theorem yR.get{a:Option Addr}{n c:Nat}(h:yR B1 B w (.slice a n c) D){j:Nat}(hj:j<D.length) :
  ∃g,a=some ⟨g,0,none⟩/\B1<=g/\g<w.heap.size/\w.cell? ⟨g,j*2,none⟩=some (bQ D[j].1)/\w.cell? ⟨g,j*2+1,none⟩=some (.bool D[j].2.after)/\∀off,w.frozen? ⟨g,off,none⟩=false:=by
 have Aa:=World.ownsRow.lt h.own;obtain⟨h1,h2⟩:=h.own;rcases h2 with ⟨h2,h3⟩|⟨g,cap,cur,h2,hb,hg,h3,h4,h5,h6⟩
 ·omega
 ·cases h2
  obtain⟨f1,f2⟩:=Dt D j hj;rw[<-h6,List.getElem?_take,if_pos (by omega)] at f1 f2;refine⟨g,rfl,hb,(Aa g rfl).2,?_,?_,fun off=>by simp[World.frozen?,hg]⟩
  all_goals rw[cell_of_row w g _ cur 115 (0,0) hg]
  ·simpa using f1
  ·simpa using f2
theorem yR.push(h:yR B1 B w lv D){d:eB×aO}(hd:aI B w (bQ d.1) d.2.toks)(hg:w.grownBy w' lv.ownBlock)(hown:w'.ownsRow B1 115 2 v' (D.length+1) (D.flatMap yP++yP d)):yR B1 B w' v' (D++[d]):=by
 have hT:∀v l,aI B w v l->aI B w' v l:=fun v l hv=>hv.moved fun k e=>hg.block k (World.ownsRow.lt hv k e).2 (fun q=>jR hv h.own (by decide) k e q.symm);refine⟨?_,fun x hx=>?_⟩
 ·have e:(D++[d]).flatMap yP=D.flatMap yP++yP d:=by simp
  rw[e,List.length_append,List.length_singleton];exact hown
 ·rcases List.mem_append.1 hx with hx|hx
  ·exact hT _ _ (h.fin x hx)
  ·rw[List.mem_singleton.1 hx]
   exact hT _ _ hd
theorem yR.join{g n c:Nat}{d:eB×aO}{x:List ag}{s:eB}(h:yR B1 B w (.slice (some ⟨g,0,none⟩) n c) (D++[d]))(hs:aI B w (bQ s) (d.2.toks++x)) :
  yR B1 B (w.setCell ⟨g,D.length*2,none⟩ (bQ s)) (.slice (some ⟨g,0,none⟩) n c) (D++[(s,⟨d.2.toks++x,d.2.after⟩)]):=by
 obtain⟨a1,c1,e1,-,-⟩:=h.len;cases e1
 have hT:∀v l,aI B w v l->aI B (w.setCell ⟨g,D.length*2,none⟩ (bQ s)) v l:=fun v l hv=>hv.moved fun k e=>Below.heap_setCell _ _ _ _ (by
  intro q
  exact jR hv h.own (by decide) k e (by rw[show k=g from q];rfl))
 refine⟨?_,fun y hy=>?_⟩
 ·have h1:=(h.own.stored (D.length*2) (bQ s)).1
  have e:((D++[d]).flatMap yP).set (D.length*2) (bQ s)=(D++[(s,(⟨d.2.toks++x,d.2.after⟩:aO))]).flatMap yP:=by
   rw[List.flatMap_append,List.flatMap_append,List.set_append_right _ _ (by rw[Gs];exact Nat.le_refl _),Gs,Nat.sub_self];simp[yP]
  rw[e] at h1
  simpa using h1
 ·rcases List.mem_append.1 hy with hy|hy
  ·exact hT _ _ (h.fin y (by simp[hy]))
  ·rw[List.mem_singleton.1 hy]
   exact hT _ _ hs
end
theorem yR.getL{B1 B:Nat}{w:World}{a:Option Addr}{n c m:Nat}{D:List (eB×aO)}{d:eB×aO}(h:yR B1 B w (.slice a n c) (D++[d]))(hm:m=D.length) :
  ∃g,a=some ⟨g,0,none⟩/\B1<=g/\g<w.heap.size/\w.cell? ⟨g,m*2,none⟩=some (bQ d.1)/\∀off,w.frozen? ⟨g,off,none⟩=false:=by
 subst hm;obtain⟨g,h1,h2,h3,h4,h5,h6⟩:=h.get (j:=D.length) (by simp);have e:(D++[d])[D.length]'(by simp)=d:=by simp
 rw[e] at h4;exact⟨g,h1,h2,h3,h4,h6⟩
theorem nH{w:World}{ops:Array Oper}{rest:List Oper}{p:Oper}{a:Act}{Q:Exit->Act->World->Prop}(hgd:p.guard=none)(s x:Operand)
  (hop:p.op=.call { callee:=.builtin .append,args:=#[s,x],argTypes:=#[112,112] }) (B:Nat) (lv:Value) (D:List (eB×aO)) (d:eB×aO) (hs:a.eval s=lv)
  (hown:w.ownsRow B 115 2 lv D.length (D.flatMap yP)) (g:Nat) (hx:a.eval x=.slice (some ⟨g,0,none⟩) 1 1) (hc:aa w g #[bQ d.1,.bool d.2.after] 115)
  (hD:D.length<=1000000) (hbase:B<=w.heap.size)
  (hK:∀g2 c2 w',w'.ownsRow B 115 2 (.slice (some ⟨g2,0,none⟩) (D.length+1) c2) (D.length+1) (D.flatMap yP++yP d)->w.grownBy w' lv.ownBlock->
   wpList Tryz.prog ops Q rest (a.put p.dst (.slice (some ⟨g2,0,none⟩) (D.length+1) c2)) w'):wpList Tryz.prog ops Q (p::rest) a w:=by
 obtain⟨i,Aa,Ab,Ac,Ad⟩:=info_parts Tryz.infoFu;refine wpList_append_lies w hgd s x 112 hop B 115 i _ 2 32 Tryz.underlying112 Aa Ab Ac Ad rfl (by decide) lv D.length (D.flatMap yP) hs hown ⟨g,0,none⟩ 1 1 (yP d) hx rfl ?_ ?_ (by omega) (by unfold maxLen;omega) (by omega) hbase _ rfl (fun g2 c2 w' h1 h2 _ _=>hK g2 c2 w' h1 h2)
 ·intro j u hu
  rw[Addr.add_lit,Nat.zero_add];exact hc.cell _ _ (by simpa [yP] using hu)
 ·intro u hu
  simp only[yP,List.mem_cons,List.not_mem_nil,or_false] at hu;rcases hu with rfl|rfl<;>rfl
def Oy(B:Nat)(w1 wr:World)(R:List aO)(L:List (List ag))(k:Nat)(gap:Bool)(lv:Value)(D:List (eB×aO)):Prop:=
 yR w1.heap.size B wr lv D/\R=iM (L.drop k) gap (D.map (·.2))/\D.length<=k/\Below w1.heap.size w1 wr/\((∀d∈D,d.2.toks≠[])/\qI (D.map (·.2.toks))<=qI (L.take k))/\B<=w1.heap.size
theorem qh(a b:List (List ag)):qI (a++b)=qI a+qI b:=by simp[qI]
theorem Jv{L:List (List ag)}{k:Nat}(h:k<L.length):qI (L.take (k+1))=qI (L.take k)+nA L[k]:=by
 rw[List.take_succ_eq_append_getElem h,qh];simp[qI]
theorem Jw(L:List (List ag))(k:Nat):qI (L.take k)<=qI L:=by
 have:=qh (L.take k) (L.drop k);rw[List.take_append_drop] at this;omega
theorem MG{l:List ag}(h:l≠[]):gY l=bT (l[l.length-1]'(by have:=List.length_pos_iff.2 h;omega)) rF:=by
 unfold gY;have hl:=List.length_pos_iff.2 h;rw[List.getLast?_eq_getElem?,List.getElem?_eq_getElem (by omega)]
theorem DN{f:FuncId}{args:Array Value}{w:World}{t:ag}{v:Value}(h:Calls Tryz.prog f args w fun e w'=>e=.returned v/\w'=w.alloc (kg t)):Calls Tryz.prog f args w fun e w'=>e=.returned v/\Below w.heap.size w w':=
 h.mono fun _ _ ⟨h1,h2⟩=>⟨h1,by rw[h2];exact dM w t⟩
theorem Cv(s:ByteArray)(w:World)(hs:s.size<=400000)(hn:(gm s.data.toList).length<=900000)(hlen:∀r∈gm s.data.toList,r.length<=400000)(hsum:qI (gm s.data.toList)<=800000) :
  Calls Tryz.prog 72 #[.string s] w fun e w'=>∃v D,e=.returned v/\yR w.heap.size w.heap.size w' v D/\D.map (·.2)=iM (gm s.data.toList) false []/\Below w.heap.size w w':=by
 have hR:=Cw s w hs;obtain⟨R,A4⟩:=exq (iM (gm s.data.toList) false []);rw[<-A4];generalize gm s.data.toList=L at *;go_enter Tryz.func72,Tryz.ntmps72;go_wp2_with fail;refine hR.mono ?_;clear hR;rintro _ w1 ⟨v,rfl,hT,hb1⟩;obtain⟨ta,tc,rfl,Bl,Ba,-⟩:=hT.len;unfold maxLen at Ba;have HT:=Hh hT;have AG:=Hh hb1;have HA:Hid (Oy w.heap.size w1 w1 R L 0 false (.slice none 0 0) []):=Hh ⟨⟨World.ownsRow_nil _ _ _ _,fun d hd=>by cases hd⟩,A4,Nat.le_refl _,Below.refl _ _,⟨(fun d hd=>by cases hd),Nat.le_refl _⟩,hb1.size⟩;have HL:=Hh hlen;have AK:=Hh hsum;clear hT hb1 A4 hlen hsum;obtain⟨B,hB⟩:=exq w.heap.size;rw[<-hB] at HA HT;have AS:=Hh hB;go_wp2_with fail;go_loopw [3,4,6] (fun lv gv i wr=>∃(k:Nat) (gap:Bool) (D:List (eB×aO)),k<=L.length/\i=.int .i64 (k:Int)/\gv=.bool gap/\Hid (Oy B w1 wr R L k gap lv D)) (fun _ _ i _=>L.length-(intOf i).toNat)
 case atStart=>exact⟨0,false,[],Nat.zero_le _,rfl,rfl,HA⟩
 case round=>
  clear HA;obtain⟨k,gap,D,hk,rfl,rfl,HS⟩:=hrel;obtain⟨la,lc,rfl,AC,AD⟩:=HS.out.1.len;unfold maxLen at AD;have AZ:=HS.out.2.2.1
  by_cases hkl:k<L.length
  ·obtain⟨b,Ay,s0,rfl,Be,ht,q0⟩:=(HT.out.below HS.out.2.2.2.1).get hkl
   obtain⟨sa,sn,sc⟩:=s0;have A7:=HL.out L[k] (List.getElem_mem hkl);have An:=HS.out.2.1;rw[List.drop_eq_getElem_cons hkl] at An;obtain⟨T,A6⟩:=exq L[k];rw[<-A6] at A7 An ht;have Am:Hid (qI (L.take (k+1))=qI (L.take k)+nA T):=Hh (by rw[Jv hkl,A6])
   have Ao:Hid (∀W,Below w1.heap.size w1 W->W.cell? ⟨b,Ay+k,none⟩=some (.slice sa sn sc)/\b<W.heap.size):=Hh (by
    intro W hW;obtain⟨b2,Ab,s2,e2,h2,-,q2⟩:=HT.out.get hkl;cases e2
    have e3:=(HS.out.2.2.2.1.cell (p:=⟨b,Ay+k,none⟩) h2).symm.trans q0;rw[q2] at e3;rw[<-show bQ (sa,sn,sc)=.slice sa sn sc from rfl,<-Option.some.inj e3]
    exact⟨(hW.cell (p:=⟨b,Ay+k,none⟩) h2).trans q2,Nat.lt_of_lt_of_le h2 hW.size⟩)
   obtain⟨a',c',e'⟩:=ht.len;simp only[bQ,Value.slice.injEq] at e';obtain⟨rfl,rfl,rfl⟩:=e';simp only[bQ] at q0;have Ad:=Hh ht;clear A6 ht
   cases T with
   |nil=>
    have HN:Hid (Oy B w1 wr R L (k+1) true (.slice la D.length lc) D):=Hh ⟨HS.out.1,by rw[An];rfl,by omega,HS.out.2.2.2.1,⟨HS.out.2.2.2.2.1.1,by rw[Am.out];have:=HS.out.2.2.2.2.1.2;omega⟩,HS.out.2.2.2.2.2⟩;clear An HS Ad;simp only[List.length_nil] at q0;go_wp2_with fail;go_roundw
    case rel=>exact⟨k+1,true,D,hkl,by go_num,rfl,HN⟩
    case measure=>simp[intOf]<;>omega
   |cons t q=>
    have Ae:=An;rw[iM] at Ae;obtain⟨T,hT⟩:=exq (t::q);have AL:0<T.length:=by rw[hT];simp
    have AQ:bT t ng=bT (T[0]'AL) ng:=by simp only[hT];rfl
    rw[<-hT] at A7 q0 Ad Ao Ae Am;have AI:Hid (T≠[]):=Hh (by rw[hT];simp);rw[AQ] at Ae;clear An AQ;obtain⟨M,hM⟩:=exq T.length;rw[<-hM] at A7 q0 Ao AL;have Ad:Hid (aI B wr (bQ (sa,M,sc)) T):=Hh (by rw[hM];exact Ad.out);have Al:=Hh hM;have Bk:((M:Int)==0)=false:=by simp;omega
    clear hT hM;have HF:=Hh HS.out.1;have Aa:=Hh HS.out.2.2.2.1;rcases List.eq_nil_or_concat D with rfl|⟨D0,d,hD⟩
    ·have A2:Hid (R=iM (L.drop (k+1)) false (([]:List (eB×aO)).map (·.2)++[⟨T,gap⟩])):=Hh (by rw[Ae];rfl)
     have i1:IntKind.i64.wrap ((0:Int)-1) = -1:=by rw[IntWalk.i64_in _ (by omega)];omega
     clear Ae;go_wp2_with fail;refine jg wr (by kernel_rfl) (by kernel_rfl) (Below.refl _ _) ?_;repeat (go_big_quiet_step (fail))
     refine wpQuiet_nil ?_;rintro _ ⟨x,rfl⟩;have HF:=Hh (HF.out.below x.below);have Ad:=Hh (Ad.out.below x.below lz);have Aa:=Hh (Aa.out.trans (x.below.mono Aa.out.size));obtain⟨q1,q2⟩:=Ao.out x.w Aa.out;generalize x.w=wz at *;clear q0;go_wp2_with (with_reducible first|refine aA ?_)
     refine Stop.out ?_;have hA:=(Below.refl _ wz).alloc lz (.cells #[.slice (sa) M sc,.bool gap] 115);refine nH rfl _ _ rfl w1.heap.size (.slice (la) (([]:List (eB×aO)).length) lc) (([]:List (eB×aO))) (((sa,M,sc):eB),⟨T,gap⟩) rfl (by exact (HF.out.below hA).own) (wz).heap.size rfl (aa.new wz _ _) (by exact Nat.zero_le _) (by have:=Aa.out.size;simp;omega) ?_;intro g3 c3 w3 hown3 hg3;have Ap:=(HF.out.below hA).push (d:=(((sa,M,sc):eB),⟨T,gap⟩)) (by exact (Ad.out.below hA lz)) hg3 hown3;have Aq:=(Aa.out.alloc Aa.out.size (.cells #[.slice (sa) M sc,.bool gap] 115)).grown hg3 (by have:=Aa.out.size;simp;omega) (fun k e=>(World.ownsRow.lt HF.out.own k e).1)
     have HN:Hid (Oy B w1 w3 R L (k+1) false (.slice (some ⟨g3,0,none⟩) ((([]:List (eB×aO))).length+1) c3) (([]:List (eB×aO))++[(((sa,M,sc):eB),⟨T,gap⟩)])):=Hh ⟨Ap,by rw[A2.out];simp,by simp,Aq,⟨fun d hd=>by
      rcases List.mem_append.1 hd with hd|hd
      ·exact HS.out.2.2.2.2.1.1 d hd
      ·rw[List.mem_singleton.1 hd];exact AI.out,by rw[List.map_append,qh,Am.out];have:=HS.out.2.2.2.2.1.2;simp only[List.map_cons,List.map_nil,qI,List.sum_cons,List.sum_nil] at this ⊢;omega⟩,HS.out.2.2.2.2.2⟩
     clear Ap Aq hown3 hg3 hA;go_wp2_with fail;go_roundw
     case rel=>
      refine⟨k+1,false,(([]:List (eB×aO))++[(((sa,M,sc):eB),(⟨T,gap⟩:aO))]),hkl,by go_num,rfl,?_⟩
      first
       |exact HN
       |(have q:=HN;simp only[List.length_append,List.length_cons,List.length_nil,Nat.zero_add] at q ⊢;exact q)
     case measure=>simp[intOf]<;>omega
    ·rw[List.concat_eq_append] at hD
     subst hD;simp only[List.map_append,List.map_cons,List.map_nil,List.getLast?_concat,List.dropLast_concat] at Ae;obtain⟨D,AY⟩:=exq (D0++[d]);obtain⟨m,hm⟩:=exq D0.length;obtain⟨n1,At⟩:=exq ((D0++[d]).length);have Bf:n1=m+1:=by rw[At,hm];simp
     obtain⟨g,he,Bm,Bc,o0,o1,Bo⟩:=HF.out.get (j:=D0.length) (by simp);cases he
     have AN:(D0++[d])[D0.length]'(by simp)=d:=by simp
     rw[AN,<-hm] at o0 o1;have Ar:=HF.out.fin d (by simp);have Af:=HS.out.2.2.2.2.1.1 d (by simp)
     have AO:d.2.toks.length<=800000:=by
      have a1:=FN (l:=(D0++[d]).map (·.2.toks)) (r:=d.2.toks) (List.mem_map_of_mem (f:=fun x:eB×aO=>x.2.toks) (by simp));have a2:=HS.out.2.2.2.2.1.2;have a3:=Jw L k;have a4:=su d.2.toks;have a5:=AK.out;omega
     have As:d.2.toks.length+M<=800000:=by
      have a1:=FN (l:=(D0++[d]).map (·.2.toks)) (r:=d.2.toks) (List.mem_map_of_mem (f:=fun x:eB×aO=>x.2.toks) (by simp));have a2:=HS.out.2.2.2.2.1.2;have a3:=Jw L (k+1);have a4:=su d.2.toks;have a5:=AK.out;have a6:=Am.out;have a7:=su T;have a8:=Al.out;omega
     obtain⟨ds,⟨dt,Ah⟩⟩:=d;obtain⟨da,dn,dc⟩:=ds;simp only at Ar Af AO As Ae o1;obtain⟨a',c',e'⟩:=Ar.len;simp only[bQ,Value.slice.injEq] at e';obtain⟨rfl,rfl,rfl⟩:=e';simp only[bQ] at o0;have Bb:=List.length_pos_iff.2 Af;rw[MG Af] at Ae;obtain⟨b2,Ab,rfl,Ai,l0,l1,l2⟩:=Ar.toks.get (j:=dt.length-1) (by omega);obtain⟨b3,Ac,rfl,Aj,Ax,m1,m2⟩:=Ad.out.toks.get (j:=0) (by have:=Al.out;omega);simp only[Nat.zero_mul,Nat.add_zero] at Ax m1 m2;have Au:=fun x:gq wr=>gq.call x (DN (qo (dt[dt.length-1]'(by omega)) rF x.w));have Av:=fun x:gq wr=>gq.call x (DN (qo (T[0]'(by have:=Al.out;omega)) ng x.w));obtain⟨AW,hb1⟩:∃b,bT (dt[dt.length-1]'(by omega)) rF=b:=⟨_,rfl⟩;obtain⟨AX,AM⟩:∃b,bT (T[0]'(by have:=Al.out;omega)) ng=b:=⟨_,rfl⟩;rw[hb1] at Au Ae;rw[AM] at Av Ae;have AJ:=Hh Ae;have A0:=Hh Ar;have AT:=Hh Af;generalize dt[dt.length-1]'(by omega)=u1 at *;generalize T[0]'(by have:=Al.out;omega)=u2 at *;obtain⟨k1,x1,p1⟩:=u1;obtain⟨k2,x2,p2⟩:=u2;simp only[eO] at Au Av l0 l1 l2 Ax m1 m2;obtain⟨e1,AA⟩:=exq (dt.length-1);rw[<-AA] at l0 l1 l2;obtain⟨dn,A8⟩:=exq dt.length;rw[<-A8] at o0 Bb AO As AA;have i1:IntKind.i64.wrap ((n1:Int)-1)=(m:Int):=by rw[IntWalk.i64_in _ (by omega)];omega
     have i2:(0:Int)<=(m:Int)/\(m:Int)<(n1:Int):=by omega
     have i3:IntKind.i64.wrap ((dn:Int)-1)=(e1:Int):=by rw[IntWalk.i64_in _ (by omega)];omega
     have i4:(0:Int)<=(e1:Int):=by omega
     have i5:(e1:Int)<(dn:Int):=by omega
     have i6:(0:Int)<(M:Int):=by omega
     have i7:(0:Int)<=(k:Int):=by omega
     have i8:(k:Int)<(L.length:Int):=by omega
     have i9:(m:Int)<(n1:Int):=by omega
     have Bn:(0:Int)<=(m:Int):=by omega
     have f0:=fun x:gq wr=>(x.below.cell (p:=⟨g,m*2,none⟩) Bc).trans o0;have f1:=fun x:gq wr=>(x.below.cell (p:=⟨b2,Ab+e1*3,none⟩) Ai).trans l0;have f2:=fun x:gq wr=>(x.below.cell (p:=⟨b2,Ab+e1*3+1,none⟩) Ai).trans l1;have f3:=fun x:gq wr=>(x.below.cell (p:=⟨b2,Ab+e1*3+2,none⟩) Ai).trans l2;have f4:=fun x:gq wr=>(x.below.cell (p:=⟨b,Ay+k,none⟩) Be).trans q0;have f5:=fun x:gq wr=>(x.below.cell (p:=⟨b3,Ac,none⟩) Aj).trans Ax;have f6:=fun x:gq wr=>(x.below.cell (p:=⟨b3,Ac+1,none⟩) Aj).trans m1;have f7:=fun x:gq wr=>(x.below.cell (p:=⟨b3,Ac+2,none⟩) Aj).trans m2;rw[<-At] at AC AZ HF HS;rw[<-At];have Bj:k<L.length:=hkl;have A1:=Hh hm;have AH:=Hh At;have Ag:=Hh A8;clear Ae Ar Af l0 l1 l2 Ax m1 m2 o0 o1 hb1 AM AA AN Bf hm At A8 AY;cases AW<;>cases AX
     all_goals
      go_wp2_with fail;refine jg wr (by kernel_rfl) (by kernel_rfl) (Below.refl _ _) ?_;repeat (go_big_quiet_step ((first|(go_at_call 114;with_reducible exact Au _)|(go_at_call 114;with_reducible exact Av _))))
      refine wpQuiet_nil ?_;rintro _ ⟨x,rfl⟩;clear Au Av f0 f1 f2 f3 f4 f5 f6 f7 q0;have HF:=Hh (HF.out.below x.below);have Ad:=Hh (Ad.out.below x.below lz);have Aa:=Hh (Aa.out.trans (x.below.mono Aa.out.size));have A0:=Hh (A0.out.below x.below lz);obtain⟨q1,q2⟩:=Ao.out x.w Aa.out;generalize x.w=wz at *
     iterate 3
      focus
       have A2:Hid (R=iM (L.drop (k+1)) false ((D0++[(((some ⟨b2,Ab,none⟩,dt.length,dc):eB),(⟨dt,Ah⟩:aO))]).map (·.2)++[⟨T,gap⟩])):=Hh (by have q:=AJ.out;simp at q ⊢;exact q);go_wp2_with (with_reducible first|refine aA ?_)
       refine Stop.out ?_;have hA:=(Below.refl _ wz).alloc lz (.cells #[.slice (some ⟨b3,Ac,none⟩) M sc,.bool gap] 115);refine nH rfl _ _ rfl w1.heap.size (.slice (some ⟨g,0,none⟩) (n1) lc) ((D0++[(((some ⟨b2,Ab,none⟩,dt.length,dc):eB),(⟨dt,Ah⟩:aO))])) (((some ⟨b3,Ac,none⟩,M,sc):eB),⟨T,gap⟩) rfl (by exact (HF.out.below hA).own) (wz).heap.size rfl (aa.new wz _ _) (by rw[<-AH.out];omega) (by have:=Aa.out.size;simp;omega) ?_;intro g3 c3 w3 hown3 hg3;have Ap:=(HF.out.below hA).push (d:=(((some ⟨b3,Ac,none⟩,M,sc):eB),⟨T,gap⟩)) (by exact (Ad.out.below hA lz)) hg3 hown3;have Aq:=(Aa.out.alloc Aa.out.size (.cells #[.slice (some ⟨b3,Ac,none⟩) M sc,.bool gap] 115)).grown hg3 (by have:=Aa.out.size;simp;omega) (fun k e=>(World.ownsRow.lt HF.out.own k e).1)
       have HN:Hid (Oy B w1 w3 R L (k+1) false (.slice (some ⟨g3,0,none⟩) (((D0++[(((some ⟨b2,Ab,none⟩,dt.length,dc):eB),(⟨dt,Ah⟩:aO))])).length+1) c3) ((D0++[(((some ⟨b2,Ab,none⟩,dt.length,dc):eB),(⟨dt,Ah⟩:aO))])++[(((some ⟨b3,Ac,none⟩,M,sc):eB),⟨T,gap⟩)])):=Hh ⟨Ap,by rw[A2.out];simp,by rw[List.length_append,<-AH.out];simp;omega,Aq,⟨fun d hd=>by
        rcases List.mem_append.1 hd with hd|hd
        ·exact HS.out.2.2.2.2.1.1 d hd
        ·rw[List.mem_singleton.1 hd];exact AI.out,by rw[List.map_append,qh,Am.out];have:=HS.out.2.2.2.2.1.2;simp only[List.map_cons,List.map_nil,qI,List.sum_cons,List.sum_nil] at this ⊢;omega⟩,HS.out.2.2.2.2.2⟩
       clear Ap Aq hown3 hg3 hA;go_wp2_with fail;go_roundw
       case rel=>
        refine⟨k+1,false,((D0++[(((some ⟨b2,Ab,none⟩,dt.length,dc):eB),(⟨dt,Ah⟩:aO))])++[(((some ⟨b3,Ac,none⟩,M,sc):eB),(⟨T,gap⟩:aO))]),hkl,by go_num,rfl,?_⟩
        first
         |exact HN
         |(have q:=HN;simp only[List.length_append,List.length_cons,List.length_nil,Nat.zero_add] at q ⊢;exact q)
       case measure=>simp[intOf]<;>omega
     focus
      have AP:=HF.out;have AV:Hid (R=iM (L.drop (k+1)) false (D0.map (·.2)++[⟨dt++T,Ah⟩])):=Hh (by have q:=AJ.out;simp at q;exact q);obtain⟨g',A9,-,AB,AE,Ak⟩:=AP.getL A1.out;cases A9
      have AF:wz.cell? ⟨g,m*2,none⟩=some (.slice (some ⟨b2,Ab,none⟩) dn dc):=by rw[AE,Ag.out];rfl
      clear AE AP Ak;go_wp2_with (with_reducible first|refine aA ?_)
      refine Stop.out ?_;refine lS rfl _ _ rfl wz.heap.size [] dt (by exact aI.nil) (by rw[Ag.out];exact A0.out.toks) (by have:=Ag.out;simp;omega) lz wz (Below.refl _ _) ?_;intro v4 w4 hown4 hb4 hg4;simp only[List.nil_append] at hown4;obtain⟨a4,c4,rfl⟩:=hown4.len;have AU:=Hh hown4;have Az:=Hh hb4;obtain⟨Bh,Bi⟩:=Ao.out w4 (Aa.out.trans (hb4.mono Aa.out.size));clear hown4 hb4 hg4 q1 q2 AF;go_wp2_with (with_reducible first|refine aA ?_)
      refine Stop.out ?_;refine lS rfl _ _ rfl wz.heap.size dt T (by exact AU.out) (by have q:=(Ad.out.below Az.out lz).toks;exact q) (by rw[<-Al.out,<-Ag.out];omega) Az.out.size wz Az.out ?_;intro v5 w5 hown5 hb5 hg5;obtain⟨a5,c5,rfl⟩:=hown5.len;have Aw:=HF.out.below hb5;obtain⟨g',A9,-,AB,AE,Ak⟩:=Aw.getL A1.out;cases A9
      have Bg:=Ak (m*2);have HJ:=Hh (Aw.join (x:=T) (s:=(a5,(dt++T).length,c5)) (by exact hown5.base_le (Nat.le_trans HS.out.2.2.2.2.2 Aa.out.size)));have AR:=Hh hb5;have Bd:=(World.ownsRow.lt Aw.own g rfl).1;obtain⟨S5,A5⟩:=exq ((dt++T).length)
      have HN:Hid (Oy B w1 (w5.setCell ⟨g,m*2,none⟩ (.slice a5 S5 c5)) R L (k+1) false (.slice (some ⟨g,0,none⟩) n1 lc) (D0++[(((a5,S5,c5):eB),(⟨dt++T,Ah⟩:aO))])):=Hh (by
       refine⟨?_,?_,?_,?_,⟨?_,?_⟩,HS.out.2.2.2.2.2⟩
       ·have q:=HJ.out
        rw[<-A1.out,<-A5] at q;exact q
       ·rw[AV.out];simp
       ·have q:=HS.out.2.2.1;simp only[List.length_append,List.length_singleton] at q ⊢;omega
       ·exact (Aa.out.trans (AR.out.mono Aa.out.size)).setCell (by exact Bd) _
       ·intro y hy
        rcases List.mem_append.1 hy with hy|hy
        ·exact HS.out.2.2.2.2.1.1 y (by simp[hy])
        ·rw[List.mem_singleton.1 hy];simp[AT.out]
       ·have q:=HS.out.2.2.2.2.1.2
        rw[Am.out,List.map_append,qh] ;rw[List.map_append,qh] at q;simp only[List.map_cons,List.map_nil,qI,List.sum_cons,List.sum_nil,qf] at q ⊢
        omega)
      clear HJ Aw hown5 hb5 hg5 Bh Bi;have A3:=Hh A5;clear A5;go_wp2_with fail;go_roundw
      case rel=>
       refine⟨k+1,false,(D0++[(((a5,S5,c5):eB),(⟨dt++T,Ah⟩:aO))]),hkl,by go_num,rfl,?_⟩;have q:=HN;have e:S5=dt.length+T.length:=by rw[A3.out,List.length_append]
       rw[e] at q ⊢;exact q
      case measure=>simp[intOf]<;>omega
  ·obtain rfl:k=L.length:=by omega
   have HN:Hid (R=D.map (·.2)):=Hh (by rw[HS.out.2.1,List.drop_length];rfl);go_wp2_with fail;go_ret;refine⟨_,D,rfl,by rw[<-AS.out];exact HS.out.1.base_le HS.out.2.2.2.2.2 lz,HN.out.symm,AG.out.trans (HS.out.2.2.2.1.mono AG.out.size)⟩
end Go.Proofs.YtbcdaaobbebooaaGreatDoor
namespace Go.Proofs.YtbcdaaobbebooaaGreatDoor
theorem OB:∀(r:List ag) (i:Nat),(∃e q j,eu r=e::q/\mr r i 0=some (i+j)/\r[j]?=some e/\∀u∈r.take j,dS u=true)\/(eu r=[]/\mr r i 0=none)
 |[],i=>.inr ⟨rfl,rfl⟩
 | t::r,i=>by
  cases hc:dS t with
  |false=>
   refine .inl ⟨t,eu r,0,?_,?_,rfl,fun u hu=>by cases hu⟩
   ·unfold eu;rw[List.filter_cons_of_pos (by rw[hc];rfl)]
   ·rw[mr,hc];rfl
  |true=>
   have hp:eu (t::r)=eu r:=by unfold eu;rw[List.filter_cons_of_neg (by rw[hc];decide)]
   rw[hp,mr,hc];rcases OB r (i+1) with ⟨e,q,j,h1,h2,h3,h4⟩|⟨h1,h2⟩
   ·refine .inl ⟨e,q,j+1,h1,by simp only[if_true];rw[h2];congr 1;omega,by simpa using h3,fun u hu=>?_⟩
    rw[List.take_succ_cons] at hu;rcases List.mem_cons.1 hu with rfl|hu
    ·exact hc
    ·exact h4 u hu
   ·exact .inr ⟨h1,by simp only[if_true];exact h2⟩
theorem NI:∀(r:List ag) (i:Nat),(∃a e q j,eu r=a::e::q/\mr r i 1=some (i+j)/\r[j]?=some e/\∀u∈r.take j,dS u=true\/u=a)\/((eu r).length<=1/\mr r i 1=none)
 |[],i=>.inr ⟨Nat.zero_le _,rfl⟩
 | t::r,i=>by
  cases hc:dS t with
  |false=>
   have hp:eu (t::r)=t::eu r:=by unfold eu;rw[List.filter_cons_of_pos (by rw[hc];rfl)]
   rw[hp,show (1:Nat)=0+1 from rfl,mr,hc];rcases OB r (i+1) with ⟨e,q,j,h1,h2,h3,h4⟩|⟨h1,h2⟩
   ·refine .inl ⟨t,e,q,j+1,by rw[h1],?_,by simpa using h3,fun u hu=>?_⟩
    ·simp only[Bool.false_eq_true,if_false];rw[h2];congr 1;omega
    ·rw[List.take_succ_cons] at hu
     rcases List.mem_cons.1 hu with rfl|hu
     ·exact .inr rfl
     ·exact .inl (h4 u hu)
   ·refine .inr ⟨by rw[h1];exact Nat.le_refl _,?_⟩
    simp only[Bool.false_eq_true,if_false];exact h2
  |true=>
   have hp:eu (t::r)=eu r:=by unfold eu;rw[List.filter_cons_of_neg (by rw[hc];decide)]
   rw[hp,show (1:Nat)=0+1 from rfl,mr,hc];rcases NI r (i+1) with ⟨a,e,q,j,h1,h2,h3,h4⟩|⟨h1,h2⟩
   ·refine .inl ⟨a,e,q,j+1,h1,?_,by simpa using h3,fun u hu=>?_⟩
    ·simp only[if_true];rw[show 0+1=1 from rfl,h2];congr 1;omega
    ·rw[List.take_succ_cons] at hu
     rcases List.mem_cons.1 hu with rfl|hu
     ·exact .inl hc
     ·exact h4 u hu
   ·exact .inr ⟨h1,by simp only[if_true];exact h2⟩
theorem Gy(r:List ag):(oG r).isSome=Jt (eu r):=by
 unfold oG;rcases NI r 0 with ⟨a,e,q,j,h1,h2,h3,-⟩|⟨h1,h2⟩
 ·rw[h2,h1,Nat.zero_add]
  simp only[h3,Option.getD_some,Jt];cases bT e Ca<;>rfl
 ·rw[h2]
  match hp:eu r,h1 with
  |[],_=>rfl
  |[t],_=>rfl
  |a::e::q,h=>simp at h
theorem Lc{r:List ag}{k:Nat}(h:oG r=some k):∃a e q,eu r=a::e::q/\bT e Ca=true/\r[k]?=some e/\∀u∈r.take k,dS u=true\/u=a:=by
 unfold oG at h;rcases NI r 0 with ⟨a,e,q,j,h1,h2,h3,h4⟩|⟨h1,h2⟩
 ·rw[h2,Nat.zero_add] at h
  simp only[h3,Option.getD_some] at h;split at h
  ·next hb=>
   cases h
   exact⟨a,e,q,h1,hb,h3,h4⟩
  ·cases h
 ·rw[h2] at h;cases h
theorem GI{row:List ag}:∀k,k<=row.length->(∀u∈row.take k,VT (vC u))->VT (aW row 0 0 k)
 |0,_,_=>by rw[lQ];exact VT.nil.1
 | k+1,h,hu=>by
  have hk:k<row.length:=h;have e:=List.take_succ_eq_append_getElem hk;rw[tJ (Nat.zero_le _) hk];have h1:VT (aW row 0 0 k):=GI k (Nat.le_of_lt hk) fun u hm=>hu u (by rw[e];exact List.mem_append_left _ hm);exact (h1.app ((VT.sp _).1.app (hu row[k] (by rw[e];exact List.mem_append_right _ (List.mem_singleton.2 rfl)))).1).1
structure Ol(p:List ag):Prop where
 turn:yQ p=true->uz p=false
 eq:Jt p=true->yQ p=false/\uz p=false/\∃a q,p=a::q/\a.kind=1
 op:uz p=true->Jt p=false/\2<=p.length/\yQ p=false
theorem yK.good{n:Nat}{p:List ag}{k:oW}(h:yK n p k):Ol p:=by
 have f:=h.facts;refine⟨fun hc=>?_,fun ha=>⟨?_,?_,?_⟩,fun ho=>⟨?_,?_,?_⟩⟩
 ·refine Bool.eq_false_iff.2 fun ho=>?_
  have:=f.cl.1 hc;obtain⟨x,hx⟩:=f.op.1 ho;rw[this] at hx;cases hx
 ·refine Bool.eq_false_iff.2 fun hc=>?_
  have:=f.cl.1 hc;obtain⟨x,hx⟩:=f.at_.1 ha;rw[this] at hx;cases hx
 ·refine Bool.eq_false_iff.2 fun ho=>?_
  obtain⟨y,hy⟩:=f.op.1 ho;obtain⟨x,hx⟩:=f.at_.1 ha;rw[hy] at hx;cases hx
 ·obtain⟨x,hx⟩:=f.at_.1 ha
  rw[hx] at h
  cases h with
  |attr h1 he hs=>exact⟨_,_,rfl,h1⟩
 ·refine Bool.eq_false_iff.2 fun ha=>?_
  obtain⟨y,hy⟩:=f.op.1 ho;obtain⟨x,hx⟩:=f.at_.1 ha;rw[hy] at hx;cases hx
 ·obtain⟨x,hx⟩:=f.op.1 ho
  rw[hx] at h
  cases h with
  |begins ha hl ht hn=>simp
 ·refine Bool.eq_false_iff.2 fun hc=>?_
  have:=f.cl.1 hc;obtain⟨x,hx⟩:=f.op.1 ho;rw[this] at hx;cases hx
theorem zD:∀(l:List (List ag)) (st S:List bP),st≠[]->rJ l st=some S->∀r∈l,Ol (eu r)
 |[],_,_,_,_=>fun r hr=>by cases hr
 | q::l,st,S,hs,h=>by
  rw[rJ] at h
  by_cases h0:(bB st (eu q) 0 true).2.2=0
  ·rw[if_pos h0] at h
   obtain⟨k,h1,h2,-⟩:=zH h0 hs;intro r hr;rcases List.mem_cons.1 hr with rfl|hr
   ·exact h2.good
   ·exact zD l _ S (pu hs _ _ _) h r hr
  ·rw[if_neg h0] at h;cases h
theorem Ol.n0{p:List ag}(h:Ol (p.map n0)):Ol p:=by
 have e1:yQ (p.map Go.Proofs.YtbcdaaobbebooaaGreatDoor.n0)=yQ p:=by cases p<;>rfl
 have e2:uz (p.map Go.Proofs.YtbcdaaobbebooaaGreatDoor.n0)=uz p:=by
  unfold uz;rw[List.getLast?_map];cases p.getLast?<;>rfl
 have e3:Jt (p.map Go.Proofs.YtbcdaaobbebooaaGreatDoor.n0)=Jt p:=by
  match p with
  |[]=>rfl
  |[_]=>rfl
  |_::_::_=>rfl
 obtain⟨h1,h2,h3⟩:=h;rw[e1,e2] at h1;rw[e1,e2,e3] at h2;rw[e1,e2,e3,List.length_map] at h3;refine⟨h1,fun ha=>?_,h3⟩;obtain⟨a,b,c,q,d,e⟩:=h2 ha
 cases p with
 |nil=>cases d
 |cons t p=>
  simp only[List.map_cons,List.cons.injEq] at d;refine⟨a,b,t,p,rfl,?_⟩;rw[<-d.1] at e;exact e
theorem Hw{l:Bs}(h:(dK l).2.2=0):∀r∈(bR l).map (·.toks),Ol (eu r):=by
 obtain⟨h1,x,h2⟩:=zQ h;have h3:=zD (jA l) [bY] [x] (by simp) h2;intro r hr
 have hm:m0 r∈jA l:=by
  have:=List.mem_map_of_mem (f:=m0) hr;rcases FW h1 with e|e<;>rw[e]
  ·exact this
  ·exact List.mem_append_left _ this
 have:=h3 _ hm;rw[xI] at this;exact this.n0
theorem Ju{l:Bs}(h:wM l=none):VT l:=by
 unfold wM at h;split at h
 ·cases h
 ·split at h
  ·cases h
  ·next hs=>exact hs
theorem Da{c:UInt8}(h:lq c=true):c.toNat<128:=by
 unfold lq at h;simp only[Bool.or_eq_true,decide_eq_true_eq] at h;omega
theorem MM{c:UInt8}(h:Nf c=true):c.toNat<128:=by
 unfold Nf at h;rw[Bool.or_eq_true] at h;rcases h with h|h
 ·exact Da h
 ·unfold dg I9 at h
  simp at h
  omega
theorem Gq:∀(l:Bs),∀c∈l.take (vW l),c.toNat<128
 |[],c,h=>by simp[vW] at h
 | a::l,c,h=>by
  rw[vW] at h;split at h
  ·next ha=>
   rw[List.take_succ_cons] at h;rcases List.mem_cons.1 h with rfl|h
   ·exact MM ha
   ·exact Gq l c h
  ·rw[List.take_zero] at h;cases h
theorem sN{l:Bs}{kd k n:Nat}(h:iX l kd=.tok k n):wM l=none/\n=l.length/\k=kd:=by
 unfold iX at h;split at h
 ·cases h
 ·next hw=>cases h;exact⟨hw,rfl,rfl⟩
theorem Ig(l:Bs):l.take (iA l).length=iA l:=by
 obtain⟨b,hb,-⟩:=Ed (l.take (dz l)) kG
 have e:l=iA l++(b++l.drop (dz l)):=by
  rw[<-List.append_assoc];unfold iA;rw[<-hb,List.take_append_drop]
 have:(iA l++(b++l.drop (dz l))).take (iA l).length=iA l:=List.take_left
 rwa [<-e] at this
theorem Mm{l:Bs}{k n:Nat}(h:eY l=.tok k n)(hk:k=1\/k=6\/k=7):VT (l.take n):=by
 cases l with
 |nil=>cases h
 |cons c r=>
  rw[eY] at h;split at h
  ·next hc=>
   cases h
   refine (VT.low _ fun x hx=>?_).1;rw[Nat.add_comm,List.take_succ_cons] at hx;rcases List.mem_cons.1 hx with rfl|hx
   ·exact Da hc
   ·exact Gq r x hx
  split at h
  ·unfold pQ at h
   split at h
   ·cases h;omega
   ·cases h
  split at h
  ·unfold pG at h
   split at h
   ·cases h;omega
   ·cases h
  split at h
  ·cases h;omega
  split at h
  ·obtain⟨h1,rfl,-⟩:=sN h
   rw[Ig];exact Ju h1
  split at h
  ·unfold fB at h
   split at h
   ·cases h
   ·split at h
    ·cases h
    ·next m hm hn=>
     obtain⟨h1,rfl,-⟩:=sN h;rw[show (c::r).take ((c::r).take (m+4)).length=(c::r).take (m+4) from List.take_eq_take_iff.2 (by rw[List.length_take];omega)];exact Ju h1
  split at h
  ·cases h
  ·cases h;omega
theorem Be:∀(k:Nat) (l:Bs) (p:Nat),l.length<=k->∀t∈(aY l p).1,(t.kind=1\/dS t=true)->VT (vC t)
 | 0,l,p,h=>by
  obtain rfl:=List.eq_nil_of_length_eq_zero (Nat.le_zero.1 h);intro t ht;rw[eZ] at ht;cases ht
 |k+1,[],p,_=>by intro t ht;rw[eZ] at ht;cases ht
 | k+1,c::r,p,h=>by
  simp only[List.length_cons] at h
  by_cases hb:cz c=true
  ·rw[dF hb]
   exact Be k r (p+1) (by omega)
  ·have hb':cz c=false:=by simpa using hb
   cases ho:eY (c::r) with
   |bad off e=>rw[gp hb' ho];intro t ht;cases ht
   |tok kd sz=>
    rw[eF hb' ho];have hs:=dN ho;intro t ht hk;rcases List.mem_cons.1 ht with rfl|ht
    ·refine Mm ho ?_
     rw[nX] at hk;simp only at hk;omega
    ·exact Be k ((c::r).drop sz) (p+sz) (by rw[List.length_drop,List.length_cons];omega) t ht hk
theorem uL(size:Int):∀(toks cur:List ag) (fr o:Int),∀r∈eD size toks cur fr o,∀t∈r.toks,t∈cur\/t∈toks
 | [],cur,fr,o=>by
  rw[eD];split
  ·intro r hr t ht
   rw[List.mem_singleton.1 hr] at ht;exact .inl ht
  ·intro r hr;cases hr
 | u::toks,cur,fr,o=>by
  rw[eD];split
  ·intro r hr t ht
   rcases List.mem_cons.1 hr with rfl|hr
   ·exact .inl ht
   ·rcases uL size toks [] _ _ r hr t ht with h|h
    ·cases h
    ·exact .inr (List.mem_cons_of_mem _ h)
  ·intro r hr t ht
   rcases uL size toks (cur++[u]) _ _ r hr t ht with h|h
   ·rcases List.mem_append.1 h with h|h
    ·exact .inl h
    ·rw[List.mem_singleton.1 h];exact .inr (by simp)
   ·exact .inr (List.mem_cons_of_mem _ h)
theorem JZ(l:Bs):∀r∈(bR l).map (·.toks),∀t∈r,(t.kind=1\/dS t=true)->VT (vC t):=by
 intro r hr t ht;obtain⟨d,hd,rfl⟩:=List.mem_map.1 hr;unfold bR kz at hd;split at hd
 ·have hd:d∈eD l.length (aY l 0).1 [] 0 0:=by simpa using hd
  rcases uL _ _ _ _ _ d hd t ht with h|h
  ·cases h
  ·exact Be l.length l 0 lz t h
 ·cases hd
theorem uk:∀(n:Nat) (gap:Bool) (l:List (List ag)),∀f∈fU n gap l,f.toks≠[]/\(f.toks∈l\/∃r x,f.toks=r++x/\r∈l/\x∈l/\gY r=true/\l9 x=true)
 |0,_,l=>fun f hf=>by cases hf
 |n+1,_,[]=>fun f hf=>by cases hf
 | n+1,gap,[]::l=>fun f hf=>by
  rw[fU] at hf;obtain⟨h1,h2⟩:=uk n true l f hf;refine⟨h1,?_⟩;rcases h2 with h2|⟨r,x,h2,h3,h4,h5⟩
  ·exact .inl (by simp[h2])
  ·exact .inr ⟨r,x,h2,by simp[h3],by simp[h4],h5⟩
 | n+1,gap,(t::q)::l=>fun f hf=>by
  rw[fU] at hf
  have key:(∀r∈(pV (t::q) l).2,r∈l)/\((pV (t::q) l).1=t::q\/∃x∈l,(pV (t::q) l).1=(t::q)++x/\gY (t::q)=true/\l9 x=true):=by
   unfold pV;split
   ·next hl=>
    cases hd:dZ l with
    |nil=>exact⟨fun r hr=>hr,.inl rfl⟩
    |cons x p=>
     have h3:=(mg hd).2.2;simp only;split
     ·next hx=>exact⟨fun r hr=>h3 r (.inr hr),.inr ⟨x,h3 x (.inl rfl),rfl,hl,hx⟩⟩
     ·exact⟨fun r hr=>hr,.inl rfl⟩
   ·exact⟨fun r hr=>hr,.inl rfl⟩
  rcases List.mem_cons.1 hf with rfl|hf
  ·rcases key.2 with e|⟨x,hx,e,h1,h2⟩
   ·simp only;rw[e];exact⟨by simp,.inl (by simp)⟩
   ·simp only;rw[e];exact⟨by simp,.inr ⟨_,x,rfl,by simp,by simp[hx],h1,h2⟩⟩
  ·obtain⟨h1,h2⟩:=uk n false _ f hf
   refine⟨h1,?_⟩;rcases h2 with h2|⟨r,x,h2,h3,h4,h5⟩
   ·exact .inl (by simp[key.1 _ h2])
   ·exact .inr ⟨r,x,h2,by simp[key.1 _ h3],by simp[key.1 _ h4],h5⟩
theorem K9{r:List ag}(b:Bool)(hg:Ol (eu r))(hv:∀t∈r,(t.kind=1\/dS t=true)->VT (vC t))(hr:r≠[]):kX ⟨r,b⟩:=by
 refine⟨hr,fun h=>?_,fun h=>?_,fun h=>?_⟩
 ·unfold lw at h
  rw[Gy] at h;exact (hg.eq h).1
 ·unfold lw at h
  rw[Gy] at h;exact (hg.eq h).2.1
 ·have he:=(mV h).1
  obtain⟨a,e,q,h1,h2,h3,h4⟩:=Lc he;unfold lw at h;rw[Gy] at h;obtain⟨-,-,a2,q2,h5,h6⟩:=hg.eq h;rw[h1] at h5;cases h5
  have hk:=pX he;refine GI _ (Nat.le_of_lt hk.2) fun u hu=>hv u (List.mem_of_mem_take hu) ?_;rcases h4 u hu with h|rfl
  ·exact .inr h
  ·exact .inl h6
theorem Bp{l:Bs}(h:(dK l).2.2=0):(∀r∈(bR l).map (·.toks),FH r)/\∀f∈fU ((bR l).map (·.toks)).length false ((bR l).map (·.toks)),kX f:=by
 have hg:=Hw h;have hv:=JZ l;generalize (bR l).map (·.toks)=L at *;constructor
 ·intro r hr hh
  refine Bool.eq_false_iff.2 fun hl=>?_;have h1:=(hg r hr).turn (Di hh).1;have h2:=(yg hl).1;rw[<-Ga,h2] at h1;cases h1
 ·intro f hf
  obtain⟨h1,h2⟩:=uk _ _ _ f hf;rcases h2 with h2|⟨r,x,h2,h3,h4,h5,h6⟩
  ·exact K9 f.after (hg _ h2) (hv _ h2) h1
  ·have ho:=hg r h3
   obtain⟨o1,o2⟩:=yg h5;rw[Ga] at o1;obtain⟨g1,g2,g3⟩:=ho.op o1
   have Aa:lw f=false:=by
    unfold lw;rw[Gy,h2,ww]
    match hp:eu r,g2 with
    |a::e::q,_=>rw[hp] at g1;exact g1
   exact⟨h1,fun h=>absurd h (by rw[Aa];decide),fun h=>absurd h (by rw[Aa];decide),fun h=>absurd h (by rw[Aa];decide)⟩
theorem G9{l:Bs}(h:(dK l).2.2=0):lD ((bR l).map (·.toks))=sP ((bR l).map (·.toks)):=G6 (Bp h).1 (Bp h).2
end Go.Proofs.YtbcdaaobbebooaaGreatDoor
namespace Go.Proofs.YtbcdaaobbebooaaGreatDoor
open Go.RowKit Go.Tab
theorem K6(l:List aO):∀k,Ab l k<=k
 |0=>Nat.le_refl _
 | k+1=>by
  rw[Ab];split
  ·split
   ·have:=K6 l k;omega
   ·exact Nat.le_refl _
  ·exact Nat.le_refl _
theorem K7{l:List aO}{k:Nat}{f g:aO}(h1:l[k+1]?=some f)(h2:l[k]?=some g):Ab l (k+1)=if !f.after&&lw g then Ab l k else k+1:=by
 rw[Ab,h1,h2]
theorem Fw(f:aO):lw f=decide (0<=sM (oG f.toks)):=by
 unfold lw sM
 cases oG f.toks with
 |none=>rfl
 |some i=>simp
theorem Gw{f:aO}(h:lw f=true):sM (oG f.toks)=(f.eq:Int):=by
 rw[(mV h).1];rfl
theorem FB{f:aO}(h:kX f)(ha:lw f=true):aR f=eP f.toks 0 f.eq:=uN _ h.ne (by have:=(mV ha).2.1;omega)
def rM(l:List aO)(fr i:Nat):List aO:=if i=fr then lh (l.drop fr) else (l.drop i).takeWhile (fun g=>lw g&&!g.after)
theorem Ie{l:List aO}{fr i:Nat}(hi:i<l.length)(hf:fr<=i)(ha:lw l[i]=true)(h:i=fr\/l[i].after=false):rM l fr i=l[i]::rM l fr (i+1):=by
 have hd:=List.drop_eq_getElem_cons hi;unfold rM;rw[if_neg (show ¬i+1=fr by omega)]
 by_cases e:i=fr
 ·subst e
  rw[if_pos rfl,hd,lh,if_pos ha]
 ·rw[if_neg e,hd,List.takeWhile_cons_of_pos (by rw[ha,h.resolve_left e];rfl)]
theorem J4{l:List aO}{fr i:Nat}(hi:i<l.length)(h:lw l[i]=false\/(i≠fr/\l[i].after=true)):rM l fr i=[]:=by
 have hd:=List.drop_eq_getElem_cons hi;unfold rM;split
 ·next e=>
  subst e;rcases h with h|h
  ·rw[hd,lh,if_neg (by rw[h];decide)]
  ·exact absurd rfl h.1
 ·rw[hd,List.takeWhile_cons_of_neg]
  rcases h with h|h
  ·rw[h];simp
  ·rw[h.2];simp
theorem J5{l:List aO}{fr i:Nat}(hi:l.length<=i):rM l fr i=[]:=by
 unfold rM;split
 ·next e=>subst e;rw[List.drop_eq_nil_of_le hi];rfl
 ·rw[List.drop_eq_nil_of_le hi];rfl
structure Oq(f:aO):Prop where
 fine:kX f
 len:f.toks.length<=1000000
 sz:(eP f.toks 0 f.toks.length).length<=1000000
theorem Ct{B1 B:Nat}(w:World)(lv:Value)(D:List (eB×aO))(k:Nat)(h:yR B1 B w lv D)(hk:k<D.length)(hn:D.length<=1000000)(hF:∀f∈D.map (·.2),Oq f) :
  Calls Tryz.prog 78 #[lv,.int .i64 (k:Nat)] w fun e w'=>e=.returned (.int .i64 (jX (D.map (·.2)) k:Nat))/\Below w.heap.size w w':=by
 obtain⟨la,lc,rfl,AS,AM⟩:=h.len;unfold maxLen at AM;obtain⟨g,rfl,-⟩:=h.get hk;have HF:=Hh h;have AC:=Hh hF;clear h hF;go_enter Tryz.func78,Tryz.ntmps78;go_wp2_with fail;go_loopw [6] (fun i wr=>∃j:Nat,j<=k/\i=.int .i64 (j:Int)/\Hid (Ab (D.map (·.2)) j=Ab (D.map (·.2)) k)/\Below w.heap.size w wr) (fun i _=>(intOf i).toNat)
 case atStart=>exact⟨k,Nat.le_refl _,rfl,Hh rfl,Below.refl _ _⟩
 case' round=>
  obtain⟨j,hj,rfl,HJ,hb⟩:=hrel;have HB:=Hh hb;have As:=HF.out.below hb;rcases Nat.eq_zero_or_pos j with hj1|hj0
  focus
   have hj0:¬0<j:=by omega
   have Aq:Hid (Ab (D.map (·.2)) k=j):=Hh (by rw[<-HJ.out,hj1];rfl);clear HJ hb As hj1;go_wp2_with fail;have A2:=HB
  rotate_left
  focus
   obtain⟨p,hp⟩:∃p,j=p+1:=⟨j-1,by omega⟩;have A1:p<D.length:=by omega
   have Aw:j<D.length:=by omega
   obtain⟨g1,he,-,AU,o0,-,-⟩:=As.get A1;cases he
   obtain⟨g1,he,-,-,-,p1,-⟩:=As.get Aw;cases he
   have hT:=As.fin D[p] (List.getElem_mem A1);have Aa:=AC.out D[p].2 (List.mem_map_of_mem (List.getElem_mem A1));have Ap:Hid (Ab (D.map (·.2)) j=if !D[j].2.after&&lw D[p].2 then Ab (D.map (·.2)) p else j):=Hh (by subst hp;exact K7 (f:=D[p+1].2) (g:=D[p].2) (by rw[List.getElem?_map,List.getElem?_eq_getElem Aw];rfl) (by rw[List.getElem?_map,List.getElem?_eq_getElem A1];rfl));have Ad:=Fw D[p].2;obtain⟨af,At⟩:∃af,D[j].2.after=af:=⟨_,rfl⟩;rw[At] at p1 Ap;generalize D[p]=dj at *;obtain⟨⟨da,dn,dc⟩,dt⟩:=dj;obtain⟨a',c',e'⟩:=hT.len;simp only[bQ,Value.slice.injEq] at e';obtain⟨rfl,rfl,rfl⟩:=e';simp only[bQ] at o0 Ad Aa Ap;have hE:=fun W hW=>qp W _ dt.toks ((hT.toks).below (B:=wr.heap.size) hW lz) Aa.len;simp only[bQ] at hE;have hE:=hE wr (Below.refl _ _);obtain⟨A5,Ac⟩:∃b,lw dt=b:=⟨_,rfl⟩;rw[Ac] at Ad Ap;have iw:IntKind.i64.wrap ((j:Int)-1)=(p:Int):=by rw[IntWalk.i64_in _ (by omega)];omega
   generalize sM (oG dt.toks)=rv at *;have Am:=Hh (Ap.out.symm.trans HJ.out);have i1:(0:Int)<=(j:Int):=by omega
   have i2:(j:Int)<(D.length:Int):=by omega
   have i3:(p:Int)<(D.length:Int):=by omega
   have i4:(0:Int)<=(p:Int):=by omega
   have HP:=Hh hp;have Ae:=Hh Ad;clear At hT Aa As Ad Ac hb HJ Ap hp;obtain⟨N1,An⟩:=exq dt.toks.length;rw[<-An] at o0 hE;clear An;cases af
   case' true=>
    have Aq:Hid (Ab (D.map (·.2)) k=j):=Hh (by rw[<-Am.out];rfl);clear hE Ae Am o0;go_wp2_with fail;have A2:=HB
   case' false=>
    go_wp2_with fail;refine hE.mono ?_;clear hE;rintro _ w3 ⟨rfl,hb3⟩;have Af:=Hh (HB.out.trans (hb3.mono HB.out.size));clear hb3 o0 p1;cases A5
    case' true=>
     have Al:(0:Int)<=rv:=by have:=Ae.out;simpa using this
     have AL:Hid (Ab (D.map (·.2)) p=Ab (D.map (·.2)) k):=Hh Am.out;clear Ae Am;go_wp2_with fail;go_roundw
     case rel=>exact⟨p,by have:=HP.out;omega,by first|rfl|go_num,AL,Af.out⟩
     case measure=>have:=HP.out;simp[intOf]<;>omega
    case' false=>
     have Al:¬(0:Int)<=rv:=by have:=Ae.out;simpa using this
     have Aq:Hid (Ab (D.map (·.2)) k=j):=Hh (by rw[<-Am.out];rfl);have A2:=Af;clear Ae Am;go_wp2_with fail
  all_goals
   have HB:=A2;have AT:j<=k:=by have:=K6 (D.map (·.2)) k;have:=Aq.out;omega
   have HW:Hid (jX (D.map (·.2)) k=gX (lh ((D.map (·.2)).drop j))):=Hh (by unfold jX;rw[Aq.out]);clear Aq;go_loopw [5,7] (fun nv iv wr=>∃i m:Nat,j<=i/\i<=D.length/\iv=.int .i64 (i:Int)/\nv=.int .i64 (m:Int)/\Hid (gX (lh ((D.map (·.2)).drop j))=max m (gX (rM (D.map (·.2)) j i)))/\Below w.heap.size w wr) (fun _ iv _=>D.length-(intOf iv).toNat)
   case atStart=>exact⟨j,0,Nat.le_refl _,by omega,rfl,rfl,Hh (by unfold rM;rw[if_pos rfl];omega),HB.out⟩
   case round=>
    obtain⟨i,m,AP,hi,rfl,rfl,HM,Az⟩:=hrel;have Ao:=Hh Az
    by_cases hil:i<D.length
    ·have A7:=HF.out.below Az
     obtain⟨g1,he,-,Aj,o0,o1,-⟩:=A7.get hil;cases he
     have hT:=A7.fin D[i] (List.getElem_mem hil);have Aa:=AC.out D[i].2 (List.mem_map_of_mem (List.getElem_mem hil));have Ad:=Fw D[i].2;have Ak:i<(D.map (·.2)).length:=by rw[List.length_map];exact hil
     have Av:(D.map (·.2))[i]=D[i].2:=List.getElem_map ..;have Ah:Hid (lw D[i].2=true->(i=j\/D[i].2.after=false)->rM (D.map (·.2)) j i=D[i].2::rM (D.map (·.2)) j (i+1)):=Hh (fun h1 h2=>by have q:=Ie Ak AP (by rw[Av];exact h1) (by rw[Av];exact h2);rw[Av] at q;exact q);have Ag:Hid (lw D[i].2=false\/(i≠j/\D[i].2.after=true)->rM (D.map (·.2)) j i=[]):=Hh (fun h=>J4 Ak (by rw[Av];exact h));clear Av Ak;generalize D[i]=di at *;obtain⟨⟨da,dn,dc⟩,dt⟩:=di;obtain⟨a',c',e'⟩:=hT.len;simp only[bQ,Value.slice.injEq] at e';obtain⟨rfl,rfl,rfl⟩:=e';simp only[bQ] at o0 o1 Ad Aa Ah Ag hT;have AG:=Hh hT.toks;have Ai:=Hh Aa;have hE:=qp wr _ dt.toks hT.toks Aa.len;obtain⟨A5,Ac⟩:∃b,lw dt=b:=⟨_,rfl⟩;have Ax:=Hh Ac;rw[Ac] at Ad Ah Ag;obtain⟨af,At⟩:∃af,dt.after=af:=⟨_,rfl⟩;rw[At] at o1 Ah Ag;obtain⟨rv,Al⟩:=exq (sM (oG dt.toks));rw[<-Al] at hE Ad;have Ae:=Hh Ad;have AF:=Hh Al;obtain⟨N1,An⟩:=exq dt.toks.length;rw[<-An] at o0 hE;have AE:=Hh An;have i1:(0:Int)<=(i:Int):=by omega
     have i2:(i:Int)<(D.length:Int):=by omega
     clear hT Aa Ad Ac At Al An A7 Az
     cases A5 with
     |false=>
      have Al:¬(0:Int)<=rv:=by have:=Ae.out;simpa using this
      have Ar:Hid (gX (lh ((D.map (·.2)).drop j))=m):=Hh (by rw[HM.out,Ag.out (.inl rfl)];simp[gX]);clear Ae Ah Ag HM;go_wp2_with fail;refine hE.mono ?_;clear hE;rintro _ w3 ⟨rfl,hb3⟩;have Af:=Hh (Ao.out.trans (hb3.mono Ao.out.size));clear hb3 o0 o1;go_wp2_with fail;go_ret;exact⟨by rw[HW.out,Ar.out];rfl,Af.out⟩
     |true=>
      have Al:(0:Int)<=rv:=by have:=Ae.out;simpa using this
      have Au:∀W,Below wr.heap.size wr W->W.cell? ⟨g,i*2,none⟩=some (.slice da N1 dc)/\W.cell? ⟨g,i*2+1,none⟩=some (.bool af)/\g<W.heap.size:=fun W hW=>⟨(hW.cell (p:=⟨g,i*2,none⟩) Aj).trans o0,(hW.cell (p:=⟨g,i*2+1,none⟩) Aj).trans o1,Nat.lt_of_lt_of_le Aj hW.size⟩;have AB:=Hh Au;clear Au;go_wp2_with fail;refine hE.mono ?_;clear hE;rintro _ w3 ⟨rfl,hb3⟩;have Af:=Hh (Ao.out.trans (hb3.mono Ao.out.size));have A3:=Hh hb3;obtain⟨z0,z1,zl⟩:=AB.out w3 hb3;clear hb3 o0 o1
      by_cases hgo:i=j\/af=false
      ·have AJ:=Hh (Ah.out (by first|trivial|rfl) hgo)
       clear Ag Ah
       have AO:i=j\/(i≠j/\af=false):=by
        by_cases e:i=j
        ·exact .inl e
        ·exact .inr ⟨e,hgo.resolve_left e⟩
       clear hgo;rcases AO with e|⟨e,rfl⟩
       have ee:((i:Int)==(j:Int))=true:=by rw[e];simp
       rotate_left
       have ee:((i:Int)==(j:Int))=false:=by rw[beq_eq_false_iff_ne];omega
       all_goals
        clear e;have A9:rv=((dt.eq:Nat):Int):=by rw[AF.out];exact Gw Ax.out
        have AQ:=(mV Ax.out).2;have AR:=Hh A9;have hP:=fun W (hW:Below wr.heap.size wr W)=>vH W (.slice da dt.toks.length dc) dt.toks 0 dt.eq (AG.out.below hW lz) (Nat.zero_le _) (by omega) Ai.out.len (Nat.le_trans (sV (by omega)) Ai.out.sz);rw[<-AE.out] at hP;have hA:=FB Ai.out.fine Ax.out;rw[<-hA] at hP;have AI:=sV (row:=dt.toks) (fr:=0) (k:=dt.eq) (en:=dt.toks.length) (by omega);rw[<-hA] at AI;have Ay:=fun W=>xH W (av (aR dt)) (by show (aR dt).length<=_;have:=Ai.out.sz;omega) (Ai.out.fine.tx Ax.out);rw[bi] at Ay;have A6:=fun W (hW:Below wr.heap.size wr W)=>qp W (.slice da dt.toks.length dc) dt.toks (AG.out.below hW lz) Ai.out.len;rw[<-AE.out,<-AF.out] at A6;simp only[show ((0:Nat):Int)=0 from rfl] at hP;rw[<-A9] at hP;obtain⟨cc,A0⟩:=exq (dG (aR dt));rw[<-A0] at Ay;have AK:=Hh A0;have AN:cc<=1000000:=by rw[A0];have:=oH (aR dt);have:=Ai.out.sz;omega
        clear A9 hA AI A0 AQ;go_wp2_with fail;have hU:=A3.out;have c1:=fun x:gq w3=>gq.call x (A6 x.w (hU.trans (x.below.mono hU.size)));have c2:=fun x:gq w3=>gq.call x (hP x.w (hU.trans (x.below.mono hU.size)));have c3:=fun x:gq w3=>gq.call x (Ay x.w);have f0:=fun x:gq w3=>(AB.out x.w (hU.trans (x.below.mono hU.size))).1;refine jg w3 (by kernel_rfl) (by kernel_rfl) (Below.refl _ _) ?_;repeat (go_big_quiet_step ((first|(go_at_call 75;with_reducible exact c1 _)|(go_at_call 76;with_reducible exact c2 _)|(go_at_call 77;with_reducible exact c3 _))))
        refine wpQuiet_nil ?_;rintro _ ⟨x,rfl⟩;clear c1 c2 c3 f0 A6 hP Ay hU z0 z1;have AA:=Hh (Af.out.trans (x.below.mono Af.out.size));generalize x.w=w4 at *;have AD:Hid (gX (lh ((D.map (·.2)).drop j))=max (max m cc) (gX (rM (D.map (·.2)) j (i+1)))):=Hh (by rw[HM.out,AJ.out,uD,<-AK.out];omega)
        by_cases hmc:m<cc
        ·have A4:Hid (gX (lh ((D.map (·.2)).drop j))=max cc (gX (rM (D.map (·.2)) j (i+1)))):=Hh (by rw[AD.out];omega)
         go_wp2_with fail;go_roundw
         case rel=>exact⟨i+1,cc,by omega,hil,by go_num,rfl,A4,AA.out⟩
         case measure=>simp[intOf]<;>omega
        ·have A4:Hid (gX (lh ((D.map (·.2)).drop j))=max m (gX (rM (D.map (·.2)) j (i+1)))):=Hh (by rw[AD.out];omega)
         go_wp2_with fail;go_roundw
         case rel=>exact⟨i+1,m,by omega,hil,by go_num,rfl,A4,AA.out⟩
         case measure=>simp[intOf]<;>omega
      ·have AH:i≠j:=fun e=>hgo (.inl e)
       have A8:af=true:=by
        cases af with
        |true=>rfl
        |false=>exact absurd (.inr rfl) hgo
       have ee:((i:Int)==(j:Int))=false:=by rw[beq_eq_false_iff_ne];omega
       subst A8;have Ar:Hid (gX (lh ((D.map (·.2)).drop j))=m):=Hh (by rw[HM.out,Ag.out (.inr ⟨AH,rfl⟩)];simp[gX]);clear AH hgo Ah Ag;go_wp2_with fail;go_ret;exact⟨by rw[HW.out,Ar.out];rfl,Af.out⟩
    ·obtain rfl:i=D.length:=by omega
     have Ar:Hid (gX (lh ((D.map (·.2)).drop j))=m):=Hh (by rw[HM.out,J5 (by simp)];simp[gX]);clear Az;go_wp2_with fail;go_ret;exact⟨by rw[HW.out,Ar.out];rfl,Ao.out⟩
end Go.Proofs.YtbcdaaobbebooaaGreatDoor
