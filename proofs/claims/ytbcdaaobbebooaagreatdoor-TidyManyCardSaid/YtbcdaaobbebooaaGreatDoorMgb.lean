import Derived.Test.YtbcdaaobbebooaaGreatDoorMga
import Derived.Lib.SlTrimSet
import Derived.Lib.IndexMore
import Derived.Deep.Slices
import Derived.SliceStrings
import Derived.ChangeArms
import Derived.Lib.Builder
import Derived.Lib.AppendStr
import Derived.Lib.UnsafeStr
import Derived.Laws.Externs
import Derived.Laws.BitsAllLaws
set_option linter.unusedSimpArgs false
set_option linter.unusedVariables false
set_option maxRecDepth 100000
set_option maxHeartbeats 20000000
namespace Go.Proofs.YtbcdaaobbebooaaGreatDoor
def npc(l:Bs):Bool×Bs×Bs×Bs×Bs×Bs:=
 let a:=l.drop (lY l)
 let b:=a.drop (eQ a)
 let c:=b.drop (bX b)
 (decide (lY l=1),a.take (eQ a),(b.take (bX b)).drop 1,c.take 1,(c.drop 1).take (nL (c.drop 1)),(c.drop 1).drop (nL (c.drop 1)))
def decR(l:Bs):(Bool×Bs×Int)×Int:=
 if df l=l.length/\l≠[] then gI (npc l).1 (npc l).2.1 (npc l).2.2.1 (oq (npc l).2.2.2.2.1 (npc l).2.2.2.2.2) else ((false,[],0),3)
def MS(l:Bs):Int:=(decR l).2
section
variable {l:Bs} {neg:Bool} {ip fr mk sg pw:Bs}
theorem bq.sgEq(h:bq l neg ip fr mk sg pw)(hp:pw≠[]):nL (sg++pw)=sg.length:=by
 rcases h.exp with ⟨rfl,rfl,rfl⟩|⟨hm,hs,-⟩
 ·exact absurd rfl hp
 ·rcases hs with rfl|rfl|rfl
  ·cases pw with
   |nil=>exact absurd rfl hp
   |cons c p=>
    have hc:=p9 h.dpw (c:=c) rfl;rw[List.nil_append,nL,if_neg]
    ·rfl
    ·intro e
     rcases e with rfl|rfl<;>revert hc<;>decide
  ·rfl
  ·rfl
theorem bq.frac(h:bq l neg ip fr mk sg pw):bX ((if fr=[] then [] else 46::fr)++(mk++(sg++pw)))=(if fr=[] then ([]:Bs) else 46::fr).length:=by
 have hh:=fun c=>h.pow_head (c:=c);generalize mk++(sg++pw)=r at hh ⊢
 by_cases hf:fr=[]
 ·rw[if_pos hf,List.nil_append]
  cases r with
  |nil=>rfl
  |cons c r=>rw[bX,if_neg];(· rfl);intro e;exact (hh c rfl).2 e.1
 ·rw[if_neg hf,List.cons_append]
  have hd:bI (fr++r)=fr.length:=by rw[pY _ _ h.dfr,uZ r (fun c hc=>(hh c hc).1)];rfl
  rw[bX,hd,if_pos ⟨rfl,oC hf⟩,List.length_cons];omega
theorem bq.npc(h:bq l neg ip fr mk sg pw):npc l=(neg,ip,fr,mk,sg,pw):=by
 have hm:=h.mn;have hi:=h.int;have hf:=h.frac;have hs:=h.sgEq;have he:=h.exp;unfold Go.Proofs.YtbcdaaobbebooaaGreatDoor.npc;simp only;rw[hm.2,hi,List.drop_left,List.take_left,hf,List.drop_left,List.take_left,hm.1];have h1:decide ((if neg=true then 1 else 0:Nat)=1)=neg:=by cases neg<;>rfl
 have h2:(if fr=[] then ([]:Bs) else 46::fr).drop 1=fr:=by
  by_cases hfr:fr=[]
  ·rw[if_pos hfr,hfr];rfl
  ·rw[if_neg hfr];rfl
 rw[h1,h2];rcases he with ⟨rfl,rfl,rfl⟩|⟨hmk,-,hp⟩
 ·rfl
 ·have Aa:mk.length=1:=by rcases hmk with rfl|rfl<;>rfl
  have e1:(mk++(sg++pw)).take 1=mk:=by rw[<-Aa,List.take_left]
  have e2:(mk++(sg++pw)).drop 1=sg++pw:=by rw[<-Aa,List.drop_left]
  rw[e1,e2,hs hp,List.take_left,List.drop_left]
theorem bq.decR(h:bq l neg ip fr mk sg pw):decR l=gI neg ip fr (oq sg pw):=by
 unfold Go.Proofs.YtbcdaaobbebooaaGreatDoor.decR;rw[if_pos h.scan,h.npc]
end
inductive LR where
 |tok (kind size:Nat):LR
 |bad (off:Nat) (err:Int):LR
def nb(l:Bs):List Nat:=l.map UInt8.toNat
theorem iB(l:Bs):vZ (nb l):=by
 intro x hx;obtain⟨c,_,rfl⟩:=List.mem_map.1 hx;exact c.toNat_lt
theorem ky(l:Bs):(nb l).length=l.length:=List.length_map ..
def kG:Bs:=[32,9,13]
def cz(c:UInt8):Bool:=kG.contains c
def lq(c:UInt8):Bool:=decide (65<=c.toNat/\c.toNat<=90) || (decide (97<=c.toNat/\c.toNat<=122) || decide (c.toNat=95))
def Nf(c:UInt8):Bool:=lq c || dg c
def vW:Bs->Nat
 |[]=>0
 |c::l=>if Nf c then vW l+1 else 0
def dz:Bs->Nat
 |[]=>0
 |c::l=>if c=10 then 0 else dz l+1
def wM(l:Bs):Option (Nat×Int):=
 match (scan (nb l) 0).1.find? (fun x=>decide (x.2<32)&&x.2 != 9) with
 |some x=>some (x.1,3)
 | none=>match (scan (nb l) 0).2 with
  |some a=>some (a,7)
  |none=>none
def iX(l:Bs)(kind:Nat):LR:=match wM l with
 |some x=>.bad x.1 x.2
 |none=>.tok kind l.length
def iA(l:Bs):Bs:=Lib.trimRightS (l.take (dz l)) kG
def gQ:Bs->Option Nat
 |[]=>none
 |c::l=>if c=42/\l.head?=some 47 then some 0 else (gQ l).map (·+1)
def fB(l:Bs):LR:=match gQ (l.drop 2) with
 |none=>.bad 0 2
 |some n=>if (l.take (n+2)).contains 10 then .bad 0 2 else iX (l.take (n+4)) 7
def mi:List Bs:=[[61,61],[33,61],[60,61],[62,61],[38,38],[124,124]]
def oo:Bs:=[61,60,62,43,45,42,47,37,33,63,58,44,46,40,41,91,93,123,125]
def Eo(l:Bs):Nat:=if mi.any (fun d=>d.isPrefixOf l) then 2 else match l with
 |[]=>0
 |c::_=>if oo.contains c then 1 else 0
def pQ(l:Bs):LR:=if MS (l.take (df l))=0 then .tok 2 (df l) else .bad 0 (MS (l.take (df l)))
def pG(l:Bs):LR:=if (aV (nb l)).2.2=0 then .tok 3 (aV (nb l)).2.1 else .bad 0 ((aV (nb l)).2.2:Nat)
def eY:Bs->LR
 |[]=>.bad 0 3
 |c::r=>
  if lq c then .tok 1 (1+vW r)
  else if dg c then pQ (c::r)
  else if c=34 then pG (c::r)
  else if c=10 then .tok 5 1
  else if c=35\/(c=47/\r.head?=some 47) then iX (iA (c::r)) 6
  else if c=47/\r.head?=some 42 then fB (c::r)
  else if Eo (c::r)=0 then .bad 0 3 else .tok 4 (Eo (c::r))
theorem E8:∀l:Bs,vW l<=l.length
 |[]=>Nat.le_refl _
 |c::l=>by have:=E8 l;simp only[vW,List.length_cons];split<;>omega
theorem pR:∀l:Bs,dz l<=l.length
 |[]=>Nat.le_refl _
 |c::l=>by have:=pR l;simp only[dz,List.length_cons];split<;>omega
theorem wH:∀(l:Bs) (n:Nat),gQ l=some n->n+2<=l.length
 |[],n,h=>by simp[gQ] at h
 | c::l,n,h=>by
  rw[gQ] at h;split at h
  ·next hc=>
   cases h
   cases l with
   |nil=>simp at hc
   |cons d l=>simp
  ·obtain⟨m,hm,rfl⟩:=Option.map_eq_some_iff.1 h
   have:=wH l m hm;simp only[List.length_cons];omega
theorem pm(l:Bs):df l<=l.length:=by
 have hi:∀l:Bs,eQ l<=l.length:=by
  intro l
  cases l with
  |nil=>exact Nat.le_refl _
  |cons c l=>rw[eQ];split;(· simp);(· exact kF _)
 have hf:∀l:Bs,bX l<=l.length:=by
  intro l
  cases l with
  |nil=>exact Nat.le_refl _
  |cons c l=>rw[bX];have:=kF l;split<;>simp;omega
 have hs:∀l:Bs,nL l<=l.length:=by
  intro l
  cases l with
  |nil=>exact Nat.le_refl _
  |cons c l=>rw[nL];split<;>simp
 have hp:∀l:Bs,iZ l<=l.length:=by
  intro l
  cases l with
  |nil=>exact Nat.le_refl _
  |cons c l=>
   rw[iZ];have h1:=kF (l.drop (nL l));have h2:=hs l;rw[List.length_drop] at h1;split
   ·simp only[List.length_cons];omega
   ·exact Nat.zero_le _
 have hm:lY l<=l.length:=by
  cases l with
  |nil=>exact Nat.le_refl _
  |cons c l=>rw[lY];split<;>simp
 rw[df];split
 ·exact Nat.zero_le _
 ·have h1:=hi (l.drop (lY l))
  have h2:=hf (l.drop (lY l+eQ (l.drop (lY l))));have h3:=hp ((l.drop (lY l+eQ (l.drop (lY l)))).drop (bX (l.drop (lY l+eQ (l.drop (lY l))))));rw[gz];simp only[List.length_drop] at h1 h2 h3;omega
theorem Ho{c:UInt8}{r:Bs}(h:dg c=true):1<=df (c::r):=by
 have hm:lY (c::r)=0:=by
  rw[lY,if_neg];rintro rfl
  revert h;decide
 have hi:eQ (c::r)≠0:=by
  rw[eQ];split
  ·decide
  ·rw[bI,if_pos h];omega
 rw[df,hm,List.drop_zero,if_neg hi];omega
theorem yG:∀(k:Nat) (l:List Nat),vZ l->(mX k l).2.2=0->1<=(mX k l).2.1/\(mX k l).2.1<=l.length
 |0,l,_,h=>by simp[mX,aG] at h
 | k+1,l,hl,h=>by
  rw[mX] at h ⊢;split at h
  ·next hq=>
   rw[if_pos hq]
   cases l with
   |nil=>simp at hq
   |cons c l=>simp
  ·next hq=>
   rw[if_neg hq];split at h
   ·next hp=>exact absurd h hp
   ·next hp=>
    rw[if_neg hp];have hp0:(ax l).2.2=0:=by simpa using hp
    obtain⟨c,-,-,h3,h4⟩:=kI hl hp0;split at h
    ·next hr=>exact absurd h hr
    ·next hr=>
     rw[if_neg hr];have:=yG k (l.drop (ax l).2.1) (hl.drop _) (by simpa using hr);simp only[List.length_drop] at this;simp only;omega
theorem ko{l:List Nat}(hl:vZ l)(h:(aV l).2.2=0):2<=(aV l).2.1/\(aV l).2.1<=l.length:=by
 cases l with
 |nil=>simp[aV,aG] at h
 |cons c r=>
  rw[aV] at h ⊢;split at h
  ·simp[aG] at h
  ·next hc=>
   rw[if_neg hc];unfold gZ at h ⊢;split at h
   ·next he=>exact absurd h he
   ·next he=>
    rw[if_neg he];have:=yG _ r (hl.drop 1) (by simpa [bU] using he);simp only[bU,List.length_cons];omega
theorem sO(l:Bs):(iA l).length<=l.length:=by
 unfold iA Lib.trimRightS;rw[List.length_reverse];refine Nat.le_trans (List.dropWhile_sublist _).length_le ?_;rw[List.length_reverse,List.length_take];omega
theorem J6{c:UInt8}{r:Bs}(h1:c≠10)(h2:cz c=false):1<=(iA (c::r)).length:=by
 unfold iA Lib.trimRightS;rw[List.length_reverse,dz,if_neg h1,List.take_succ_cons,List.reverse_cons];generalize (r.take (dz r)).reverse=q
 induction q with
 |nil=>
  rw[List.nil_append,List.dropWhile_cons_of_neg (by rw[show kG.contains c=false from h2];simp)];simp
 |cons a q ih=>
  rw[List.cons_append,List.dropWhile_cons];split
  ·exact ih
  ·simp
theorem NE(l:Bs):Eo l<=l.length:=by
 unfold Eo;split
 ·next h=>
  obtain⟨d,hd,hp⟩:=List.any_eq_true.1 h
  have h2:d.length=2:=by
   simp only[mi,List.mem_cons,List.not_mem_nil,or_false] at hd;rcases hd with rfl|rfl|rfl|rfl|rfl|rfl<;>rfl
  have:=(List.isPrefixOf_iff_prefix.1 hp).length_le;omega
 ·split
  ·exact Nat.zero_le _
  ·split
   ·simp
   ·exact Nat.zero_le _
theorem dN{l:Bs}{k n:Nat}(h:eY l=.tok k n):1<=n/\n<=l.length:=by
 cases l with
 |nil=>cases h
 |cons c r=>
  rw[eY] at h;split at h
  ·cases h
   have:=E8 r;simp only[List.length_cons];omega
  split at h
  ·next hd=>
   unfold pQ at h;split at h
   ·cases h;exact⟨Ho hd,pm _⟩
   ·cases h
  split at h
  ·unfold pG at h
   split at h
   ·next hq=>
    cases h
    have:=ko (iB (c::r)) hq;rw[ky] at this;omega
   ·cases h
  split at h
  ·cases h;simp
  split at h
  ·next h10 hr=>
   unfold iX at h;split at h
   ·cases h
   ·cases h
    refine⟨J6 h10 ?_,sO _⟩;rcases hr with rfl|⟨rfl,-⟩<;>rfl
  split at h
  ·unfold fB at h
   split at h
   ·cases h
   ·next n hn=>
    have:=wH _ _ hn;split at h
    ·cases h
    ·unfold iX at h
     split at h
     ·cases h
     ·cases h
      simp only[List.length_take,List.length_drop,List.length_cons] at this ⊢;omega
  split at h
  ·cases h
  ·cases h
   exact⟨by omega,NE _⟩
structure ag where
 kind:Int
 text:ByteArray
 pos:Int
def xZ:Nat->Bs->Nat->List ag×Int×Int
 |0,_,_=>([],-1,0)
 |_+1,[],_=>([],-1,0)
 | n+1,c::r,p=>if cz c then xZ n r (p+1) else match eY (c::r) with
  |.bad off e=>([],((p+off:Nat):Int),e)
  |.tok k sz=>(⟨(k:Nat),av ((c::r).take sz),(p:Nat)⟩::(xZ n ((c::r).drop sz) (p+sz)).1,(xZ n ((c::r).drop sz) (p+sz)).2)
theorem uS:∀(n m:Nat) (l:Bs) (p:Nat),l.length<=n->l.length<=m->xZ n l p=xZ m l p
 | 0,m,l,p,h,_=>by
  obtain rfl:=List.eq_nil_of_length_eq_zero (Nat.le_zero.1 h);cases m<;>rfl
 | n+1,0,l,p,_,h=>by
  obtain rfl:=List.eq_nil_of_length_eq_zero (Nat.le_zero.1 h);rfl
 |n+1,m+1,[],p,_,_=>rfl
 | n+1,m+1,c::r,p,hn,hm=>by
  simp only[List.length_cons] at hn hm;rw[xZ,xZ];split
  ·exact uS n m r _ (by omega) (by omega)
  ·cases ho:eY (c::r) with
   |bad off e=>rfl
   |tok k sz=>
    have hs:=dN ho;simp only;rw[uS n m _ _ (by rw[List.length_drop,List.length_cons];omega) (by rw[List.length_drop,List.length_cons];omega)]
def aY(l:Bs)(p:Nat):List ag×Int×Int:=xZ l.length l p
theorem eZ(p:Nat):aY [] p=([],-1,0):=rfl
theorem dF{c:UInt8}{r:Bs}(h:cz c=true)(p:Nat):aY (c::r) p=aY r (p+1):=by
 unfold aY;rw[List.length_cons,xZ,if_pos h]
theorem gp{c:UInt8}{r:Bs}(h:cz c=false){off:Nat}{e:Int}(ho:eY (c::r)=.bad off e)(p:Nat):aY (c::r) p=([],((p+off:Nat):Int),e):=by
 unfold aY;rw[List.length_cons,xZ,if_neg (by rw[h];simp),ho]
theorem eF{c:UInt8}{r:Bs}(h:cz c=false){k sz:Nat}(ho:eY (c::r)=.tok k sz)(p:Nat) :
  aY (c::r) p=(⟨(k:Nat),av ((c::r).take sz),(p:Nat)⟩::(aY ((c::r).drop sz) (p+sz)).1,(aY ((c::r).drop sz) (p+sz)).2):=by
 have hs:=dN ho;unfold aY;rw[List.length_cons,xZ,if_neg (by rw[h];simp),ho];simp only;rw[uS r.length ((c::r).drop sz).length _ _ (by rw[List.length_drop,List.length_cons];omega) lz]
theorem lZ:∀(k:Nat) (l:Bs) (p:Nat),l.length<=k->(aY l p).1.length<=l.length
 | 0,l,p,h=>by
  obtain rfl:=List.eq_nil_of_length_eq_zero (Nat.le_zero.1 h);exact Nat.le_refl _
 |k+1,[],p,_=>Nat.le_refl _
 | k+1,c::r,p,h=>by
  simp only[List.length_cons] at h
  by_cases hb:cz c=true
  ·rw[dF hb]
   have:=lZ k r (p+1) (by omega);simp only[List.length_cons];omega
  ·have hb':cz c=false:=by simpa using hb
   cases ho:eY (c::r) with
   |bad off e=>rw[gp hb' ho];simp
   |tok kd sz=>
    rw[eF hb' ho];have hs:=dN ho;have:=lZ k ((c::r).drop sz) (p+sz) (by rw[List.length_drop,List.length_cons];omega);rw[List.length_drop] at this;simp only[List.length_cons] at this hs ⊢;omega
end Go.Proofs.YtbcdaaobbebooaaGreatDoor
namespace Go.Proofs.YtbcdaaobbebooaaGreatDoor
open Go.RowKit Go.Tab
def gN(t:ag):List Value:=[.int .i64 t.kind,.string t.text,.int .i64 t.pos]
abbrev eO(t:ag):Value:=.agg #[.int .i64 t.kind,.string t.text,.int .i64 t.pos]
def aI(base:Nat)(w:World)(v:Value)(l:List ag):Prop:=w.ownsRow base 63 3 v l.length (l.flatMap gN)
theorem aI.nil{base:Nat}{w:World}:aI base w (.slice none 0 0) []:=World.ownsRow_nil _ _ _ _
theorem aI.alloc{base:Nat}{w:World}{v:Value}{l:List ag}(h:aI base w v l)(o:Obj):aI base (w.alloc o) v l:=World.ownsRow.alloc h o
theorem aI.moved{base:Nat}{w w':World}{v:Value}{l:List ag}(h:aI base w v l)(hc:∀k,v.ownBlock=some k->w'.heap[k]?=w.heap[k]?):aI base w' v l:=by
 obtain⟨h1,h2⟩:=h;refine⟨h1,?_⟩;rcases h2 with h2|⟨g,cap,cur,rfl,hg0,hg,r⟩
 ·exact .inl h2
 ·exact .inr ⟨g,cap,cur,rfl,hg0,by rw[hc g rfl];exact hg,r⟩
theorem aI.below{base B:Nat}{w w':World}{v:Value}{l:List ag}(h:aI base w v l)(hb:Below B w w')(hB:w.heap.size<=B):aI base w' v l:=
 h.moved fun k hk=>hb.block k (Nat.lt_of_lt_of_le (World.ownsRow.lt h k hk).2 hB)
theorem aI.base_le{base base':Nat}{w:World}{v:Value}{l:List ag}(h:aI base w v l)(hb:base'<=base):aI base' w v l:=by
 obtain⟨h1,h2⟩:=h;refine⟨h1,?_⟩;rcases h2 with h2|⟨g,cap,cur,hv,hg0,r⟩
 ·exact .inl h2
 ·exact .inr ⟨g,cap,cur,hv,by omega,r⟩
theorem aI.len{base:Nat}{w:World}{v:Value}{l:List ag}(h:aI base w v l):∃a cap,v=.slice a l.length cap:=by
 obtain⟨h1,h2⟩:=h;rcases h2 with ⟨rfl,h3⟩|⟨g,cap,cur,rfl,_⟩
 ·exact⟨none,0,by rw[h3]⟩
 ·exact⟨_,cap,rfl⟩
theorem Tryz.infoTok:(Tryz.prog.info? 63).map (fun i=>(i.zero,i.size,i.bytes))=some (some (.agg #[.int .i64 0,.string ⟨#[]⟩,.int .i64 0]),3,32):=by kernel_rfl
theorem sF(t:ag):∀u∈gN t,u.oneCell'=true:=by
 intro u hu;simp only[gN,List.mem_cons,List.not_mem_nil,or_false] at hu;rcases hu with rfl|rfl|rfl<;>rfl
theorem uf:∀(l:List ag) (j:Nat) (h:j<l.length),(l.flatMap gN)[j*3]?=some (.int .i64 l[j].kind)/\(l.flatMap gN)[j*3+1]?=some (.string l[j].text)/\(l.flatMap gN)[j*3+2]?=some (.int .i64 l[j].pos)
 |p::l,0,_=>by simp[gN]
 | p::l,j+1,h=>by
  have ih:=uf l j (by simpa using h);have e1:(j+1)*3=j*3+3:=by omega
  rw[e1]
  simpa [gN] using ih
def aH(w:World)(v:Value)(l:List ag):Prop:=
 ∃a cap,v=.slice a l.length cap/\l.length<=cap/\cap<=maxLen/\(a=none->cap=0)/\
  ∀x,a=some x->l≠[]->x.spot=none/\x.block<w.heap.size/\∀j (h:j<l.length),w.cell? ⟨x.block,x.off+j*3,none⟩=some (.int .i64 l[j].kind)/\
   w.cell? ⟨x.block,x.off+j*3+1,none⟩=some (.string l[j].text)/\w.cell? ⟨x.block,x.off+j*3+2,none⟩=some (.int .i64 l[j].pos)
theorem aH.nil{w:World}:aH w (.slice none 0 0) []:=⟨none,0,rfl,Nat.le_refl _,Nat.zero_le _,fun _=>rfl,fun x hx=>by cases hx⟩
theorem aI.toks{base:Nat}{w:World}{v:Value}{l:List ag}(h:aI base w v l):aH w v l:=by
 have Aa:=World.ownsRow.lt h;obtain⟨h1,h2⟩:=h;rcases h2 with ⟨rfl,h3⟩|⟨g,cap,cur,rfl,hb,hg,h3,h4,h5,h6⟩
 ·have:l=[]:=List.eq_nil_of_length_eq_zero h3
  subst this;exact aH.nil
 ·refine⟨_,cap,rfl,h3,h4,(fun h=>by cases h),fun x hx _=>?_⟩
  cases hx
  refine⟨rfl,(Aa g rfl).2,fun j hj=>?_⟩;obtain⟨f1,f2,f3⟩:=uf l j hj;rw[<-h6,List.getElem?_take,if_pos (by omega)] at f1 f2 f3;refine⟨?_,?_,?_⟩
  ·rw[cell_of_row w g _ cur 63 (0,0) hg]
   simpa using f1
  ·rw[cell_of_row w g _ cur 63 (0,0) hg]
   simpa using f2
  ·rw[cell_of_row w g _ cur 63 (0,0) hg]
   simpa using f3
theorem aH.moved{w w':World}{v:Value}{l:List ag}(h:aH w v l)(hs:w.heap.size<=w'.heap.size)(hc:∀b off,b<w.heap.size->v.ownBlock=some b->w'.cell? ⟨b,off,none⟩=w.cell? ⟨b,off,none⟩):aH w' v l:=by
 obtain⟨a,Aa,rfl,h1,h2,h3,h4⟩:=h;refine⟨a,Aa,rfl,h1,h2,h3,fun x hx hl=>?_⟩;obtain⟨g1,g2,g3⟩:=h4 x hx hl;subst hx;refine⟨g1,Nat.lt_of_lt_of_le g2 hs,fun j hj=>?_⟩;rw[hc _ _ g2 rfl,hc _ _ g2 rfl,hc _ _ g2 rfl];exact g3 j hj
theorem aH.below{w w':World}{B:Nat}{v:Value}{l:List ag}(h:aH w v l)(hb:Below B w w')(hB:w.heap.size<=B):aH w' v l:=
 h.moved hb.size fun b off hx _=>hb.cell (Nat.lt_of_lt_of_le hx hB)
theorem aH.get{w:World}{a:Option Addr}{n cap:Nat}{l:List ag}(h:aH w (.slice a n cap) l){j:Nat}(hj:j<l.length) :
  ∃b off,a=some ⟨b,off,none⟩/\b<w.heap.size/\w.cell? ⟨b,off+j*3,none⟩=some (.int .i64 l[j].kind)/\w.cell? ⟨b,off+j*3+1,none⟩=some (.string l[j].text)/\w.cell? ⟨b,off+j*3+2,none⟩=some (.int .i64 l[j].pos):=by
 obtain⟨a',Aa,he,h1,h2,h3,h4⟩:=h;cases he
 cases a with
 |none=>have:=h3 rfl;omega
 |some x=>
  obtain⟨b,off,sp⟩:=x;obtain⟨rfl,g2,g3⟩:=h4 _ rfl (by intro h0;subst h0;simp at hj);exact⟨b,off,rfl,g2,g3 j hj⟩
theorem aH.len{w:World}{v:Value}{l:List ag}(h:aH w v l):∃a cap,v=.slice a l.length cap/\l.length<=cap/\cap<=maxLen/\(a=none->cap=0):=by
 obtain⟨a,cap,h1,h2,h3,h4,-⟩:=h;exact⟨a,cap,h1,h2,h3,h4⟩
section
variable {w:World} {ops:Array Oper} {rest:List Oper} {o:Oper} {a:Act} {Q:Exit->Act->World->Prop}
theorem jI(hgd:Region.wanted o (yielded ops a.tmps)=true)(s x:Operand)
  (ho:o.op=.call { callee:=.builtin .append,args:=#[s,x],argTypes:=#[22,22] })
  (base:Nat) (l:List ag) (t:ag) (hown:aI base w (a.eval s) l) (g:Nat) (hx:a.eval x=.slice (some ⟨g,0,none⟩) 1 1)
  (hc0:w.cell? ⟨g,0,none⟩=some (.int .i64 t.kind)) (hc1:w.cell? ⟨g,1,none⟩=some (.string t.text)) (hc2:w.cell? ⟨g,2,none⟩=some (.int .i64 t.pos))
  (hm:l.length<=1048576) (hbase:base<=w.heap.size) (w0:World) (hb:Below base w0 w)
  (hK:∀v' w',aI base w' v' (l++[t])->Below base w0 w'->w.grownBy w' (a.eval s).ownBlock->wpList Tryz.prog ops Q rest (a.put o.dst v') w'):wpList Tryz.prog ops Q (o::rest) a w:=by
 refine fF hgd fun K hK'=>?_;obtain⟨i,Aa,Ab,Ac,Ad⟩:=info_parts Tryz.infoTok;refine wp_append_own w s x 22 ho base 63 i _ 3 32 Tryz.underlying22 Aa Ab Ac Ad rfl (by decide) (a.eval s) l.length (l.flatMap gN) rfl hown ⟨g,0,none⟩ 1 1 (gN t) hx rfl ?_ (sF t) (by unfold maxLen;omega) (by omega) hbase ?_
 ·intro j u hu
  rw[Addr.add_lit]
  match j with
  |0=>simp[gN] at hu;subst hu;simpa using hc0
  |1=>simp[gN] at hu;subst hu;simpa using hc1
  |2=>simp[gN] at hu;subst hu;simpa using hc2
  |j+3=>simp[gN] at hu
 ·intro v' w' hown' hg _
  refine hK' _ _ (hK v' w' ?_ (hb.trans (fI hg hbase (fun k hk=>(World.ownsRow.lt hown k hk).1))) hg);unfold aI
  simpa using hown'
end
end Go.Proofs.YtbcdaaobbebooaaGreatDoor
namespace Go.Proofs.YtbcdaaobbebooaaGreatDoor
inductive gu where
 |mk (op text:ByteArray) (kids:List gu):gu
def gu.kids:gu->List gu
 |.mk _ _ k=>k
def aQ:gu:=.mk ⟨#[]⟩ ⟨#[]⟩ []
def vI:List (Bs×Int):=[([63],0),([124,124],1),([38,38],2),([61,61],3),([33,61],3),([60],4),([62],4),([60,61],4),([62,61],4),([43],5),([45],5),([42],6),([47],6),([37],6),([33],7),([110,101,103],7),
 ([103,101,116],8),([97,116],8),([110,97,109,101],8),([99,97,108,108],8),([110,117,109],8),([116,101,120,116],8),([108,105,115,116],8)]
def CX(s:ByteArray):Int:=match vI.find? (fun x=>x.1==s.data.toList) with
 |some x=>x.2
 |none=>-1
def bO(r:List ag)(w:ByteArray):Bool:=match r with
 |[]=>false
 |t::_=>decide (t.kind=4)&&decide (t.text=w)
def Gl(r:List ag)(lv:Nat):Option ByteArray:=match r with
 |[]=>none
 |t::_=>if t.kind=4/\CX t.text=lv then some t.text else none
abbrev fw:=gu×Nat×Int
def cO(r:List ag)(n:Nat):fw:=if r=[] then (aQ,n,2) else (aQ,n,3)
def dL(n:Nat)(g:fw):fw:=(g.1,n+g.2.1,g.2.2)
def jP(s:ByteArray):Option ByteArray:=
 if (aV (nb s.data.toList)).2.2=0/\(aV (nb s.data.toList)).2.1=s.size then some (av ((aV (nb s.data.toList)).1.map UInt8.ofNat)) else none
inductive Nt where
 |choice:Nt
 |term (lv:Nat):Nt
 |tloop (lv:Nat) (a:gu):Nt
 |tight:Nt
 |post:Nt
 |ploop (a:gu):Nt
 |prime:Nt
 |many (shut:ByteArray):Nt
 |mloop (shut:ByteArray) (l:List gu):Nt
abbrev sQ:ByteArray:=⟨#[63]⟩
abbrev LP:ByteArray:=⟨#[58]⟩
abbrev dE:ByteArray:=⟨#[33]⟩
abbrev jL:ByteArray:=⟨#[45]⟩
abbrev rG:ByteArray:=⟨#[46]⟩
abbrev jM:ByteArray:=⟨#[44]⟩
abbrev AC:ByteArray:=⟨#[40]⟩
abbrev ql:ByteArray:=⟨#[41]⟩
abbrev AJ:ByteArray:=⟨#[91]⟩
abbrev pq:ByteArray:=⟨#[93]⟩
abbrev pO:ByteArray:=⟨#[110,101,103]⟩
abbrev nR:ByteArray:=⟨#[103,101,116]⟩
abbrev vV:ByteArray:=⟨#[97,116]⟩
abbrev qW:ByteArray:=⟨#[110,97,109,101]⟩
abbrev kK:ByteArray:=⟨#[99,97,108,108]⟩
abbrev y8:ByteArray:=⟨#[110,117,109]⟩
abbrev pM:ByteArray:=⟨#[116,101,120,116]⟩
abbrev kJ:ByteArray:=⟨#[108,105,115,116]⟩
abbrev iU:ByteArray:=⟨#[]⟩
def mh(n:Nat):fw:=(aQ,n,5)
def iE(g:fw)(f:gu->Nat->fw):fw:=if g.2.2=0 then f g.1 g.2.1 else (aQ,g.2)
def aj:Nat->Nt->List ag->Nat->fw
 |0,_,_,_=>(aQ,0,-1)
 |n+1,.choice,r,d=>iE (aj n (.term 1) r d) fun a k=>
   if bO (r.drop k) sQ=false then (a,k,0) else if 64<=d then mh k else
   iE (dL (k+1) (aj n .choice (r.drop (k+1)) (d+1))) fun b k2=>
   if bO (r.drop k2) LP=false then cO (r.drop k2) k2 else
   iE (dL (k2+1) (aj n .choice (r.drop (k2+1)) (d+1))) fun c k3=>(.mk sQ iU [a,b,c],k3,0)
 | n+1,.term lv,r,d=>if 7<=lv then aj n .tight r d else
   iE (aj n (.term (lv+1)) r d) fun a k=>dL k (aj n (.tloop lv a) (r.drop k) d)
 | n+1,.tloop lv a,r,d=>match Gl r lv with
   |none=>(a,0,0)
   |some o=>iE (dL 1 (aj n (.term (lv+1)) (r.drop 1) d)) fun b k=>dL k (aj n (.tloop lv (.mk o iU [a,b])) (r.drop k) d)
 | n+1,.tight,r,d=>if bO r dE=false/\bO r jL=false then aj n .post r d else if 64<=d then mh 0 else
   iE (dL 1 (aj n .tight (r.drop 1) (d+1))) fun a k=>(.mk (if bO r dE then dE else pO) iU [a],k,0)
 |n+1,.post,r,d=>iE (aj n .prime r d) fun a k=>dL k (aj n (.ploop a) (r.drop k) d)
 |n+1,.ploop a,r,d=>
   if bO r rG then match r.drop 1 with
    |[]=>cO [] 1
    |t::_=>if t.kind=1 then dL 2 (aj n (.ploop (.mk nR t.text [a])) (r.drop 2) d) else cO (r.drop 1) 1
   else if bO r AJ then (if 64<=d then mh 0 else
    iE (dL 1 (aj n .choice (r.drop 1) (d+1))) fun b k=>if bO (r.drop k) pq=false then cO (r.drop k) k else dL (k+1) (aj n (.ploop (.mk vV iU [a,b])) (r.drop (k+1)) d))
   else (a,0,0)
 | n+1,.prime,r,d=>match r with
   |[]=>cO [] 0
   |t::r'=>
    if t.kind=1 then (if bO r' AC then iE (dL 1 (aj n (.many ql) r' d)) fun x k=>(.mk kK t.text x.kids,k,0) else (.mk qW t.text [],1,0))
    else if t.kind=2 then (.mk y8 t.text [],1,0)
    else if t.kind=3 then (match jP t.text with|none=>(aQ,0,3)|some s=>(.mk pM s [],1,0))
    else if bO r AJ then iE (aj n (.many pq) r d) fun x k=>(.mk kJ iU x.kids,k,0)
    else if bO r AC then (if 64<=d then mh 0 else iE (dL 1 (aj n .choice r' (d+1))) fun a k=>if bO (r.drop k) ql=false then cO (r.drop k) k else (a,k+1,0))
    else cO r 0
 |n+1,.many s,r,d=>if 64<=d then mh 0 else if bO (r.drop 1) s then (.mk iU iU [],2,0) else dL 1 (aj n (.mloop s []) (r.drop 1) d)
 |n+1,.mloop s l,r,d=>iE (aj n .choice r (d+1)) fun a k=>
   if bO (r.drop k) jM then dL (k+1) (aj n (.mloop s (l++[a])) (r.drop (k+1)) d) else if bO (r.drop k) s then (.mk iU iU (l++[a]),k+1,0) else cO (r.drop k) k
def Nt.rank:Nt->Nat
 |.choice=>14
 |.term lv=>13-lv
 |.tloop _ _=>2
 |.tight=>5
 |.post=>4
 |.ploop _=>2
 |.prime=>3
 |.many _=>2
 |.mloop _ _=>15
def ib(t:Nt)(r:List ag):Nat:=r.length*16+t.rank
theorem bL{g:fw}{f:gu->Nat->fw}(h:g.2.2=0):iE g f=f g.1 g.2.1:=by rw[iE,if_pos h]
theorem bf{g:fw}{f:gu->Nat->fw}(h:g.2.2≠0):iE g f=(aQ,g.2):=by rw[iE,if_neg h]
def j6(m:Nat)(r:List ag)(g:fw):Prop:=g.2.2≠-1/\g.2.1<=r.length/\(g.2.2=0->m<=g.2.1)
theorem j6.and{m m2:Nat}{r:List ag}{g:fw}{f:gu->Nat->fw}(h:j6 m r g)(hf:g.2.2=0->m<=g.2.1->g.2.1<=r.length->j6 m2 r (f g.1 g.2.1)):j6 m2 r (iE g f):=by
 by_cases he:g.2.2=0
 ·rw[bL he];exact hf he (h.2.2 he) h.2.1
 ·rw[bf he];exact⟨h.1,h.2.1,fun e=>absurd e he⟩
theorem j6.up{m n:Nat}{r:List ag}{g:fw}(h:j6 m (r.drop n) g)(hn:n<=r.length):j6 (n+m) r (dL n g):=by
 obtain⟨h1,h2,h3⟩:=h;rw[List.length_drop] at h2;exact⟨h1,by simp only[dL];omega,fun e=>by have:=h3 e;simp only[dL];omega⟩
theorem j6.less{m m2:Nat}{r:List ag}{g:fw}(h:j6 m r g)(hm:m2<=m):j6 m2 r g:=⟨h.1,h.2.1,fun e=>Nat.le_trans hm (h.2.2 e)⟩
theorem j6.ok{m n:Nat}{r:List ag}{x:gu}(h1:n<=r.length)(h2:m<=n):j6 m r (x,n,0):=⟨(by decide:(0:Int)≠-1),h1,fun _=>h2⟩
theorem j6.bad{m:Nat}{r q:List ag}{n:Nat}(hn:n<=r.length):j6 m r (cO q n):=by
 unfold cO;split
 ·exact⟨(by decide:(2:Int)≠-1),hn,fun e=>by cases e⟩
 ·exact⟨(by decide:(3:Int)≠-1),hn,fun e=>by cases e⟩
theorem j6.deep{m:Nat}{r:List ag}{n:Nat}(hn:n<=r.length):j6 m r (mh n):=⟨(by decide:(5:Int)≠-1),hn,fun e=>by cases e⟩
theorem bD{r:List ag}{w:ByteArray}(h:bO r w=true):1<=r.length:=by cases r with|nil=>cases h|cons t r=>simp
theorem gP{r:List ag}{w:ByteArray}(h:¬bO r w=false):1<=r.length:=bD (by simpa using h)
theorem ym{r:List ag}{lv:Nat}{o:ByteArray}(h:Gl r lv=some o):1<=r.length:=by cases r with|nil=>cases h|cons t r=>simp
theorem dX{r:List ag}{k:Nat}(h:1<=(r.drop k).length):k+1<=r.length:=by rw[List.length_drop] at h;omega
def Nt.okX:Nt->List ag->Prop
 |.term lv,_=>lv<=7
 |.tloop lv _,_=>lv<=6
 |.many _,r=>1<=r.length
 |_,_=>True
def Nt.least:Nt->Nat
 |.tloop _ _=>0
 |.ploop _=>0
 |_=>1
theorem nO:∀(n:Nat) (t:Nt) (r:List ag) (d:Nat),ib t r<=n->t.okX r->j6 t.least r (aj n t r d):=by
 intro n
 induction n with
 |zero=>
  intro t r d h ht;exfalso
  unfold ib at h
  cases t with
  |term lv=>simp only[Nt.rank] at h;simp only[Nt.okX] at ht;omega
  |_=>simp only[Nt.rank] at h;omega
 |succ n ih=>
  intro t r d h ht;unfold ib at h;have IH:∀(t:Nt) (r:List ag) (d:Nat),r.length*16+t.rank<=n->t.okX r->j6 t.least r (aj n t r d):=fun t r d h=>ih t r d h;clear ih
  cases t with
  |choice=>
   simp only[Nt.rank] at h;rw[aj];refine (IH (.term 1) r d (by simp only[Nt.rank];omega) (by simp only[Nt.okX];omega)).and fun _ h1 h2=>?_;simp only[Nt.least] at h1 ⊢;split
   ·exact (.ok (h2) (h1))
   ·next hq=>
    have hq:=dX (gP hq);split
    ·exact .deep h2
    ·refine ((IH .choice (r.drop _) (d+1) (by simp only[Nt.rank,List.length_drop];omega) (by simp only[Nt.okX];try omega)).up hq).and fun _ h3 h4=>?_
     simp only[Nt.least] at h3;split
     ·exact .bad h4
     ·next hc=>
      have hc:=dX (gP hc);refine ((IH .choice (r.drop _) (d+1) (by simp only[Nt.rank,List.length_drop];omega) (by simp only[Nt.okX];try omega)).up hc).and fun _ h5 h6=>?_;exact (.ok (h6) (by simp only[Nt.least] at *;omega))
  |term lv=>
   simp only[Nt.rank] at h;simp only[Nt.okX] at ht;rw[aj];split
   ·exact IH .tight r d (by simp only[Nt.rank];omega) (by simp only[Nt.okX];try omega)
   ·refine (IH (.term (lv+1)) r d (by simp only[Nt.rank];omega) (by simp only[Nt.okX];omega)).and fun _ h1 h2=>?_
    simp only[Nt.least] at h1;exact ((IH (.tloop lv _) (r.drop _) d (by simp only[Nt.rank,List.length_drop];omega) (by simp only[Nt.okX];try omega)).up h2).less (by simp only[Nt.least];omega)
  |tloop lv a=>
   simp only[Nt.rank] at h;rw[aj];split
   ·exact (.ok (Nat.zero_le _) (Nat.zero_le _))
   ·next o ho=>
    have hl:=ym ho;refine ((IH (.term (lv+1)) (r.drop 1) d (by simp only[Nt.rank,List.length_drop];omega) (by simp only[Nt.okX] at ht ⊢;omega)).up hl).and fun _ h1 h2=>?_;simp only[Nt.least] at h1;exact ((IH (.tloop lv _) (r.drop _) d (by simp only[Nt.rank,List.length_drop];omega) ht).up h2).less (Nat.zero_le _)
  |tight=>
   simp only[Nt.rank] at h;rw[aj];split
   ·exact IH .post r d (by simp only[Nt.rank];omega) (by simp only[Nt.okX];try omega)
   ·next hs=>
    have hl:1<=r.length:=by
     by_cases h1:bO r dE=false
     ·exact gP (w:=jL) (fun h2=>hs ⟨h1,h2⟩)
     ·exact gP h1
    split
    ·exact .deep (Nat.zero_le _)
    ·refine ((IH .tight (r.drop 1) (d+1) (by simp only[Nt.rank,List.length_drop];omega) (by simp only[Nt.okX];try omega)).up hl).and fun _ h1 h2=>?_
     exact (.ok (h2) (by simp only[Nt.least] at *;omega))
  |post=>
   simp only[Nt.rank] at h;rw[aj];refine (IH .prime r d (by simp only[Nt.rank];omega) (by simp only[Nt.okX];try omega)).and fun _ h1 h2=>?_;simp only[Nt.least] at h1;exact ((IH (.ploop _) (r.drop _) d (by simp only[Nt.rank,List.length_drop];omega) (by simp only[Nt.okX];try omega)).up h2).less (by simp only[Nt.least];omega)
  |ploop a=>
   simp only[Nt.rank] at h;rw[aj];split
   ·next hs=>
    have hl:=bD hs;split
    ·exact .bad hl
    ·next t q hq=>
     have Aa:2<=r.length:=by have:=congrArg List.length hq;simp at this;omega
     split
     ·exact ((IH (.ploop _) (r.drop 2) d (by simp only[Nt.rank,List.length_drop];omega) (by simp only[Nt.okX];try omega)).up Aa).less (Nat.zero_le _)
     ·exact .bad hl
   ·split
    ·next hs=>
     have hl:=bD hs;split
     ·exact .deep (Nat.zero_le _)
     ·refine ((IH .choice (r.drop 1) (d+1) (by simp only[Nt.rank,List.length_drop];omega) (by simp only[Nt.okX];try omega)).up hl).and fun _ h1 h2=>?_
      simp only[Nt.least] at h1;split
      ·exact .bad h2
      ·next hb=>
       have hb:=dX (gP hb);exact ((IH (.ploop _) (r.drop _) d (by simp only[Nt.rank,List.length_drop];omega) (by simp only[Nt.okX];try omega)).up hb).less (Nat.zero_le _)
    ·exact (.ok (Nat.zero_le _) (Nat.zero_le _))
  |prime=>
   simp only[Nt.rank] at h
   cases r with
   |nil=>exact .bad (Nat.zero_le _)
   |cons t r'=>
    simp only[aj];simp only[List.length_cons] at h;split
    ·split
     ·next hs=>
      have:=((IH (.many ql) ((t::r').drop 1) d (by simp only[Nt.rank,List.length_drop,List.length_cons];omega) (bD hs)).up (n:=1) (by simp));refine this.and fun _ h1 h2=>?_;exact (.ok (h2) (by simp only[Nt.least] at *;omega))
     ·exact (.ok (by simp) lz)
    ·split
     ·exact (.ok (by simp) lz)
     ·split
      ·split
       ·exact⟨(by decide:(3:Int)≠-1),Nat.zero_le _,fun e=>by cases e⟩
       ·exact (.ok (by simp) lz)
      ·split
       ·refine (IH (.many pq) (t::r') d (by simp only[Nt.rank,List.length_cons];omega) (by simp[Nt.okX])).and fun _ h1 h2=>?_
        exact (.ok (h2) (h1))
       ·split
        ·split
         ·exact .deep (Nat.zero_le _)
         ·refine ((IH .choice ((t::r').drop 1) (d+1) (by simp only[Nt.rank,List.length_drop,List.length_cons];omega) (by simp only[Nt.okX];try omega)).up (n:=1) (by simp)).and fun _ h1 h2=>?_
          simp only[Nt.least] at h1;split
          ·exact .bad h2
          ·next hb=>exact (.ok (dX (gP hb)) (by simp only[Nt.least] at *;omega))
        ·exact .bad (Nat.zero_le _)
  |many s=>
   simp only[Nt.rank] at h;have hl:1<=r.length:=ht;rw[aj];split
   ·exact .deep (Nat.zero_le _)
   ·split
    ·next hs=>exact (.ok (dX (bD hs)) (by simp only[Nt.least] at *;omega))
    ·exact ((IH (.mloop s []) (r.drop 1) d (by simp only[Nt.rank,List.length_drop];omega) (by simp only[Nt.okX];try omega)).up hl).less (by simp only[Nt.least];omega)
  |mloop s l=>
   simp only[Nt.rank] at h;rw[aj];refine (IH .choice r (d+1) (by simp only[Nt.rank];omega) (by simp only[Nt.okX];try omega)).and fun _ h1 h2=>?_;simp only[Nt.least] at h1;split
   ·next hs=>
    have hs:=dX (bD hs);exact ((IH (.mloop s _) (r.drop _) d (by simp only[Nt.rank,List.length_drop];omega) (by simp only[Nt.okX];try omega)).up hs).less (by simp only[Nt.least];omega)
   ·split
    ·next hs=>exact (.ok (dX (bD hs)) (by simp only[Nt.least] at *;omega))
    ·exact .bad h2
end Go.Proofs.YtbcdaaobbebooaaGreatDoor
namespace Go.Proofs.YtbcdaaobbebooaaGreatDoor
def j5(m:Nat)(r:List ag)(g:fw):Prop:=g.2.2≠-1->g.2.1<=r.length/\(g.2.2=0->m<=g.2.1)
theorem j5.and{m m2:Nat}{r:List ag}{g:fw}{f:gu->Nat->fw}(h:j5 m r g)(hf:g.2.2=0->m<=g.2.1->g.2.1<=r.length->j5 m2 r (f g.1 g.2.1)):j5 m2 r (iE g f):=by
 by_cases he:g.2.2=0
 ·rw[bL he]
  have h1:=h (by rw[he];decide);exact hf he (h1.2 he) h1.1
 ·rw[bf he];exact fun hn=>⟨(h hn).1,fun e=>absurd e he⟩
theorem j5.up{m n:Nat}{r:List ag}{g:fw}(h:j5 m (r.drop n) g)(hn:n<=r.length):j5 (n+m) r (dL n g):=by
 intro h0;obtain⟨h2,h3⟩:=h h0;rw[List.length_drop] at h2;exact⟨by simp only[dL];omega,fun e=>by have:=h3 e;simp only[dL];omega⟩
theorem j5.less{m m2:Nat}{r:List ag}{g:fw}(h:j5 m r g)(hm:m2<=m):j5 m2 r g:=fun h0=>⟨(h h0).1,fun e=>Nat.le_trans hm ((h h0).2 e)⟩
theorem j5.ok{m n:Nat}{r:List ag}{x:gu}(h1:n<=r.length)(h2:m<=n):j5 m r (x,n,0):=fun _=>⟨h1,fun _=>h2⟩
theorem j5.bad{m:Nat}{r q:List ag}{n:Nat}(hn:n<=r.length):j5 m r (cO q n):=by
 unfold cO;split
 ·exact fun _=>⟨hn,fun e=>by cases e⟩
 ·exact fun _=>⟨hn,fun e=>by cases e⟩
theorem j5.deep{m:Nat}{r:List ag}{n:Nat}(hn:n<=r.length):j5 m r (mh n):=fun _=>⟨hn,fun e=>by cases e⟩
theorem fq:∀(n:Nat) (t:Nt) (r:List ag) (d:Nat),t.okX r->j5 t.least r (aj n t r d):=by
 intro n
 induction n with
 |zero=>
  intro t r d _ h;exact absurd rfl h
 |succ n ih=>
  intro t r d ht;have IH:∀(t:Nt) (r:List ag) (d:Nat),t.okX r->j5 t.least r (aj n t r d):=fun t r d h=>ih t r d h;clear ih
  cases t with
  |choice=>
   rw[aj];refine (IH (.term 1) r d (by simp only[Nt.okX];omega)).and fun _ h1 h2=>?_;simp only[Nt.least] at h1 ⊢;split
   ·exact (.ok (h2) (h1))
   ·next hq=>
    have hq:=dX (gP hq);split
    ·exact .deep h2
    ·refine ((IH .choice (r.drop _) (d+1) (by simp only[Nt.okX];try omega)).up hq).and fun _ h3 h4=>?_
     simp only[Nt.least] at h3;split
     ·exact .bad h4
     ·next hc=>
      have hc:=dX (gP hc);refine ((IH .choice (r.drop _) (d+1) (by simp only[Nt.okX];try omega)).up hc).and fun _ h5 h6=>?_;exact (.ok (h6) (by simp only[Nt.least] at *;omega))
  |term lv=>
   simp only[Nt.okX] at ht;rw[aj];split
   ·exact IH .tight r d (by simp only[Nt.okX];try omega)
   ·refine (IH (.term (lv+1)) r d (by simp only[Nt.okX];omega)).and fun _ h1 h2=>?_
    simp only[Nt.least] at h1;exact ((IH (.tloop lv _) (r.drop _) d (by simp only[Nt.okX];try omega)).up h2).less (by simp only[Nt.least];omega)
  |tloop lv a=>
   rw[aj];split
   ·exact (.ok (Nat.zero_le _) (Nat.zero_le _))
   ·next o ho=>
    have hl:=ym ho;refine ((IH (.term (lv+1)) (r.drop 1) d (by simp only[Nt.okX] at ht ⊢;omega)).up hl).and fun _ h1 h2=>?_;simp only[Nt.least] at h1;exact ((IH (.tloop lv _) (r.drop _) d ht).up h2).less (Nat.zero_le _)
  |tight=>
   rw[aj];split
   ·exact IH .post r d (by simp only[Nt.okX];try omega)
   ·next hs=>
    have hl:1<=r.length:=by
     by_cases h1:bO r dE=false
     ·exact gP (w:=jL) (fun h2=>hs ⟨h1,h2⟩)
     ·exact gP h1
    split
    ·exact .deep (Nat.zero_le _)
    ·refine ((IH .tight (r.drop 1) (d+1) (by simp only[Nt.okX];try omega)).up hl).and fun _ h1 h2=>?_
     exact (.ok (h2) (by simp only[Nt.least] at *;omega))
  |post=>
   rw[aj];refine (IH .prime r d (by simp only[Nt.okX];try omega)).and fun _ h1 h2=>?_;simp only[Nt.least] at h1;exact ((IH (.ploop _) (r.drop _) d (by simp only[Nt.okX];try omega)).up h2).less (by simp only[Nt.least];omega)
  |ploop a=>
   rw[aj];split
   ·next hs=>
    have hl:=bD hs;split
    ·exact .bad hl
    ·next t q hq=>
     have Aa:2<=r.length:=by have:=congrArg List.length hq;simp at this;omega
     split
     ·exact ((IH (.ploop _) (r.drop 2) d (by simp only[Nt.okX];try omega)).up Aa).less (Nat.zero_le _)
     ·exact .bad hl
   ·split
    ·next hs=>
     have hl:=bD hs;split
     ·exact .deep (Nat.zero_le _)
     ·refine ((IH .choice (r.drop 1) (d+1) (by simp only[Nt.okX];try omega)).up hl).and fun _ h1 h2=>?_
      simp only[Nt.least] at h1;split
      ·exact .bad h2
      ·next hb=>
       have hb:=dX (gP hb);exact ((IH (.ploop _) (r.drop _) d (by simp only[Nt.okX];try omega)).up hb).less (Nat.zero_le _)
    ·exact (.ok (Nat.zero_le _) (Nat.zero_le _))
  |prime=>
   cases r with
   |nil=>exact .bad (Nat.zero_le _)
   |cons t r'=>
    simp only[aj];split
    ·split
     ·next hs=>
      have:=((IH (.many ql) ((t::r').drop 1) d (bD hs)).up (n:=1) (by simp));refine this.and fun _ h1 h2=>?_;exact (.ok (h2) (by simp only[Nt.least] at *;omega))
     ·exact (.ok (by simp) lz)
    ·split
     ·exact (.ok (by simp) lz)
     ·split
      ·split
       ·exact fun _=>⟨Nat.zero_le _,fun e=>by cases e⟩
       ·exact (.ok (by simp) lz)
      ·split
       ·refine (IH (.many pq) (t::r') d (by simp[Nt.okX])).and fun _ h1 h2=>?_
        exact (.ok (h2) (h1))
       ·split
        ·split
         ·exact .deep (Nat.zero_le _)
         ·refine ((IH .choice ((t::r').drop 1) (d+1) (by simp only[Nt.okX];try omega)).up (n:=1) (by simp)).and fun _ h1 h2=>?_
          simp only[Nt.least] at h1;split
          ·exact .bad h2
          ·next hb=>exact (.ok (dX (gP hb)) (by simp only[Nt.least] at *;omega))
        ·exact .bad (Nat.zero_le _)
  |many s=>
   have hl:1<=r.length:=ht;rw[aj];split
   ·exact .deep (Nat.zero_le _)
   ·split
    ·next hs=>exact (.ok (dX (bD hs)) (by simp only[Nt.least] at *;omega))
    ·exact ((IH (.mloop s []) (r.drop 1) d (by simp only[Nt.okX];try omega)).up hl).less (by simp only[Nt.least];omega)
  |mloop s l=>
   rw[aj];refine (IH .choice r (d+1) (by simp only[Nt.okX];try omega)).and fun _ h1 h2=>?_;simp only[Nt.least] at h1;split
   ·next hs=>
    have hs:=dX (bD hs);exact ((IH (.mloop s _) (r.drop _) d (by simp only[Nt.okX];try omega)).up hs).less (by simp only[Nt.least];omega)
   ·split
    ·next hs=>exact (.ok (dX (bD hs)) (by simp only[Nt.least] at *;omega))
    ·exact .bad h2
end Go.Proofs.YtbcdaaobbebooaaGreatDoor
namespace Go.Proofs.YtbcdaaobbebooaaGreatDoor
def aZ(t:ag)(all:List UInt8):Bool:=decide (t.kind=4)&&(match t.text.data.toList with|[c]=>all.contains c|_=>false)
def dS(t:ag):Bool:=decide (t.kind=6) || decide (t.kind=7)
def gy(t:ag):Bool:=decide (t.kind=1) || (decide (t.kind=2) || decide (t.kind=3))
def OQ:List ag->Bool
 |[]=>false
 |t::r=>if dS t then OQ r else decide (t.kind=4)&&!aZ t [41,93]
def rY(row:List ag)(i:Nat):Bool:=OQ (row.take i).reverse
def Fa(a b:ag)(m:Bool):Nat:=
 if dS a || dS b then 1
 else if aZ a [40,91,46] || aZ b [41,93,44,46] then 0
 else if aZ b [40]&&decide (a.kind=1) then 0
 else if aZ b [91]&&(gy a || aZ a [41,93]) then 0
 else if aZ a [33] || (aZ a [45]&&m) then 0
 else if aZ a [123]&&aZ b [125] then 0
 else 1
def tZ(row:List ag):Nat->Nat
 |0=>0
 | i+1=>match row[i]?,row[i+1]? with
  |some a,some b=>Fa a b (rY row i)
  |_,_=>0
def bT(t:ag)(w:ByteArray):Bool:=decide (t.kind=4)&&decide (t.text=w)
theorem u7(t:ag)(c:UInt8):aZ t [c]=bT t (av [c]):=by
 unfold aZ bT
 congr 1
 by_cases h:t.text=av [c]
 ·rw[decide_eq_true h,h]
  simp[av]
 ·rw[decide_eq_false h]
  split
  ·next x hx=>
   simp only[List.contains_cons,List.contains_nil,Bool.or_false]
   by_cases e:x=c
   ·exact absurd (ji (by rw[hx,e];rfl)) h
   ·simpa using e
  ·rfl
theorem bW(t:ag)(c:UInt8)(r:List UInt8):aZ t (c::r)=(bT t (av [c]) || aZ t r):=by
 rw[<-u7];unfold aZ;cases decide (t.kind=4)
 ·rfl
 ·simp only[Bool.true_and]
  split
  ·simp
  ·rfl
theorem vv(t:ag):aZ t []=false:=by
 unfold aZ;split<;>simp
def NW(a b:ag)(m:Bool):Nat:=
 if dS a || dS b then 1
 else if bT a (av [40]) || (bT a (av [91]) || (bT a (av [46]) || (bT a (av [33]) || (bT a (av [45])&&m)))) then 0
 else if bT b (av [41]) || (bT b (av [93]) || (bT b (av [44]) || bT b (av [46]))) then 0
 else if (bT b (av [40])&&decide (a.kind=1)) || ((bT b (av [91])&&(gy a || (bT a (av [41]) || bT a (av [93])))) || (bT a (av [123])&&bT b (av [125]))) then 0
 else 1
theorem KY(a b:ag)(m:Bool):Fa a b m=NW a b m:=by
 unfold Fa NW;simp only[bW,vv,Bool.or_false];have h:∀(c d:Bool) (e:Nat),(if c=true then 0 else if d=true then 0 else e)=if (c || d)=true then 0 else e:=by intro c d e;cases c<;>cases d<;>rfl
 simp only[h]
 by_cases h0:(dS a || dS b)=true
 ·rw[if_pos h0,if_pos h0]
 ·rw[if_neg h0,if_neg h0]
  congr 2
  ac_rfl
end Go.Proofs.YtbcdaaobbebooaaGreatDoor
namespace Go.Proofs.YtbcdaaobbebooaaGreatDoor
open Go.RowKit Go.Tab
theorem KG{a b:ByteArray}(h:a.toList=b.toList):a=b:=
 ByteArray.ext (Array.ext' (by rw[ByteArray.toList_eq,ByteArray.toList_eq] at h;exact h))
theorem wV{a b:ByteArray}(h:¬a=b):(a.toList==b.toList)=false:=by
 rw[beq_eq_false_iff_ne];exact fun h1=>h (KG h1)
theorem Ej{α:Type}(l:List α)(k:Nat)(h:k<l.length):l.take (k+1)=l.take k++[l[k]]:=by
 rw[List.take_succ_eq_append_getElem h]
theorem iH{w w':World}{b:Nat}(h:w'.heap[b]?=w.heap[b]?)(off:Nat):w'.cell? ⟨b,off,none⟩=w.cell? ⟨b,off,none⟩:=by
 simp only[World.cell?,h]
theorem Dk{w w':World}{b:Nat}(h:w'.heap[b]?=w.heap[b]?)(off:Nat):w'.frozen? ⟨b,off,none⟩=w.frozen? ⟨b,off,none⟩:=by
 simp only[World.frozen?,h]
theorem len3{α:Type}{l:List α}(h:l.length=3):∃a b c,l=[a,b,c]:=by
 match l,h with
 |[a,b,c],_=>exact⟨a,b,c,rfl⟩
section
variable {P:Program} {w:World} {ops:Array Oper} {rest:List Oper} {o:Oper} {a:Act} {Q:Exit->Act->World->Prop}
theorem oL(hgd:Region.wanted o (yielded ops a.tmps)=true)(l c:Operand)(t:TypeId)(hop:o.op=.makeSlice t l c)
  (e:TypeId) (bytes size:Nat) (z:Value) (ht:P.underlying t=some (.slice e)) (hi:(P.info? e).map (fun i=>(i.zero,i.size,i.bytes))=some (some z,size,bytes))
  (kl kc:IntKind) (n:Nat) (hl:a.eval l=.int kl (n:Int)) (hc:a.eval c=.int kc (n:Int)) (hby:bytes*n<=281474976710656) (hm:n<=maxLen)
  (hK:∀(M:Array Value) (w':World),M.size=n*size->w'=w.alloc (.cells M e)->wpList P ops Q rest (a.put o.dst (.slice (some ⟨w.heap.size,0,none⟩) n n)) w'):wpList P ops Q (o::rest) a w:=by
 obtain⟨i,Ac,Aa⟩:=Option.map_eq_some_iff.1 hi;simp only[Prod.mk.injEq] at Aa;obtain⟨hz,hs,hb⟩:=Aa;refine fF hgd fun K hK'=>?_
 have Ab:(i.bytes:Int)*(n:Int)<=281474976710656:=by
  have h:((i.bytes*n:Nat):Int)<=281474976710656:=by rw[hb];omega
  rwa [Int.natCast_mul] at h
 have hr:=run_make (P:=P) w t e i z ht Ac hz kl kc n n (by omega) (Int.le_refl _) Ab (by simp[maxLen] at hm;omega);simp only[Int.toNat_natCast,hs] at hr;unfold Oper.wp;simp[execOp,hop,hl,hc,hr,Result.andThen]
 exact hK' _ _ (hK _ _ (size_madeCells _ _) rfl)
end
def ai(w:World)(B:Nat):Nat->List Value->World
 |_,[]=>w
 |o,v::r=>ai (w.setCell ⟨B,o,none⟩ v) B (o+1) r
def Kg:Array Value->Nat->List Value->Array Value
 |arr,_,[]=>arr
 |arr,o,v::r=>Kg (arr.setIfInBounds o v) (o+1) r
theorem aa.setI{w:World}{B:Nat}{arr:Array Value}{T:TypeId}(h:aa w B arr T)(o:Nat)(v:Value):aa (w.setCell ⟨B,o,none⟩ v) B (arr.setIfInBounds o v) T:=by
 obtain⟨Aa,hk⟩:=Array.getElem?_eq_some_iff.1 h;show (w.heap.modify B _)[B]?=_;rw[Array.getElem?_eq_getElem (by rw[Array.size_modify];exact Aa),Array.getElem_modify_self,hk];simp
theorem aa.put{B:Nat}{T:TypeId}:∀(cs:List Value) (o:Nat) {w:World} {arr:Array Value},aa w B arr T->aa (ai w B o cs) B (Kg arr o cs) T
 |[],_,_,_,h=>h
 |v::r,o,_,_,h=>aa.put r (o+1) (h.setI o v)
theorem aK(B:Nat):∀(cs:List Value) (o:Nat) (w:World) (k:Nat),k≠B->(ai w B o cs).heap[k]?=w.heap[k]?
 |[],_,_,_,_=>rfl
 | v::r,o,w,k,h=>by
  rw[ai,aK B r _ _ _ h];exact Below.heap_setCell _ _ _ _ h
theorem aB(B:Nat):∀(cs:List Value) (o:Nat) (w:World),(ai w B o cs).heap.size=w.heap.size
 |[],_,_=>rfl
 |v::r,o,w=>by rw[ai,aB B r];simp[World.setCell]
theorem aL(B L:Nat)(hL:L<=B):∀(cs:List Value) (o:Nat) (w w':World),Below L w w'->Below L w (ai w' B o cs)
 |[],_,_,_,h=>h
 |v::r,o,w,w',h=>aL B L hL r _ _ _ (h.setCell (by exact hL) _)
theorem aa.setAllOther{w:World}{B g o:Nat}{cs:Array Value}{T:TypeId}{l:List Value}(h:aa w g cs T)(hne:g≠B):aa (ai w B o l) g cs T:=(aK B l o w g hne).trans h
def aC(g:Nat)(w w':World):Prop:=Below 0 w w'/\∀k,k<w.heap.size->k≠g->w'.heap[k]?=w.heap[k]?
section
variable {g:Nat} {w w' w'':World}
theorem aC.size(h:aC g w w'):w.heap.size<=w'.heap.size:=h.1.size
theorem aC.refl(g:Nat)(w:World):aC g w w:=⟨Below.refl _ _,fun _ _ _=>rfl⟩
theorem aC.trans(h:aC g w w')(h2:aC g w' w''):aC g w w'':=
 ⟨h.1.trans h2.1,fun k hk hn=>(h2.2 k (Nat.lt_of_lt_of_le hk h.size) hn).trans (h.2 k hk hn)⟩
theorem aC.of(h:Below w.heap.size w w'):aC g w w':=⟨h.mono (Nat.zero_le _),fun k hk _=>h.block k hk⟩
theorem aC.drew(h:aC g w w'):aC g w w'.drew:=⟨h.1.drew,h.2⟩
theorem aC.drewN(h:aC g w w')(n:Nat):aC g w (w'.drewN n):=⟨ah h.1 n,h.2⟩
theorem aC.alloc(h:aC g w w')(o:Obj):aC g w (w'.alloc o):=h.trans (aC.of ((Below.refl _ _).alloc lz _))
theorem aC.set(h:aC g w w')(j:Nat)(v:Value):aC g w (w'.setCell ⟨g,j,none⟩ v):=
 ⟨h.1.setCell (Nat.zero_le _) _,fun k hk hn=>(Below.heap_setCell _ _ _ _ hn).trans (h.2 k hk hn)⟩
theorem aC.grown{row:Option Nat}(h:aC g w w')(hg:w'.grownBy w'' row)(hr:∀k,row=some k->w.heap.size<=k):aC g w w'':=
 ⟨h.1.grown hg (Nat.zero_le _) (fun _ _=>Nat.zero_le _),fun k hk hn=>(hg.block k (Nat.lt_of_lt_of_le hk h.size) (fun e=>by have:=hr k e.symm;omega)).trans (h.2 k hk hn)⟩
theorem aC.cells{k:Nat}{cs:Array Value}{t:TypeId}(h:aC g w w')(hc:aa w k cs t)(hk:k≠g):aa w' k cs t:=(h.2 k hc.lt hk).trans hc
theorem aC.cell{k off:Nat}{v:Value}(h:aC g w w')(hc:w.cell? ⟨k,off,none⟩=some v)(hk:k≠g):w'.cell? ⟨k,off,none⟩=some v:=
 (iH (h.2 k (World.block_lt_of_cell? w _ hc) hk) off).trans hc
theorem aC.under{B:Nat}(h:aC g w w')(h1:B<=g)(h2:B<=w.heap.size):Below B w w':=⟨h.1.os,h.1.tape,h.1.output,h.size,fun k hk=>h.2 k (by omega) (by omega)⟩
theorem aC.chain{w0:World}(h:aC g w w')(hb:Below w0.heap.size w0 w)(h1:w0.heap.size<=g):Below w0.heap.size w0 w':=hb.trans (h.under h1 hb.size)
end
end Go.Proofs.YtbcdaaobbebooaaGreatDoor
namespace Go.Proofs.YtbcdaaobbebooaaGreatDoor
open Go.RowKit Go.Tab Go.ChangeShapes
abbrev dQ(o t:ByteArray)(kv:Value):List Value:=[.string o,.string t,kv]
abbrev Pz(o t:ByteArray)(kv:Value):Value:=.agg #[.string o,.string t,kv]
mutual
def vR(w:World):gu->List Value->Prop
 | .mk op text kids,cs=>∃a cap,cs=[.string op,.string text,.slice a kids.length cap]/\
   kids.length<=cap/\cap<=maxLen/\(a=none->cap=0)/\∀x,a=some x->kids≠[]->x.spot=none/\x.block<w.heap.size/\yN w x.block x.off kids
def yN(w:World)(b off:Nat):List gu->Prop
 |[]=>True
 |t::r=>(∃cs,(∀j u,cs[j]?=some u->w.cell? ⟨b,off+j,none⟩=some u)/\vR w t cs)/\yN w b (off+3) r
end
theorem vR.shape{w:World}{t:gu}{cs:List Value}(h:vR w t cs):∃op text sa sn sc,cs=[.string op,.string text,.slice sa sn sc]:=by
 cases t
 simp only[vR] at h;obtain⟨a,Aa,rfl,-⟩:=h;exact⟨_,_,_,_,_,rfl⟩
section
variable {H:Type} {enc:TypeId×Value->H} {W:World} {base:Nat} {spare:Nat->Bool} {held:Bool}
end
end Go.Proofs.YtbcdaaobbebooaaGreatDoor
namespace Go.Proofs.YtbcdaaobbebooaaGreatDoor
open Go.RowKit Go.Tab
mutual
def ae(P:Nat->Prop)(w:World):gu->List Value->Prop
 | .mk op text kids,cs=>∃a cap,cs=[.string op,.string text,.slice a kids.length cap]/\
   kids.length<=cap/\cap<=maxLen/\(a=none->cap=0)/\∀x,a=some x->kids≠[]->x.spot=none/\(x.block<w.heap.size/\P x.block/\∀off,w.frozen? ⟨x.block,off,none⟩=false)/\fC P w x.block x.off kids
def fC(P:Nat->Prop)(w:World)(b off:Nat):List gu->Prop
 |[]=>True
 |t::r=>(∃cs,(∀j u,cs[j]?=some u->w.cell? ⟨b,off+j,none⟩=some u)/\ae P w t cs)/\fC P w b (off+3) r
end
mutual
theorem ae.at{P:Nat->Prop}{w:World}:∀(t:gu) (cs:List Value),ae P w t cs->vR w t cs
 | .mk op text kids,cs,h=>by
  simp only[ae] at h;simp only[vR];obtain⟨a,cap,h1,h3,h4,h5,h6⟩:=h;refine⟨a,cap,h1,h3,h4,h5,fun x hx hne=>?_⟩;obtain⟨g1,g2,g3⟩:=h6 x hx hne;exact⟨g1,g2.1,fC.at kids x.off g3⟩
theorem fC.at{P:Nat->Prop}{w:World}{b:Nat}:∀(l:List gu) (off:Nat),fC P w b off l->yN w b off l
 |[],_,_=>by simp only[yN]
 | t::r,off,h=>by
  simp only[fC] at h;simp only[yN];obtain⟨⟨cs,h1,h2⟩,h3⟩:=h;exact⟨⟨cs,h1,ae.at t cs h2⟩,fC.at r _ h3⟩
end
mutual
theorem ae.move{P Q:Nat->Prop}{w w':World}(hs:w.heap.size<=w'.heap.size)(hb:∀k,P k->k<w.heap.size->w'.heap[k]?=w.heap[k]?)(hq:∀k,P k->k<w.heap.size->Q k) :
  ∀(t:gu) (cs:List Value),ae P w t cs->ae Q w' t cs
 | .mk op text kids,cs,h=>by
  simp only[ae] at h ⊢;obtain⟨a,cap,h1,h3,h4,h5,h6⟩:=h;refine⟨a,cap,h1,h3,h4,h5,fun x hx hne=>?_⟩;obtain⟨g1,g2,g3⟩:=h6 x hx hne;exact⟨g1,⟨Nat.lt_of_lt_of_le g2.1 hs,hq _ g2.2.1 g2.1,fun off=>(Dk (hb _ g2.2.1 g2.1) off).trans (g2.2.2 off)⟩,fC.move hs hb hq ⟨g2.1,g2.2.1⟩ kids x.off g3⟩
theorem fC.move{P Q:Nat->Prop}{w w':World}(hs:w.heap.size<=w'.heap.size)(hb:∀k,P k->k<w.heap.size->w'.heap[k]?=w.heap[k]?)(hq:∀k,P k->k<w.heap.size->Q k){b:Nat}(hP:b<w.heap.size/\P b) :
  ∀(l:List gu) (off:Nat),fC P w b off l->fC Q w' b off l
 |[],_,_=>by simp only[fC]
 | t::r,off,h=>by
  simp only[fC] at h ⊢;obtain⟨⟨cs,h1,h2⟩,h3⟩:=h;exact⟨⟨cs,fun j u hu=>(iH (hb b hP.2 hP.1) _).trans (h1 j u hu),ae.move hs hb hq t cs h2⟩,fC.move hs hb hq hP r _ h3⟩
end
theorem fC.make{P:Nat->Prop}{w:World}{b:Nat}:∀(l:List gu) (off:Nat),(∀k (h:k<l.length),∃cs,(∀j u,cs[j]?=some u->w.cell? ⟨b,off+k*3+j,none⟩=some u)/\ae P w l[k] cs)->fC P w b off l
 |[],_,_=>by simp only[fC]
 | t::r,off,h=>by
  simp only[fC];constructor
  ·obtain⟨cs,h1,h2⟩:=h 0 (by simp)
   exact⟨cs,fun j u hu=>by have:=h1 j u hu;simpa using this,by simpa using h2⟩
  ·refine fC.make r (off+3) (fun k hk=>?_)
   obtain⟨cs,h1,h2⟩:=h (k+1) (by simp;omega);refine⟨cs,fun j u hu=>?_,by simpa using h2⟩;rw[<-h1 j u hu]
   congr 2
   omega
theorem ae.below{P:Nat->Prop}{w w':World}(hb:Below w.heap.size w w')(t:gu)(cs:List Value)(h:ae P w t cs):ae P w' t cs:=
 ae.move hb.size (fun k _ hk=>hb.block k hk) (fun _ h _=>h) t cs h
theorem ae.len3{P:Nat->Prop}{w:World}{t:gu}{cs:List Value}(h:ae P w t cs):cs.length=3:=by
 cases t
 simp only[ae] at h;obtain⟨a,Aa,rfl,-⟩:=h;rfl
theorem ae.shape{P:Nat->Prop}{w:World}{t:gu}{cs:List Value}(h:ae P w t cs):∃op text sa sn sc,cs=[.string op,.string text,.slice sa sn sc]:=(ae.at _ _ h).shape
theorem ae.leaf(P:Nat->Prop)(w:World)(o t:ByteArray):ae P w (.mk o t []) [.string o,.string t,.slice none 0 0]:=by
 simp only[ae];exact⟨none,0,rfl,Nat.le_refl _,Nat.zero_le _,fun _=>rfl,fun x hx=>by cases hx⟩
theorem ae.node{base:Nat}{w:World}{o t:ByteArray}{kids:List gu}{b cap:Nat}(hb:base<=b)(hlt:b<w.heap.size)(hf:∀off,w.frozen? ⟨b,off,none⟩=false)(hc:kids.length<=cap)(hm:cap<=maxLen)
  (h:∀k (h:k<kids.length),∃cs,(∀j u,cs[j]?=some u->w.cell? ⟨b,k*3+j,none⟩=some u)/\ae (fun k=>base<=k) w kids[k] cs) :
  ae (fun k=>base<=k) w (.mk o t kids) [.string o,.string t,.slice (some ⟨b,0,none⟩) kids.length cap]:=by
 simp only[ae];refine⟨some ⟨b,0,none⟩,cap,rfl,hc,hm,(fun h=>by cases h),fun x hx _=>?_⟩;cases hx
 exact⟨rfl,⟨hlt,hb,hf⟩,fC.make kids 0 (fun k hk=>by
  obtain⟨cs,h1,h2⟩:=h k hk
  exact⟨cs,fun j u hu=>by rw[Nat.zero_add];exact h1 j u hu,h2⟩)⟩
abbrev OZ:=aX lF 5
theorem Tryz.uPB:Tryz.prog.underlying 66=some (.pointer 69):=by kernel_rfl
theorem Tryz.uUP:Tryz.prog.underlying 200=some .unsafePointer:=by kernel_rfl
theorem Tryz.uBytes:Tryz.prog.underlying 67=some (.slice 5):=by kernel_rfl
theorem Tryz.uStr:Tryz.prog.underlying 9=some .string:=by kernel_rfl
theorem Tryz.infoU8:(Tryz.prog.info? 5).map (fun i=>(i.zero,i.size,i.bytes))=some (some (.int .u8 0),1,1):=by kernel_rfl
theorem Tryz.sizeBld:(Tryz.prog.info? 69).map (·.size)=some 2:=by kernel_rfl
theorem Tryz.cellsU8:Tryz.prog.cellsOf 5=1:=by kernel_rfl
theorem Pb(x:UInt8):(lF x).oneCell'=true:=rfl
theorem Mw(w:World)(c:UInt8)(n:Int)(hn:n=(c.toNat:Int))(t:TypeId):RowOf lF (w.alloc (.cells #[.int .u8 n] t)) (.slice (some ⟨w.heap.size,0,none⟩) 1 1) [c]:=by
 refine⟨_,1,rfl,Nat.le_refl _,by decide,(fun h=>by cases h),fun x hx _=>?_⟩;cases hx
 subst hn;refine⟨rfl,by simp,fun j hj=>?_⟩;obtain rfl:j=0:=by simpa using hj
 rw[World.cell?_alloc_new];rfl
structure FK(T:TypeId)(base:Nat)(w:World)(g o:Nat)(cs:Array Value)(l:List UInt8):Prop where
 cells:aa w g cs T
 addr:cs[o]?=some (.pointer none)\/cs[o]?=some (.pointer (some ⟨g,o,none⟩))
 buf:∃v,cs[o+1]?=some v/\OZ base w v l
structure Au(T:TypeId)(n o:Nat):Prop where
 ne:T≠5
 lies:liesAt Tryz.prog Tryz.prog.depth T (n / Tryz.prog.cellsOf T) o 69 1=true
 lt:o+1<n
def Bz(g o:Nat)(cs cs':Array Value):Prop:=cs'.size=cs.size/\(∀j,j≠o->j≠o+1->cs'[j]?=cs[j]?)/\cs'[o]?=some (.pointer (some ⟨g,o,none⟩))
theorem q8{T:TypeId}{base g o:Nat}{cs:Array Value}{l:List UInt8}(w:World)(h:FK T base w g o cs l)(hI:Au T cs.size o)(hg:base<=g) :
  Calls Tryz.prog 147 #[.pointer (some ⟨g,o,none⟩)] w fun e w'=>e=.returned (.tuple #[])/\∃cs',FK T base w' g o cs' l/\Bz g o cs cs'/\(∀v,cs[o+1]?=some v->cs'[o+1]?=some v)/\w.grownBy w' (some g):=by
 obtain⟨hc,ha,v,hv,Aa⟩:=h;obtain⟨j,hj,Ad⟩:=Option.map_eq_some_iff.1 Tryz.sizeBld;rcases ha with ha|ha
 ·have h0:=hc.cell o _ ha
  have hf:=hc.frozen o;have Ac:=hc.shape;have Ae:=hI.lt;have Ag:=Lib.run_to_unsafe w ⟨g,o,none⟩ Tryz.uPB Tryz.uUP hj (by rw[Ad];decide) Ac (by show o<cs.size;omega);have Ah:=Lib.run_from_unsafe w ⟨g,o,none⟩ Tryz.uUP Tryz.uPB hj Ac hI.lies;go_enter Tryz.func147,Tryz.ntmps147;go_wp2;rw[run_callFunc_extern Tryz.func173 (by kernel_rfl) (by kernel_rfl) (by kernel_rfl) (e:=Extern.AbiNoEscape.same) (by kernel_rfl)];rw[Lib.run_noEscape];simp only[Result.andThen];rw[Oper.upon_value];go_wp2;go_end0
  have Ab:=zb w g o (.pointer (some ⟨g,o,none⟩));refine⟨rfl,_,⟨hc.set o (by omega) _,.inr (by simp),v,by rw[Array.getElem?_set_ne (by omega) (by omega)];exact hv,Aa.kept Ab (.inr (lX Aa hc hI.ne))⟩,⟨by simp,fun k h1 _=>by rw[Array.getElem?_set_ne (by omega) (fun e=>h1 e.symm)],by simp⟩,fun u hu=>by rw[Array.getElem?_set_ne (by omega) (by omega)];exact hu,Ab⟩
 ·have h0:=hc.cell o _ ha
  have Af:=Lib.run_neq_ptr_same w ⟨g,o,none⟩ Tryz.uPB hj;go_enter Tryz.func147,Tryz.ntmps147;go_wp2;go_end0
  exact⟨rfl,cs,⟨hc,.inr ha,v,hv,Aa⟩,⟨rfl,fun _ _ _=>rfl,ha⟩,fun _ h=>h,World.grownBy.refl _ _⟩
theorem Bz.trans{g o:Nat}{a b c:Array Value}(h:Bz g o a b)(h2:Bz g o b c):Bz g o a c:=
 ⟨h2.1.trans h.1,fun j h3 h4=>(h2.2.1 j h3 h4).trans (h.2.1 j h3 h4),h2.2.2⟩
theorem FK.put{T:TypeId}{base g o:Nat}{cs:Array Value}{l':List UInt8}{w:World}{v':Value}(h:aa w g cs T)(hI:Au T cs.size o)(ha:cs[o]?=some (.pointer (some ⟨g,o,none⟩)))(hown:OZ base w v' l') :
  ∃cs',FK T base (w.setCell ⟨g,o+1,none⟩ v') g o cs' l'/\Bz g o cs cs':=by
 have Aa:=hI.lt;refine⟨_,⟨h.set (o+1) Aa v',.inr (by rw[Array.getElem?_set_ne Aa (by omega)];exact ha),v',by simp,hown.setOther _ _ (fun e=>lX hown h hI.ne e)⟩,by simp,fun j h1 h2=>by rw[Array.getElem?_set_ne Aa (fun e=>h2 e.symm)],by rw[Array.getElem?_set_ne Aa (by omega)];exact ha⟩
theorem zq{T:TypeId}{base g o:Nat}{cs:Array Value}{l:List UInt8}(w:World)(c:UInt8)(n:Int)(hn:n=(c.toNat:Int))(h:FK T base w g o cs l)(hI:Au T cs.size o)(hg:base<=g)(hlen:l.length<=1000000000) :
  Calls Tryz.prog 183 #[.pointer (some ⟨g,o,none⟩),.int .u8 n] w fun e w'=>e=.returned .nilIface/\∃cs',FK T base w' g o cs' (l++[c])/\Bz g o cs cs'/\Below base w w'/\bA 5 g w w':=by
 have Ah:base<=w.heap.size:=by have:=h.cells.lt;omega
 subst hn;go_enter Tryz.func183,Tryz.ntmps183;go_wp2_with fail;refine (q8 w h hI hg).mono ?_;rintro e w1 ⟨rfl,cs1,h1,hU,hbuf,hg1⟩;have Ai:Below base w w1:=fI hg1 Ah (fun k hk=>by cases hk;exact hg);have Ap:=hg1.size;obtain⟨Ab,Al,v,hv,Aa⟩:=h1;have Ao:=Ab.cell (o+1) _ hv;go_wp2_with (with_reducible first|refine aA ?_|refine lK ?_|refine jm ?_|refine uG ?_);refine Stop.out ?_
 refine fG (f:=lF) rfl _ _ 67 rfl base 5 1 _ Tryz.uBytes Tryz.infoU8 rfl Pb l [c] (by exact Aa.alloc _) (by exact Mw w1 c _ rfl _) (by unfold maxLen;simp;omega) (by simp;omega) (by simp;omega) w (by exact Ai.alloc (by omega) _) ?_;intro v2 w2 ho2 hb2 hg2;obtain⟨a2,n2,c2,rfl,-⟩:=ho2.row.shape;have Ac:=(Ab.alloc (.cells #[.int .u8 (c.toNat:Int)] 5)).kept hg2 (fun e=>(lX Aa Ab (by exact hI.ne)) e.symm);have Ad:bA 5 g w w2:=(((bA.refl.grown hg1 (fun k hk=>.inl (by cases hk;rfl))).alloc (.cells #[.int .u8 (c.toNat:Int)] 5)).grown hg2 (fun k hk=>.inr (rQ (Aa.alloc (.cells #[.int .u8 (c.toNat:Int)] 5)) k hk)));have An:=Ac.frozen (o+1);have Am:=Ac.cell (o+1) _ hv;have Ak:cs1.size=cs.size:=hU.1;obtain⟨Ae,h3,Ag⟩:=FK.put Ac (by rw[Ak];exact hI) hU.2.2 ho2;have Aj:=hb2.setCell (p:=⟨g,o+1,none⟩) hg (.slice a2 n2 c2);have Af:=Ad.setCell (o+1) (.slice a2 n2 c2);clear Ad;go_wp2;go_ret;exact⟨rfl,Ae,h3,hU.trans Ag,Aj,Af⟩
theorem sD{P:Program}{w:World}{ops:Array Oper}{rest:List Oper}{o:Oper}{a:Act}{Q:Exit->Act->World->Prop}(hgd:o.guard=none)(sl x:Operand)(t u:TypeId)
  (ho:o.op=.call { callee:=.builtin .append,args:=#[sl,x],argTypes:=#[t,u] }) (base:Nat) (e:TypeId) (ht:P.underlying t=some (.slice e)) (hu:P.underlying u=some .string)
  (hi:(P.info? e).map (fun i=>(i.zero,i.size,i.bytes))=some (some (.int .u8 0),1,1)) (l:List UInt8) (hown:aX lF e base w (a.eval sl) l) (s:ByteArray) (hx:a.eval x=.string s)
  (hlen:l.length+s.size<=2000000000) (hbase:base<=w.heap.size) (w0:World) (hb:Below base w0 w)
  (hK:∀v' w',aX lF e base w' v' (l++s.data.toList)->Below base w0 w'->w.grownBy w' (a.eval sl).ownBlock->wpList P ops Q rest (a.put o.dst v') w'):wpList P ops Q (o::rest) a w:=by
 obtain⟨i,Aa,Ab,Ac,Ad⟩:=info_parts hi;refine Lib.wpList_append_own_string w hgd sl x t u ho base e i ht hu Aa Ab Ac Ad (a.eval sl) l.length (l.map lF) rfl hown s hx (by unfold maxLen;omega) (by omega) hbase ?_;intro v' w' hown' hg _;refine hK v' w' ?_ (hb.trans (fI hg hbase (fun k hk=>(World.ownsRow.lt hown k hk).1))) hg;unfold aX;rw[show (l++s.data.toList).length=l.length+s.size by rw[List.length_append];rfl,List.map_append];exact hown'
theorem oO{T:TypeId}{base g o:Nat}{cs:Array Value}{l:List UInt8}(w:World)(s:ByteArray)(h:FK T base w g o cs l)(hI:Au T cs.size o)(hg:base<=g)(hlen:l.length+s.size<=1000000000) :
  Calls Tryz.prog 113 #[.pointer (some ⟨g,o,none⟩),.string s] w fun e w'=>e=.returned (.tuple #[.int .i64 s.size,.nilIface])/\∃cs',FK T base w' g o cs' (l++s.data.toList)/\Bz g o cs cs'/\Below base w w'/\bA 5 g w w':=by
 have Ah:base<=w.heap.size:=by have:=h.cells.lt;omega
 go_enter Tryz.func113,Tryz.ntmps113;go_wp2_with fail;refine (q8 w h hI hg).mono ?_;rintro e w1 ⟨rfl,cs1,h1,hU,hbuf,hg1⟩;have Ai:Below base w w1:=fI hg1 Ah (fun k hk=>by cases hk;exact hg);have Ap:=hg1.size;obtain⟨Ab,Al,v,hv,Aa⟩:=h1;have Ao:=Ab.cell (o+1) _ hv;go_wp2_with (with_reducible first|refine aA ?_|refine lK ?_|refine jm ?_|refine uG ?_);refine Stop.out ?_
 refine sD rfl _ _ 67 9 rfl base 5 Tryz.uBytes Tryz.uStr Tryz.infoU8 l (by exact Aa) s rfl (by omega) (by omega) w (by exact Ai) ?_;intro v2 w2 ho2 hb2 hg2;obtain⟨a2,n2,c2,rfl,-⟩:=ho2.row.shape;have Ac:=Ab.kept hg2 (fun e=>(lX Aa Ab (by exact hI.ne)) e.symm);have Ad:bA 5 g w w2:=((bA.refl.grown hg1 (fun k hk=>.inl (by cases hk;rfl))).grown hg2 (fun k hk=>.inr (rQ Aa k hk)));have An:=Ac.frozen (o+1);have Am:=Ac.cell (o+1) _ hv;have Ak:cs1.size=cs.size:=hU.1;obtain⟨Ae,h3,Ag⟩:=FK.put Ac (by rw[Ak];exact hI) hU.2.2 ho2;have Aj:=hb2.setCell (p:=⟨g,o+1,none⟩) hg (.slice a2 n2 c2);have Af:=Ad.setCell (o+1) (.slice a2 n2 c2);clear Ad;go_wp2;go_ret2
 exact⟨rfl,Ae,h3,hU.trans Ag,Aj,Af⟩
theorem Tryz.uPU8:Tryz.prog.underlying 111=some (.pointer 5):=by kernel_rfl
theorem Bo(w:World)(p:Addr)(n k:Nat)(hk:k≠p.block):(w.freeze p n).heap[k]?=w.heap[k]?:=by
 unfold World.freeze;split
 ·rfl
 ·simp only[Array.getElem?_modify]
  rw[if_neg (fun e=>hk e.symm)]
theorem sj{T:TypeId}{base g o:Nat}{cs:Array Value}{l:List UInt8}(w:World)(h:FK T base w g o cs l)(hg:base<=w.heap.size)(hlen:l.length<=1000000000) :
  Calls Tryz.prog 43 #[.pointer (some ⟨g,o,none⟩)] w fun e w'=>e=.returned (.string ⟨l.toArray⟩)/\Below base w w'/\∀k o',k<w.heap.size->w.heap[k]?=some o'->(∀cs fr,o'≠.cells cs 5 fr)->w'.heap[k]?=some o':=by
 obtain⟨hc,ha,v,hv,Aa⟩:=h;have Ag:∀(W:World) (q:Option Addr),(Builtin.unsafeString_ #[111,3] 9 #[.pointer q,.int .i64 0]).run Tryz.prog W=.ok (.string .empty) W:=fun W q=>Lib.run_unsafeString_none W _ _ _ q;have c1:=hc.drew.cell (o+1) _ hv;rcases Aa.2 with ⟨rfl,hl⟩|⟨b,cap,cur,rfl,hbb,hb,hnc,hcm,hcs,htake⟩
 ·have Ab:l=[]:=List.eq_nil_of_length_eq_zero hl
  subst Ab;have Ac:(Builtin.unsafeSliceData_ #[67] 111 #[.slice none 0 0]).run Tryz.prog w.drew=.ok (.pointer none) w.drew:=rfl;go_enter Tryz.func43,Tryz.ntmps43;go_wp2;go_region
  all_goals (go_wp2;go_ret;exact⟨rfl,Below.drew (Below.refl base w),fun k o' _ h _=>h⟩)
 ·by_cases Ab:l=[]
  ·subst Ab
   clear Aa htake
   by_cases hcap:cap=0
   ·subst hcap
    have Ac:(Builtin.unsafeSliceData_ #[67] 111 #[.slice (some ⟨b,0,none⟩) 0 0]).run Tryz.prog w.drew=.ok (.pointer (some ⟨w.drew.heap.size,0,none⟩)) (w.drew.alloc (.view ⟨b,0,none⟩ 5)):=
     Lib.run_unsafeSliceData_zero w.drew _ _ 5 Tryz.uPU8 ⟨b,0,none⟩ 0 (5,cur.size) (by have Ad:w.drew.heap[b]?=some (.cells cur 5 (0,0)):=hb;simp[World.shape?,Ad])
    have c2:=(hc.drew.alloc (.view ⟨b,0,none⟩ 5)).cell (o+1) _ hv;have c3:(w.alloc (.view ⟨b,0,none⟩ 5)).drew.cell? ⟨g,o+1,none⟩=some (.slice (some ⟨b,0,none⟩) 0 0):=c2;have c4:=hc.cell (o+1) _ hv;simp only[List.length_nil] at c1 c2 c3 c4;go_enter Tryz.func43,Tryz.ntmps43;go_wp2;go_region
    all_goals
     go_wp2;go_ret;exact⟨rfl,(Below.drew (Below.refl base w)).alloc hg _,fun k o' hk h _=>((World.grownBy_alloc w.drew (.view ⟨b,0,none⟩ 5) none).block k hk (by simp)).trans h⟩
   ·have Ac:(Builtin.unsafeSliceData_ #[67] 111 #[.slice (some ⟨b,0,none⟩) 0 cap]).run Tryz.prog w.drew=.ok (.pointer (some ⟨b,0,none⟩)) w.drew:=Lib.run_unsafeSliceData_row _ _ _ _ _ _ hcap
    simp only[List.length_nil] at c1;clear hcap;go_enter Tryz.func43,Tryz.ntmps43;go_wp2;go_region
    all_goals (go_wp2;go_ret;exact⟨rfl,Below.drew (Below.refl base w),fun k o' _ h _=>h⟩)
  ·have Af:l.length≠0:=by simpa using Ab
   have Ac:(Builtin.unsafeSliceData_ #[67] 111 #[.slice (some ⟨b,0,none⟩) l.length cap]).run Tryz.prog w.drew=.ok (.pointer (some ⟨b,0,none⟩)) w.drew:=Lib.run_unsafeSliceData_row _ _ _ _ _ _ (by omega)
   have Ae:(Builtin.unsafeString_ #[111,3] 9 #[.pointer (some ⟨b,0,none⟩),.int .i64 l.length]).run Tryz.prog w.drew=.ok (.string ⟨l.toArray⟩) (w.drew.freeze ⟨b,0,none⟩ l.length):=by
    refine Lib.run_unsafeString_row w.drew 111 3 9 5 Tryz.uPU8 Tryz.cellsU8 b cur.size (by have Ad:w.drew.heap[b]?=some (.cells cur 5 (0,0)):=hb;simp[World.shape?,Ad]) l Ab (by omega) (by omega) ?_;intro j x hx;obtain⟨hj,rfl⟩:=List.getElem?_eq_some_iff.1 hx;have:=Aa.cellAt j hj;rw[Addr.add_lit,Nat.zero_add];exact this
   clear Aa htake Ab Af;go_enter Tryz.func43,Tryz.ntmps43;go_wp2;go_region
   all_goals
    go_wp2;go_ret;refine⟨rfl,Lib.below_freeze (Below.drew (Below.refl base w)) (p:=⟨b,0,none⟩) hbb _,fun k o' _ h hn=>?_⟩;rw[Bo _ _ _ _ (by rintro rfl;rw[hb] at h;cases h;exact hn _ _ rfl)];exact h
def Tab(w:World):Prop:=∀j:Nat,j<32->w.cell? ⟨1,j,none⟩=some (.int .i64 (dU (8*j):Nat))
theorem Tab.below{w w':World}{B:Nat}(h:Tab w)(hb:Below B w w')(hB:1<B):Tab w':=fun j hj=>(hb.cell hB).trans (h j hj)
theorem Tab.pos{w:World}(h:Tab w):1<w.heap.size:=World.block_lt_of_cell? w _ (h 0 (by decide))
theorem uI(a:Nat):dU (8*(a / 8))=dU a:=by
 unfold dU;have h1:8*(a / 8)<128↔a<128:=by omega
 have h2:8*(a / 8)<192↔a<192:=by omega
 have h3:8*(a / 8)<224↔a<224:=by omega
 have h4:8*(a / 8)<240↔a<240:=by omega
 have h5:8*(a / 8)<248↔a<248:=by omega
 simp only[h1,h2,h3,h4,h5]
theorem kM(a b:Nat)(ha:a<4611686018427387904)(hb:b<4611686018427387904):bits .and .i64 (a:Int) (b:Int)=((a &&& b:Nat):Int):=by
 have hx:a &&& b<2 ^ 62:=Nat.and_lt_two_pow _ (by omega);have e1:(BitVec.ofInt 64 (a:Int)).toNat=a:=by rw[BitVec.ofInt_natCast,BitVec.toNat_ofNat];exact Nat.mod_eq_of_lt (by omega)
 have e2:(BitVec.ofInt 64 (b:Int)).toNat=b:=by rw[BitVec.ofInt_natCast,BitVec.toNat_ofNat];exact Nat.mod_eq_of_lt (by omega)
 show IntKind.i64.wrap ((BitVec.ofInt 64 (a:Int) &&& BitVec.ofInt 64 (b:Int)).toNat:Int)=_;rw[BitVec.toNat_and,e1,e2,IntKind.wrap_i64];omega
theorem rV(a b:Nat)(ha:a<4611686018427387904)(hb:b<4611686018427387904):bits .or .i64 (a:Int) (b:Int)=((a ||| b:Nat):Int):=by
 have hx:a ||| b<2 ^ 62:=Nat.or_lt_two_pow (by omega) (by omega)
 have e1:(BitVec.ofInt 64 (a:Int)).toNat=a:=by rw[BitVec.ofInt_natCast,BitVec.toNat_ofNat];exact Nat.mod_eq_of_lt (by omega)
 have e2:(BitVec.ofInt 64 (b:Int)).toNat=b:=by rw[BitVec.ofInt_natCast,BitVec.toNat_ofNat];exact Nat.mod_eq_of_lt (by omega)
 show IntKind.i64.wrap ((BitVec.ofInt 64 (a:Int) ||| BitVec.ofInt 64 (b:Int)).toNat:Int)=_;rw[BitVec.toNat_or,e1,e2,IntKind.wrap_i64];omega
theorem uy(a k:Nat):a &&& (2 ^ k-1)=a % 2 ^ k:=Nat.and_two_pow_sub_one_eq_mod a k
theorem OV(a:Nat)(h:a<256):bits .and .i64 (a:Int) 31=((a % 32:Nat):Int):=by
 have:=kM a 31 (by omega) (by omega);rw[show 31=2 ^ 5-1 by rfl,uy] at this;simpa using this
theorem OW(a:Nat)(h:a<256):bits .and .i64 (a:Int) 15=((a % 16:Nat):Int):=by
 have:=kM a 15 (by omega) (by omega);rw[show 15=2 ^ 4-1 by rfl,uy] at this;simpa using this
theorem Pi(a:Nat)(h:a<256):bits .and .i64 (a:Int) 7=((a % 8:Nat):Int):=by
 have:=kM a 7 (by omega) (by omega);rw[show 7=2 ^ 3-1 by rfl,uy] at this;simpa using this
theorem Nn(a:Nat)(h:a<4611686018427387904):bits .and .i64 (a:Int) 63=((a % 64:Nat):Int):=by
 have:=kM a 63 h (by omega);rw[show 63=2 ^ 6-1 by rfl,uy] at this;simpa using this
theorem Oe(a:Nat)(h:a<256):bits .and .i64 (a:Int) 192=((a / 64*64:Nat):Int):=by
 have:=kM a 192 (by omega) (by omega);have h2:∀a:Fin 256,a.val &&& 192=a.val / 64*64:=by decide +kernel
 rw[show a &&& 192=a / 64*64 from h2 ⟨a,h⟩] at this
 simpa using this
theorem O9(a b:Nat)(h:a<16777216)(hb:b<64):bits .or .i64 ((a:Int)*64) (b:Int)=((a*64+b:Nat):Int):=by
 have:=rV (a*64) b (by omega) (by omega);have h7:=Nat.two_pow_add_eq_or_of_lt (i:=6) (b:=b) (by omega) a;rw[show 2 ^ 6*a=a*64 by omega] at h7;rw[<-h7] at this
 simpa using this
def kL(c:Int):Bool:=decide (0<=c)&&decide (c<=1114111)&&(decide (c<55296) || decide (57343<c))
theorem fD(c:Nat):kL (c:Int)=jW c:=by
 unfold kL jW;have e1:decide (0<=(c:Int))=true:=by simp
 have e2:decide ((c:Int)<=1114111)=decide (c<=1114111):=by simp only[decide_eq_decide];omega
 have e3:decide ((c:Int)<55296)=decide (c<55296):=by simp only[decide_eq_decide];omega
 have e4:decide (57343<(c:Int))=decide (57343<c):=by simp only[decide_eq_decide];omega
 rw[e1,e2,e3,e4];simp
theorem jT(c:Int)(w:World):Calls Tryz.prog 168 #[.int .i64 c] w fun e w'=>e=.returned (.bool (kL c))/\w=w':=by
 unfold kL
 by_cases h0:0<=c
 ·by_cases h1:c<=1114111
  ·by_cases h2:c<55296
   ·go_enter Tryz.func168,Tryz.ntmps168
    go_wp2;go_ret;exact⟨iW (by simp[h0,h1,h2]),rfl⟩
   ·have h3:decide (c<55296)=false:=by simp;omega
    go_enter Tryz.func168,Tryz.ntmps168;go_wp2;go_ret;exact⟨iW (by simp[h0,h1,h2]),rfl⟩
  ·have h3:decide (c<=1114111)=false:=by simp;omega
   go_enter Tryz.func168,Tryz.ntmps168;go_wp2;go_ret;exact⟨iW (by simp[h0,h1]),rfl⟩
 ·have h3:decide (0<=c)=false:=by simp;omega
  go_enter Tryz.func168,Tryz.ntmps168;go_wp2;go_ret;exact⟨iW (by simp[h0]),rfl⟩
theorem lI(c:Nat)(w:World):Calls Tryz.prog 169 #[.int .i64 c] w fun e w'=>e=.returned (.int .i64 (qi c:Nat))/\w=w':=by
 unfold qi
 by_cases h1:c<128
 ·rw[if_pos h1]
  go_enter Tryz.func169,Tryz.ntmps169;go_wp2;go_ret;exact⟨rfl,rfl⟩
 ·rw[if_neg h1]
  by_cases h2:c<2048
  ·rw[if_pos h2]
   have d1:decide ((c:Int)<128)=false:=by simp;omega
   have d2:decide ((c:Int)<2048)=true:=by simp;omega
   clear h1 h2;go_enter Tryz.func169,Tryz.ntmps169;go_wp2;go_ret;exact⟨rfl,rfl⟩
  ·rw[if_neg h2]
   by_cases h3:c<65536
   ·rw[if_pos h3]
    have d1:decide ((c:Int)<128)=false:=by simp;omega
    have d2:decide ((c:Int)<2048)=false:=by simp;omega
    have d3:decide ((c:Int)<65536)=true:=by simp;omega
    clear h1 h2 h3;go_enter Tryz.func169,Tryz.ntmps169;go_wp2;go_ret;exact⟨rfl,rfl⟩
   ·rw[if_neg h3]
    have d1:decide ((c:Int)<128)=false:=by simp;omega
    have d2:decide ((c:Int)<2048)=false:=by simp;omega
    have d3:decide ((c:Int)<65536)=false:=by simp;omega
    clear h1 h2 h3;go_enter Tryz.func169,Tryz.ntmps169;go_wp2;go_ret;exact⟨rfl,rfl⟩
end Go.Proofs.YtbcdaaobbebooaaGreatDoor
