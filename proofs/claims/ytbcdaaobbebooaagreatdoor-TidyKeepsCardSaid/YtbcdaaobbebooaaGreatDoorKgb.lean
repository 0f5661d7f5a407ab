import Derived.Test.YtbcdaaobbebooaaGreatDoorKga
import Derived.Lib.SlTrimSet
import Derived.Lib.IndexMore
import Derived.Deep.Slices
import Derived.SliceStrings
import Derived.ChangeArms
import Derived.Shelf.Strings.Builder1
import Derived.Shelf.Strings.Builder2
import Derived.Shelf.Strings.Trim
import Derived.Shelf.Small.Utf8
import Derived.Shelf.Small.Strs
import Derived.Shelf.Small.Wraps
import Derived.Shelf.Strings.BuilderF
import Derived.Shelf.LaysM
import Derived.Shelf.Strconv.Clone
import Derived.Shelf.Strings.Search1
import Derived.Shelf.Strings.Search2
import Derived.Shelf.Strings.Search3
import Derived.Shelf.Strings.Count
import Derived.Shelf.Strings.Shaped
import Derived.Shelf.Strings.Prefix
import Derived.Shelf.Strings.Runes
import Derived.Shelf.Strings.IndexAny
import Derived.Shelf.Strings.AsciiSet
import Derived.Shelf.Strings.IndexAnyAll
import Derived.Shelf.Bits.Mul64
import Derived.Shelf.Strings.Repeat
import Derived.Shelf.Unicode.DecodeSlow
import Derived.Test.YtbcdaaobbebooaaGreatDoorProg
set_option linter.unusedSimpArgs false
set_option linter.unusedVariables false
set_option maxRecDepth 100000
set_option maxHeartbeats 20000000
namespace Go.Proofs.YtbcdaaobbebooaaGreatDoor
def npc(l:Bs):Bool×Bs×Bs×Bs×Bs×Bs:=
 let a:=l.drop (lQ l)
 let b:=a.drop (eF a)
 let c:=b.drop (bX b)
 (decide (lQ l=1),a.take (eF a),(b.take (bX b)).drop 1,c.take 1,(c.drop 1).take (mQ (c.drop 1)),(c.drop 1).drop (mQ (c.drop 1)))
def decR(l:Bs):(Bool×Bs×Int)×Int:=
 if cB l=l.length/\l≠[] then gq (npc l).1 (npc l).2.1 (npc l).2.2.1 (nX (npc l).2.2.2.2.1 (npc l).2.2.2.2.2) else ((false,[],0),3)
def Jo(l:Bs):Int:=(decR l).2
section
variable {l:Bs} {neg:Bool} {ip fr mk sg pw:Bs}
theorem bg.sgEq(h:bg l neg ip fr mk sg pw)(hp:pw≠[]):mQ (sg++pw)=sg.length:=by
 rcases h.exp with ⟨rfl,rfl,rfl⟩|⟨hm,hs,-⟩
 ·exact absurd rfl hp
 ·rcases hs with rfl|rfl|rfl
  ·cases pw with
   |nil=>exact absurd rfl hp
   |cons c p=>
    have hc:=pR h.dpw (c:=c) rfl;rw[List.nil_append,mQ,if_neg]
    ·rfl
    ·intro e
     rcases e with rfl|rfl<;>revert hc<;>decide
  ·rfl
  ·rfl
theorem bg.frac(h:bg l neg ip fr mk sg pw):bX ((if fr=[] then [] else 46::fr)++(mk++(sg++pw)))=(if fr=[] then ([]:Bs) else 46::fr).length:=by
 have hh:=fun c=>h.pow_head (c:=c);generalize mk++(sg++pw)=r at hh ⊢
 by_cases hf:fr=[]
 ·rw[if_pos hf,List.nil_append]
  cases r with
  |nil=>rfl
  |cons c r=>rw[bX,if_neg];(· rfl);intro e;exact (hh c rfl).2 e.1
 ·rw[if_neg hf,List.cons_append]
  have hd:bC (fr++r)=fr.length:=by rw[pM _ _ h.dfr,uL r (fun c hc=>(hh c hc).1)];rfl
  rw[bX,hd,if_pos ⟨rfl,om hf⟩,List.length_cons];omega
theorem bg.npc(h:bg l neg ip fr mk sg pw):npc l=(neg,ip,fr,mk,sg,pw):=by
 have hm:=h.mn;have hi:=h.int;have hf:=h.frac;have hs:=h.sgEq;have he:=h.exp;unfold Go.Proofs.YtbcdaaobbebooaaGreatDoor.npc;simp only;rw[hm.2,hi,List.drop_left,List.take_left,hf,List.drop_left,List.take_left,hm.1];have h1:decide ((if neg=true then 1 else 0:Nat)=1)=neg:=by cases neg<;>rfl
 have h2:(if fr=[] then ([]:Bs) else 46::fr).drop 1=fr:=by
  by_cases hfr:fr=[]
  ·rw[if_pos hfr,hfr];rfl
  ·rw[if_neg hfr];rfl
 rw[h1,h2];rcases he with ⟨rfl,rfl,rfl⟩|⟨hmk,-,hp⟩
 ·rfl
 ·have Aa:mk.length=1:=by rcases hmk with rfl|rfl<;>rfl
  have e1:(mk++(sg++pw)).take 1=mk:=by rw[<-Aa,List.take_left]
  have e2:(mk++(sg++pw)).drop 1=sg++pw:=by rw[<-Aa,List.drop_left]
  rw[e1,e2,hs hp,List.take_left,List.drop_left]
theorem bg.decR(h:bg l neg ip fr mk sg pw):decR l=gq neg ip fr (nX sg pw):=by
 unfold Go.Proofs.YtbcdaaobbebooaaGreatDoor.decR;rw[if_pos h.scan,h.npc]
end
inductive LR where
 |tok (kind size:Nat):LR
 |bad (off:Nat) (err:Int):LR
def nb(l:Bs):List Nat:=l.map UInt8.toNat
theorem gy(l:Bs):vI (nb l):=by
 intro x hx;obtain⟨c,_,rfl⟩:=List.mem_map.1 hx;exact c.toNat_lt
theorem j3(l:Bs):(nb l).length=l.length:=List.length_map ..
def iX:Bs:=[32,9,13]
def bG(c:UInt8):Bool:=iX.contains c
def jO(c:UInt8):Bool:=decide (65<=c.toNat/\c.toNat<=90) || (decide (97<=c.toNat/\c.toNat<=122) || decide (c.toNat=95))
def M9(c:UInt8):Bool:=jO c || dg c
def uf:Bs->Nat
 |[]=>0
 |c::l=>if M9 c then uf l+1 else 0
def bR:Bs->Nat
 |[]=>0
 |c::l=>if c=10 then 0 else bR l+1
def yN(l:Bs):Option (Nat×Int):=
 match (scan (nb l) 0).1.find? (fun x=>decide (x.2<32)&&x.2 != 9) with
 |some x=>some (x.1,3)
 | none=>match (scan (nb l) 0).2 with
  |some a=>some (a,7)
  |none=>none
def fP(l:Bs)(kind:Nat):LR:=match yN l with
 |some x=>.bad x.1 x.2
 |none=>.tok kind l.length
def fQ(l:Bs):Bs:=Lib.trimRightS (l.take (bR l)) iX
def fD:Bs->Option Nat
 |[]=>none
 |c::l=>if c=42/\l.head?=some 47 then some 0 else (fD l).map (·+1)
def dS(l:Bs):LR:=match fD (l.drop 2) with
 |none=>.bad 0 2
 |some n=>if (l.take (n+2)).contains 10 then .bad 0 2 else fP (l.take (n+4)) 7
def kS:List Bs:=[[61,61],[33,61],[60,61],[62,61],[38,38],[124,124]]
def ni:Bs:=[61,60,62,43,45,42,47,37,33,63,58,44,46,40,41,91,93,123,125]
def zw(l:Bs):Nat:=if kS.any (fun d=>d.isPrefixOf l) then 2 else match l with
 |[]=>0
 |c::_=>if ni.contains c then 1 else 0
def l9(l:Bs):LR:=if Jo (l.take (cB l))=0 then .tok 2 (cB l) else .bad 0 (Jo (l.take (cB l)))
def nz(l:Bs):LR:=if (aV (nb l)).2.2=0 then .tok 3 (aV (nb l)).2.1 else .bad 0 ((aV (nb l)).2.2:Nat)
def dN:Bs->LR
 |[]=>.bad 0 3
 |c::r=>
  if jO c then .tok 1 (1+uf r)
  else if dg c then l9 (c::r)
  else if c=34 then nz (c::r)
  else if c=10 then .tok 5 1
  else if c=35\/(c=47/\r.head?=some 47) then fP (fQ (c::r)) 6
  else if c=47/\r.head?=some 42 then dS (c::r)
  else if zw (c::r)=0 then .bad 0 3 else .tok 4 (zw (c::r))
theorem FH:∀l:Bs,uf l<=l.length
 |[]=>Nat.le_refl _
 |c::l=>by have:=FH l;simp only[uf,List.length_cons];split<;>omega
theorem pG:∀l:Bs,bR l<=l.length
 |[]=>Nat.le_refl _
 |c::l=>by have:=pG l;simp only[bR,List.length_cons];split<;>omega
theorem qp:∀(l:Bs) (n:Nat),fD l=some n->n+2<=l.length
 |[],n,h=>by simp[fD] at h
 | c::l,n,h=>by
  rw[fD] at h;split at h
  ·next hc=>
   cases h
   cases l with
   |nil=>simp at hc
   |cons d l=>simp
  ·obtain⟨m,hm,rfl⟩:=Option.map_eq_some_iff.1 h
   have:=qp l m hm;simp only[List.length_cons];omega
theorem o8(l:Bs):cB l<=l.length:=by
 have hi:∀l:Bs,eF l<=l.length:=by
  intro l
  cases l with
  |nil=>exact Nat.le_refl _
  |cons c l=>rw[eF];split;(· simp);(· exact kr _)
 have hf:∀l:Bs,bX l<=l.length:=by
  intro l
  cases l with
  |nil=>exact Nat.le_refl _
  |cons c l=>rw[bX];have:=kr l;split<;>simp;omega
 have hs:∀l:Bs,mQ l<=l.length:=by
  intro l
  cases l with
  |nil=>exact Nat.le_refl _
  |cons c l=>rw[mQ];split<;>simp
 have hp:∀l:Bs,iF l<=l.length:=by
  intro l
  cases l with
  |nil=>exact Nat.le_refl _
  |cons c l=>
   rw[iF];have h1:=kr (l.drop (mQ l));have h2:=hs l;rw[List.length_drop] at h1;split
   ·simp only[List.length_cons];omega
   ·exact Nat.zero_le _
 have hm:lQ l<=l.length:=by
  cases l with
  |nil=>exact Nat.le_refl _
  |cons c l=>rw[lQ];split<;>simp
 rw[cB];split
 ·exact Nat.zero_le _
 ·have h1:=hi (l.drop (lQ l))
  have h2:=hf (l.drop (lQ l+eF (l.drop (lQ l))));have h3:=hp ((l.drop (lQ l+eF (l.drop (lQ l)))).drop (bX (l.drop (lQ l+eF (l.drop (lQ l))))));rw[fT];simp only[List.length_drop] at h1 h2 h3;omega
theorem Ic{c:UInt8}{r:Bs}(h:dg c=true):1<=cB (c::r):=by
 have hm:lQ (c::r)=0:=by
  rw[lQ,if_neg];rintro rfl
  revert h;decide
 have hi:eF (c::r)≠0:=by
  rw[eF];split
  ·decide
  ·rw[bC,if_pos h];omega
 rw[cB,hm,List.drop_zero,if_neg hi];omega
theorem yA:∀(k:Nat) (l:List Nat),vI l->(mG k l).2.2=0->1<=(mG k l).2.1/\(mG k l).2.1<=l.length
 |0,l,_,h=>by simp[mG,aD] at h
 | k+1,l,hl,h=>by
  rw[mG] at h ⊢;split at h
  ·next hq=>
   rw[if_pos hq]
   cases l with
   |nil=>simp at hq
   |cons c l=>simp
  ·next hq=>
   rw[if_neg hq];split at h
   ·next hp=>exact absurd h hp
   ·next hp=>
    rw[if_neg hp];have hp0:(av l).2.2=0:=by simpa using hp
    obtain⟨c,-,-,h3,h4⟩:=ky hl hp0;split at h
    ·next hr=>exact absurd h hr
    ·next hr=>
     rw[if_neg hr];have:=yA k (l.drop (av l).2.1) (hl.drop _) (by simpa using hr);simp only[List.length_drop] at this;simp only;omega
theorem jd{l:List Nat}(hl:vI l)(h:(aV l).2.2=0):2<=(aV l).2.1/\(aV l).2.1<=l.length:=by
 cases l with
 |nil=>simp[aV,aD] at h
 |cons c r=>
  rw[aV] at h ⊢;split at h
  ·simp[aD] at h
  ·next hc=>
   rw[if_neg hc];unfold gQ at h ⊢;split at h
   ·next he=>exact absurd h he
   ·next he=>
    rw[if_neg he];have:=yA _ r (hl.drop 1) (by simpa [bY] using he);simp only[bY,List.length_cons];omega
theorem sK(l:Bs):(fQ l).length<=l.length:=by
 unfold fQ Lib.trimRightS;rw[List.length_reverse];refine Nat.le_trans (List.dropWhile_sublist _).length_le ?_;rw[List.length_reverse,List.length_take];omega
theorem Kh{c:UInt8}{r:Bs}(h1:c≠10)(h2:bG c=false):1<=(fQ (c::r)).length:=by
 unfold fQ Lib.trimRightS;rw[List.length_reverse,bR,if_neg h1,List.take_succ_cons,List.reverse_cons];generalize (r.take (bR r)).reverse=q
 induction q with
 |nil=>
  rw[List.nil_append,List.dropWhile_cons_of_neg (by rw[show iX.contains c=false from h2];simp)];simp
 |cons a q ih=>
  rw[List.cons_append,List.dropWhile_cons];split
  ·exact ih
  ·simp
theorem NV(l:Bs):zw l<=l.length:=by
 unfold zw;split
 ·next h=>
  obtain⟨d,hd,hp⟩:=List.any_eq_true.1 h
  have h2:d.length=2:=by
   simp only[kS,List.mem_cons,List.not_mem_nil,or_false] at hd;rcases hd with rfl|rfl|rfl|rfl|rfl|rfl<;>rfl
  have:=(List.isPrefixOf_iff_prefix.1 hp).length_le;omega
 ·split
  ·exact Nat.zero_le _
  ·split
   ·simp
   ·exact Nat.zero_le _
theorem dh{l:Bs}{k n:Nat}(h:dN l=.tok k n):1<=n/\n<=l.length:=by
 cases l with
 |nil=>cases h
 |cons c r=>
  rw[dN] at h;split at h
  ·cases h
   have:=FH r;simp only[List.length_cons];omega
  split at h
  ·next hd=>
   unfold l9 at h;split at h
   ·cases h;exact⟨Ic hd,o8 _⟩
   ·cases h
  split at h
  ·unfold nz at h
   split at h
   ·next hq=>
    cases h
    have:=jd (gy (c::r)) hq;rw[j3] at this;omega
   ·cases h
  split at h
  ·cases h;simp
  split at h
  ·next h10 hr=>
   unfold fP at h;split at h
   ·cases h
   ·cases h
    refine⟨Kh h10 ?_,sK _⟩;rcases hr with rfl|⟨rfl,-⟩<;>rfl
  split at h
  ·unfold dS at h
   split at h
   ·cases h
   ·next n hn=>
    have:=qp _ _ hn;split at h
    ·cases h
    ·unfold fP at h
     split at h
     ·cases h
     ·cases h
      simp only[List.length_take,List.length_drop,List.length_cons] at this ⊢;omega
  split at h
  ·cases h
  ·cases h
   exact⟨by omega,NV _⟩
structure ag where
 kind:Int
 text:ByteArray
 pos:Int
def xO:Nat->Bs->Nat->List ag×Int×Int
 |0,_,_=>([],-1,0)
 |_+1,[],_=>([],-1,0)
 | n+1,c::r,p=>if bG c then xO n r (p+1) else match dN (c::r) with
  |.bad off e=>([],((p+off:Nat):Int),e)
  |.tok k sz=>(⟨(k:Nat),ay ((c::r).take sz),(p:Nat)⟩::(xO n ((c::r).drop sz) (p+sz)).1,(xO n ((c::r).drop sz) (p+sz)).2)
theorem uF:∀(n m:Nat) (l:Bs) (p:Nat),l.length<=n->l.length<=m->xO n l p=xO m l p
 | 0,m,l,p,h,_=>by
  obtain rfl:=List.eq_nil_of_length_eq_zero (Nat.le_zero.1 h);cases m<;>rfl
 | n+1,0,l,p,_,h=>by
  obtain rfl:=List.eq_nil_of_length_eq_zero (Nat.le_zero.1 h);rfl
 |n+1,m+1,[],p,_,_=>rfl
 | n+1,m+1,c::r,p,hn,hm=>by
  simp only[List.length_cons] at hn hm;rw[xO,xO];split
  ·exact uF n m r _ (by omega) (by omega)
  ·cases ho:dN (c::r) with
   |bad off e=>rfl
   |tok k sz=>
    have hs:=dh ho;simp only;rw[uF n m _ _ (by rw[List.length_drop,List.length_cons];omega) (by rw[List.length_drop,List.length_cons];omega)]
def aG(l:Bs)(p:Nat):List ag×Int×Int:=xO l.length l p
theorem dH(p:Nat):aG [] p=([],-1,0):=rfl
theorem bO{c:UInt8}{r:Bs}(h:bG c=true)(p:Nat):aG (c::r) p=aG r (p+1):=by
 unfold aG;rw[List.length_cons,xO,if_pos h]
theorem eB{c:UInt8}{r:Bs}(h:bG c=false){off:Nat}{e:Int}(ho:dN (c::r)=.bad off e)(p:Nat):aG (c::r) p=([],((p+off:Nat):Int),e):=by
 unfold aG;rw[List.length_cons,xO,if_neg (by rw[h];simp),ho]
theorem di{c:UInt8}{r:Bs}(h:bG c=false){k sz:Nat}(ho:dN (c::r)=.tok k sz)(p:Nat) :
  aG (c::r) p=(⟨(k:Nat),ay ((c::r).take sz),(p:Nat)⟩::(aG ((c::r).drop sz) (p+sz)).1,(aG ((c::r).drop sz) (p+sz)).2):=by
 have hs:=dh ho;unfold aG;rw[List.length_cons,xO,if_neg (by rw[h];simp),ho];simp only;rw[uF r.length ((c::r).drop sz).length _ _ (by rw[List.length_drop,List.length_cons];omega) lz]
theorem lS:∀(k:Nat) (l:Bs) (p:Nat),l.length<=k->(aG l p).1.length<=l.length
 | 0,l,p,h=>by
  obtain rfl:=List.eq_nil_of_length_eq_zero (Nat.le_zero.1 h);exact Nat.le_refl _
 |k+1,[],p,_=>Nat.le_refl _
 | k+1,c::r,p,h=>by
  simp only[List.length_cons] at h
  by_cases hb:bG c=true
  ·rw[bO hb]
   have:=lS k r (p+1) (by omega);simp only[List.length_cons];omega
  ·have hb':bG c=false:=by simpa using hb
   cases ho:dN (c::r) with
   |bad off e=>rw[eB hb' ho];simp
   |tok kd sz=>
    rw[di hb' ho];have hs:=dh ho;have:=lS k ((c::r).drop sz) (p+sz) (by rw[List.length_drop,List.length_cons];omega);rw[List.length_drop] at this;simp only[List.length_cons] at this hs ⊢;omega
end Go.Proofs.YtbcdaaobbebooaaGreatDoor
namespace Go.Proofs.YtbcdaaobbebooaaGreatDoor
inductive dR where
 |mk (op text:ByteArray) (kids:List dR):dR
def dR.kids:dR->List dR
 |.mk _ _ k=>k
def aU:dR:=.mk ⟨#[]⟩ ⟨#[]⟩ []
def uS:List (Bs×Int):=[([63],0),([124,124],1),([38,38],2),([61,61],3),([33,61],3),([60],4),([62],4),([60,61],4),([62,61],4),([43],5),([45],5),([42],6),([47],6),([37],6),([33],7),([110,101,103],7),
 ([103,101,116],8),([97,116],8),([110,97,109,101],8),([99,97,108,108],8),([110,117,109],8),([116,101,120,116],8),([108,105,115,116],8)]
def Dn(s:ByteArray):Int:=match uS.find? (fun x=>x.1==s.data.toList) with
 |some x=>x.2
 |none=>-1
def bK(r:List ag)(w:ByteArray):Bool:=match r with
 |[]=>false
 |t::_=>decide (t.kind=4)&&decide (t.text=w)
def GG(r:List ag)(lv:Nat):Option ByteArray:=match r with
 |[]=>none
 |t::_=>if t.kind=4/\Dn t.text=lv then some t.text else none
abbrev eX:=dR×Nat×Int
def cZ(r:List ag)(n:Nat):eX:=if r=[] then (aU,n,2) else (aU,n,3)
def dO(n:Nat)(g:eX):eX:=(g.1,n+g.2.1,g.2.2)
def jD(s:ByteArray):Option ByteArray:=
 if (aV (nb s.data.toList)).2.2=0/\(aV (nb s.data.toList)).2.1=s.size then some (ay ((aV (nb s.data.toList)).1.map UInt8.ofNat)) else none
inductive Nt where
 |choice:Nt
 |term (lv:Nat):Nt
 |tloop (lv:Nat) (a:dR):Nt
 |tight:Nt
 |post:Nt
 |ploop (a:dR):Nt
 |prime:Nt
 |many (shut:ByteArray):Nt
 |mloop (shut:ByteArray) (l:List dR):Nt
abbrev sQ:ByteArray:=⟨#[63]⟩
abbrev Mc:ByteArray:=⟨#[58]⟩
abbrev dz:ByteArray:=⟨#[33]⟩
abbrev jB:ByteArray:=⟨#[45]⟩
abbrev qD:ByteArray:=⟨#[46]⟩
abbrev jC:ByteArray:=⟨#[44]⟩
abbrev AO:ByteArray:=⟨#[40]⟩
abbrev p9:ByteArray:=⟨#[41]⟩
abbrev AP:ByteArray:=⟨#[91]⟩
abbrev o9:ByteArray:=⟨#[93]⟩
abbrev pE:ByteArray:=⟨#[110,101,103]⟩
abbrev nG:ByteArray:=⟨#[103,101,116]⟩
abbrev vB:ByteArray:=⟨#[97,116]⟩
abbrev qO:ByteArray:=⟨#[110,97,109,101]⟩
abbrev kD:ByteArray:=⟨#[99,97,108,108]⟩
abbrev yY:ByteArray:=⟨#[110,117,109]⟩
abbrev pu:ByteArray:=⟨#[116,101,120,116]⟩
abbrev kz:ByteArray:=⟨#[108,105,115,116]⟩
abbrev iL:ByteArray:=⟨#[]⟩
def lX(n:Nat):eX:=(aU,n,5)
def il(g:eX)(f:dR->Nat->eX):eX:=if g.2.2=0 then f g.1 g.2.1 else (aU,g.2)
def ai:Nat->Nt->List ag->Nat->eX
 |0,_,_,_=>(aU,0,-1)
 |n+1,.choice,r,d=>il (ai n (.term 1) r d) fun a k=>
   if bK (r.drop k) sQ=false then (a,k,0) else if 64<=d then lX k else
   il (dO (k+1) (ai n .choice (r.drop (k+1)) (d+1))) fun b k2=>
   if bK (r.drop k2) Mc=false then cZ (r.drop k2) k2 else
   il (dO (k2+1) (ai n .choice (r.drop (k2+1)) (d+1))) fun c k3=>(.mk sQ iL [a,b,c],k3,0)
 | n+1,.term lv,r,d=>if 7<=lv then ai n .tight r d else
   il (ai n (.term (lv+1)) r d) fun a k=>dO k (ai n (.tloop lv a) (r.drop k) d)
 | n+1,.tloop lv a,r,d=>match GG r lv with
   |none=>(a,0,0)
   |some o=>il (dO 1 (ai n (.term (lv+1)) (r.drop 1) d)) fun b k=>dO k (ai n (.tloop lv (.mk o iL [a,b])) (r.drop k) d)
 | n+1,.tight,r,d=>if bK r dz=false/\bK r jB=false then ai n .post r d else if 64<=d then lX 0 else
   il (dO 1 (ai n .tight (r.drop 1) (d+1))) fun a k=>(.mk (if bK r dz then dz else pE) iL [a],k,0)
 |n+1,.post,r,d=>il (ai n .prime r d) fun a k=>dO k (ai n (.ploop a) (r.drop k) d)
 |n+1,.ploop a,r,d=>
   if bK r qD then match r.drop 1 with
    |[]=>cZ [] 1
    |t::_=>if t.kind=1 then dO 2 (ai n (.ploop (.mk nG t.text [a])) (r.drop 2) d) else cZ (r.drop 1) 1
   else if bK r AP then (if 64<=d then lX 0 else
    il (dO 1 (ai n .choice (r.drop 1) (d+1))) fun b k=>if bK (r.drop k) o9=false then cZ (r.drop k) k else dO (k+1) (ai n (.ploop (.mk vB iL [a,b])) (r.drop (k+1)) d))
   else (a,0,0)
 | n+1,.prime,r,d=>match r with
   |[]=>cZ [] 0
   |t::r'=>
    if t.kind=1 then (if bK r' AO then il (dO 1 (ai n (.many p9) r' d)) fun x k=>(.mk kD t.text x.kids,k,0) else (.mk qO t.text [],1,0))
    else if t.kind=2 then (.mk yY t.text [],1,0)
    else if t.kind=3 then (match jD t.text with|none=>(aU,0,3)|some s=>(.mk pu s [],1,0))
    else if bK r AP then il (ai n (.many o9) r d) fun x k=>(.mk kz iL x.kids,k,0)
    else if bK r AO then (if 64<=d then lX 0 else il (dO 1 (ai n .choice r' (d+1))) fun a k=>if bK (r.drop k) p9=false then cZ (r.drop k) k else (a,k+1,0))
    else cZ r 0
 |n+1,.many s,r,d=>if 64<=d then lX 0 else if bK (r.drop 1) s then (.mk iL iL [],2,0) else dO 1 (ai n (.mloop s []) (r.drop 1) d)
 |n+1,.mloop s l,r,d=>il (ai n .choice r (d+1)) fun a k=>
   if bK (r.drop k) jC then dO (k+1) (ai n (.mloop s (l++[a])) (r.drop (k+1)) d) else if bK (r.drop k) s then (.mk iL iL (l++[a]),k+1,0) else cZ (r.drop k) k
def Nt.rank:Nt->Nat
 |.choice=>14
 |.term lv=>13-lv
 |.tloop _ _=>2
 |.tight=>5
 |.post=>4
 |.ploop _=>2
 |.prime=>3
 |.many _=>2
 |.mloop _ _=>15
def gT(t:Nt)(r:List ag):Nat:=r.length*16+t.rank
theorem bP{g:eX}{f:dR->Nat->eX}(h:g.2.2=0):il g f=f g.1 g.2.1:=by rw[il,if_pos h]
theorem aZ{g:eX}{f:dR->Nat->eX}(h:g.2.2≠0):il g f=(aU,g.2):=by rw[il,if_neg h]
def jV(m:Nat)(r:List ag)(g:eX):Prop:=g.2.2≠-1/\g.2.1<=r.length/\(g.2.2=0->m<=g.2.1)
theorem jV.and{m m2:Nat}{r:List ag}{g:eX}{f:dR->Nat->eX}(h:jV m r g)(hf:g.2.2=0->m<=g.2.1->g.2.1<=r.length->jV m2 r (f g.1 g.2.1)):jV m2 r (il g f):=by
 by_cases he:g.2.2=0
 ·rw[bP he];exact hf he (h.2.2 he) h.2.1
 ·rw[aZ he];exact⟨h.1,h.2.1,fun e=>absurd e he⟩
theorem jV.up{m n:Nat}{r:List ag}{g:eX}(h:jV m (r.drop n) g)(hn:n<=r.length):jV (n+m) r (dO n g):=by
 obtain⟨h1,h2,h3⟩:=h;rw[List.length_drop] at h2;exact⟨h1,by simp only[dO];omega,fun e=>by have:=h3 e;simp only[dO];omega⟩
theorem jV.less{m m2:Nat}{r:List ag}{g:eX}(h:jV m r g)(hm:m2<=m):jV m2 r g:=⟨h.1,h.2.1,fun e=>Nat.le_trans hm (h.2.2 e)⟩
theorem jV.ok{m n:Nat}{r:List ag}{x:dR}(h1:n<=r.length)(h2:m<=n):jV m r (x,n,0):=⟨(by decide:(0:Int)≠-1),h1,fun _=>h2⟩
theorem jV.bad{m:Nat}{r q:List ag}{n:Nat}(hn:n<=r.length):jV m r (cZ q n):=by
 unfold cZ;split
 ·exact⟨(by decide:(2:Int)≠-1),hn,fun e=>by cases e⟩
 ·exact⟨(by decide:(3:Int)≠-1),hn,fun e=>by cases e⟩
theorem jV.deep{m:Nat}{r:List ag}{n:Nat}(hn:n<=r.length):jV m r (lX n):=⟨(by decide:(5:Int)≠-1),hn,fun e=>by cases e⟩
theorem bI{r:List ag}{w:ByteArray}(h:bK r w=true):1<=r.length:=by cases r with|nil=>cases h|cons t r=>simp
theorem gG{r:List ag}{w:ByteArray}(h:¬bK r w=false):1<=r.length:=bI (by simpa using h)
theorem xV{r:List ag}{lv:Nat}{o:ByteArray}(h:GG r lv=some o):1<=r.length:=by cases r with|nil=>cases h|cons t r=>simp
theorem dY{r:List ag}{k:Nat}(h:1<=(r.drop k).length):k+1<=r.length:=by rw[List.length_drop] at h;omega
def Nt.okX:Nt->List ag->Prop
 |.term lv,_=>lv<=7
 |.tloop lv _,_=>lv<=6
 |.many _,r=>1<=r.length
 |_,_=>True
def Nt.least:Nt->Nat
 |.tloop _ _=>0
 |.ploop _=>0
 |_=>1
theorem nC:∀(n:Nat) (t:Nt) (r:List ag) (d:Nat),gT t r<=n->t.okX r->jV t.least r (ai n t r d):=by
 intro n
 induction n with
 |zero=>
  intro t r d h ht;exfalso
  unfold gT at h
  cases t with
  |term lv=>simp only[Nt.rank] at h;simp only[Nt.okX] at ht;omega
  |_=>simp only[Nt.rank] at h;omega
 |succ n ih=>
  intro t r d h ht;unfold gT at h;have IH:∀(t:Nt) (r:List ag) (d:Nat),r.length*16+t.rank<=n->t.okX r->jV t.least r (ai n t r d):=fun t r d h=>ih t r d h;clear ih
  cases t with
  |choice=>
   simp only[Nt.rank] at h;rw[ai];refine (IH (.term 1) r d (by simp only[Nt.rank];omega) (by simp only[Nt.okX];omega)).and fun _ h1 h2=>?_;simp only[Nt.least] at h1 ⊢;split
   ·exact (.ok (h2) (h1))
   ·next hq=>
    have hq:=dY (gG hq);split
    ·exact .deep h2
    ·refine ((IH .choice (r.drop _) (d+1) (by simp only[Nt.rank,List.length_drop];omega) (by simp only[Nt.okX];try omega)).up hq).and fun _ h3 h4=>?_
     simp only[Nt.least] at h3;split
     ·exact .bad h4
     ·next hc=>
      have hc:=dY (gG hc);refine ((IH .choice (r.drop _) (d+1) (by simp only[Nt.rank,List.length_drop];omega) (by simp only[Nt.okX];try omega)).up hc).and fun _ h5 h6=>?_;exact (.ok (h6) (by simp only[Nt.least] at *;omega))
  |term lv=>
   simp only[Nt.rank] at h;simp only[Nt.okX] at ht;rw[ai];split
   ·exact IH .tight r d (by simp only[Nt.rank];omega) (by simp only[Nt.okX];try omega)
   ·refine (IH (.term (lv+1)) r d (by simp only[Nt.rank];omega) (by simp only[Nt.okX];omega)).and fun _ h1 h2=>?_
    simp only[Nt.least] at h1;exact ((IH (.tloop lv _) (r.drop _) d (by simp only[Nt.rank,List.length_drop];omega) (by simp only[Nt.okX];try omega)).up h2).less (by simp only[Nt.least];omega)
  |tloop lv a=>
   simp only[Nt.rank] at h;rw[ai];split
   ·exact (.ok (Nat.zero_le _) (Nat.zero_le _))
   ·next o ho=>
    have hl:=xV ho;refine ((IH (.term (lv+1)) (r.drop 1) d (by simp only[Nt.rank,List.length_drop];omega) (by simp only[Nt.okX] at ht ⊢;omega)).up hl).and fun _ h1 h2=>?_;simp only[Nt.least] at h1;exact ((IH (.tloop lv _) (r.drop _) d (by simp only[Nt.rank,List.length_drop];omega) ht).up h2).less (Nat.zero_le _)
  |tight=>
   simp only[Nt.rank] at h;rw[ai];split
   ·exact IH .post r d (by simp only[Nt.rank];omega) (by simp only[Nt.okX];try omega)
   ·next hs=>
    have hl:1<=r.length:=by
     by_cases h1:bK r dz=false
     ·exact gG (w:=jB) (fun h2=>hs ⟨h1,h2⟩)
     ·exact gG h1
    split
    ·exact .deep (Nat.zero_le _)
    ·refine ((IH .tight (r.drop 1) (d+1) (by simp only[Nt.rank,List.length_drop];omega) (by simp only[Nt.okX];try omega)).up hl).and fun _ h1 h2=>?_
     exact (.ok (h2) (by simp only[Nt.least] at *;omega))
  |post=>
   simp only[Nt.rank] at h;rw[ai];refine (IH .prime r d (by simp only[Nt.rank];omega) (by simp only[Nt.okX];try omega)).and fun _ h1 h2=>?_;simp only[Nt.least] at h1;exact ((IH (.ploop _) (r.drop _) d (by simp only[Nt.rank,List.length_drop];omega) (by simp only[Nt.okX];try omega)).up h2).less (by simp only[Nt.least];omega)
  |ploop a=>
   simp only[Nt.rank] at h;rw[ai];split
   ·next hs=>
    have hl:=bI hs;split
    ·exact .bad hl
    ·next t q hq=>
     have Aa:2<=r.length:=by have:=congrArg List.length hq;simp at this;omega
     split
     ·exact ((IH (.ploop _) (r.drop 2) d (by simp only[Nt.rank,List.length_drop];omega) (by simp only[Nt.okX];try omega)).up Aa).less (Nat.zero_le _)
     ·exact .bad hl
   ·split
    ·next hs=>
     have hl:=bI hs;split
     ·exact .deep (Nat.zero_le _)
     ·refine ((IH .choice (r.drop 1) (d+1) (by simp only[Nt.rank,List.length_drop];omega) (by simp only[Nt.okX];try omega)).up hl).and fun _ h1 h2=>?_
      simp only[Nt.least] at h1;split
      ·exact .bad h2
      ·next hb=>
       have hb:=dY (gG hb);exact ((IH (.ploop _) (r.drop _) d (by simp only[Nt.rank,List.length_drop];omega) (by simp only[Nt.okX];try omega)).up hb).less (Nat.zero_le _)
    ·exact (.ok (Nat.zero_le _) (Nat.zero_le _))
  |prime=>
   simp only[Nt.rank] at h
   cases r with
   |nil=>exact .bad (Nat.zero_le _)
   |cons t r'=>
    simp only[ai];simp only[List.length_cons] at h;split
    ·split
     ·next hs=>
      have:=((IH (.many p9) ((t::r').drop 1) d (by simp only[Nt.rank,List.length_drop,List.length_cons];omega) (bI hs)).up (n:=1) (by simp));refine this.and fun _ h1 h2=>?_;exact (.ok (h2) (by simp only[Nt.least] at *;omega))
     ·exact (.ok (by simp) lz)
    ·split
     ·exact (.ok (by simp) lz)
     ·split
      ·split
       ·exact⟨(by decide:(3:Int)≠-1),Nat.zero_le _,fun e=>by cases e⟩
       ·exact (.ok (by simp) lz)
      ·split
       ·refine (IH (.many o9) (t::r') d (by simp only[Nt.rank,List.length_cons];omega) (by simp[Nt.okX])).and fun _ h1 h2=>?_
        exact (.ok (h2) (h1))
       ·split
        ·split
         ·exact .deep (Nat.zero_le _)
         ·refine ((IH .choice ((t::r').drop 1) (d+1) (by simp only[Nt.rank,List.length_drop,List.length_cons];omega) (by simp only[Nt.okX];try omega)).up (n:=1) (by simp)).and fun _ h1 h2=>?_
          simp only[Nt.least] at h1;split
          ·exact .bad h2
          ·next hb=>exact (.ok (dY (gG hb)) (by simp only[Nt.least] at *;omega))
        ·exact .bad (Nat.zero_le _)
  |many s=>
   simp only[Nt.rank] at h;have hl:1<=r.length:=ht;rw[ai];split
   ·exact .deep (Nat.zero_le _)
   ·split
    ·next hs=>exact (.ok (dY (bI hs)) (by simp only[Nt.least] at *;omega))
    ·exact ((IH (.mloop s []) (r.drop 1) d (by simp only[Nt.rank,List.length_drop];omega) (by simp only[Nt.okX];try omega)).up hl).less (by simp only[Nt.least];omega)
  |mloop s l=>
   simp only[Nt.rank] at h;rw[ai];refine (IH .choice r (d+1) (by simp only[Nt.rank];omega) (by simp only[Nt.okX];try omega)).and fun _ h1 h2=>?_;simp only[Nt.least] at h1;split
   ·next hs=>
    have hs:=dY (bI hs);exact ((IH (.mloop s _) (r.drop _) d (by simp only[Nt.rank,List.length_drop];omega) (by simp only[Nt.okX];try omega)).up hs).less (by simp only[Nt.least];omega)
   ·split
    ·next hs=>exact (.ok (dY (bI hs)) (by simp only[Nt.least] at *;omega))
    ·exact .bad h2
end Go.Proofs.YtbcdaaobbebooaaGreatDoor
namespace Go.Proofs.YtbcdaaobbebooaaGreatDoor
theorem wm:∀(k n:Nat) (l m:List Nat),(gY k n l).2=0->gY k n (l.take k++m)=gY k n l
 |0,_,_,_,_=>by simp[gY]
 |_+1,_,[],_,h=>by simp[gY] at h
 | k+1,n,c::r,m,h=>by
  simp only[gY,List.take_succ_cons,List.cons_append] at h ⊢
  cases hc:mI c with
  |none=>simp[hc] at h
  |some d=>
   rw[hc] at h;simp only at h ⊢;exact wm k _ r m h
theorem qZ{l:List Nat}(h:(aJ l).2=0)(m:List Nat):aJ (l.take 4++m)=aJ l:=wm 4 0 l m h
theorem IU{n:Nat}{l:List Nat}(h:(iR n l).2.2=0)(m:List Nat):iR n (l.take 6++m)=iR n l:=by
 match l with
 |[]=>simp[iR,aD] at h
 |[c]=>by_cases hc:c=92<;>simp[iR,aD,hc] at h
 |c::d::u=>
  by_cases hc:c=92
  ·by_cases hd:d=117
   ·have h1:(aJ u).2=0:=by
     unfold iR at h;simp only at h;rw[if_neg (by simp[hc]),if_neg (by simp[hd])] at h
     by_cases hu:(aJ u).2=0
     ·exact hu
     ·rw[if_pos (by simpa using hu)] at h;exact absurd h hu
    have h2:=qZ h1 m;subst hc;subst hd;simp only[List.take_succ_cons,List.cons_append,iR,h2]
   ·unfold iR at h;simp only at h;rw[if_neg (by simp[hc]),if_pos (by simpa using hd)] at h;simp[aD] at h
  ·unfold iR at h;simp only at h;rw[if_pos (by simpa using hc)] at h;simp[aD] at h
theorem D8{r:List Nat}(h:(aN r).2.2=0)(m:List Nat):aN (r.take ((aN r).2.1-2)++m)=aN r:=by
 have Ab:=Ai h
 have hu:(aJ r).2=0:=by
  unfold aN at h
  by_cases hu:(aJ r).2=0
  ·exact hu
  ·rw[if_pos (by simpa using hu)] at h;exact absurd h hu
 have hv:=jl hu;unfold aN at h ⊢;rw[if_neg (by simp[hu])] at h
 by_cases h1:56320<=(aJ r).1/\(aJ r).1<=57343
 ·rw[if_pos h1] at h;simp[aD] at h
 rw[if_neg h1] at h
 by_cases h2:(aJ r).1<55296\/57343<(aJ r).1
 ·have hq:aJ (r.take 4++m)=aJ r:=qZ hu m
  simp only[if_neg (show ¬(aJ r).2≠0 by simp[hu]),if_neg h1,if_pos h2];simp only[show 6-2=4 from rfl,hq];simp only[if_neg (show ¬(aJ r).2≠0 by simp[hu]),if_neg h1,if_pos h2]
 ·rw[if_neg h2] at h
  obtain⟨_,_,_,Aa,h6⟩:=sW (by omega) h;have hl:10<=r.length:=by simp at h6;omega
  have hq:aJ (r.take 10++m)=aJ r:=by
   have:=qZ hu ((r.take 10).drop 4++m);rw[<-this]
   congr 1
   rw[<-List.append_assoc]
   congr 1
   conv=>lhs;rw[<-List.take_append_drop 4 (r.take 10)]
   rw[List.take_take];rfl
  have hd:(r.take 10++m).drop 4=(r.drop 4).take 6++m:=by
   rw[List.drop_append_of_le_length (by simp;omega),List.drop_take]
  simp only[if_neg (show ¬(aJ r).2≠0 by simp[hu]),if_neg h1,if_neg h2,Aa];simp only[show 12-2=10 from rfl,hq];simp only[if_neg (show ¬(aJ r).2≠0 by simp[hu]),if_neg h1,if_neg h2,hd];exact IU h m
theorem Fa(c:Nat)(r:List Nat):av (c::r)=if c<32 then aD 3 else if c=92 then lW r else if (aF (c::r)).2=0 then aD 7 else ((c::r).take (aF (c::r)).2,(aF (c::r)).2,0):=rfl
theorem E9{l:List Nat}(hl:vI l)(h:(av l).2.2=0)(m:List Nat):av (l.take (av l).2.1++m)=av l:=by
 have Aa:=ky hl h
 match l with
 |[]=>simp[av,aD] at h
 |c::r=>
  simp only[av] at h Aa ⊢
  by_cases h1:c<32
  ·rw[if_pos h1] at h;simp[aD] at h
  rw[if_neg h1] at h Aa ⊢
  by_cases h2:c=92
  ·rw[if_pos h2] at h Aa ⊢
   match r with
   |[]=>simp[lW,aD] at h
   |d::t=>
    simp only[lW] at h Aa ⊢
    cases hd:yf d with
    |some b=>
     rw[hd] at h Aa;simp only[List.take_succ_cons,List.cons_append,List.take_zero];rw[if_neg h1,if_pos h2];simp only[hd]
    |none=>
     rw[hd] at h Aa;simp only at h Aa ⊢
     by_cases h3:d=117
     ·rw[if_pos h3] at h Aa ⊢
      have hm:=D8 h m
      obtain⟨k,hk⟩:∃k,(aN t).2.1=k+2:=by
       have:(aN t).2.1=6\/(aN t).2.1=12:=by
        unfold aN at h ⊢
        by_cases hu:(aJ t).2=0
        ·rw[if_neg (by simp[hu])] at h ⊢
         by_cases g1:56320<=(aJ t).1/\(aJ t).1<=57343
         ·rw[if_pos g1] at h;simp[aD] at h
         ·rw[if_neg g1] at h ⊢
          by_cases g2:(aJ t).1<55296\/57343<(aJ t).1
          ·rw[if_pos g2];exact .inl rfl
          ·rw[if_neg g2] at h ⊢
           exact .inr (sW (by omega) h).choose_spec.2.2.1
        ·rw[if_pos (by simpa using hu)] at h;exact absurd h hu
       rcases this with h|h
       ·exact⟨4,h⟩
       ·exact⟨10,h⟩
      rw[hk] at hm;simp only[Nat.add_sub_cancel] at hm;rw[hk];simp only[List.take_succ_cons,List.cons_append];rw[if_neg h1,if_pos h2];simp only[hd];rw[if_pos h3,hm]
     ·rw[if_neg h3] at h;simp[aD] at h
  ·rw[if_neg h2] at h Aa ⊢
   by_cases h3:(aF (c::r)).2=0
   ·rw[if_pos h3] at h;simp[aD] at h
   ·rw[if_neg h3] at Aa ⊢
    obtain⟨q1,q2,q3,q4⟩:=kw (c:=(aF (c::r)).1) (n:=(aF (c::r)).2) hl rfl h3
    have hn:aF ((c::r).take (aF (c::r)).2++m)=aF (c::r):=by
     have h5:=Da q1 m;rw[show fM (aF (c::r)).1=(c::r).take (aF (c::r)).2 from q3,q2] at h5;exact h5
    simp only;obtain⟨j,hj⟩:∃j,(aF (c::r)).2=j+1:=⟨(aF (c::r)).2-1,by omega⟩;have hc:(c::r).take (aF (c::r)).2++m=c::(r.take j++m):=by rw[hj];simp
    rw[hc] at hn ⊢;simp only;rw[if_neg h1,if_neg h2,hn,if_neg h3]
    congr 1
    rw[<-hc];rw[List.take_append_of_le_length (by rw[List.length_take];omega),List.take_take,Nat.min_self]
theorem yz:∀(k:Nat) (l m:List Nat),l.length<=k->vI l->vI m->(bY l).2.2=0->bY (l.take (bY l).2.1++m)=bY l
 | k,l,m,hk,hl,hm,h=>by
  have hb:∀j,vI (l.take j++m):=fun j x hx=>by
   rcases List.mem_append.1 hx with hx|hx
   ·exact hl x (List.mem_of_mem_take hx)
   ·exact hm x hx
  by_cases h34:l.head?=some 34
  ·have e:bY l=([],1,0):=by rw[dP hl,if_pos h34]
   rw[e];simp only
   cases l with
   |nil=>cases h34
   |cons c r=>
    have hc:c=34:=by simpa using h34
    subst hc;rw[dP (hb 1),if_pos (by simp)]
  ·have hp:(av l).2.2=0:=by
    refine Decidable.byContradiction fun hn=>?_;rw[dP hl,if_neg h34,if_pos hn] at h;exact hn h
   obtain⟨_,_,_,q3,q4⟩:=ky hl hp
   have hr:(bY (l.drop (av l).2.1)).2.2=0:=by
    refine Decidable.byContradiction fun hn=>?_;rw[dP hl,if_neg h34,if_neg (by simp[hp]),if_pos hn] at h;exact hn h
   have e:bY l=((av l).1++(bY (l.drop (av l).2.1)).1,(av l).2.1+(bY (l.drop (av l).2.1)).2.1,0):=by
    rw[dP hl,if_neg h34,if_neg (by simp[hp]),if_neg (by simp[hr])]
   cases k with
   |zero=>omega
   |succ k=>
    have ih:=yz k (l.drop (av l).2.1) m (by simp;omega) (hl.drop _) hm hr;rw[e];simp only
    have Ab:l.take ((av l).2.1+(bY (l.drop (av l).2.1)).2.1)++m=l.take (av l).2.1++((l.drop (av l).2.1).take (bY (l.drop (av l).2.1)).2.1++m):=by
     rw[List.take_add,List.append_assoc]
    have Ac:=E9 hl hp ((l.drop (av l).2.1).take (bY (l.drop (av l).2.1)).2.1++m);rw[Ab];have Aa:=hb ((av l).2.1+(bY (l.drop (av l).2.1)).2.1);rw[Ab] at Aa
    have hh:(l.take (av l).2.1++((l.drop (av l).2.1).take (bY (l.drop (av l).2.1)).2.1++m)).head?≠some 34:=by
     cases l with
     |nil=>simp at q4;omega
     |cons c r=>
      obtain⟨j,hj⟩:∃j,(av (c::r)).2.1=j+1:=⟨(av (c::r)).2.1-1,by omega⟩;rw[hj]
      simpa using h34
    rw[dP Aa,if_neg hh,Ac,if_neg (by simp[hp])]
    have hd:(l.take (av l).2.1++((l.drop (av l).2.1).take (bY (l.drop (av l).2.1)).2.1++m)).drop (av l).2.1=(l.drop (av l).2.1).take (bY (l.drop (av l).2.1)).2.1++m:=by
     rw[List.drop_append_of_le_length (by rw[List.length_take];omega),List.drop_eq_nil_of_le (by rw[List.length_take];omega),List.nil_append]
    rw[hd,ih,if_neg (by simp[hr])]
theorem nV{l m:List Nat}(hl:vI l)(hm:vI m)(h:(aV l).2.2=0):aV (l.take (aV l).2.1++m)=aV l:=by
 cases l with
 |nil=>simp[aV,aD] at h
 |cons c r=>
  have hc:c=34:=by
   refine Decidable.byContradiction fun hn=>?_;rw[aV,if_pos hn] at h;simp[aD] at h
  have e:aV (c::r)=gQ [] 1 (bY r):=by rw[aV,if_neg (by simpa using hc)]
  have hb:(bY r).2.2=0:=by
   refine Decidable.byContradiction fun hn=>?_;rw[e,gQ,if_pos hn] at h;exact hn h
  have ih:=yz r.length r m lz (fun x hx=>hl x (by simp[hx])) hm hb;rw[e,gQ,if_neg (by simp[hb])];simp only;rw[Nat.add_comm 1,List.take_succ_cons,List.cons_append,aV,if_neg (by simpa using hc),ih,gQ,if_neg (by simp[hb])];simp[Nat.add_comm]
theorem Kl{l:Bs}{k n:Nat}(h:dN l=.tok k n)(hk:k=3):jD (ay (l.take n))≠none:=by
 subst hk
 cases l with
 |nil=>cases h
 |cons c r=>
  rw[dN] at h;split at h
  ·simp only[LR.tok.injEq] at h;omega
  split at h
  ·unfold l9 at h
   split at h
   ·simp only[LR.tok.injEq] at h;omega
   ·cases h
  split at h
  ·unfold nz at h
   split at h
   ·next hz=>
    simp only[LR.tok.injEq,true_and] at h;subst h;have Ab:=jd (gy (c::r)) hz;have hm:=nV (m:=[]) (gy (c::r)) (fun x hx=>by cases hx) hz;rw[List.append_nil] at hm;have Aa:nb ((c::r).take (aV (nb (c::r))).2.1)=(nb (c::r)).take (aV (nb (c::r))).2.1:=by unfold nb;rw[List.map_take]
    unfold jD;rw[bU,Aa,hm,if_pos]
    ·simp
    ·refine⟨hz,?_⟩
     rw[au,bU,List.length_take];rw[j3] at Ab;omega
   ·cases h
  split at h
  ·simp only[LR.tok.injEq] at h;omega
  split at h
  ·unfold fP at h
   split at h
   ·cases h
   ·simp only[LR.tok.injEq] at h;omega
  split at h
  ·unfold dS at h
   split at h
   ·cases h
   ·split at h
    ·cases h
    ·unfold fP at h
     split at h
     ·cases h
     ·simp only[LR.tok.injEq] at h;omega
  split at h
  ·cases h
  ·simp only[LR.tok.injEq] at h;omega
theorem sZ:∀(k:Nat) (l:Bs) (p:Nat),l.length<=k->∀t∈(aG l p).1,t.kind=3->jD t.text≠none
 |k,[],p,_,t,ht,_=>by rw[dH] at ht;cases ht
 |0,c::l,p,hk,_,_,_=>by simp at hk
 | k+1,c::l,p,hk,t,ht,h3=>by
  simp only[List.length_cons] at hk
  cases hb:bG c with
  |true=>
   rw[bO hb] at ht;exact sZ k l (p+1) (by omega) t ht h3
  |false=>
   cases ho:dN (c::l) with
   |bad o e=>rw[eB hb ho] at ht;cases ht
   |tok kd sz=>
    have hs:=dh ho;rw[di hb ho] at ht;rcases List.mem_cons.1 ht with rfl|ht
    ·exact Kl ho (by simp only at h3;omega)
    ·exact sZ k _ _ (by rw[List.length_drop,List.length_cons];omega) t ht h3
end Go.Proofs.YtbcdaaobbebooaaGreatDoor
namespace Go.Proofs.YtbcdaaobbebooaaGreatDoor
open Go.RowKit Go.Tab
def jL(t:ag):List Value:=[.int .i64 t.kind,.string t.text,.int .i64 t.pos]
abbrev jb(t:ag):Value:=.agg #[.int .i64 t.kind,.string t.text,.int .i64 t.pos]
def aO(base:Nat)(w:World)(v:Value)(l:List ag):Prop:=w.ownsRow base 63 3 v l.length (l.flatMap jL)
theorem aO.nil{base:Nat}{w:World}:aO base w (.slice none 0 0) []:=World.ownsRow_nil _ _ _ _
theorem aO.alloc{base:Nat}{w:World}{v:Value}{l:List ag}(h:aO base w v l)(o:Obj):aO base (w.alloc o) v l:=World.ownsRow.alloc h o
theorem aO.moved{base:Nat}{w w':World}{v:Value}{l:List ag}(h:aO base w v l)(hc:∀k,v.ownBlock=some k->w'.heap[k]?=w.heap[k]?):aO base w' v l:=by
 obtain⟨h1,h2⟩:=h;refine⟨h1,?_⟩;rcases h2 with h2|⟨g,cap,cur,rfl,hg0,hg,r⟩
 ·exact .inl h2
 ·exact .inr ⟨g,cap,cur,rfl,hg0,by rw[hc g rfl];exact hg,r⟩
theorem aO.below{base B:Nat}{w w':World}{v:Value}{l:List ag}(h:aO base w v l)(hb:Below B w w')(hB:w.heap.size<=B):aO base w' v l:=
 h.moved fun k hk=>hb.block k (Nat.lt_of_lt_of_le (World.ownsRow.lt h k hk).2 hB)
theorem aO.base_le{base base':Nat}{w:World}{v:Value}{l:List ag}(h:aO base w v l)(hb:base'<=base):aO base' w v l:=by
 obtain⟨h1,h2⟩:=h;refine⟨h1,?_⟩;rcases h2 with h2|⟨g,cap,cur,hv,hg0,r⟩
 ·exact .inl h2
 ·exact .inr ⟨g,cap,cur,hv,by omega,r⟩
theorem aO.len{base:Nat}{w:World}{v:Value}{l:List ag}(h:aO base w v l):∃a cap,v=.slice a l.length cap:=by
 obtain⟨h1,h2⟩:=h;rcases h2 with ⟨rfl,h3⟩|⟨g,cap,cur,rfl,_⟩
 ·exact⟨none,0,by rw[h3]⟩
 ·exact⟨_,cap,rfl⟩
theorem Tryz.infoTok:(Tryz.prog.info? 63).map (fun i=>(i.zero,i.size,i.bytes))=some (some (.agg #[.int .i64 0,.string ⟨#[]⟩,.int .i64 0]),3,32):=by kernel_rfl
theorem wB(t:ag):∀u∈jL t,u.oneCell'=true:=by
 intro u hu;simp only[jL,List.mem_cons,List.not_mem_nil,or_false] at hu;rcases hu with rfl|rfl|rfl<;>rfl
theorem xW:∀(l:List ag) (j:Nat) (h:j<l.length),(l.flatMap jL)[j*3]?=some (.int .i64 l[j].kind)/\(l.flatMap jL)[j*3+1]?=some (.string l[j].text)/\(l.flatMap jL)[j*3+2]?=some (.int .i64 l[j].pos)
 |p::l,0,_=>by simp[jL]
 | p::l,j+1,h=>by
  have ih:=xW l j (by simpa using h);have e1:(j+1)*3=j*3+3:=by omega
  rw[e1]
  simpa [jL] using ih
def aH(w:World)(v:Value)(l:List ag):Prop:=
 ∃a cap,v=.slice a l.length cap/\l.length<=cap/\cap<=maxLen/\(a=none->cap=0)/\
  ∀x,a=some x->l≠[]->x.spot=none/\x.block<w.heap.size/\∀j (h:j<l.length),w.cell? ⟨x.block,x.off+j*3,none⟩=some (.int .i64 l[j].kind)/\
   w.cell? ⟨x.block,x.off+j*3+1,none⟩=some (.string l[j].text)/\w.cell? ⟨x.block,x.off+j*3+2,none⟩=some (.int .i64 l[j].pos)
theorem aH.nil{w:World}:aH w (.slice none 0 0) []:=⟨none,0,rfl,Nat.le_refl _,Nat.zero_le _,fun _=>rfl,fun x hx=>by cases hx⟩
theorem aO.toks{base:Nat}{w:World}{v:Value}{l:List ag}(h:aO base w v l):aH w v l:=by
 have Aa:=World.ownsRow.lt h;obtain⟨h1,h2⟩:=h;rcases h2 with ⟨rfl,h3⟩|⟨g,cap,cur,rfl,hb,hg,h3,h4,h5,h6⟩
 ·have:l=[]:=List.eq_nil_of_length_eq_zero h3
  subst this;exact aH.nil
 ·refine⟨_,cap,rfl,h3,h4,(fun h=>by cases h),fun x hx _=>?_⟩
  cases hx
  refine⟨rfl,(Aa g rfl).2,fun j hj=>?_⟩;obtain⟨f1,f2,f3⟩:=xW l j hj;rw[<-h6,List.getElem?_take,if_pos (by omega)] at f1 f2 f3;refine⟨?_,?_,?_⟩
  ·rw[cell_of_row w g _ cur 63 (0,0) hg]
   simpa using f1
  ·rw[cell_of_row w g _ cur 63 (0,0) hg]
   simpa using f2
  ·rw[cell_of_row w g _ cur 63 (0,0) hg]
   simpa using f3
theorem aH.moved{w w':World}{v:Value}{l:List ag}(h:aH w v l)(hs:w.heap.size<=w'.heap.size)(hc:∀b off,b<w.heap.size->v.ownBlock=some b->w'.cell? ⟨b,off,none⟩=w.cell? ⟨b,off,none⟩):aH w' v l:=by
 obtain⟨a,Aa,rfl,h1,h2,h3,h4⟩:=h;refine⟨a,Aa,rfl,h1,h2,h3,fun x hx hl=>?_⟩;obtain⟨g1,g2,g3⟩:=h4 x hx hl;subst hx;refine⟨g1,Nat.lt_of_lt_of_le g2 hs,fun j hj=>?_⟩;rw[hc _ _ g2 rfl,hc _ _ g2 rfl,hc _ _ g2 rfl];exact g3 j hj
theorem aH.below{w w':World}{B:Nat}{v:Value}{l:List ag}(h:aH w v l)(hb:Below B w w')(hB:w.heap.size<=B):aH w' v l:=
 h.moved hb.size fun b off hx _=>hb.cell (Nat.lt_of_lt_of_le hx hB)
theorem aH.get{w:World}{a:Option Addr}{n cap:Nat}{l:List ag}(h:aH w (.slice a n cap) l){j:Nat}(hj:j<l.length) :
  ∃b off,a=some ⟨b,off,none⟩/\b<w.heap.size/\w.cell? ⟨b,off+j*3,none⟩=some (.int .i64 l[j].kind)/\w.cell? ⟨b,off+j*3+1,none⟩=some (.string l[j].text)/\w.cell? ⟨b,off+j*3+2,none⟩=some (.int .i64 l[j].pos):=by
 obtain⟨a',Aa,he,h1,h2,h3,h4⟩:=h;cases he
 cases a with
 |none=>have:=h3 rfl;omega
 |some x=>
  obtain⟨b,off,sp⟩:=x;obtain⟨rfl,g2,g3⟩:=h4 _ rfl (by intro h0;subst h0;simp at hj);exact⟨b,off,rfl,g2,g3 j hj⟩
theorem aH.len{w:World}{v:Value}{l:List ag}(h:aH w v l):∃a cap,v=.slice a l.length cap/\l.length<=cap/\cap<=maxLen/\(a=none->cap=0):=by
 obtain⟨a,cap,h1,h2,h3,h4,-⟩:=h;exact⟨a,cap,h1,h2,h3,h4⟩
section
variable {w:World} {ops:Array Oper} {rest:List Oper} {o:Oper} {a:Act} {Q:Exit->Act->World->Prop}
theorem gN(hgd:Region.wanted o (yielded ops a.tmps)=true)(s x:Operand)
  (ho:o.op=.call { callee:=.builtin .append,args:=#[s,x],argTypes:=#[22,22] })
  (base:Nat) (l:List ag) (t:ag) (hown:aO base w (a.eval s) l) (g:Nat) (hx:a.eval x=.slice (some ⟨g,0,none⟩) 1 1)
  (hc0:w.cell? ⟨g,0,none⟩=some (.int .i64 t.kind)) (hc1:w.cell? ⟨g,1,none⟩=some (.string t.text)) (hc2:w.cell? ⟨g,2,none⟩=some (.int .i64 t.pos))
  (hm:l.length<=1048576) (hbase:base<=w.heap.size) (w0:World) (hb:Below base w0 w)
  (hK:∀v' w',aO base w' v' (l++[t])->Below base w0 w'->w.grownBy w' (a.eval s).ownBlock->wpList Tryz.prog ops Q rest (a.put o.dst v') w'):wpList Tryz.prog ops Q (o::rest) a w:=by
 refine gV hgd fun K hK'=>?_;obtain⟨i,Aa,Ab,Ac,Ad⟩:=info_parts Tryz.infoTok;refine wp_append_own w s x 22 ho base 63 i _ 3 32 Tryz.underlying22 Aa Ab Ac Ad rfl (by decide) (a.eval s) l.length (l.flatMap jL) rfl hown ⟨g,0,none⟩ 1 1 (jL t) hx rfl ?_ (wB t) (by unfold maxLen;omega) (by omega) hbase ?_
 ·intro j u hu
  rw[Addr.add_lit]
  match j with
  |0=>simp[jL] at hu;subst hu;simpa using hc0
  |1=>simp[jL] at hu;subst hu;simpa using hc1
  |2=>simp[jL] at hu;subst hu;simpa using hc2
  |j+3=>simp[jL] at hu
 ·intro v' w' hown' hg _
  refine hK' _ _ (hK v' w' ?_ (hb.trans (jv hg hbase (fun k hk=>(World.ownsRow.lt hown k hk).1))) hg);unfold aO
  simpa using hown'
end
def nP(p:Prop)(w:World)(e:Ending)(w':World):Prop:=(∃b,e=.returned (.bool b)/\(b=true↔p))/\Below w.heap.size w w'
theorem nP.fix{p:Prop}{b:Bool}(hb:b=true↔p){P:Program}{f:FuncId}{args:Array Value}{w:World}(h:Calls P f args w (nP p w)) :
  Calls P f args w fun e w'=>e=.returned (.bool b)/\Below w.heap.size w w':=
 h.mono fun e w' ⟨⟨c,he,hc⟩,hw⟩=>⟨by rw[he,show c=b from by rw[Bool.eq_iff_iff,hc,hb]],hw⟩
theorem um(p:Prop):∃b:Bool,b=true↔p:=by
 classical
 exact⟨decide p,decide_eq_true_iff⟩
theorem KO{a b:ByteArray}(h:a.toList=b.toList):a=b:=
 ByteArray.ext (Array.ext' (by rw[ByteArray.toList_eq,ByteArray.toList_eq] at h;exact h))
theorem nT{a b:ByteArray}(h:¬a=b):(a.toList==b.toList)=false:=by
 rw[beq_eq_false_iff_ne];exact fun h1=>h (KO h1)
theorem AR{α:Type}{a b:List α}{k:Nat}(h1:k<a.length)(h2:k<b.length)(h:a[k]≠b[k]):a≠b:=by
 rintro rfl;exact h rfl
theorem AU{α:Type}{a b:List α}(hl:a.length=b.length)(h:∀j (h1:j<a.length) (h2:j<b.length),a[j]=b[j]):a=b:=
 List.ext_getElem hl h
theorem Mh{w w2:World}{c1 c2:Array Value}{T:TypeId}(hb2:Below ((w.alloc (.cells c1 T)).alloc (.cells c2 T)).heap.size ((w.alloc (.cells c1 T)).alloc (.cells c2 T)) w2) :
  ae w2 w.heap.size c1 T/\ae w2 (w.heap.size+1) c2 T/\w.heap.size<w2.heap.size/\w.heap.size+1<w2.heap.size:=by
 have hs:=hb2.size;simp only[World.size_alloc] at hs;refine⟨((ae.new w c1 T).alloc _).below hb2 (by simp;omega),?_,by omega,by omega⟩;have h:=(ae.new (w.alloc (.cells c1 T)) c2 T).below hb2 (by simp)
 simpa using h
theorem lN{p:Prop}(h:¬p):(false=true↔p):=⟨(fun h=>by cases h),fun hp=>absurd hp h⟩
theorem F7{p:Prop}(h:p):(true=true↔p):=⟨fun _=>h,fun _=>rfl⟩
theorem iB{w w':World}{b:Nat}(h:w'.heap[b]?=w.heap[b]?)(off:Nat):w'.cell? ⟨b,off,none⟩=w.cell? ⟨b,off,none⟩:=by
 simp only[World.cell?,h]
theorem DJ{w w':World}{b:Nat}(h:w'.heap[b]?=w.heap[b]?)(off:Nat):w'.frozen? ⟨b,off,none⟩=w.frozen? ⟨b,off,none⟩:=by
 simp only[World.frozen?,h]
theorem len3{α:Type}{l:List α}(h:l.length=3):∃a b c,l=[a,b,c]:=by
 match l,h with
 |[a,b,c],_=>exact⟨a,b,c,rfl⟩
section
variable {P:Program} {w:World} {ops:Array Oper} {rest:List Oper} {o:Oper} {a:Act} {Q:Exit->Act->World->Prop}
theorem oD(hgd:Region.wanted o (yielded ops a.tmps)=true)(l c:Operand)(t:TypeId)(hop:o.op=.makeSlice t l c)
  (e:TypeId) (bytes size:Nat) (z:Value) (ht:P.underlying t=some (.slice e)) (hi:(P.info? e).map (fun i=>(i.zero,i.size,i.bytes))=some (some z,size,bytes))
  (kl kc:IntKind) (n:Nat) (hl:a.eval l=.int kl (n:Int)) (hc:a.eval c=.int kc (n:Int)) (hby:bytes*n<=281474976710656) (hm:n<=maxLen)
  (hK:∀(M:Array Value) (w':World),M.size=n*size->w'=w.alloc (.cells M e)->wpList P ops Q rest (a.put o.dst (.slice (some ⟨w.heap.size,0,none⟩) n n)) w'):wpList P ops Q (o::rest) a w:=by
 obtain⟨i,Ac,Aa⟩:=Option.map_eq_some_iff.1 hi;simp only[Prod.mk.injEq] at Aa;obtain⟨hz,hs,hb⟩:=Aa;refine gV hgd fun K hK'=>?_
 have Ab:(i.bytes:Int)*(n:Int)<=281474976710656:=by
  have h:((i.bytes*n:Nat):Int)<=281474976710656:=by rw[hb];omega
  rwa [Int.natCast_mul] at h
 have hr:=run_make (P:=P) w t e i z ht Ac hz kl kc n n (by omega) (Int.le_refl _) Ab (by simp[maxLen] at hm;omega);simp only[Int.toNat_natCast,hs] at hr;unfold Oper.wp;simp[execOp,hop,hl,hc,hr,Result.andThen]
 exact hK' _ _ (hK _ _ (size_madeCells _ _) rfl)
end
def ak(w:World)(B:Nat):Nat->List Value->World
 |_,[]=>w
 |o,v::r=>ak (w.setCell ⟨B,o,none⟩ v) B (o+1) r
def Kn:Array Value->Nat->List Value->Array Value
 |arr,_,[]=>arr
 |arr,o,v::r=>Kn (arr.setIfInBounds o v) (o+1) r
theorem ae.setI{w:World}{B:Nat}{arr:Array Value}{T:TypeId}(h:ae w B arr T)(o:Nat)(v:Value):ae (w.setCell ⟨B,o,none⟩ v) B (arr.setIfInBounds o v) T:=by
 obtain⟨Aa,hk⟩:=Array.getElem?_eq_some_iff.1 h;show (w.heap.modify B _)[B]?=_;rw[Array.getElem?_eq_getElem (by rw[Array.size_modify];exact Aa),Array.getElem_modify_self,hk];simp
theorem ae.put{B:Nat}{T:TypeId}:∀(cs:List Value) (o:Nat) {w:World} {arr:Array Value},ae w B arr T->ae (ak w B o cs) B (Kn arr o cs) T
 |[],_,_,_,h=>h
 |v::r,o,_,_,h=>ae.put r (o+1) (h.setI o v)
theorem aL(B:Nat):∀(cs:List Value) (o:Nat) (w:World) (k:Nat),k≠B->(ak w B o cs).heap[k]?=w.heap[k]?
 |[],_,_,_,_=>rfl
 | v::r,o,w,k,h=>by
  rw[ak,aL B r _ _ _ h];exact Below.heap_setCell _ _ _ _ h
theorem aA(B:Nat):∀(cs:List Value) (o:Nat) (w:World),(ak w B o cs).heap.size=w.heap.size
 |[],_,_=>rfl
 |v::r,o,w=>by rw[ak,aA B r];simp[World.setCell]
theorem aS(B L:Nat)(hL:L<=B):∀(cs:List Value) (o:Nat) (w w':World),Below L w w'->Below L w (ak w' B o cs)
 |[],_,_,_,h=>h
 |v::r,o,w,w',h=>aS B L hL r _ _ _ (h.setCell (by exact hL) _)
theorem ae.setAllOther{w:World}{B g o:Nat}{cs:Array Value}{T:TypeId}{l:List Value}(h:ae w g cs T)(hne:g≠B):ae (ak w B o l) g cs T:=(aL B l o w g hne).trans h
def aB(g:Nat)(w w':World):Prop:=Below 0 w w'/\∀k,k<w.heap.size->k≠g->w'.heap[k]?=w.heap[k]?
section
variable {g:Nat} {w w' w'':World}
theorem aB.size(h:aB g w w'):w.heap.size<=w'.heap.size:=h.1.size
theorem aB.refl(g:Nat)(w:World):aB g w w:=⟨Below.refl _ _,fun _ _ _=>rfl⟩
theorem aB.trans(h:aB g w w')(h2:aB g w' w''):aB g w w'':=
 ⟨h.1.trans h2.1,fun k hk hn=>(h2.2 k (Nat.lt_of_lt_of_le hk h.size) hn).trans (h.2 k hk hn)⟩
theorem aB.of(h:Below w.heap.size w w'):aB g w w':=⟨h.mono (Nat.zero_le _),fun k hk _=>h.block k hk⟩
theorem aB.drew(h:aB g w w'):aB g w w'.drew:=⟨h.1.drew,h.2⟩
theorem aB.drewN(h:aB g w w')(n:Nat):aB g w (w'.drewN n):=⟨ah h.1 n,h.2⟩
theorem aB.alloc(h:aB g w w')(o:Obj):aB g w (w'.alloc o):=h.trans (aB.of ((Below.refl _ _).alloc lz _))
theorem aB.set(h:aB g w w')(j:Nat)(v:Value):aB g w (w'.setCell ⟨g,j,none⟩ v):=
 ⟨h.1.setCell (Nat.zero_le _) _,fun k hk hn=>(Below.heap_setCell _ _ _ _ hn).trans (h.2 k hk hn)⟩
theorem aB.grown{row:Option Nat}(h:aB g w w')(hg:w'.grownBy w'' row)(hr:∀k,row=some k->w.heap.size<=k):aB g w w'':=
 ⟨h.1.grown hg (Nat.zero_le _) (fun _ _=>Nat.zero_le _),fun k hk hn=>(hg.block k (Nat.lt_of_lt_of_le hk h.size) (fun e=>by have:=hr k e.symm;omega)).trans (h.2 k hk hn)⟩
theorem aB.cells{k:Nat}{cs:Array Value}{t:TypeId}(h:aB g w w')(hc:ae w k cs t)(hk:k≠g):ae w' k cs t:=(h.2 k hc.lt hk).trans hc
theorem aB.cell{k off:Nat}{v:Value}(h:aB g w w')(hc:w.cell? ⟨k,off,none⟩=some v)(hk:k≠g):w'.cell? ⟨k,off,none⟩=some v:=
 (iB (h.2 k (World.block_lt_of_cell? w _ hc) hk) off).trans hc
theorem aB.under{B:Nat}(h:aB g w w')(h1:B<=g)(h2:B<=w.heap.size):Below B w w':=⟨h.1.os,h.1.tape,h.1.output,h.size,fun k hk=>h.2 k (by omega) (by omega)⟩
theorem aB.chain{w0:World}(h:aB g w w')(hb:Below w0.heap.size w0 w)(h1:w0.heap.size<=g):Below w0.heap.size w0 w':=hb.trans (h.under h1 hb.size)
end
end Go.Proofs.YtbcdaaobbebooaaGreatDoor
namespace Go.Proofs
open Go.Shelf
def Tryz.lays161_ren:Go.Shelf.Ren:=⟨fun|161=>179|231=>204|227=>186|233=>205|235=>206|228=>198|197=>225|151=>211|260=>235|152=>196|137=>87|119=>224|224=>214|225=>213|217=>121|266=>151|n=>n,fun|9=>9|4=>4|3=>3|5=>5|117=>211|116=>210|0=>0|124=>214|105=>228|21=>21|119=>236|46=>167|139=>239|138=>238|n=>n,fun|3=>4|4=>5|n=>n⟩
theorem Tryz.lays161:Go.Proofs.Lays.n161 Tryz.prog Tryz.lays161_ren:={
 mixed:=by kernel_rfl
 f119:=Tryz.func224.trans (congrArg some (by kernel_rfl))
 f137:=Tryz.func87.trans (congrArg some (by kernel_rfl))
 f151:=Tryz.func211.trans (congrArg some (by kernel_rfl))
 f152:=Tryz.func196.trans (congrArg some (by kernel_rfl))
 f161:=Tryz.func179.trans (congrArg some (by kernel_rfl))
 f197:=Tryz.func225.trans (congrArg some (by kernel_rfl))
 f217:=Tryz.func121.trans (congrArg some (by kernel_rfl))
 f224:=Tryz.func214.trans (congrArg some (by kernel_rfl))
 f225:=Tryz.func213.trans (congrArg some (by kernel_rfl))
 f227:=Tryz.func186.trans (congrArg some (by kernel_rfl))
 f228:=Tryz.func198.trans (congrArg some (by kernel_rfl))
 f231:=Tryz.func204.trans (congrArg some (by kernel_rfl))
 f233:=Tryz.func205.trans (congrArg some (by kernel_rfl))
 f235:=Tryz.func206.trans (congrArg some (by kernel_rfl))
 f260:=Tryz.func235.trans (congrArg some (by kernel_rfl))
 f266:=Tryz.func151.trans (congrArg some (by kernel_rfl))
 t0:=Tryz.underlying0
 a0:=Tryz.isAgg0
 z0:=Tryz.sizeOf0
 v0:=Tryz.zeroValue0
 t3:=Tryz.underlying3
 a3:=Tryz.isAgg3
 z3:=Tryz.sizeOf3
 v3:=Tryz.zeroValue3
 t4:=Tryz.underlying4
 a4:=Tryz.isAgg4
 z4:=Tryz.sizeOf4
 v4:=Tryz.zeroValue4
 t5:=Tryz.underlying5
 a5:=Tryz.isAgg5
 z5:=Tryz.sizeOf5
 v5:=Tryz.zeroValue5
 t9:=Tryz.underlying9
 a9:=Tryz.isAgg9
 z9:=Tryz.sizeOf9
 v9:=Tryz.zeroValue9
 t21:=Tryz.underlying21
 a21:=Tryz.isAgg21
 z21:=Tryz.sizeOf21
 v21:=Tryz.zeroValue21
 t46:=Tryz.underlying167
 a46:=Tryz.isAgg167
 z46:=Tryz.sizeOf167
 v46:=Tryz.zeroValue167
 t105:=Tryz.underlying228
 a105:=Tryz.isAgg228
 z105:=Tryz.sizeOf228
 v105:=Tryz.zeroValue228
 t116:=Tryz.underlying210
 a116:=Tryz.isAgg210
 z116:=Tryz.sizeOf210
 t117:=Tryz.underlying211
 a117:=Tryz.isAgg211
 z117:=Tryz.sizeOf211
 v117:=Tryz.zeroValue211
 t119:=Tryz.underlying236
 a119:=Tryz.isAgg236
 z119:=Tryz.sizeOf236
 t124:=Tryz.underlying214
 a124:=Tryz.isAgg214
 z124:=Tryz.sizeOf214
 v124:=Tryz.zeroValue214
 t138:=Tryz.underlying238
 a138:=Tryz.isAgg238
 z138:=Tryz.sizeOf238
 v138:=Tryz.zeroValue238
 t139:=Tryz.underlying239
 a139:=Tryz.isAgg239
 z139:=Tryz.sizeOf239
 v139:=Tryz.zeroValue239
 g3:=by kernel_rfl
 g4:=by kernel_rfl }
open Go.RowKit in
theorem Tryz.strings_TrimLeft_one(s:ByteArray)(c:UInt8)(hc:c.toNat<128)(w:World) :
  Calls Tryz.prog 179 #[.string s,.string ⟨#[c]⟩] w fun e w'=>e=.returned (.string ⟨(Lib.trimLeftB s.data.toList c).toArray⟩)/\w'=w:=Any.strings_TrimLeft_one Tryz.lays161 s c hc w
def Tryz.lays162_ren:Go.Shelf.Ren:=⟨fun|162=>159|232=>185|227=>186|234=>187|236=>188|228=>198|271=>210|151=>211|120=>228|197=>225|152=>196|260=>235|137=>87|119=>224|224=>214|225=>213|217=>121|266=>151|n=>n,fun|9=>9|4=>4|3=>3|5=>5|117=>211|116=>210|0=>0|124=>214|21=>21|105=>228|46=>167|119=>236|139=>239|138=>238|n=>n,fun|3=>4|4=>5|n=>n⟩
theorem Tryz.lays162:Go.Proofs.Lays.n162 Tryz.prog Tryz.lays162_ren:={
 mixed:=by kernel_rfl
 f119:=Tryz.func224.trans (congrArg some (by kernel_rfl))
 f120:=Tryz.func228.trans (congrArg some (by kernel_rfl))
 f137:=Tryz.func87.trans (congrArg some (by kernel_rfl))
 f151:=Tryz.func211.trans (congrArg some (by kernel_rfl))
 f152:=Tryz.func196.trans (congrArg some (by kernel_rfl))
 f162:=Tryz.func159.trans (congrArg some (by kernel_rfl))
 f197:=Tryz.func225.trans (congrArg some (by kernel_rfl))
 f217:=Tryz.func121.trans (congrArg some (by kernel_rfl))
 f224:=Tryz.func214.trans (congrArg some (by kernel_rfl))
 f225:=Tryz.func213.trans (congrArg some (by kernel_rfl))
 f227:=Tryz.func186.trans (congrArg some (by kernel_rfl))
 f228:=Tryz.func198.trans (congrArg some (by kernel_rfl))
 f232:=Tryz.func185.trans (congrArg some (by kernel_rfl))
 f234:=Tryz.func187.trans (congrArg some (by kernel_rfl))
 f236:=Tryz.func188.trans (congrArg some (by kernel_rfl))
 f260:=Tryz.func235.trans (congrArg some (by kernel_rfl))
 f266:=Tryz.func151.trans (congrArg some (by kernel_rfl))
 f271:=Tryz.func210.trans (congrArg some (by kernel_rfl))
 t0:=Tryz.underlying0
 a0:=Tryz.isAgg0
 z0:=Tryz.sizeOf0
 v0:=Tryz.zeroValue0
 t3:=Tryz.underlying3
 a3:=Tryz.isAgg3
 z3:=Tryz.sizeOf3
 v3:=Tryz.zeroValue3
 t4:=Tryz.underlying4
 a4:=Tryz.isAgg4
 z4:=Tryz.sizeOf4
 v4:=Tryz.zeroValue4
 t5:=Tryz.underlying5
 a5:=Tryz.isAgg5
 z5:=Tryz.sizeOf5
 v5:=Tryz.zeroValue5
 t9:=Tryz.underlying9
 a9:=Tryz.isAgg9
 z9:=Tryz.sizeOf9
 v9:=Tryz.zeroValue9
 t21:=Tryz.underlying21
 a21:=Tryz.isAgg21
 z21:=Tryz.sizeOf21
 v21:=Tryz.zeroValue21
 t46:=Tryz.underlying167
 a46:=Tryz.isAgg167
 z46:=Tryz.sizeOf167
 v46:=Tryz.zeroValue167
 t105:=Tryz.underlying228
 a105:=Tryz.isAgg228
 z105:=Tryz.sizeOf228
 v105:=Tryz.zeroValue228
 t116:=Tryz.underlying210
 a116:=Tryz.isAgg210
 z116:=Tryz.sizeOf210
 t117:=Tryz.underlying211
 a117:=Tryz.isAgg211
 z117:=Tryz.sizeOf211
 v117:=Tryz.zeroValue211
 t119:=Tryz.underlying236
 a119:=Tryz.isAgg236
 z119:=Tryz.sizeOf236
 t124:=Tryz.underlying214
 a124:=Tryz.isAgg214
 z124:=Tryz.sizeOf214
 v124:=Tryz.zeroValue214
 t138:=Tryz.underlying238
 a138:=Tryz.isAgg238
 z138:=Tryz.sizeOf238
 v138:=Tryz.zeroValue238
 t139:=Tryz.underlying239
 a139:=Tryz.isAgg239
 z139:=Tryz.sizeOf239
 v139:=Tryz.zeroValue239
 g3:=by kernel_rfl
 g4:=by kernel_rfl }
open Go.RowKit in
theorem Tryz.strings_TrimRight_one(s:ByteArray)(c:UInt8)(hc:c.toNat<128)(w:World)(hs:s.size<=9223372036854775807) :
  Calls Tryz.prog 159 #[.string s,.string ⟨#[c]⟩] w fun e w'=>e=.returned (.string ⟨(Lib.trimRightB s.data.toList c).toArray⟩)/\w'=w:=Any.strings_TrimRight_one Tryz.lays162 s c hc w hs
def Tryz.lays137_ren:Go.Shelf.Ren:=⟨fun|137=>87|217=>121|266=>151|n=>n,fun|9=>9|5=>5|3=>3|n=>n,fun|n=>n⟩
theorem Tryz.lays137:Go.Proofs.Lays.n137 Tryz.prog Tryz.lays137_ren:={
 mixed:=by kernel_rfl
 f137:=Tryz.func87.trans (congrArg some (by kernel_rfl))
 f217:=Tryz.func121.trans (congrArg some (by kernel_rfl))
 f266:=Tryz.func151.trans (congrArg some (by kernel_rfl))
 t3:=Tryz.underlying3
 a3:=Tryz.isAgg3
 z3:=Tryz.sizeOf3
 v3:=Tryz.zeroValue3
 t5:=Tryz.underlying5
 a5:=Tryz.isAgg5
 z5:=Tryz.sizeOf5
 v5:=Tryz.zeroValue5
 t9:=Tryz.underlying9
 a9:=Tryz.isAgg9
 z9:=Tryz.sizeOf9
 v9:=Tryz.zeroValue9 }
open Go.RowKit in
theorem Tryz.strings_IndexByte(s:ByteArray)(c:Int)(w:World) :
  Calls Tryz.prog 87 #[.string s,.int .u8 c] w fun e w'=>e=.returned (.int .i64 (Lib.indexByte s.data.toList c.toNat.toUInt8))/\w'=w:=Any.strings_IndexByte Tryz.lays137 s c w
def Tryz.lays103_ren:Go.Shelf.Ren:=⟨fun|103=>177|210=>203|206=>158|n=>n,fun|9=>9|4=>4|24=>205|3=>3|n=>n,fun|n=>n⟩
theorem Tryz.lays103:Go.Proofs.Lays.n103 Tryz.prog Tryz.lays103_ren:={
 mixed:=by kernel_rfl
 f103:=Tryz.func177.trans (congrArg some (by kernel_rfl))
 f206:=Tryz.func158.trans (congrArg some (by kernel_rfl))
 f210:=Tryz.func203.trans (congrArg some (by kernel_rfl))
 t3:=Tryz.underlying3
 a3:=Tryz.isAgg3
 z3:=Tryz.sizeOf3
 v3:=Tryz.zeroValue3
 t4:=Tryz.underlying4
 a4:=Tryz.isAgg4
 z4:=Tryz.sizeOf4
 v4:=Tryz.zeroValue4
 t9:=Tryz.underlying9
 a9:=Tryz.isAgg9
 z9:=Tryz.sizeOf9
 v9:=Tryz.zeroValue9
 t24:=Tryz.underlying205
 a24:=Tryz.isAgg205
 z24:=Tryz.sizeOf205
 v24:=Tryz.zeroValue205 }
open Go.RowKit in
theorem Tryz.strings_CutPrefix(s p:ByteArray)(w:World) :
  Calls Tryz.prog 177 #[.string s,.string p] w fun e w'=>e=.returned (.tuple #[.string ⟨(Lib.trimPrefix s.data.toList p.data.toList).toArray⟩,.bool (Lib.hasPrefix s.data.toList p.data.toList)])/\w'=w:=Any.strings_CutPrefix Tryz.lays103 s p w
def Tryz.laysM316_ren:Go.Shelf.Ren:=⟨fun|316=>207|n=>n,fun|9=>9|3=>3|4=>4|37=>67|0=>0|127=>111|5=>5|n=>n,fun|n=>n⟩
theorem Tryz.laysM316:Go.Proofs.LaysM.n316 Tryz.prog Tryz.laysM316_ren:={
 mixed:=by kernel_rfl
 f316:=Tryz.func207.trans (congrArg some (by kernel_rfl))
 t0:=Tryz.underlying0
 a0:=Tryz.isAgg0
 z0:=Tryz.sizeOf0
 v0:=Tryz.zeroValue0
 t3:=Tryz.underlying3
 a3:=Tryz.isAgg3
 z3:=Tryz.sizeOf3
 v3:=Tryz.zeroValue3
 t4:=Tryz.underlying4
 a4:=Tryz.isAgg4
 z4:=Tryz.sizeOf4
 v4:=Tryz.zeroValue4
 t9:=Tryz.underlying9
 a9:=Tryz.isAgg9
 z9:=Tryz.sizeOf9
 v9:=Tryz.zeroValue9
 t37:=Tryz.underlying67
 a37:=Tryz.isAgg67
 z37:=Tryz.sizeOf67
 v37:=Tryz.zeroValue67
 t127:=Tryz.underlying111
 a127:=Tryz.isAgg111
 z127:=Tryz.sizeOf111
 v127:=Tryz.zeroValue111
 t5:=Tryz.underlying5
 a5:=Tryz.isAgg5
 z5:=Tryz.sizeOf5
 v5:=Tryz.zeroValue5
 i0:=by kernel_rfl
 i3:=by kernel_rfl
 i4:=by kernel_rfl
 i5:=by kernel_rfl
 i9:=by kernel_rfl
 i37:=by kernel_rfl
 i127:=by kernel_rfl }
open Go.RowKit in
theorem Tryz.stringslite_Clone(s:ByteArray)(w:World)(hlim:s.size<=281474976710656) :
  Calls Tryz.prog 207 #[.string s] w fun e w'=>e=.returned (.string s)/\Below w.heap.size w w':=Any.stringslite_Clone Tryz.laysM316 s w hlim
def Tryz.lays143_ren:Go.Shelf.Ren:=⟨fun|143=>161|219=>191|217=>121|225=>213|224=>214|267=>215|266=>151|314=>229|n=>n,fun|9=>9|3=>3|4=>4|5=>5|46=>167|146=>195|51=>194|n=>n,fun|1=>2|n=>n⟩
theorem Tryz.lays143:Go.Proofs.Lays.n143 Tryz.prog Tryz.lays143_ren:={
 mixed:=by kernel_rfl
 f143:=Tryz.func161.trans (congrArg some (by kernel_rfl))
 f217:=Tryz.func121.trans (congrArg some (by kernel_rfl))
 f219:=Tryz.func191.trans (congrArg some (by kernel_rfl))
 f224:=Tryz.func214.trans (congrArg some (by kernel_rfl))
 f225:=Tryz.func213.trans (congrArg some (by kernel_rfl))
 f266:=Tryz.func151.trans (congrArg some (by kernel_rfl))
 f267:=Tryz.func215.trans (congrArg some (by kernel_rfl))
 f314:=Tryz.func229.trans (congrArg some (by kernel_rfl))
 t3:=Tryz.underlying3
 a3:=Tryz.isAgg3
 z3:=Tryz.sizeOf3
 v3:=Tryz.zeroValue3
 t4:=Tryz.underlying4
 a4:=Tryz.isAgg4
 z4:=Tryz.sizeOf4
 v4:=Tryz.zeroValue4
 t5:=Tryz.underlying5
 a5:=Tryz.isAgg5
 z5:=Tryz.sizeOf5
 v5:=Tryz.zeroValue5
 t9:=Tryz.underlying9
 a9:=Tryz.isAgg9
 z9:=Tryz.sizeOf9
 v9:=Tryz.zeroValue9
 t46:=Tryz.underlying167
 a46:=Tryz.isAgg167
 z46:=Tryz.sizeOf167
 v46:=Tryz.zeroValue167
 t51:=Tryz.underlying194
 a51:=Tryz.isAgg194
 z51:=Tryz.sizeOf194
 v51:=Tryz.zeroValue194
 t146:=Tryz.underlying195
 a146:=Tryz.isAgg195
 z146:=Tryz.sizeOf195
 v146:=Tryz.zeroValue195
 g1:=by kernel_rfl }
open Go.RowKit Go.Lib in
theorem Tryz.strings_Index(s sub:ByteArray)(m:Int)(w:World)(hs:s.size<4294967281)(hm:w.cell? ⟨2,0,none⟩=some (.int .i64 m)) :
  Calls Tryz.prog 161 #[.string s,.string sub] w fun e w'=>e=.returned (.int .i64 (Lib.index s.data.toList sub.data.toList))/\w'=w:=Any.strings_Index Tryz.lays143 s sub m w hs hm
def Tryz.lays99_ren:Go.Shelf.Ren:=⟨fun|99=>127|206=>158|n=>n,fun|9=>9|4=>4|3=>3|n=>n,fun|n=>n⟩
theorem Tryz.lays99:Go.Proofs.Lays.n99 Tryz.prog Tryz.lays99_ren:={
 mixed:=by kernel_rfl
 f99:=Tryz.func127.trans (congrArg some (by kernel_rfl))
 f206:=Tryz.func158.trans (congrArg some (by kernel_rfl))
 t3:=Tryz.underlying3
 a3:=Tryz.isAgg3
 z3:=Tryz.sizeOf3
 v3:=Tryz.zeroValue3
 t4:=Tryz.underlying4
 a4:=Tryz.isAgg4
 z4:=Tryz.sizeOf4
 v4:=Tryz.zeroValue4
 t9:=Tryz.underlying9
 a9:=Tryz.isAgg9
 z9:=Tryz.sizeOf9
 v9:=Tryz.zeroValue9 }
open Go.RowKit Go.Lib in
theorem Tryz.strings_HasPrefix(s p:ByteArray)(w:World) :
  Calls Tryz.prog 127 #[.string s,.string p] w fun e w'=>e=.returned (.bool (Lib.hasPrefix s.data.toList p.data.toList))/\w'=w:=Any.strings_HasPrefix Tryz.lays99 s p w
def Tryz.lays153_ren:Go.Shelf.Ren:=⟨fun|153=>166|152=>196|226=>197|227=>186|228=>198|137=>87|119=>224|224=>214|225=>213|217=>121|266=>151|n=>n,fun|9=>9|3=>3|4=>4|5=>5|21=>21|117=>211|116=>210|0=>0|46=>167|124=>214|n=>n,fun|n=>n⟩
theorem Tryz.lays153:Go.Proofs.Lays.n153 Tryz.prog Tryz.lays153_ren:={
 mixed:=by kernel_rfl
 f119:=Tryz.func224.trans (congrArg some (by kernel_rfl))
 f137:=Tryz.func87.trans (congrArg some (by kernel_rfl))
 f152:=Tryz.func196.trans (congrArg some (by kernel_rfl))
 f153:=Tryz.func166.trans (congrArg some (by kernel_rfl))
 f217:=Tryz.func121.trans (congrArg some (by kernel_rfl))
 f224:=Tryz.func214.trans (congrArg some (by kernel_rfl))
 f225:=Tryz.func213.trans (congrArg some (by kernel_rfl))
 f226:=Tryz.func197.trans (congrArg some (by kernel_rfl))
 f227:=Tryz.func186.trans (congrArg some (by kernel_rfl))
 f228:=Tryz.func198.trans (congrArg some (by kernel_rfl))
 f266:=Tryz.func151.trans (congrArg some (by kernel_rfl))
 t0:=Tryz.underlying0
 a0:=Tryz.isAgg0
 z0:=Tryz.sizeOf0
 v0:=Tryz.zeroValue0
 t3:=Tryz.underlying3
 a3:=Tryz.isAgg3
 z3:=Tryz.sizeOf3
 v3:=Tryz.zeroValue3
 t4:=Tryz.underlying4
 a4:=Tryz.isAgg4
 z4:=Tryz.sizeOf4
 v4:=Tryz.zeroValue4
 t5:=Tryz.underlying5
 a5:=Tryz.isAgg5
 z5:=Tryz.sizeOf5
 v5:=Tryz.zeroValue5
 t9:=Tryz.underlying9
 a9:=Tryz.isAgg9
 z9:=Tryz.sizeOf9
 v9:=Tryz.zeroValue9
 t21:=Tryz.underlying21
 a21:=Tryz.isAgg21
 z21:=Tryz.sizeOf21
 v21:=Tryz.zeroValue21
 t46:=Tryz.underlying167
 a46:=Tryz.isAgg167
 z46:=Tryz.sizeOf167
 v46:=Tryz.zeroValue167
 t116:=Tryz.underlying210
 a116:=Tryz.isAgg210
 z116:=Tryz.sizeOf210
 t117:=Tryz.underlying211
 a117:=Tryz.isAgg211
 z117:=Tryz.sizeOf211
 v117:=Tryz.zeroValue211
 t124:=Tryz.underlying214
 a124:=Tryz.isAgg214
 z124:=Tryz.sizeOf214
 v124:=Tryz.zeroValue214 }
open Go.RowKit Go.Lib in
theorem Tryz.strings_IndexAny_laid(s chars:ByteArray)(w:World)(hs:s.size<4294967281)(hcs:chars.size<4294967281)(has:∀(j:Nat) b,s.data.toList[j]?=some b->b.toNat<128)(hac:∀(j:Nat) b,chars.data.toList[j]?=some b->b.toNat<128) :
  Calls Tryz.prog 166 #[.string s,.string chars] w fun e w'=>e=.returned (.int .i64 (Lib.indexAny s.data.toList chars.data.toList))/\Below w.heap.size w w':=Any.strings_IndexAny_laid Tryz.lays153 (by kernel_rfl) s chars w hs hcs has hac
def Tryz.lays105_ren:Go.Shelf.Ren:=⟨fun|105=>111|212=>144|99=>127|165=>145|166=>113|170=>146|169=>43|263=>170|264=>171|206=>158|240=>147|241=>172|276=>173|277=>201|n=>n,fun|9=>9|3=>3|4=>4|20=>20|0=>0|46=>167|109=>168|5=>5|72=>69|76=>150|51=>194|146=>195|53=>197|148=>198|70=>66|37=>67|75=>149|127=>111|164=>200|80=>75|n=>n,fun|n=>n⟩
theorem Tryz.lays105:Go.Proofs.Lays.n105 Tryz.prog Tryz.lays105_ren:={
 mixed:=by kernel_rfl
 f99:=Tryz.func127.trans (congrArg some (by kernel_rfl))
 f105:=Tryz.func111.trans (congrArg some (by kernel_rfl))
 f165:=Tryz.func145.trans (congrArg some (by kernel_rfl))
 f166:=Tryz.func113.trans (congrArg some (by kernel_rfl))
 f169:=Tryz.func43.trans (congrArg some (by kernel_rfl))
 f170:=Tryz.func146.trans (congrArg some (by kernel_rfl))
 f206:=Tryz.func158.trans (congrArg some (by kernel_rfl))
 f212:=Tryz.func144.trans (congrArg some (by kernel_rfl))
 f240:=Tryz.func147.trans (congrArg some (by kernel_rfl))
 f241:=Tryz.func172.trans (congrArg some (by kernel_rfl))
 f263:=Tryz.func170.trans (congrArg some (by kernel_rfl))
 f264:=Tryz.func171.trans (congrArg some (by kernel_rfl))
 f276:=Tryz.func173.trans (congrArg some (by kernel_rfl))
 f277:=Tryz.func201.trans (congrArg some (by kernel_rfl))
 t0:=Tryz.underlying0
 a0:=Tryz.isAgg0
 z0:=Tryz.sizeOf0
 v0:=Tryz.zeroValue0
 t3:=Tryz.underlying3
 a3:=Tryz.isAgg3
 z3:=Tryz.sizeOf3
 v3:=Tryz.zeroValue3
 t4:=Tryz.underlying4
 a4:=Tryz.isAgg4
 z4:=Tryz.sizeOf4
 v4:=Tryz.zeroValue4
 t5:=Tryz.underlying5
 a5:=Tryz.isAgg5
 z5:=Tryz.sizeOf5
 v5:=Tryz.zeroValue5
 t9:=Tryz.underlying9
 a9:=Tryz.isAgg9
 z9:=Tryz.sizeOf9
 v9:=Tryz.zeroValue9
 t20:=Tryz.underlying20
 a20:=Tryz.isAgg20
 z20:=Tryz.sizeOf20
 v20:=Tryz.zeroValue20
 t37:=Tryz.underlying67
 a37:=Tryz.isAgg67
 z37:=Tryz.sizeOf67
 v37:=Tryz.zeroValue67
 t46:=Tryz.underlying167
 a46:=Tryz.isAgg167
 z46:=Tryz.sizeOf167
 v46:=Tryz.zeroValue167
 t51:=Tryz.underlying194
 a51:=Tryz.isAgg194
 z51:=Tryz.sizeOf194
 v51:=Tryz.zeroValue194
 t53:=Tryz.underlying197
 a53:=Tryz.isAgg197
 z53:=Tryz.sizeOf197
 v53:=Tryz.zeroValue197
 t70:=Tryz.underlying66
 a70:=Tryz.isAgg66
 z70:=Tryz.sizeOf66
 v70:=Tryz.zeroValue66
 t72:=Tryz.underlying69
 a72:=Tryz.isAgg69
 z72:=Tryz.sizeOf69
 v72:=Tryz.zeroValue69
 t75:=Tryz.underlying149
 a75:=Tryz.isAgg149
 z75:=Tryz.sizeOf149
 v75:=Tryz.zeroValue149
 t76:=Tryz.underlying150
 a76:=Tryz.isAgg150
 z76:=Tryz.sizeOf150
 v76:=Tryz.zeroValue150
 t109:=Tryz.underlying168
 a109:=Tryz.isAgg168
 z109:=Tryz.sizeOf168
 v109:=Tryz.zeroValue168
 t127:=Tryz.underlying111
 a127:=Tryz.isAgg111
 z127:=Tryz.sizeOf111
 v127:=Tryz.zeroValue111
 t146:=Tryz.underlying195
 a146:=Tryz.isAgg195
 z146:=Tryz.sizeOf195
 v146:=Tryz.zeroValue195
 t148:=Tryz.underlying198
 a148:=Tryz.isAgg198
 z148:=Tryz.sizeOf198
 v148:=Tryz.zeroValue198
 t164:=Tryz.underlying200
 a164:=Tryz.isAgg200
 z164:=Tryz.sizeOf200
 v164:=Tryz.zeroValue200 }
theorem Tryz.Builder_Extra_105:Builder.Extra Tryz.prog Tryz.lays105_ren:={
 sizeBuilder:=by kernel_rfl
 liesBuilder:=by kernel_rfl
 t5:=Tryz.underlying5
 a5:=Tryz.isAgg5
 z5:=Tryz.sizeOf5
 v5:=Tryz.zeroValue5
 infoByte:=by kernel_rfl
 cellsByte:=by kernel_rfl
 sizeByte:=by kernel_rfl
 neB5:=by decide }
open Go.RowKit Go.Lib in
theorem Tryz.strings_Repeat(s:ByteArray)(c:Nat)(w:World)(hc:c<=9223372036854775807)(hlen:s.size*c<=140737488355328) :
  Calls Tryz.prog 111 #[.string s,.int .i64 c] w fun e w'=>e=.returned (.string ⟨(Lib.repeatL s.data.toList c).toArray⟩)/\Below w.heap.size w w':=Any.strings_Repeat Tryz.lays105 Tryz.Builder_Extra_105 s c w hc hlen
end Go.Proofs
namespace Go.Proofs.YtbcdaaobbebooaaGreatDoor
open Go.RowKit Go.Tab
theorem xP(c:UInt8)(w:World):Calls Tryz.prog 122 #[.int .u8 c.toNat] w fun e w'=>e=.returned (.bool (jO c))/\w=w':=by
 have hL:jO c=(decide (65<=c.toNat/\c.toNat<=90) || (decide (97<=c.toNat/\c.toNat<=122) || decide (c.toNat=95))):=rfl;generalize jO c=b at hL;generalize c.toNat=n at hL
 have hr:((n<65\/(65<=n/\90<n/\n<95)\/(65<=n/\90<n/\n=96)\/(65<=n/\90<n/\97<=n/\122<n))/\b=false)\/(((65<=n/\n<=90)\/(65<=n/\90<n/\97<=n/\n<=122)\/(65<=n/\90<n/\n<97/\n=95))/\b=true):=by
  cases b with
  |false=>
   have h:=hL.symm;simp only[Bool.or_eq_false_iff,decide_eq_false_iff_not] at h
   left
   exact⟨by omega,rfl⟩
  |true=>
   have h:=hL.symm;simp only[Bool.or_eq_true,decide_eq_true_eq] at h
   right
   exact⟨by omega,rfl⟩
 clear hL;rcases hr with ⟨(h|⟨h1,h2,h3⟩|⟨h1,h2,rfl⟩|⟨h1,h2,h3,h4⟩),rfl⟩|⟨(⟨h1,h2⟩|⟨h1,h2,h3,h4⟩|⟨h1,h2,h3,rfl⟩),rfl⟩
 all_goals
  go_enter Tryz.func122,Tryz.ntmps122;go_wp2;go_ret;first
  |exact⟨rfl,rfl⟩
  |exact⟨iQ (by simp only[ne_eq,Bool.or_eq_false_iff,Bool.or_eq_true,decide_eq_false_iff_not,decide_eq_true_eq,beq_eq_false_iff_ne,beq_iff_eq];omega),rfl⟩
theorem Ah(c:UInt8)(w:World):Calls Tryz.prog 124 #[.int .u8 c.toNat] w fun e w'=>e=.returned (.bool (dg c))/\w=w':=by
 have hL:dg c=decide (48<=c.toNat/\c.toNat<=57):=rfl;generalize dg c=b at hL;generalize c.toNat=n at hL
 have hr:((n<48\/(48<=n/\57<n))/\b=false)\/((48<=n/\n<=57)/\b=true):=by
  cases b with
  |false=>
   have h:=hL.symm;simp only[decide_eq_false_iff_not] at h
   left
   exact⟨by omega,rfl⟩
  |true=>
   have h:=hL.symm;simp only[decide_eq_true_eq] at h
   right
   exact⟨by omega,rfl⟩
 clear hL;rcases hr with ⟨(h|⟨h1,h2⟩),rfl⟩|⟨⟨h1,h2⟩,rfl⟩
 all_goals
  go_enter Tryz.func124,Tryz.ntmps124;go_wp2;go_ret;first
  |exact⟨rfl,rfl⟩
  |exact⟨iQ (by simp only[ne_eq,Bool.or_eq_false_iff,Bool.or_eq_true,decide_eq_false_iff_not,decide_eq_true_eq,beq_eq_false_iff_ne,beq_iff_eq];omega),rfl⟩
theorem DC(l:Bs)(k:Nat)(h:k<l.length):uf (l.drop k)=if M9 l[k] then uf (l.drop (k+1))+1 else 0:=by
 rw[List.drop_eq_getElem_cons h,uf]
theorem Je(s:ByteArray)(w:World)(hs:s.size<=maxLen)(h0:0<s.size) :
  Calls Tryz.prog 123 #[.string s] w fun e w'=>e=.returned (.int .i64 ((1+uf (s.data.toList.drop 1):Nat):Int))/\w=w':=by
 unfold maxLen at hs;generalize hq:uf (s.data.toList.drop 1)=q;have HQ:=Hh hq;clear hq;go_enter Tryz.func123,Tryz.ntmps123;go_wp2_with fail;go_loop [3] (fun n=>∃k:Nat,n=.int .i64 (k:Int)/\1<=k/\k<=s.size/\k+uf (s.data.toList.drop k)=1+q) (fun n=>s.size-(intOf n).toNat)
 case atStart=>exact⟨1,rfl,Nat.le_refl _,h0,by rw[HQ.out]⟩
 case round=>
  obtain⟨k,rfl,Ae,hk,hI⟩:=hrel
  by_cases hlt:k<s.size
  ·have Ad:=DC s.data.toList k (by rw[<-au];exact hlt)
   rw[Ad] at hI;have Ab:=xP (s[k]'hlt);have Aa:=Ah (s[k]'hlt);have Ac:M9 (s[k]'hlt)=(jO (s[k]'hlt) || dg (s[k]'hlt)):=rfl;rw[<-iU hlt,Ac] at hI;clear Ad Ac
   cases hb:jO (s[k]'hlt) with
   |true=>
    rw[hb] at hI Ab;simp only[Bool.true_or,if_true] at hI;have HI:=Hh hI;clear hI hb Aa;go_wp2_with fail;refine (Ab _).mono ?_;rintro _ _ ⟨rfl,rfl⟩;go_wp2;go_round
    case rel=>exact⟨k+1,by go_num,by omega,by omega,by have:=HI.out;omega⟩
    case measure=>simp[intOf];omega
   |false=>
    rw[hb] at hI Ab
    cases hd:dg (s[k]'hlt) with
    |true=>
     rw[hd] at hI Aa;simp only[Bool.or_true,if_true] at hI;have HI:=Hh hI;clear hI hb hd;go_wp2_with fail;refine (Ab _).mono ?_;rintro _ _ ⟨rfl,rfl⟩;go_wp2_with fail;refine (Aa _).mono ?_;rintro _ _ ⟨rfl,rfl⟩;go_wp2;go_round
     case rel=>exact⟨k+1,by go_num,by omega,by omega,by have:=HI.out;omega⟩
     case measure=>simp[intOf];omega
    |false=>
     rw[hd] at hI Aa;simp only[Bool.or_false,Bool.false_eq_true,if_false] at hI;have HI:=Hh hI;clear hI hb hd;go_wp2_with fail;refine (Ab _).mono ?_;rintro _ _ ⟨rfl,rfl⟩;go_wp2_with fail;refine (Aa _).mono ?_;rintro _ _ ⟨rfl,rfl⟩;go_wp2;go_ret;exact⟨dW (by have:=HI.out;omega),rfl⟩
  ·obtain rfl:k=s.size:=by omega
   have he:uf (s.data.toList.drop s.size)=0:=by rw[au,List.drop_length];rfl
   rw[he] at hI;have HI:=Hh hI;clear hI he;go_wp2;go_ret;exact⟨dW (by have:=HI.out;omega),rfl⟩
end Go.Proofs.YtbcdaaobbebooaaGreatDoor
