import Derived.Test.YtbcdaaobbebooaaGreatDoorKgd
set_option linter.unusedSimpArgs false
set_option linter.unusedVariables false
set_option maxRecDepth 100000
set_option maxHeartbeats 20000000
namespace Go.Proofs.YtbcdaaobbebooaaGreatDoor
def jU(m:Nat)(r:List ag)(g:eX):Prop:=g.2.2≠-1->g.2.1<=r.length/\(g.2.2=0->m<=g.2.1)
theorem jU.and{m m2:Nat}{r:List ag}{g:eX}{f:dR->Nat->eX}(h:jU m r g)(hf:g.2.2=0->m<=g.2.1->g.2.1<=r.length->jU m2 r (f g.1 g.2.1)):jU m2 r (il g f):=by
 by_cases he:g.2.2=0
 ·rw[bP he]
  have h1:=h (by rw[he];decide);exact hf he (h1.2 he) h1.1
 ·rw[aZ he];exact fun hn=>⟨(h hn).1,fun e=>absurd e he⟩
theorem jU.up{m n:Nat}{r:List ag}{g:eX}(h:jU m (r.drop n) g)(hn:n<=r.length):jU (n+m) r (dO n g):=by
 intro h0;obtain⟨h2,h3⟩:=h h0;rw[List.length_drop] at h2;exact⟨by simp only[dO];omega,fun e=>by have:=h3 e;simp only[dO];omega⟩
theorem jU.less{m m2:Nat}{r:List ag}{g:eX}(h:jU m r g)(hm:m2<=m):jU m2 r g:=fun h0=>⟨(h h0).1,fun e=>Nat.le_trans hm ((h h0).2 e)⟩
theorem jU.ok{m n:Nat}{r:List ag}{x:dR}(h1:n<=r.length)(h2:m<=n):jU m r (x,n,0):=fun _=>⟨h1,fun _=>h2⟩
theorem jU.bad{m:Nat}{r q:List ag}{n:Nat}(hn:n<=r.length):jU m r (cZ q n):=by
 unfold cZ;split
 ·exact fun _=>⟨hn,fun e=>by cases e⟩
 ·exact fun _=>⟨hn,fun e=>by cases e⟩
theorem jU.deep{m:Nat}{r:List ag}{n:Nat}(hn:n<=r.length):jU m r (lX n):=fun _=>⟨hn,fun e=>by cases e⟩
theorem eT:∀(n:Nat) (t:Nt) (r:List ag) (d:Nat),t.okX r->jU t.least r (ai n t r d):=by
 intro n
 induction n with
 |zero=>
  intro t r d _ h;exact absurd rfl h
 |succ n ih=>
  intro t r d ht;have IH:∀(t:Nt) (r:List ag) (d:Nat),t.okX r->jU t.least r (ai n t r d):=fun t r d h=>ih t r d h;clear ih
  cases t with
  |choice=>
   rw[ai];refine (IH (.term 1) r d (by simp only[Nt.okX];omega)).and fun _ h1 h2=>?_;simp only[Nt.least] at h1 ⊢;split
   ·exact (.ok (h2) (h1))
   ·next hq=>
    have hq:=dY (gG hq);split
    ·exact .deep h2
    ·refine ((IH .choice (r.drop _) (d+1) (by simp only[Nt.okX];try omega)).up hq).and fun _ h3 h4=>?_
     simp only[Nt.least] at h3;split
     ·exact .bad h4
     ·next hc=>
      have hc:=dY (gG hc);refine ((IH .choice (r.drop _) (d+1) (by simp only[Nt.okX];try omega)).up hc).and fun _ h5 h6=>?_;exact (.ok (h6) (by simp only[Nt.least] at *;omega))
  |term lv=>
   simp only[Nt.okX] at ht;rw[ai];split
   ·exact IH .tight r d (by simp only[Nt.okX];try omega)
   ·refine (IH (.term (lv+1)) r d (by simp only[Nt.okX];omega)).and fun _ h1 h2=>?_
    simp only[Nt.least] at h1;exact ((IH (.tloop lv _) (r.drop _) d (by simp only[Nt.okX];try omega)).up h2).less (by simp only[Nt.least];omega)
  |tloop lv a=>
   rw[ai];split
   ·exact (.ok (Nat.zero_le _) (Nat.zero_le _))
   ·next o ho=>
    have hl:=xV ho;refine ((IH (.term (lv+1)) (r.drop 1) d (by simp only[Nt.okX] at ht ⊢;omega)).up hl).and fun _ h1 h2=>?_;simp only[Nt.least] at h1;exact ((IH (.tloop lv _) (r.drop _) d ht).up h2).less (Nat.zero_le _)
  |tight=>
   rw[ai];split
   ·exact IH .post r d (by simp only[Nt.okX];try omega)
   ·next hs=>
    have hl:1<=r.length:=by
     by_cases h1:bK r dz=false
     ·exact gG (w:=jB) (fun h2=>hs ⟨h1,h2⟩)
     ·exact gG h1
    split
    ·exact .deep (Nat.zero_le _)
    ·refine ((IH .tight (r.drop 1) (d+1) (by simp only[Nt.okX];try omega)).up hl).and fun _ h1 h2=>?_
     exact (.ok (h2) (by simp only[Nt.least] at *;omega))
  |post=>
   rw[ai];refine (IH .prime r d (by simp only[Nt.okX];try omega)).and fun _ h1 h2=>?_;simp only[Nt.least] at h1;exact ((IH (.ploop _) (r.drop _) d (by simp only[Nt.okX];try omega)).up h2).less (by simp only[Nt.least];omega)
  |ploop a=>
   rw[ai];split
   ·next hs=>
    have hl:=bI hs;split
    ·exact .bad hl
    ·next t q hq=>
     have Aa:2<=r.length:=by have:=congrArg List.length hq;simp at this;omega
     split
     ·exact ((IH (.ploop _) (r.drop 2) d (by simp only[Nt.okX];try omega)).up Aa).less (Nat.zero_le _)
     ·exact .bad hl
   ·split
    ·next hs=>
     have hl:=bI hs;split
     ·exact .deep (Nat.zero_le _)
     ·refine ((IH .choice (r.drop 1) (d+1) (by simp only[Nt.okX];try omega)).up hl).and fun _ h1 h2=>?_
      simp only[Nt.least] at h1;split
      ·exact .bad h2
      ·next hb=>
       have hb:=dY (gG hb);exact ((IH (.ploop _) (r.drop _) d (by simp only[Nt.okX];try omega)).up hb).less (Nat.zero_le _)
    ·exact (.ok (Nat.zero_le _) (Nat.zero_le _))
  |prime=>
   cases r with
   |nil=>exact .bad (Nat.zero_le _)
   |cons t r'=>
    simp only[ai];split
    ·split
     ·next hs=>
      have:=((IH (.many p9) ((t::r').drop 1) d (bI hs)).up (n:=1) (by simp));refine this.and fun _ h1 h2=>?_;exact (.ok (h2) (by simp only[Nt.least] at *;omega))
     ·exact (.ok (by simp) lz)
    ·split
     ·exact (.ok (by simp) lz)
     ·split
      ·split
       ·exact fun _=>⟨Nat.zero_le _,fun e=>by cases e⟩
       ·exact (.ok (by simp) lz)
      ·split
       ·refine (IH (.many o9) (t::r') d (by simp[Nt.okX])).and fun _ h1 h2=>?_
        exact (.ok (h2) (h1))
       ·split
        ·split
         ·exact .deep (Nat.zero_le _)
         ·refine ((IH .choice ((t::r').drop 1) (d+1) (by simp only[Nt.okX];try omega)).up (n:=1) (by simp)).and fun _ h1 h2=>?_
          simp only[Nt.least] at h1;split
          ·exact .bad h2
          ·next hb=>exact (.ok (dY (gG hb)) (by simp only[Nt.least] at *;omega))
        ·exact .bad (Nat.zero_le _)
  |many s=>
   have hl:1<=r.length:=ht;rw[ai];split
   ·exact .deep (Nat.zero_le _)
   ·split
    ·next hs=>exact (.ok (dY (bI hs)) (by simp only[Nt.least] at *;omega))
    ·exact ((IH (.mloop s []) (r.drop 1) d (by simp only[Nt.okX];try omega)).up hl).less (by simp only[Nt.least];omega)
  |mloop s l=>
   rw[ai];refine (IH .choice r (d+1) (by simp only[Nt.okX];try omega)).and fun _ h1 h2=>?_;simp only[Nt.least] at h1;split
   ·next hs=>
    have hs:=dY (bI hs);exact ((IH (.mloop s _) (r.drop _) d (by simp only[Nt.okX];try omega)).up hs).less (by simp only[Nt.least];omega)
   ·split
    ·next hs=>exact (.ok (dY (bI hs)) (by simp only[Nt.least] at *;omega))
    ·exact .bad h2
end Go.Proofs.YtbcdaaobbebooaaGreatDoor
namespace Go.Proofs.YtbcdaaobbebooaaGreatDoor
def aM(t:ag)(all:List UInt8):Bool:=decide (t.kind=4)&&(match t.text.data.toList with|[c]=>all.contains c|_=>false)
def dB(t:ag):Bool:=decide (t.kind=6) || decide (t.kind=7)
def gX(t:ag):Bool:=decide (t.kind=1) || (decide (t.kind=2) || decide (t.kind=3))
def O6:List ag->Bool
 |[]=>false
 |t::r=>if dB t then O6 r else decide (t.kind=4)&&!aM t [41,93]
def yC(row:List ag)(i:Nat):Bool:=O6 (row.take i).reverse
def DF(a b:ag)(m:Bool):Nat:=
 if dB a || dB b then 1
 else if aM a [40,91,46] || aM b [41,93,44,46] then 0
 else if aM b [40]&&decide (a.kind=1) then 0
 else if aM b [91]&&(gX a || aM a [41,93]) then 0
 else if aM a [33] || (aM a [45]&&m) then 0
 else if aM a [123]&&aM b [125] then 0
 else 1
def qE(row:List ag):Nat->Nat
 |0=>0
 | i+1=>match row[i]?,row[i+1]? with
  |some a,some b=>DF a b (yC row i)
  |_,_=>0
def gH(t:ag)(w:ByteArray):Bool:=decide (t.kind=4)&&decide (t.text=w)
theorem uM(t:ag)(c:UInt8):aM t [c]=gH t (ay [c]):=by
 unfold aM gH
 congr 1
 by_cases h:t.text=ay [c]
 ·rw[decide_eq_true h,h]
  simp[ay]
 ·rw[decide_eq_false h]
  split
  ·next x hx=>
   simp only[List.contains_cons,List.contains_nil,Bool.or_false]
   by_cases e:x=c
   ·exact absurd (kg (by rw[hx,e];rfl)) h
   ·simpa using e
  ·rfl
theorem dI(t:ag)(c:UInt8)(r:List UInt8):aM t (c::r)=(gH t (ay [c]) || aM t r):=by
 rw[<-uM];unfold aM;cases decide (t.kind=4)
 ·rfl
 ·simp only[Bool.true_and]
  split
  ·simp
  ·rfl
theorem JB(t:ag):aM t []=false:=by
 unfold aM;split<;>simp
end Go.Proofs.YtbcdaaobbebooaaGreatDoor
namespace Go.Proofs.YtbcdaaobbebooaaGreatDoor
def R3(r:List ag)(g G1 G2:eX):Prop:=g.2.2=0->g.2.1<=r.length/\((G1=g/\G2=g)\/(G1=G2/\G1.2.2=5))
end Go.Proofs.YtbcdaaobbebooaaGreatDoor
namespace Go.Proofs.YtbcdaaobbebooaaGreatDoor
open Go.RowKit Go.Tab Go.ChangeShapes
mutual
def dR.bulk:dR->Nat
 |.mk o t kids=>1+o.size+t.size+Ak kids
def Ak:List dR->Nat
 |[]=>0
 |t::r=>t.bulk+Ak r
end
abbrev dQ(o t:ByteArray)(kv:Value):List Value:=[.string o,.string t,kv]
abbrev PU(o t:ByteArray)(kv:Value):Value:=.agg #[.string o,.string t,kv]
mutual
def eu(w:World):dR->List Value->Prop
 | .mk op text kids,cs=>∃a cap,cs=[.string op,.string text,.slice a kids.length cap]/\
   kids.length<=cap/\cap<=maxLen/\(a=none->cap=0)/\∀x,a=some x->kids≠[]->x.spot=none/\x.block<w.heap.size/\fG w x.block x.off kids
def fG(w:World)(b off:Nat):List dR->Prop
 |[]=>True
 |t::r=>(∃cs,(∀j u,cs[j]?=some u->w.cell? ⟨b,off+j,none⟩=some u)/\eu w t cs)/\fG w b (off+3) r
end
mutual
theorem eu.below{w w':World}(hb:Below w.heap.size w w'):∀(t:dR) (cs:List Value),eu w t cs->eu w' t cs
 | .mk op text kids,cs,h=>by
  simp only[eu] at h ⊢;obtain⟨a,cap,h1,h3,h4,h5,h6⟩:=h;refine⟨a,cap,h1,h3,h4,h5,fun x hx hne=>?_⟩;obtain⟨g1,g2,g3⟩:=h6 x hx hne;exact⟨g1,Nat.lt_of_lt_of_le g2 hb.size,fG.below hb g2 kids x.off g3⟩
theorem fG.below{w w':World}(hb:Below w.heap.size w w'){b:Nat}(hlt:b<w.heap.size):∀(l:List dR) (off:Nat),fG w b off l->fG w' b off l
 |[],_,_=>by simp only[fG]
 | t::r,off,h=>by
  simp only[fG] at h ⊢;obtain⟨⟨cs,h1,h2⟩,h3⟩:=h;exact⟨⟨cs,fun j u hu=>(hb.cell (p:=⟨b,off+j,none⟩) hlt).trans (h1 j u hu),eu.below hb t cs h2⟩,fG.below hb hlt r _ h3⟩
end
theorem eu.under{w:World}{t:dR}{cs:List Value}(h:eu w t cs)(x:jK w):eu x.w t cs:=eu.below x.below t cs h
theorem fG.get{w:World}{b:Nat}:∀{l:List dR} {off:Nat},fG w b off l->∀k (hk:k<l.length),∃cs,(∀j u,cs[j]?=some u->w.cell? ⟨b,off+k*3+j,none⟩=some u)/\eu w l[k] cs
 | t::r,off,h,0,_=>by
  simp only[fG] at h
  simpa using h.1
 | t::r,off,h,k+1,hk=>by
  simp only[fG] at h;obtain⟨cs,h1,h2⟩:=fG.get h.2 k (by simpa using hk);refine⟨cs,fun j u hu=>?_,by simpa using h2⟩;rw[<-h1 j u hu]
  congr 2
  omega
theorem eu.shape{w:World}{t:dR}{cs:List Value}(h:eu w t cs):∃op text sa sn sc,cs=[.string op,.string text,.slice sa sn sc]:=by
 cases t
 simp only[eu] at h;obtain⟨a,Aa,rfl,-⟩:=h;exact⟨_,_,_,_,_,rfl⟩
theorem Lh{w:World}{t:dR}{cs:List Value}{b o:Nat}(hv:eu w t cs)(hc:∀j u,cs[j]?=some u->w.cell? ⟨b,o+j,none⟩=some u) :
  ∃op text sa sn sc,cs=[.string op,.string text,.slice sa sn sc]/\w.cell? ⟨b,o,none⟩=some (.string op)/\w.cell? ⟨b,o+1,none⟩=some (.string text)/\w.cell? ⟨b,o+2,none⟩=some (.slice sa sn sc):=by
 obtain⟨op,text,sa,sn,sc,rfl⟩:=hv.shape;exact⟨op,text,sa,sn,sc,rfl,by simpa using hc 0 _ rfl,hc 1 _ rfl,hc 2 _ rfl⟩
theorem Aj:∀{l:List dR} {k:Nat} (hk:k<l.length),l[k].bulk<=Ak l
 |t::r,0,_=>by simp only[Ak,List.getElem_cons_zero];omega
 | t::r,k+1,hk=>by
  have:=Aj (l:=r) (k:=k) (by simpa using hk);simp only[Ak,List.getElem_cons_succ];omega
theorem Js(t:dR):1<=t.bulk:=by cases t;simp only[dR.bulk];omega
section
variable {H:Type} {enc:TypeId×Value->H} {W:World} {base:Nat} {spare:Nat->Bool} {held:Bool}
end
end Go.Proofs.YtbcdaaobbebooaaGreatDoor
namespace Go.Proofs.YtbcdaaobbebooaaGreatDoor
open Go.RowKit Go.Tab
mutual
def af(P:Nat->Prop)(w:World):dR->List Value->Prop
 | .mk op text kids,cs=>∃a cap,cs=[.string op,.string text,.slice a kids.length cap]/\
   kids.length<=cap/\cap<=maxLen/\(a=none->cap=0)/\∀x,a=some x->kids≠[]->x.spot=none/\(x.block<w.heap.size/\P x.block/\∀off,w.frozen? ⟨x.block,off,none⟩=false)/\fe P w x.block x.off kids
def fe(P:Nat->Prop)(w:World)(b off:Nat):List dR->Prop
 |[]=>True
 |t::r=>(∃cs,(∀j u,cs[j]?=some u->w.cell? ⟨b,off+j,none⟩=some u)/\af P w t cs)/\fe P w b (off+3) r
end
mutual
theorem af.at{P:Nat->Prop}{w:World}:∀(t:dR) (cs:List Value),af P w t cs->eu w t cs
 | .mk op text kids,cs,h=>by
  simp only[af] at h;simp only[eu];obtain⟨a,cap,h1,h3,h4,h5,h6⟩:=h;refine⟨a,cap,h1,h3,h4,h5,fun x hx hne=>?_⟩;obtain⟨g1,g2,g3⟩:=h6 x hx hne;exact⟨g1,g2.1,fe.at kids x.off g3⟩
theorem fe.at{P:Nat->Prop}{w:World}{b:Nat}:∀(l:List dR) (off:Nat),fe P w b off l->fG w b off l
 |[],_,_=>by simp only[fG]
 | t::r,off,h=>by
  simp only[fe] at h;simp only[fG];obtain⟨⟨cs,h1,h2⟩,h3⟩:=h;exact⟨⟨cs,h1,af.at t cs h2⟩,fe.at r _ h3⟩
end
mutual
theorem af.move{P Q:Nat->Prop}{w w':World}(hs:w.heap.size<=w'.heap.size)(hb:∀k,P k->k<w.heap.size->w'.heap[k]?=w.heap[k]?)(hq:∀k,P k->k<w.heap.size->Q k) :
  ∀(t:dR) (cs:List Value),af P w t cs->af Q w' t cs
 | .mk op text kids,cs,h=>by
  simp only[af] at h ⊢;obtain⟨a,cap,h1,h3,h4,h5,h6⟩:=h;refine⟨a,cap,h1,h3,h4,h5,fun x hx hne=>?_⟩;obtain⟨g1,g2,g3⟩:=h6 x hx hne;exact⟨g1,⟨Nat.lt_of_lt_of_le g2.1 hs,hq _ g2.2.1 g2.1,fun off=>(DJ (hb _ g2.2.1 g2.1) off).trans (g2.2.2 off)⟩,fe.move hs hb hq ⟨g2.1,g2.2.1⟩ kids x.off g3⟩
theorem fe.move{P Q:Nat->Prop}{w w':World}(hs:w.heap.size<=w'.heap.size)(hb:∀k,P k->k<w.heap.size->w'.heap[k]?=w.heap[k]?)(hq:∀k,P k->k<w.heap.size->Q k){b:Nat}(hP:b<w.heap.size/\P b) :
  ∀(l:List dR) (off:Nat),fe P w b off l->fe Q w' b off l
 |[],_,_=>by simp only[fe]
 | t::r,off,h=>by
  simp only[fe] at h ⊢;obtain⟨⟨cs,h1,h2⟩,h3⟩:=h;exact⟨⟨cs,fun j u hu=>(iB (hb b hP.2 hP.1) _).trans (h1 j u hu),af.move hs hb hq t cs h2⟩,fe.move hs hb hq hP r _ h3⟩
end
theorem fe.make{P:Nat->Prop}{w:World}{b:Nat}:∀(l:List dR) (off:Nat),(∀k (h:k<l.length),∃cs,(∀j u,cs[j]?=some u->w.cell? ⟨b,off+k*3+j,none⟩=some u)/\af P w l[k] cs)->fe P w b off l
 |[],_,_=>by simp only[fe]
 | t::r,off,h=>by
  simp only[fe];constructor
  ·obtain⟨cs,h1,h2⟩:=h 0 (by simp)
   exact⟨cs,fun j u hu=>by have:=h1 j u hu;simpa using this,by simpa using h2⟩
  ·refine fe.make r (off+3) (fun k hk=>?_)
   obtain⟨cs,h1,h2⟩:=h (k+1) (by simp;omega);refine⟨cs,fun j u hu=>?_,by simpa using h2⟩;rw[<-h1 j u hu]
   congr 2
   omega
theorem af.below{P:Nat->Prop}{w w':World}(hb:Below w.heap.size w w')(t:dR)(cs:List Value)(h:af P w t cs):af P w' t cs:=
 af.move hb.size (fun k _ hk=>hb.block k hk) (fun _ h _=>h) t cs h
theorem af.len3{P:Nat->Prop}{w:World}{t:dR}{cs:List Value}(h:af P w t cs):cs.length=3:=by
 cases t
 simp only[af] at h;obtain⟨a,Aa,rfl,-⟩:=h;rfl
theorem af.shape{P:Nat->Prop}{w:World}{t:dR}{cs:List Value}(h:af P w t cs):∃op text sa sn sc,cs=[.string op,.string text,.slice sa sn sc]:=(af.at _ _ h).shape
theorem af.leaf(P:Nat->Prop)(w:World)(o t:ByteArray):af P w (.mk o t []) [.string o,.string t,.slice none 0 0]:=by
 simp only[af];exact⟨none,0,rfl,Nat.le_refl _,Nat.zero_le _,fun _=>rfl,fun x hx=>by cases hx⟩
theorem af.node{base:Nat}{w:World}{o t:ByteArray}{kids:List dR}{b cap:Nat}(hb:base<=b)(hlt:b<w.heap.size)(hf:∀off,w.frozen? ⟨b,off,none⟩=false)(hc:kids.length<=cap)(hm:cap<=maxLen)
  (h:∀k (h:k<kids.length),∃cs,(∀j u,cs[j]?=some u->w.cell? ⟨b,k*3+j,none⟩=some u)/\af (fun k=>base<=k) w kids[k] cs) :
  af (fun k=>base<=k) w (.mk o t kids) [.string o,.string t,.slice (some ⟨b,0,none⟩) kids.length cap]:=by
 simp only[af];refine⟨some ⟨b,0,none⟩,cap,rfl,hc,hm,(fun h=>by cases h),fun x hx _=>?_⟩;cases hx
 exact⟨rfl,⟨hlt,hb,hf⟩,fe.make kids 0 (fun k hk=>by
  obtain⟨cs,h1,h2⟩:=h k hk
  exact⟨cs,fun j u hu=>by rw[Nat.zero_add];exact h1 j u hu,h2⟩)⟩
abbrev iZ(w:World)(g:Nat)(lv:Value)(k:Int)(e:Int):Prop:=ae w g #[lv,.int .i64 k,.int .i64 e] 220
structure oP(w:World)(g:Nat)(lv:Value)(l:List ag)(k:Nat):Prop where
 box:iZ w g lv (k:Nat) 0
 toks:aH w lv l
 own:∀b,lv.ownBlock=some b->b<g
 le:k<=l.length
 small:l.length<=1000000
 tab:Tab w
 tabg:1<g
 short:∀t∈l,t.text.size<=1048576
theorem oP.go{w w':World}{g:Nat}{lv:Value}{l:List ag}{k k':Nat}(h:oP w g lv l k)(hs:aB g w w')(hc:iZ w' g lv (k':Nat) 0)(hk:k'<=l.length):oP w' g lv l k':=
 ⟨hc,h.toks.moved hs.size (fun b off hb hv=>iB (hs.2 b hb (by have:=h.own b hv;omega)) off),h.own,hk,h.small,fun j hj=>(hs.cell (h.tab j hj) (by have:=h.tabg;omega)),h.tabg,h.short⟩
theorem K6(w:World)(g:Nat)(lv:Value)(k e:Int)(s:ByteArray)(hc:iZ w g lv k e)(he:e≠0)(hl:∃a n c,lv=.slice a n c) :
  Calls Tryz.prog 219 #[.pointer (some ⟨g,0,none⟩),.string s] w fun r w'=>r=.returned (.bool false)/\∃n,w'=w.drewN n:=by
 obtain⟨a,n,c,rfl⟩:=hl;have Ag:=hc.lt;have Ah:(e != 0)=true:=by simpa using he
 obtain⟨Aa,Ad,Ab,Ae,Ac,Af⟩:=hc.n3 rfl;go_enter Tryz.func219,Tryz.ntmps219;go_wp2_with fail;go_quiet (fail)
 go_wp2;go_ret;exact⟨rfl,_,rfl⟩
theorem mE(w:World)(g:Nat)(lv:Value)(l:List ag)(k:Nat)(s:ByteArray)(h:oP w g lv l k) :
  Calls Tryz.prog 219 #[.pointer (some ⟨g,0,none⟩),.string s] w fun r w'=>r=.returned (.bool (bK (l.drop k) s))/\Below w.heap.size w w':=by
 have hc:=h.box;have Aq:=hc.lt;obtain⟨a,c,rfl,Aw,Ax,-⟩:=h.toks.len;unfold maxLen at Ax;have A5:=h.le
 by_cases hk:k=l.length
 ·subst hk
  rw[List.drop_length];obtain⟨Aa,Ad,Ab,Ae,Ac,Af⟩:=hc.n3 rfl;go_enter Tryz.func219,Tryz.ntmps219;go_wp2_with fail;go_quiet (fail)
  go_wp2;go_ret;exact⟨rfl,bL _ _ _⟩
 ·have Ap:k<l.length:=by omega
  obtain⟨b,A7,rfl,hb,c0,c1,c2⟩:=aH.get h.toks Ap;have hd:bK (l.drop k) s=(decide (l[k].kind=4)&&decide (l[k].text=s)):=by rw[List.drop_eq_getElem_cons Ap];rfl
  rw[hd];have A6:((k:Int)==(l.length:Int))=false:=by rw[beq_eq_false_iff_ne];omega
  generalize l[k]=t at *;clear hd hk;obtain⟨Aa,Ad,Ab,Ae,Ac,Af⟩:=hc.n3 rfl;go_enter Tryz.func219,Tryz.ntmps219;go_wp2_with fail;go_quiet (fail)
  go_wp2_with fail;have ha:∀(n b' o':Nat) (u:Value),b'<w.heap.size->w.cell? ⟨b',o',none⟩=some u->((w.drewN n).alloc (.cells #[.int .i64 0,.string ⟨#[]⟩,.int .i64 0] 63)).cell? ⟨b',o',none⟩=some u:=fun n b' o' u h1 h2=>(World.cell?_alloc_past _ _ _ h1).trans h2;have Ar:=fun n=>ha n _ _ _ Aq Aa;have As:=fun n=>ha n _ _ _ Aq Ab;have At:=fun n=>ha n _ _ _ hb c0;have Au:=fun n=>ha n _ _ _ hb c1;have Av:=fun n=>ha n _ _ _ hb c2;have hn:=fun n=>ae.new (w.drewN n) #[.int .i64 0,.string ⟨#[]⟩,.int .i64 0] 63;have A1:∀n,((w.drewN n).alloc (.cells #[.int .i64 0,.string ⟨#[]⟩,.int .i64 0] 63)).cell? ⟨w.heap.size,0,none⟩=some (.int .i64 0):=fun n=>(hn n).cell 0 _ rfl;have A2:∀n,((w.drewN n).alloc (.cells #[.int .i64 0,.string ⟨#[]⟩,.int .i64 0] 63)).cell? ⟨w.heap.size,1,none⟩=some (.string ⟨#[]⟩):=fun n=>(hn n).cell 1 _ rfl;have A3:∀n,((w.drewN n).alloc (.cells #[.int .i64 0,.string ⟨#[]⟩,.int .i64 0] 63)).cell? ⟨w.heap.size,2,none⟩=some (.int .i64 0):=fun n=>(hn n).cell 2 _ rfl;have Ay:∀n,((w.drewN n).alloc (.cells #[.int .i64 0,.string ⟨#[]⟩,.int .i64 0] 63)).frozen? ⟨w.heap.size,0,none⟩=false:=fun n=>(hn n).frozen 0;have Az:∀n,((w.drewN n).alloc (.cells #[.int .i64 0,.string ⟨#[]⟩,.int .i64 0] 63)).frozen? ⟨w.heap.size,1,none⟩=false:=fun n=>(hn n).frozen 1;have A0:∀n,((w.drewN n).alloc (.cells #[.int .i64 0,.string ⟨#[]⟩,.int .i64 0] 63)).frozen? ⟨w.heap.size,2,none⟩=false:=fun n=>(hn n).frozen 2
  go_region
  have Ai:Below w.heap.size w (((((w.drewN (nq+1)).alloc (.cells #[.int .i64 0,.string ⟨#[]⟩,.int .i64 0] 63)).setCell ⟨w.heap.size,0,none⟩ (.int .i64 t.kind)).setCell ⟨w.heap.size,1,none⟩ (.string t.text)).setCell ⟨w.heap.size,2,none⟩ (.int .i64 t.pos)):=
   aS _ _ lz [.int .i64 t.kind,.string t.text,.int .i64 t.pos] 0 _ _ ((bL w.heap.size w (nq+1)).alloc lz _)
  have Ag:ae (((((w.drewN (nq+1)).alloc (.cells #[.int .i64 0,.string ⟨#[]⟩,.int .i64 0] 63)).setCell ⟨w.heap.size,0,none⟩ (.int .i64 t.kind)).setCell ⟨w.heap.size,1,none⟩ (.string t.text)).setCell ⟨w.heap.size,2,none⟩ (.int .i64 t.pos)) w.heap.size #[.int .i64 t.kind,.string t.text,.int .i64 t.pos] 63:=ae.put [.int .i64 t.kind,.string t.text,.int .i64 t.pos] 0 (hn (nq+1));generalize (((((w.drewN (nq+1)).alloc (.cells #[.int .i64 0,.string ⟨#[]⟩,.int .i64 0] 63)).setCell ⟨w.heap.size,0,none⟩ (.int .i64 t.kind)).setCell ⟨w.heap.size,1,none⟩ (.string t.text)).setCell ⟨w.heap.size,2,none⟩ (.int .i64 t.pos))=W1 at Ai Ag ⊢;have Aw:=Ag.lt;have Ah:=Hh Ai;clear Ai ha Ar As At Au Av hn A1 A2 A3 Ay Az A0 c0 c1 c2 Aa Ab Ac Ad Ae Af hc h;obtain⟨Aj,Am,Ak,An,Al,Ao⟩:=Ag.n3 rfl;clear Ag
  by_cases h4:t.kind=4
  ·have A4:(t.kind==4)=true:=by rw[beq_iff_eq];exact h4
   by_cases hs:t.text=s
   ·subst hs
    have H4:=Hh h4;clear h4;go_wp2;go_ret;exact⟨iQ (by simp[H4.out]),Ah.out⟩
   ·have hx:=nT hs
    have HS:=Hh hs;clear h4 hs;go_wp2;go_ret;exact⟨iQ (by simp[HS.out]),Ah.out⟩
  ·have hx:(t.kind==4)=false:=by rw[beq_eq_false_iff_ne];exact h4
   have H4:=Hh h4;clear h4;go_wp2;go_ret;exact⟨iQ (by simp[H4.out]),Ah.out⟩
theorem BD(w:World)(g:Nat)(lv:Value)(k e:Int)(hc:iZ w g lv k 0) :
  Calls Tryz.prog 232 #[.pointer (some ⟨g,0,none⟩),.int .i64 e] w fun r w'=>r=.returned (.tuple #[])/\iZ w' g lv k e/\aB g w w':=by
 have Ag:=hc.lt;have hq:=hc.setI 2 (.int .i64 e);have HQ:=Hh hq;clear hq;obtain⟨Aa,Ad,Ab,Ae,Ac,Af⟩:=hc.n3 rfl;go_enter Tryz.func232,Tryz.ntmps232;go_wp2
 (first|go_end0|refine bodyPost_ret (results_none rfl _ _ _) rfl ?_)
 exact⟨rfl,HQ.out,(aB.refl g w).set 2 _⟩
theorem Nc(w:World)(g:Nat)(lv:Value)(k e e2:Int)(hc:iZ w g lv k e)(he:e≠0) :
  Calls Tryz.prog 232 #[.pointer (some ⟨g,0,none⟩),.int .i64 e2] w fun r w'=>r=.returned (.tuple #[])/\w=w':=by
 have Ag:=hc.lt;have Ah:(e==0)=false:=by simpa using he
 obtain⟨Aa,Ad,Ab,Ae,Ac,Af⟩:=hc.n3 rfl;go_enter Tryz.func232,Tryz.ntmps232;go_wp2
 (first|go_end0|refine bodyPost_ret (results_none rfl _ _ _) rfl ?_)
 exact⟨rfl,rfl⟩
def yL(r:List ag):Int:=if r=[] then 2 else 3
theorem oW(r:List ag):yL r≠0:=by unfold yL;split<;>decide
theorem rY(r:List ag)(n:Nat):cZ r n=(aU,n,yL r):=by unfold cZ yL;split<;>rfl
theorem oV(w:World)(g:Nat)(lv:Value)(l:List ag)(k:Nat)(h:oP w g lv l k) :
  Calls Tryz.prog 233 #[.pointer (some ⟨g,0,none⟩)] w fun r w'=>r=.returned (.tuple #[])/\iZ w' g lv (k:Nat) (yL (l.drop k))/\aB g w w':=by
 have hc:=h.box;have Aj:=hc.lt;obtain⟨a,c,rfl,Ag,Ah,-⟩:=h.toks.len;have Ai:=h.le;have hF:=fun n=>BD (w.drewN n) g (.slice a l.length c) (k:Nat) (yL (l.drop k)) (hc.drewN n)
 by_cases hk:k=l.length
 ·have hw:yL (l.drop k)=2:=by rw[hk,List.drop_length];rfl
  rw[hw] at hF ⊢;have hq:((k:Int)==(l.length:Int))=true:=by rw[beq_iff_eq];omega
  clear hk h hw;obtain⟨Aa,Ad,Ab,Ae,Ac,Af⟩:=hc.n3 rfl;go_enter Tryz.func233,Tryz.ntmps233;go_wp2_with fail;go_quiet (fail)
  go_wp2_with fail;refine (hF _).mono ?_;rintro _ w2 ⟨rfl,hc2,hs2⟩;go_wp2
  (first|go_end0|refine bodyPost_ret (results_none rfl _ _ _) rfl ?_)
  exact⟨rfl,hc2,(aB.of (bL _ _ _)).trans hs2⟩
 ·have hw:yL (l.drop k)=3:=by
   unfold yL;rw[if_neg (by rw[List.drop_eq_nil_iff];omega)]
  rw[hw] at hF ⊢;have hq:((k:Int)==(l.length:Int))=false:=by rw[beq_eq_false_iff_ne];omega
  clear hk h hw;obtain⟨Aa,Ad,Ab,Ae,Ac,Af⟩:=hc.n3 rfl;go_enter Tryz.func233,Tryz.ntmps233;go_wp2_with fail;go_quiet (fail)
  go_wp2_with fail;refine (hF _).mono ?_;rintro _ w2 ⟨rfl,hc2,hs2⟩;go_wp2
  (first|go_end0|refine bodyPost_ret (results_none rfl _ _ _) rfl ?_)
  exact⟨rfl,hc2,(aB.of (bL _ _ _)).trans hs2⟩
theorem JO(w:World)(g:Nat)(lv:Value)(k e:Int)(hc:iZ w g lv k e)(he:e≠0)(hl:∃a n c,lv=.slice a n c) :
  Calls Tryz.prog 233 #[.pointer (some ⟨g,0,none⟩)] w fun r w'=>r=.returned (.tuple #[])/\∃n,w'=w.drewN n:=by
 obtain⟨a,n,c,rfl⟩:=hl;have Ag:=hc.lt;have hF:=fun m e2=>Nc (w.drewN m) g (.slice a n c) k e e2 (hc.drewN m) he;cases hq:(k==(n:Int))
 all_goals
  obtain⟨Aa,Ad,Ab,Ae,Ac,Af⟩:=hc.n3 rfl;go_enter Tryz.func233,Tryz.ntmps233;go_wp2_with fail;go_quiet (fail)
  go_wp2_with fail;refine (hF _ _).mono ?_;rintro _ _ ⟨rfl,hw1⟩;cases hw1
  go_wp2
  (first|go_end0|refine bodyPost_ret (results_none rfl _ _ _) rfl ?_)
  exact⟨rfl,_,rfl⟩
theorem nJ(w:World)(g:Nat)(lv:Value)(k d:Nat)(hc:iZ w g lv (k:Nat) 0)(hd:d<64)(hk:k<=1000000) :
  Calls Tryz.prog 220 #[.pointer (some ⟨g,0,none⟩),.int .i64 ((d:Int)+1)] w fun r w'=>r=.returned (.bool true)/\iZ w' g lv ((k+1:Nat)) 0/\aB g w w':=by
 have Ag:=hc.lt;have HQ:=Hh (hc.setI 1 (.int .i64 ((k:Int)+1)));obtain⟨Aa,Ad,Ab,Ae,Ac,Af⟩:=hc.n3 rfl;go_enter Tryz.func220,Tryz.ntmps220;go_wp2;go_ret;exact⟨rfl,HQ.out,(aB.refl g w).set 1 _⟩
theorem qm(w:World)(g:Nat)(lv:Value)(k d:Nat)(hc:iZ w g lv (k:Nat) 0)(hd:64<=d) :
  Calls Tryz.prog 220 #[.pointer (some ⟨g,0,none⟩),.int .i64 ((d:Int)+1)] w fun r w'=>r=.returned (.bool false)/\iZ w' g lv (k:Nat) 5/\aB g w w':=by
 have hF:=BD w g lv (k:Nat) 5 hc;go_enter Tryz.func220,Tryz.ntmps220;go_wp2_with fail;refine hF.mono ?_;rintro _ w2 ⟨rfl,hc2,hs2⟩;go_wp2;go_ret;exact⟨rfl,hc2,hs2⟩
theorem vR(w:World)(g:Nat)(lv:Value)(l:List ag)(k:Nat)(s:ByteArray)(h:oP w g lv l k) :
  Calls Tryz.prog 221 #[.pointer (some ⟨g,0,none⟩),.string s] w fun r w'=>r=.returned (.tuple #[])/\
   iZ w' g lv ((if bK (l.drop k) s then k+1 else k:Nat)) (if bK (l.drop k) s then 0 else yL (l.drop k))/\aB g w w':=by
 have hI:=mE w g lv l k s h;have Ai:=h.le;have Ak:=h.small
 cases hs:bK (l.drop k) s with
 |true=>
  rw[hs] at hI;go_enter Tryz.func221,Tryz.ntmps221;go_wp2_with fail;refine hI.mono ?_;rintro _ w2 ⟨rfl,hb2⟩;have Aa:=h.box.below hb2 h.box.lt;have Aj:=Aa.lt;have HQ:=Hh (Aa.setI 1 (.int .i64 ((k:Int)+1)));have HB:=Hh (aB.of (g:=g) hb2);clear hb2 hs hI;obtain⟨Ab,Ae,Ac,Af,Ad,Ag⟩:=Aa.n3 rfl;clear Aa;go_wp2
  (first|go_end0|refine bodyPost_ret (results_none rfl _ _ _) rfl ?_)
  exact⟨rfl,HQ.out,HB.out.set 1 _⟩
 |false=>
  rw[hs] at hI;go_enter Tryz.func221,Tryz.ntmps221;go_wp2_with fail;refine hI.mono ?_;rintro _ w2 ⟨rfl,hb2⟩;have Ah:=aB.of (g:=g) hb2;have hW:=oV w2 g lv l k (h.go Ah (h.box.below hb2 h.box.lt) h.le);go_wp2_with fail;refine hW.mono ?_;rintro _ w3 ⟨rfl,hc3,hs3⟩;go_wp2
  (first|go_end0|refine bodyPost_ret (results_none rfl _ _ _) rfl ?_)
  exact⟨rfl,hc3,Ah.trans hs3⟩
theorem Gs(w:World)(g:Nat)(lv:Value)(k e:Int)(s:ByteArray)(hc:iZ w g lv k e)(he:e≠0)(hl:∃a n c,lv=.slice a n c) :
  Calls Tryz.prog 221 #[.pointer (some ⟨g,0,none⟩),.string s] w fun r w'=>r=.returned (.tuple #[])/\∃n,w'=w.drewN n:=by
 have hI:=K6 w g lv k e s hc he hl;have hW:=fun n=>JO (w.drewN n) g lv k e (hc.drewN n) he hl;go_enter Tryz.func221,Tryz.ntmps221;go_wp2_with fail;refine hI.mono ?_;rintro _ _ ⟨rfl,n,rfl⟩;go_wp2_with fail;refine (hW n).mono ?_;rintro _ _ ⟨rfl,m,rfl⟩;go_wp2
 (first|go_end0|refine bodyPost_ret (results_none rfl _ _ _) rfl ?_)
 exact⟨rfl,n+m,rfl⟩
theorem Dm(s:ByteArray):(∃x∈uS,s=ay x.1/\Dn s=x.2)\/(Dn s = -1/\∀x∈uS,s≠ay x.1):=by
 unfold Dn
 cases hf:uS.find? (fun x=>x.1==s.data.toList) with
 |some x=>
  refine .inl ⟨x,List.mem_of_find?_eq_some hf,?_,rfl⟩;have h1:=List.find?_some hf;simp only[beq_iff_eq] at h1;rw[h1];exact vL s
 |none=>
  refine .inr ⟨rfl,fun x hx e=>?_⟩;have h1:=List.find?_eq_none.1 hf x hx;rw[e,bU] at h1;simp at h1
def OE(s:ByteArray):Int:=if 1<=Dn s/\Dn s<=6 then Dn s else 0
theorem fresh(s:ByteArray)(h:∀x∈uS,s≠ay x.1)(l:Bs)(hl:l∈uS.map (·.1)):(s.toList==l)=false:=by
 obtain⟨x,hx,rfl⟩:=List.mem_map.1 hl;have h1:=nT (h x hx);rw[show (ay x.1).toList=x.1 by rw[ByteArray.toList_eq];rfl] at h1;exact h1
theorem wW(s:ByteArray)(w:World):Calls Tryz.prog 223 #[.string s] w fun e w'=>e=.returned (.int .i64 (Dn s))/\w=w':=by
 rcases Dm s with ⟨x,hx,rfl,hv⟩|⟨hv,h⟩
 ·rw[hv]
  clear hv;simp only[uS,List.mem_cons,List.not_mem_nil,or_false] at hx;rcases hx with rfl|rfl|rfl|rfl|rfl|rfl|rfl|rfl|rfl|rfl|rfl|rfl|rfl|rfl|rfl|rfl|rfl|rfl|rfl|rfl|rfl|rfl|rfl
  all_goals
   simp only[ay];go_enter Tryz.func223,Tryz.ntmps223;go_wp2;go_ret;exact⟨rfl,rfl⟩
 ·rw[hv]
  have n0:=fresh s h [63] (by decide);have n1:=fresh s h [124,124] (by decide);have n2:=fresh s h [38,38] (by decide);have n3:=fresh s h [61,61] (by decide);have n4:=fresh s h [33,61] (by decide);have n5:=fresh s h [60] (by decide);have n6:=fresh s h [62] (by decide);have n7:=fresh s h [60,61] (by decide);have n8:=fresh s h [62,61] (by decide);have n9:=fresh s h [43] (by decide);have Aa:=fresh s h [45] (by decide);have Ab:=fresh s h [42] (by decide);have Ac:=fresh s h [47] (by decide);have Ad:=fresh s h [37] (by decide);have Ae:=fresh s h [33] (by decide);have Af:=fresh s h [110,101,103] (by decide);have Ag:=fresh s h [103,101,116] (by decide);have Ah:=fresh s h [97,116] (by decide);have Ai:=fresh s h [110,97,109,101] (by decide);have Aj:=fresh s h [99,97,108,108] (by decide);have Ak:=fresh s h [110,117,109] (by decide);have Al:=fresh s h [116,101,120,116] (by decide);have Am:=fresh s h [108,105,115,116] (by decide);clear hv h;go_enter Tryz.func223,Tryz.ntmps223;go_wp2;go_ret;exact⟨rfl,rfl⟩
theorem Ed(s:ByteArray)(w:World):Calls Tryz.prog 231 #[.string s] w fun e w'=>e=.returned (.int .i64 (OE s))/\w=w':=by
 unfold OE;rcases Dm s with ⟨x,hx,rfl,hv⟩|⟨hv,h⟩
 ·rw[hv]
  clear hv;simp only[uS,List.mem_cons,List.not_mem_nil,or_false] at hx;rcases hx with rfl|rfl|rfl|rfl|rfl|rfl|rfl|rfl|rfl|rfl|rfl|rfl|rfl|rfl|rfl|rfl|rfl|rfl|rfl|rfl|rfl|rfl|rfl
  all_goals
   simp only[ay];go_enter Tryz.func231,Tryz.ntmps231;go_wp2;go_ret;exact⟨rfl,rfl⟩
 ·rw[hv]
  have n0:=fresh s h [63] (by decide);have n1:=fresh s h [124,124] (by decide);have n2:=fresh s h [38,38] (by decide);have n3:=fresh s h [61,61] (by decide);have n4:=fresh s h [33,61] (by decide);have n5:=fresh s h [60] (by decide);have n6:=fresh s h [62] (by decide);have n7:=fresh s h [60,61] (by decide);have n8:=fresh s h [62,61] (by decide);have n9:=fresh s h [43] (by decide);have Aa:=fresh s h [45] (by decide);have Ab:=fresh s h [42] (by decide);have Ac:=fresh s h [47] (by decide);have Ad:=fresh s h [37] (by decide);have Ae:=fresh s h [33] (by decide);have Af:=fresh s h [110,101,103] (by decide);have Ag:=fresh s h [103,101,116] (by decide);have Ah:=fresh s h [97,116] (by decide);have Ai:=fresh s h [110,97,109,101] (by decide);have Aj:=fresh s h [99,97,108,108] (by decide);have Ak:=fresh s h [110,117,109] (by decide);have Al:=fresh s h [116,101,120,116] (by decide);have Am:=fresh s h [108,105,115,116] (by decide);clear hv h;go_enter Tryz.func231,Tryz.ntmps231;go_wp2;go_ret;exact⟨rfl,rfl⟩
theorem Jl(w:World)(n m:Nat):∃q,(w.drewN n).drewN m=w.drewN q:=⟨n+m,World.drewN_drewN _ _ _⟩
def Ms(r:List ag):Int:=match r with
 |[]=>0
 |t::_=>if t.kind=4 then OE t.text else 0
theorem Nn{s:ByteArray}{lv:Nat}(h1:1<=lv)(h6:lv<=6):OE s=lv↔Dn s=lv:=by
 unfold OE;split<;>constructor<;>intro h<;>omega
theorem Gj{r:List ag}{lv:Nat}(h1:1<=lv)(h6:lv<=6):Ms r=lv↔∃o,GG r lv=some o:=by
 unfold Ms GG
 cases r with
 |nil=>
  constructor
  ·intro h;simp only at h;omega
  ·rintro⟨o,h⟩;cases h
 |cons t r=>
  simp only
  by_cases hk:t.kind=4
  ·rw[if_pos hk,Nn h1 h6]
   constructor
   ·intro h;exact⟨t.text,by rw[if_pos ⟨hk,h⟩]⟩
   ·rintro⟨o,h⟩
    split at h
    ·next hc=>exact hc.2
    ·cases h
  ·rw[if_neg hk]
   constructor
   ·intro h;omega
   ·rintro⟨o,h⟩
    rw[if_neg (fun hc=>hk hc.1)] at h;cases h
theorem K8{r:List ag}{lv:Nat}{o:ByteArray}(h:GG r lv=some o):∃t q,r=t::q/\t.text=o:=by
 unfold GG at h
 cases r with
 |nil=>cases h
 |cons t q=>
  simp only at h;split at h
  ·cases h;exact⟨t,q,rfl,rfl⟩
  ·cases h
theorem Mt(w:World)(g:Nat)(lv:Value)(k e:Int)(hc:iZ w g lv k e)(he:e≠0)(hl:∃a n c,lv=.slice a n c) :
  Calls Tryz.prog 218 #[.pointer (some ⟨g,0,none⟩)] w fun r w'=>r=.returned (.int .i64 0)/\∃n,w'=w.drewN n:=by
 obtain⟨a,n,c,rfl⟩:=hl;have Ag:=hc.lt;have Ah:(e != 0)=true:=by simpa using he
 obtain⟨Aa,Ad,Ab,Ae,Ac,Af⟩:=hc.n3 rfl;go_enter Tryz.func218,Tryz.ntmps218;go_wp2_with fail;go_quiet (fail)
 go_wp2;go_ret;exact⟨rfl,_,rfl⟩
theorem Gm(w:World)(g:Nat)(lv:Value)(l:List ag)(k:Nat)(h:oP w g lv l k) :
  Calls Tryz.prog 218 #[.pointer (some ⟨g,0,none⟩)] w fun r w'=>r=.returned (.int .i64 (Ms (l.drop k)))/\∃n,w'=w.drewN n:=by
 have hc:=h.box;have Am:=hc.lt;obtain⟨a,c,rfl,Ak,Ai,-⟩:=h.toks.len;unfold maxLen at Ai;have Al:=h.le
 by_cases hk:k=l.length
 ·have hr:Ms (l.drop k)=0:=by rw[hk,List.drop_length];rfl
  rw[hr];have Aj:((k:Int)==(l.length:Int))=true:=by rw[beq_iff_eq];omega
  clear hk hr h;obtain⟨Aa,Ad,Ab,Ae,Ac,Af⟩:=hc.n3 rfl;go_enter Tryz.func218,Tryz.ntmps218;go_wp2_with fail;go_quiet (fail)
  go_wp2;go_ret;exact⟨rfl,_,rfl⟩
 ·have Ag:k<l.length:=by omega
  obtain⟨b,An,rfl,hb,c0,c1,c2⟩:=aH.get h.toks Ag;have hd:Ms (l.drop k)=if l[k].kind=4 then OE l[k].text else 0:=by rw[List.drop_eq_getElem_cons Ag];rfl
  rw[hd];have Aj:((k:Int)==(l.length:Int))=false:=by rw[beq_eq_false_iff_ne];omega
  generalize l[k]=t at *;clear hd hk h
  by_cases h4:t.kind=4
  ·rw[if_pos h4]
   have Ah:(t.kind != 4)=false:=by rw[bne_eq_false_iff_eq];exact h4
   have hB:=Ed t.text;clear h4;obtain⟨Aa,Ad,Ab,Ae,Ac,Af⟩:=hc.n3 rfl;go_enter Tryz.func218,Tryz.ntmps218;go_wp2_with fail;go_quiet (fail)
   go_wp2_with fail;go_quiet (exact (hB _).mono fun _ _ h=>⟨h.1,_,h.2.symm⟩)
   go_wp2;go_ret;exact⟨rfl,Jl _ _ _⟩
  ·rw[if_neg h4]
   have Ah:(t.kind != 4)=true:=by rw[bne_iff_ne];exact h4
   clear h4;obtain⟨Aa,Ad,Ab,Ae,Ac,Af⟩:=hc.n3 rfl;go_enter Tryz.func218,Tryz.ntmps218;go_wp2_with fail;go_quiet (fail)
   go_wp2;go_ret;exact⟨rfl,_,rfl⟩
def XP(g:Nat)(lv:Value)(k:Nat)(r:eX)(w:World)(e:Ending)(w':World):Prop:=
 aB g w w'/\iZ w' g lv ((k+r.2.1:Nat)) r.2.2/\∃o t a n c,e=.returned (PU o t (.slice a n c))/\(r.2.2=0->af (fun b=>w.heap.size<=b) w' r.1 (dQ o t (.slice a n c)))
structure FW(w:World)(g bp bd bt d:Nat):Prop where
 p:ae w bp #[.pointer (some ⟨g,0,none⟩)] 218
 d:ae w bd #[.int .i64 (d:Nat)] 3
 t:ae w bt #[.func (.func 216) #[] #[.pointer (some ⟨bp,0,none⟩),.pointer (some ⟨bd,0,none⟩),.pointer (some ⟨bt,0,none⟩)]] 221
 np:bp≠g
 nd:bd≠g
 nt:bt≠g
theorem FW.save{w w':World}{g bp bd bt d:Nat}(h:FW w g bp bd bt d)(hs:aB g w w'):FW w' g bp bd bt d:=
 ⟨hs.cells h.p h.np,hs.cells h.d h.nd,hs.cells h.t h.nt,h.np,h.nd,h.nt⟩
def oz(m:Nat):Prop:=∀(w:World) (g:Nat) (lv:Value) (l:List ag) (k d:Nat),oP w g lv l k->d<=64->(ai m .choice (l.drop k) d).2.2≠-1->
 Calls Tryz.prog 192 #[.pointer (some ⟨g,0,none⟩),.int .i64 (d:Nat)] w (XP g lv k (ai m .choice (l.drop k) d) w)
def Eh(m:Nat):Prop:=∀(w:World) (g:Nat) (lv:Value) (l:List ag) (k d n bp bd bt:Nat),oP w g lv l k->FW w g bp bd bt d->d<=64->1<=n->n<=7->(ai m (.term n) (l.drop k) d).2.2≠-1->
 Calls Tryz.prog 216 #[.int .i64 (n:Nat),.pointer (some ⟨bp,0,none⟩),.pointer (some ⟨bd,0,none⟩),.pointer (some ⟨bt,0,none⟩)] w (XP g lv k (ai m (.term n) (l.drop k) d) w)
def BM(m:Nat):Prop:=∀(w:World) (g:Nat) (lv:Value) (l:List ag) (k d:Nat),oP w g lv l k->d<=64->(ai m .tight (l.drop k) d).2.2≠-1->
 Calls Tryz.prog 217 #[.pointer (some ⟨g,0,none⟩),.int .i64 (d:Nat)] w (XP g lv k (ai m .tight (l.drop k) d) w)
def L6(m:Nat):Prop:=∀(w:World) (g:Nat) (lv:Value) (l:List ag) (k d:Nat),oP w g lv l k->d<=64->(ai m .post (l.drop k) d).2.2≠-1->
 Calls Tryz.prog 230 #[.pointer (some ⟨g,0,none⟩),.int .i64 (d:Nat)] w (XP g lv k (ai m .post (l.drop k) d) w)
def FX(m:Nat):Prop:=∀(w:World) (g:Nat) (lv:Value) (l:List ag) (k d:Nat),oP w g lv l k->d<=64->(ai m .prime (l.drop k) d).2.2≠-1->
 Calls Tryz.prog 236 #[.pointer (some ⟨g,0,none⟩),.int .i64 (d:Nat)] w (XP g lv k (ai m .prime (l.drop k) d) w)
def NN(B:Nat)(w:World)(kids:List dR)(v:Value):Prop:=∀o t,af (fun b=>B<=b) w (.mk o t kids) (dQ o t v)
def L8(m:Nat):Prop:=∀(w:World) (g:Nat) (lv:Value) (l:List ag) (k d:Nat) (s:ByteArray),oP w g lv l k->1<=(l.drop k).length->d<=64->s=p9\/s=o9->(ai m (.many s) (l.drop k) d).2.2≠-1->
 Calls Tryz.prog 238 #[.pointer (some ⟨g,0,none⟩),.int .i64 (d:Nat),.string s] w fun e w'=>
  aB g w w'/\iZ w' g lv ((k+(ai m (.many s) (l.drop k) d).2.1:Nat)) (ai m (.many s) (l.drop k) d).2.2/\∃a n c,e=.returned (.slice a n c)/\((ai m (.many s) (l.drop k) d).2.2=0->NN w.heap.size w' (ai m (.many s) (l.drop k) d).1.kids (.slice a n c))
theorem qo:∀(L:List (dR×List Value)) (_:∀s∈L,s.2.length=3) (k:Nat) (hk:k<L.length) (j:Nat) (_:j<3),(L.flatMap (·.2))[k*3+j]?=L[k].2[j]?
 | s::r,h8,0,_,j,hj=>by
  have h:=h8 s (by simp);simp only[List.flatMap_cons,Nat.zero_mul,Nat.zero_add,List.getElem_cons_zero];rw[List.getElem?_append_left (by omega)]
 | s::r,h8,k+1,hk,j,hj=>by
  have h:=h8 s (by simp);have ih:=qo r (fun x hx=>h8 x (by simp[hx])) k (by simpa using hk) j hj;simp only[List.flatMap_cons,List.getElem_cons_succ] at ih ⊢;rw[List.getElem?_append_right (by omega),<-ih]
  congr 1
  omega
theorem KE{B q:Nat}{w3:World}{op text:ByteArray}{vals:List Value}(hB:B<=w3.heap.size)(kids:List (dR×List Value))(hk:∀s∈kids,af (fun b=>B<=b/\b≠q) w3 s.1 s.2)(hm:kids.length<=maxLen) :
  af (fun b=>B<=b) ((ak w3 q 0 vals).alloc (.cells (kids.flatMap (·.2)).toArray 52)) (.mk op text (kids.map (·.1))) [.string op,.string text,.slice (some ⟨w3.heap.size,0,none⟩) kids.length kids.length]:=by
 have Aa:(kids.map (·.1)).length=kids.length:=List.length_map ..;have hc:=ae.new (ak w3 q 0 vals) (kids.flatMap (·.2)).toArray 52;rw[aA] at hc;have h3:∀s∈kids,s.2.length=3:=fun s hs=>(hk s hs).len3
 have hn:=af.node (base:=B) (w:=(ak w3 q 0 vals).alloc (.cells (kids.flatMap (·.2)).toArray 52)) (o:=op) (t:=text) (kids:=kids.map (·.1)) (b:=w3.heap.size) (cap:=kids.length) hB hc.lt (fun off=>hc.frozen off) (by rw[Aa];exact Nat.le_refl _) hm (fun k hkl=>by
  rw[Aa] at hkl;refine⟨kids[k].2,fun j u hu=>hc.cell _ _ ?_,?_⟩
  ·have hj:j<3:=by have:=(List.getElem?_eq_some_iff.1 hu).1;rw[h3 _ (List.getElem_mem hkl)] at this;exact this
   simp only[List.getElem?_toArray];rw[qo kids h3 k hkl j hj];exact hu
  ·rw[List.getElem_map]
   refine af.move ?_ (fun b hb hlt=>?_) (fun b hb _=>hb.1) _ _ (hk _ (List.getElem_mem hkl))
   ·rw[World.size_alloc,aA];omega
   ·rw[Below.heap_alloc _ _ _ (by rw[aA];exact hlt),aL _ _ _ _ _ hb.2])
 rw[Aa] at hn;exact hn
theorem oP.sl{w:World}{g:Nat}{lv:Value}{l:List ag}{k:Nat}(h:oP w g lv l k):∃a n c,lv=.slice a n c:=by
 obtain⟨a,c,rfl,-⟩:=h.toks.len;exact⟨_,_,_,rfl⟩
abbrev fH:Array Value:=#[.string ⟨#[]⟩,.string ⟨#[]⟩,.slice none 0 0]
structure Rs(w0:World)(q g:Nat)(w:World):Prop where
 save:aB g w0 w
 res:ae w q fH 52
 qg:q≠g
 q0:w0.heap.size<=q
section
variable {w0 w w':World} {q g:Nat}
theorem Rs.step(h:Rs w0 q g w)(hs:aB g w w'):Rs w0 q g w':=⟨h.save.trans hs,hs.cells h.res h.qg,h.qg,h.q0⟩
theorem Rs.below(h:Rs w0 q g w)(hb:Below w.heap.size w w'):Rs w0 q g w':=h.step (aB.of hb)
theorem Rs.start{lv:Value}{l:List ag}{k:Nat}(h:oP w0 g lv l k):Rs w0 w0.heap.size g (w0.alloc (.cells fH 52)):=
 ⟨(aB.refl _ _).alloc _,ae.new _ _ _,by have:=h.box.lt;omega,Nat.le_refl _⟩
theorem oP.step{lv:Value}{l:List ag}{k:Nat}(h:oP w g lv l k)(hb:Below w.heap.size w w'):oP w' g lv l k:=h.go (aB.of hb) (h.box.below hb h.box.lt) h.le
theorem Rs.fin(h:Rs w0 q g w)(vals:List Value):aB g w0 (ak w q 0 vals):=
 ⟨aS q 0 (Nat.zero_le _) vals 0 _ _ h.save.1,fun k hk hn=>(aL q vals 0 w k (by have:=h.q0;omega)).trans (h.save.2 k hk hn)⟩
theorem Rs.prc{lv:Value}{k e:Int}(h:Rs w0 q g w)(hc:iZ w g lv k e)(vals:List Value):iZ (ak w q 0 vals) g lv k e:=hc.setAllOther (fun e=>h.qg e.symm)
theorem NC{B:Nat}{op text o t:ByteArray}{a:Option Addr}{n c:Nat}{x:dR}{vals:List Value}(hB:B<=w.heap.size)(hx:af (fun b=>B<=b/\b≠q) w x (dQ o t (.slice a n c))) :
  af (fun b=>B<=b) ((ak w q 0 vals).alloc (.cells #[.string o,.string t,.slice a n c] 52)) (.mk op text [x]) [.string op,.string text,.slice (some ⟨w.heap.size,0,none⟩) 1 1]:=
 KE (q:=q) (vals:=vals) hB [(x,dQ o t (.slice a n c))] (by intro s hs;simp at hs;subst hs;exact hx) (by unfold maxLen;simp)
theorem af.past{B:Nat}{x:dR}{cs:List Value}(h:af (fun b=>B<=b) w x cs){B2:Nat}(h1:B2<=B)(h2:q<B):af (fun b=>B2<=b/\b≠q) w x cs:=
 af.move lz (fun _ _ _=>rfl) (fun b hb _=>⟨Nat.le_trans h1 hb,by omega⟩) _ _ h
end
theorem af.keep{w:World}{q B B2:Nat}{x:dR}{cs vals:List Value}(h1:B2<=B)(h2:q<B)(h:af (fun b=>B<=b) w x cs):af (fun b=>B2<=b) (ak w q 0 vals) x cs:=
 af.move (by rw[aA];exact Nat.le_refl _) (fun b hb _=>aL _ _ 0 _ b (by omega)) (fun b hb _=>Nat.le_trans h1 hb) _ _ h
theorem iC{g:eX}{f:dR->Nat->eX}(h:(il g f).2.2≠-1):g.2.2≠-1:=by
 unfold il at h;split at h
 ·next he=>rw[he];decide
 ·exact h
theorem Ex(m:Nat)(hT:BM m)(hP:L6 m):BM (m+1):=by
 intro w g lv l k d h hd hne;obtain⟨a0,n0,c0,rfl⟩:=h.sl;have hR:=Rs.start h;have h1:=h.step ((Below.refl _ w).alloc lz (.cells fH 52));have Ay:=h.le;have Az:=h.small;rw[ai] at hne ⊢;have An:=mE _ g _ l k dz h1
 by_cases s1:bK (l.drop k) dz=true
 ·rw[if_neg (by rw[s1];simp)] at hne ⊢
  rw[s1] at An;rw[if_pos s1] at hne ⊢
  by_cases hd6:64<=d
  ·rw[if_pos hd6]
   clear hne;go_enter Tryz.func217,Tryz.ntmps217;go_wp2_with fail;refine An.mono ?_;rintro _ w2 ⟨rfl,hb2⟩;have h2:=h1.step hb2;have Ai:=hR.below hb2;go_wp2_with fail;refine (qm w2 g _ k d h2.box hd6).mono ?_;rintro _ w3 ⟨rfl,hc9,hs3⟩;have Aa:=Ai.step hs3;clear hs3 Ai h2 hb2 hR h1 h;have As:=Aa.res.lt;have HR:=Jh Aa hc9;have Ab:=Aa.res;clear Aa hc9;obtain⟨Ac,Af,Ad,Ag,Ae,Ah⟩:=Ab.n3 rfl;clear Ab;go_wp2;obtain⟨Aa,hc9⟩:=HR.out;have hq:=((Aa.res.setI 0 (.string ⟨#[]⟩)).setI 1 (.string ⟨#[]⟩)).setI 2 (.slice none 0 0);obtain⟨hx,hy,hz⟩:=hq.m3 rfl;refine bodyPost_ret (v:=.agg #[.string ⟨#[]⟩,.string ⟨#[]⟩,.slice none 0 0]) (by simp[results,Tryz.results217,go_sem,hx,hy,hz]) rfl ?_;have Ak:=Aa.fin [.string ⟨#[]⟩,.string ⟨#[]⟩,.slice none 0 0];have Aj:=Aa.prc hc9 [.string ⟨#[]⟩,.string ⟨#[]⟩,.slice none 0 0];show XP g (.slice a0 n0 c0) k _ w _ (ak w3 w.heap.size 0 [.string ⟨#[]⟩,.string ⟨#[]⟩,.slice none 0 0]);exact⟨Ak,Aj,_,_,_,_,_,rfl,fun h=>by cases h⟩
  ·rw[if_neg hd6,List.drop_drop] at hne
   rw[if_neg hd6,List.drop_drop];have Au:=bI s1;rw[List.length_drop] at Au;have Ap:=iC hne;simp only[dO] at Ap;have Ao:=fun w3 h3=>hT w3 g (.slice a0 n0 c0) l (k+1) (d+1) h3 (by omega) Ap;rw[show ((d+1:Nat):Int)=(d:Int)+1 by omega] at Ao;clear hne Ap;generalize ai m .tight (l.drop (k+1)) (d+1)=r1 at *;obtain⟨x1,n1,e1⟩:=r1;go_enter Tryz.func217,Tryz.ntmps217;go_wp2_with fail;refine An.mono ?_;rintro _ w2 ⟨rfl,hb2⟩;have h2:=h1.step hb2;have Ai:=hR.below hb2;go_wp2_with fail;refine (nJ w2 g _ k d h2.box (by omega) (by omega)).mono ?_;rintro _ w3 ⟨rfl,hc3,hs3⟩;have h3:=h2.go hs3 hc3 (by omega);have Am:=Ai.step hs3;go_wp2_with fail;refine (Ao w3 h3).mono ?_;rintro _ w4 ⟨hs4,hc9,o,t,a,n,c,rfl,hX⟩;have Aa:=Am.step hs4;have Aq:=Am.res.lt;have Ar:=Am.save.size;have HX:=Hh hX;clear hX hs4 Am h3 hs3 hc3 Ai h2 hb2 hR h1 h Ao;simp only at hc9;have As:=Aa.res.lt;have HR:=Jh Aa hc9;have Ab:=Aa.res;clear Aa hc9;obtain⟨Ac,Af,Ad,Ag,Ae,Ah⟩:=Ab.n3 rfl;clear Ab;have At:=HR.out.1.save.size;go_wp2;obtain⟨Aa,hc9⟩:=HR.out;have hq:=(((Aa.res.setI 0 (.string dz)).setI 1 (.string ⟨#[]⟩)).setI 2 (.slice (some ⟨w4.heap.size,0,none⟩) 1 1)).alloc (.cells #[.string o,.string t,.slice a n c] 52)
   obtain⟨hx,hy,hz⟩:=hq.m3 rfl;refine bodyPost_ret (v:=.agg #[.string dz,.string ⟨#[]⟩,.slice (some ⟨w4.heap.size,0,none⟩) 1 1]) (by simp[results,Tryz.results217,go_sem,hx,hy,hz]) rfl ?_;have Ak:=(Aa.fin [.string dz,.string ⟨#[]⟩,.slice (some ⟨w4.heap.size,0,none⟩) 1 1]).alloc (.cells #[.string o,.string t,.slice a n c] 52);have Aj:=(Aa.prc hc9 [.string dz,.string ⟨#[]⟩,.slice (some ⟨w4.heap.size,0,none⟩) 1 1]).alloc (.cells #[.string o,.string t,.slice a n c] 52);show XP g (.slice a0 n0 c0) k _ w _ ((ak w4 w.heap.size 0 [.string dz,.string ⟨#[]⟩,.slice (some ⟨w4.heap.size,0,none⟩) 1 1]).alloc (.cells #[.string o,.string t,.slice a n c] 52))
   by_cases he:e1=0
   ·subst he
    rw[show k+1+n1=k+(1+n1) by omega] at Aj;rw[bP (by rfl)];simp only[dO];exact⟨Ak,Aj,_,_,_,_,_,rfl,fun _=>NC (q:=w.heap.size) (op:=dz) (text:=⟨#[]⟩) (vals:=[.string dz,.string ⟨#[]⟩,.slice (some ⟨w4.heap.size,0,none⟩) 1 1]) At (af.past (HX.out rfl) Ar Aq)⟩
   ·rw[show k+1+n1=k+(1+n1) by omega] at Aj
    rw[aZ (by exact he)];exact⟨Ak,Aj,_,_,_,_,_,rfl,fun h=>absurd h he⟩
 ·have Aw:bK (l.drop k) dz=false:=by simpa using s1
  rw[Aw] at An
  by_cases s2:bK (l.drop k) jB=true
  ·rw[if_neg (by rw[s2];simp)] at hne ⊢
   rw[if_neg s1] at hne ⊢
   by_cases hd6:64<=d
   ·rw[if_pos hd6]
    clear hne;go_enter Tryz.func217,Tryz.ntmps217;go_wp2_with fail;refine An.mono ?_;rintro _ w1 ⟨rfl,hb1⟩;have Al:=h1.step hb1;go_wp2_with fail;refine (mE _ g _ l k jB Al).mono ?_;rw[s2];rintro _ w2 ⟨rfl,hb9⟩;have hb2:Below (w.alloc (.cells fH 52)).heap.size (w.alloc (.cells fH 52)) w2:=hb1.trans (hb9.mono hb1.size);clear hb9 hb1 Al;have h2:=h1.step hb2;have Ai:=hR.below hb2;go_wp2_with fail;refine (qm w2 g _ k d h2.box hd6).mono ?_;rintro _ w3 ⟨rfl,hc9,hs3⟩;have Aa:=Ai.step hs3;clear hs3 Ai h2 hb2 hR h1 h;have As:=Aa.res.lt;have HR:=Jh Aa hc9;have Ab:=Aa.res;clear Aa hc9;obtain⟨Ac,Af,Ad,Ag,Ae,Ah⟩:=Ab.n3 rfl;clear Ab;go_wp2;obtain⟨Aa,hc9⟩:=HR.out;have hq:=((Aa.res.setI 0 (.string ⟨#[]⟩)).setI 1 (.string ⟨#[]⟩)).setI 2 (.slice none 0 0);obtain⟨hx,hy,hz⟩:=hq.m3 rfl;refine bodyPost_ret (v:=.agg #[.string ⟨#[]⟩,.string ⟨#[]⟩,.slice none 0 0]) (by simp[results,Tryz.results217,go_sem,hx,hy,hz]) rfl ?_;have Ak:=Aa.fin [.string ⟨#[]⟩,.string ⟨#[]⟩,.slice none 0 0];have Aj:=Aa.prc hc9 [.string ⟨#[]⟩,.string ⟨#[]⟩,.slice none 0 0];show XP g (.slice a0 n0 c0) k _ w _ (ak w3 w.heap.size 0 [.string ⟨#[]⟩,.string ⟨#[]⟩,.slice none 0 0]);exact⟨Ak,Aj,_,_,_,_,_,rfl,fun h=>by cases h⟩
   ·rw[if_neg hd6,List.drop_drop] at hne
    rw[if_neg hd6,List.drop_drop];have Au:=bI s2;rw[List.length_drop] at Au;have Ap:=iC hne;simp only[dO] at Ap;have Ao:=fun w3 h3=>hT w3 g (.slice a0 n0 c0) l (k+1) (d+1) h3 (by omega) Ap;rw[show ((d+1:Nat):Int)=(d:Int)+1 by omega] at Ao;clear hne Ap;generalize ai m .tight (l.drop (k+1)) (d+1)=r1 at *;obtain⟨x1,n1,e1⟩:=r1;go_enter Tryz.func217,Tryz.ntmps217;go_wp2_with fail;refine An.mono ?_;rintro _ w1 ⟨rfl,hb1⟩;have Al:=h1.step hb1;go_wp2_with fail;refine (mE _ g _ l k jB Al).mono ?_;rw[s2];rintro _ w2 ⟨rfl,hb9⟩;have hb2:Below (w.alloc (.cells fH 52)).heap.size (w.alloc (.cells fH 52)) w2:=hb1.trans (hb9.mono hb1.size);clear hb9 hb1 Al;have h2:=h1.step hb2;have Ai:=hR.below hb2;go_wp2_with fail;refine (nJ w2 g _ k d h2.box (by omega) (by omega)).mono ?_;rintro _ w3 ⟨rfl,hc3,hs3⟩;have h3:=h2.go hs3 hc3 (by omega);have Am:=Ai.step hs3;go_wp2_with fail;refine (Ao w3 h3).mono ?_;rintro _ w4 ⟨hs4,hc9,o,t,a,n,c,rfl,hX⟩;have Aa:=Am.step hs4;have Aq:=Am.res.lt;have Ar:=Am.save.size;have HX:=Hh hX;clear hX hs4 Am h3 hs3 hc3 Ai h2 hb2 hR h1 h Ao;simp only at hc9;have As:=Aa.res.lt;have HR:=Jh Aa hc9;have Ab:=Aa.res;clear Aa hc9;obtain⟨Ac,Af,Ad,Ag,Ae,-⟩:=Ab.n3 rfl
    have Ah:=Ab.frozen 2;clear Ab;have At:=HR.out.1.save.size;go_wp2;obtain⟨Aa,hc9⟩:=HR.out;have hq:=(((Aa.res.setI 0 (.string pE)).setI 1 (.string ⟨#[]⟩)).setI 2 (.slice (some ⟨w4.heap.size,0,none⟩) 1 1)).alloc (.cells #[.string o,.string t,.slice a n c] 52);obtain⟨hx,hy,hz⟩:=hq.m3 rfl;refine bodyPost_ret (v:=.agg #[.string pE,.string ⟨#[]⟩,.slice (some ⟨w4.heap.size,0,none⟩) 1 1]) (by simp[results,Tryz.results217,go_sem,hx,hy,hz]) rfl ?_;have Ak:=(Aa.fin [.string pE,.string ⟨#[]⟩,.slice (some ⟨w4.heap.size,0,none⟩) 1 1]).alloc (.cells #[.string o,.string t,.slice a n c] 52);have Aj:=(Aa.prc hc9 [.string pE,.string ⟨#[]⟩,.slice (some ⟨w4.heap.size,0,none⟩) 1 1]).alloc (.cells #[.string o,.string t,.slice a n c] 52);show XP g (.slice a0 n0 c0) k _ w _ ((ak w4 w.heap.size 0 [.string pE,.string ⟨#[]⟩,.slice (some ⟨w4.heap.size,0,none⟩) 1 1]).alloc (.cells #[.string o,.string t,.slice a n c] 52))
    by_cases he:e1=0
    ·subst he
     rw[show k+1+n1=k+(1+n1) by omega] at Aj;rw[bP (by rfl)];simp only[dO];exact⟨Ak,Aj,_,_,_,_,_,rfl,fun _=>NC (q:=w.heap.size) (op:=pE) (text:=⟨#[]⟩) (vals:=[.string pE,.string ⟨#[]⟩,.slice (some ⟨w4.heap.size,0,none⟩) 1 1]) At (af.past (HX.out rfl) Ar Aq)⟩
    ·rw[show k+1+n1=k+(1+n1) by omega] at Aj
     rw[aZ (by exact he)];exact⟨Ak,Aj,_,_,_,_,_,rfl,fun h=>absurd h he⟩
  ·have Ax:bK (l.drop k) jB=false:=by simpa using s2
   rw[if_pos ⟨Aw,Ax⟩] at hne ⊢;have Av:=fun w3 h3=>hP w3 g (.slice a0 n0 c0) l k d h3 hd hne;clear hne;generalize ai m .post (l.drop k) d=r1 at *;obtain⟨x1,n1,e1⟩:=r1;go_enter Tryz.func217,Tryz.ntmps217;go_wp2_with fail;refine An.mono ?_;rintro _ w1 ⟨rfl,hb1⟩;have Al:=h1.step hb1;go_wp2_with fail;refine (mE _ g _ l k jB Al).mono ?_;rw[Ax];rintro _ w2 ⟨rfl,hb2⟩;have h2:=Al.step hb2;have Ai:=(hR.below hb1).below hb2;go_wp2_with fail;refine (Av w2 h2).mono ?_;rintro _ w4 ⟨hs4,hc9,o,t,a,n,c,rfl,hX⟩;have Aa:=Ai.step hs4;have Aq:=Ai.res.lt;have Ar:=Ai.save.size;have HX:=Hh hX;clear hX hs4 Ai h2 hb2 Al hb1 hR h1 h Av;simp only at hc9;have As:=Aa.res.lt;have HR:=Jh Aa hc9;have Ab:=Aa.res;clear Aa hc9;obtain⟨Ac,Af,Ad,Ag,Ae,Ah⟩:=Ab.n3 rfl;clear Ab;go_wp2;obtain⟨Aa,hc9⟩:=HR.out;have hq:=((Aa.res.setI 0 (.string o)).setI 1 (.string t)).setI 2 (.slice a n c);obtain⟨hx,hy,hz⟩:=hq.m3 rfl;refine bodyPost_ret (v:=.agg #[.string o,.string t,.slice a n c]) (by simp[results,Tryz.results217,go_sem,hx,hy,hz]) rfl ?_;have Ak:=Aa.fin [.string o,.string t,.slice a n c];have Aj:=Aa.prc hc9 [.string o,.string t,.slice a n c];show XP g (.slice a0 n0 c0) k _ w _ (ak w4 w.heap.size 0 [.string o,.string t,.slice a n c])
   exact⟨Ak,Aj,_,_,_,_,_,rfl,fun he=>af.keep Ar Aq (HX.out he)⟩
end Go.Proofs.YtbcdaaobbebooaaGreatDoor
