import Derived.Test.YtbcdaaobbebooaaGreatDoorKgn
set_option linter.unusedSimpArgs false
set_option linter.unusedVariables false
set_option maxRecDepth 100000
set_option maxHeartbeats 20000000
namespace Go.Proofs.YtbcdaaobbebooaaGreatDoor
structure fF where
 toks:List ag
 stop:Int
 last:Bool
def dX(size:Int):List ag->List ag->List fF
 |[],cur=>[⟨cur,size,true⟩]
 |t::r,cur=>if t.kind=6\/t.kind=7 then dX size r cur else if t.kind=5 then ⟨cur,t.pos,false⟩::dX size r [] else dX size r (cur++[t])
def rC(size:Int):List fF->List bA->List bA×Int×Int
 |[],st=>if 1<st.length then ([],size,2) else ((st.head?.getD bW).items,-1,0)
 |r::l,st=>if (bB st r.toks r.stop r.last).2.2≠0 then ([],(bB st r.toks r.stop r.last).2) else rC size l (bB st r.toks r.stop r.last).1
theorem qf(size:Int):∀(toks:List ag) (st:List bA) (row:List ag),bN size toks st row=rC size (dX size toks row) st
 | [],st,row=>by
  simp only[bN,dX,rC]
 | t::r,st,row=>by
  rw[bN,dX]
  by_cases h6:t.kind=6\/t.kind=7
  ·rw[if_pos h6,if_pos h6];exact qf size r st row
  ·rw[if_neg h6,if_neg h6]
   by_cases h5:t.kind=5
   ·rw[if_pos h5,if_pos h5,rC]
    simp only[qf size r]
   ·rw[if_neg h5,if_neg h5];exact qf size r st (row++[t])
structure F4 where
 l:List bA
 n:Nat
 at_:Int
 e:Int
def bJ(size:Int):Nat->List fF->Nat->List bA->Nat->F4
 |0,_,_,_,_=>⟨[],0,0,-1⟩
 |_+1,[],d,out,n=>if 0<d then ⟨[],0,size,2⟩ else ⟨out,n,0,0⟩
 | f+1,r::l,d,out,n=>match aY (d+1) r.toks r.stop r.last with
  |.wrong a e=>⟨[],0,a,e⟩
  |.empty=>bJ size f l d out (n+1)
  |.attr x=>bJ size f l d (out++[x]) (n+1)
  |.bare x=>bJ size f l d (out++[x]) (n+1)
  |.fin=>⟨out,n+1,0,0⟩
  |.begins x=>
   let g:=bJ size f l (d+1) [] 0
   if g.e≠0 then ⟨[],0,g.at_,g.e⟩ else bJ size f (l.drop g.n) d (out++[.mk x.block x.name x.value x.labels g.l]) (n+(g.n+1))
def bA.addAll:bA->List bA->bA
 |.mk b n v l i,o=>.mk b n v l (i++o)
theorem yF(t:bA):t.addAll []=t:=by cases t;simp[bA.addAll]
theorem rZ(t x:bA)(o:List bA):(t.addAll o).add x=t.addAll (o++[x]):=by cases t;simp[bA.addAll,bA.add]
theorem JE(x:bA)(l:List bA)(h:x.items=[]):x.addAll l=.mk x.block x.name x.value x.labels l:=by cases x;simp only[bA.items] at h;subst h;rfl
theorem BJ{n:Nat}{row:List ag}{stop:Int}{last:Bool}{x:bA}(h:aY n row stop last=.begins x):x.items=[]:=by
 unfold aY at h
 cases row with
 |nil=>cases h
 |cons t r=>
  simp only at h;split at h
  ·split at h
   ·unfold dZ at h;simp only[List.getElem?_cons_zero] at h;cases h
   ·split at h
    ·unfold dZ at h;split at h;(· cases h);split at h<;>cases h
    ·cases h
  ·split at h
   ·unfold dZ at h;simp only[List.getElem?_cons_zero] at h;cases h
   ·split at h
    ·unfold jI dZ at h
     repeat' split at h
     all_goals cases h
    ·unfold fE dZ at h
     simp only at h;repeat' split at h
     all_goals first|(cases h;done)|(cases h;rfl)
theorem sH{size:Int}{r:fF}{l:List fF}{st:List bA}{k:oL}(h:aY st.length r.toks r.stop r.last=k)(h0:(dJ st k).2.2=0):rC size (r::l) st=rC size l (dJ st k).1:=by
 rw[rC,iW,h,if_neg (fun q=>q h0)]
theorem Ka{size:Int}{r:fF}{l:List fF}{st:List bA}{a e:Int}(h:aY st.length r.toks r.stop r.last=.wrong a e)(h0:e≠0):rC size (r::l) st=([],a,e):=by
 rw[rC,iW,h,if_pos (by exact h0)];rfl
theorem mD(size:Int)(f:Nat)(r:fF)(l:List fF)(d:Nat)(out:List bA)(n:Nat):bJ size (f+1) (r::l) d out n=(match aY (d+1) r.toks r.stop r.last with
  |.wrong a e=>⟨[],0,a,e⟩
  |.empty=>bJ size f l d out (n+1)
  |.attr x=>bJ size f l d (out++[x]) (n+1)
  |.bare x=>bJ size f l d (out++[x]) (n+1)
  |.fin=>⟨out,n+1,0,0⟩
  |.begins x=>if (bJ size f l (d+1) [] 0).e≠0 then ⟨[],0,(bJ size f l (d+1) [] 0).at_,(bJ size f l (d+1) [] 0).e⟩ else bJ size f (l.drop (bJ size f l (d+1) [] 0).n) d (out++[.mk x.block x.name x.value x.labels (bJ size f l (d+1) [] 0).l]) (n+((bJ size f l (d+1) [] 0).n+1))):=by rw[bJ]
theorem jg(size:Int):∀(f:Nat) (l:List fF) (d:Nat) (out:List bA) (n:Nat) (st:List bA) (top:bA),l.length<f->st.length=d->
  ((bJ size f l d out n).e≠0->rC size l (st++[top.addAll out])=([],(bJ size f l d out n).at_,(bJ size f l d out n).e))/\
  ((bJ size f l d out n).e=0->n<=(bJ size f l d out n).n/\(bJ size f l d out n).n<=n+l.length/\
   (0<d->rC size l (st++[top.addAll out])=rC size (l.drop ((bJ size f l d out n).n-n)) (iJ st (top.addAll (bJ size f l d out n).l)))/\
   (d=0->rC size l (st++[top.addAll out])=((top.addAll (bJ size f l d out n).l).items,-1,0)))
 |0,l,d,out,n,st,top,hf,_=>by omega
 | f+1,[],d,out,n,st,top,hf,hs=>by
  rw[bJ]
  by_cases hd:0<d
  ·rw[if_pos hd]
   refine⟨fun _=>?_,fun h=>by cases h⟩;rw[rC,if_pos (by simp;omega)]
  ·obtain rfl:d=0:=by omega
   obtain rfl:=List.eq_nil_of_length_eq_zero hs;rw[if_neg hd];refine⟨fun h=>absurd rfl h,fun _=>⟨Nat.le_refl _,by simp,fun h=>absurd h hd,fun _=>?_⟩⟩;simp[rC]
 | f+1,r::l,d,out,n,st,top,hf,hs=>by
  simp only[List.length_cons] at hf;have hlen:(st++[top.addAll out]).length=d+1:=by simp[hs]
  rw[mD]
  cases hk:aY (d+1) r.toks r.stop r.last with
  |wrong a e=>
   have he:e≠0:=by
    rcases vO (d+1) r.toks r.stop r.last with ⟨a2,e2,h1,h2⟩|h
    ·rw[hk] at h2;cases h2;exact h1
    ·rw[hk] at h
     revert h
     generalize r.toks=p;intro h;cases h
   rw[Ka (by rw[hlen];exact hk) he];exact⟨fun _=>rfl,fun h=>absurd h he⟩
  |empty=>
   rw[sH (k:=oL.empty) (by rw[hlen];exact hk) rfl];simp only[dJ];obtain⟨h1,h2⟩:=jg size f l d out (n+1) st top (by omega) hs;refine⟨h1,fun h=>?_⟩;obtain⟨q1,q2,q3,q4⟩:=h2 h;refine⟨by omega,by simp only[List.length_cons];omega,fun hd=>?_,q4⟩;rw[q3 hd];obtain⟨m,hm⟩:∃m,(bJ size f l d out (n+1)).n=n+1+m:=⟨_,(Nat.add_sub_cancel' q1).symm⟩;rw[hm,show n+1+m-(n+1)=m by omega,show n+1+m-n=m+1 by omega,List.drop_succ_cons]
  |attr x=>
   rw[sH (k:=(oL.attr x)) (by rw[hlen];exact hk) rfl];simp only[dJ];rw[jy,rZ];obtain⟨h1,h2⟩:=jg size f l d (out++[x]) (n+1) st top (by omega) hs;refine⟨h1,fun h=>?_⟩;obtain⟨q1,q2,q3,q4⟩:=h2 h;refine⟨by omega,by simp only[List.length_cons];omega,fun hd=>?_,q4⟩;rw[q3 hd];obtain⟨m,hm⟩:∃m,(bJ size f l d (out++[x]) (n+1)).n=n+1+m:=⟨_,(Nat.add_sub_cancel' q1).symm⟩;rw[hm,show n+1+m-(n+1)=m by omega,show n+1+m-n=m+1 by omega,List.drop_succ_cons]
  |bare x=>
   rw[sH (k:=(oL.bare x)) (by rw[hlen];exact hk) rfl];simp only[dJ];rw[jy,rZ];obtain⟨h1,h2⟩:=jg size f l d (out++[x]) (n+1) st top (by omega) hs;refine⟨h1,fun h=>?_⟩;obtain⟨q1,q2,q3,q4⟩:=h2 h;refine⟨by omega,by simp only[List.length_cons];omega,fun hd=>?_,q4⟩;rw[q3 hd];obtain⟨m,hm⟩:∃m,(bJ size f l d (out++[x]) (n+1)).n=n+1+m:=⟨_,(Nat.add_sub_cancel' q1).symm⟩;rw[hm,show n+1+m-(n+1)=m by omega,show n+1+m-n=m+1 by omega,List.drop_succ_cons]
  |fin=>
   have hd:d≠0:=by have:=qi hk;omega
   rw[sH (k:=oL.fin) (by rw[hlen];exact hk) rfl];simp only[dJ];refine⟨fun h=>absurd rfl h,fun _=>⟨by omega,by simp only[List.length_cons];omega,fun _=>?_,fun h=>absurd h hd⟩⟩;rw[show n+1-n=0+1 by omega,List.drop_succ_cons,List.drop_zero];simp
  |begins x=>
   rw[sH (k:=(oL.begins x)) (by rw[hlen];exact hk) rfl];simp only[dJ];have hx:=BJ hk;obtain⟨h1,h2⟩:=jg size f l (d+1) [] 0 (st++[top.addAll out]) x (by omega) hlen;rw[yF] at h1 h2;generalize hg:bJ size f l (d+1) [] 0=g at *
   by_cases he:g.e=0
   ·rw[if_neg (fun q=>q he)]
    obtain⟨q1,q2,q3,-⟩:=h2 he;rw[q3 (by omega),jy,Nat.sub_zero,JE x g.l hx,rZ];obtain⟨h3,h4⟩:=jg size f (l.drop g.n) d (out++[.mk x.block x.name x.value x.labels g.l]) (n+(g.n+1)) st top (by rw[List.length_drop];omega) hs;refine⟨h3,fun h=>?_⟩;obtain⟨p1,p2,p3,p4⟩:=h4 h;rw[List.length_drop] at p2;refine⟨by omega,by simp only[List.length_cons];omega,fun hd=>?_,p4⟩;rw[p3 hd];obtain⟨m,hm⟩:∃m,(bJ size f (l.drop g.n) d (out++[.mk x.block x.name x.value x.labels g.l]) (n+(g.n+1))).n=n+(g.n+1)+m:=⟨_,(Nat.add_sub_cancel' p1).symm⟩;rw[hm,show n+(g.n+1)+m-(n+(g.n+1))=m by omega,show n+(g.n+1)+m-n=g.n+m+1 by omega,List.drop_succ_cons,List.drop_drop]
   ·rw[if_pos he]
    exact⟨fun _=>h1 he,fun h=>absurd h he⟩
theorem Br(size:Int)(toks:List ag):bN size toks [bW] [] =
  (if (bJ size ((dX size toks []).length+1) (dX size toks []) 0 [] 0).e≠0 then ([],(bJ size ((dX size toks []).length+1) (dX size toks []) 0 [] 0).at_,(bJ size ((dX size toks []).length+1) (dX size toks []) 0 [] 0).e)
   else ((bJ size ((dX size toks []).length+1) (dX size toks []) 0 [] 0).l,-1,0)):=by
 rw[qf];obtain⟨h1,h2⟩:=jg size ((dX size toks []).length+1) (dX size toks []) 0 [] 0 [] bW (by omega) rfl;rw[yF,List.nil_append] at h1 h2;generalize bJ size ((dX size toks []).length+1) (dX size toks []) 0 [] 0=g at *
 by_cases he:g.e=0
 ·rw[if_neg (fun q=>q he),(h2 he).2.2.2 rfl]
  rfl
 ·rw[if_pos he,h1 he]
end Go.Proofs.YtbcdaaobbebooaaGreatDoor
namespace Go.Proofs.YtbcdaaobbebooaaGreatDoor
open Go.RowKit Go.Tab
def Bp(d:j5×fF):List Value:=[eO d.1,.int .i64 d.2.stop,.bool d.2.last]
theorem Tryz.infoLn:(Tryz.prog.info? 137).map (fun i=>(i.zero,i.size,i.bytes))=some (some (.agg #[.slice none 0 0,.int .i64 0,.bool false]),3,40):=by kernel_rfl
def Ej(B:Nat)(w:World)(v:Value)(R:List fF):Prop:=
 ∃D:List (j5×fF),D.map (·.2)=R/\w.ownsRow B 137 3 v D.length (D.flatMap Bp)/\∀d∈D,aO B w (eO d.1) d.2.toks
theorem Ej.below{B:Nat}{w w':World}{v:Value}{R:List fF}(h:Ej B w v R)(hb:Below w.heap.size w w'):Ej B w' v R:=by
 obtain⟨D,h1,h2,h3⟩:=h;exact⟨D,h1,bZ h2 (fun k e=>hb.block k (World.ownsRow.lt h2 k e).2),fun d hd=>(h3 d hd).below hb lz⟩
theorem Ej.len{B:Nat}{w:World}{v:Value}{R:List fF}(h:Ej B w v R):∃a cap,v=.slice a R.length cap/\R.length<=cap/\cap<=maxLen:=by
 obtain⟨D,rfl,Aa,-⟩:=h;obtain⟨h1,h2⟩:=Aa;rcases h2 with ⟨rfl,h3⟩|⟨g,cap,cur,rfl,hb,hg,h3,h4,-⟩
 ·rw[List.length_map,h3];exact⟨none,0,rfl,Nat.le_refl _,Nat.zero_le _⟩
 ·rw[List.length_map];exact⟨_,cap,rfl,h3,h4⟩
theorem DU:∀(D:List (j5×fF)) (j:Nat) (h:j<D.length),(D.flatMap Bp)[j*3]?=some (eO D[j].1)/\(D.flatMap Bp)[j*3+1]?=some (.int .i64 D[j].2.stop)/\(D.flatMap Bp)[j*3+2]?=some (.bool D[j].2.last)
 |p::l,0,_=>by simp[Bp]
 | p::l,j+1,h=>by
  have ih:=DU l j (by simpa using h);have e1:(j+1)*3=j*3+3:=by omega
  rw[e1]
  simpa [Bp] using ih
theorem Ej.get{B:Nat}{w:World}{a:Option Addr}{n c:Nat}{R:List fF}(h:Ej B w (.slice a n c) R){j:Nat}(hj:j<R.length) :
  ∃b,∃s:j5,a=some ⟨b,0,none⟩/\b<w.heap.size/\aO B w (eO s) R[j].toks/\w.cell? ⟨b,j*3,none⟩=some (eO s)/\w.cell? ⟨b,j*3+1,none⟩=some (.int .i64 R[j].stop)/\w.cell? ⟨b,j*3+2,none⟩=some (.bool R[j].last):=by
 obtain⟨D,rfl,Aa,hD⟩:=h;rw[List.length_map] at hj;have Ab:=World.ownsRow.lt Aa;obtain⟨h1,h2⟩:=Aa;rcases h2 with ⟨h2,h3⟩|⟨g,cap,cur,h2,hb,hg,h3,h4,h5,h6⟩
 ·omega
 ·cases h2
  obtain⟨f1,f2,f3⟩:=DU D j hj;rw[<-h6,List.getElem?_take,if_pos (by omega)] at f1 f2 f3;rw[List.getElem_map];refine⟨g,D[j].1,rfl,(Ab g rfl).2,hD D[j] (List.getElem_mem hj),?_,?_,?_⟩
  all_goals rw[cell_of_row w g _ cur 137 (0,0) hg]
  ·simpa using f1
  ·simpa using f2
  ·simpa using f3
theorem Bc{base n sz:Nat}{E:TypeId}{w:World}{v:Value}{xs:List Value}(h:w.ownsRow base E sz v n xs):∃a c,v=.slice a n c:=by
 rcases h.2 with ⟨rfl,rfl⟩|⟨g,cap,cur,rfl,-⟩
 ·exact⟨none,0,rfl⟩
 ·exact⟨_,_,rfl⟩
structure F3(B:Nat)(w:World)(lv:Value)(D:List (j5×fF))(nv:j5)(cur:List ag):Prop where
 own:w.ownsRow B 137 3 lv D.length (D.flatMap Bp)
 tk:aO B w (eO nv) cur
 fin:∀d∈D,aO B w (eO d.1) d.2.toks/\∀k,(eO d.1).ownBlock=some k->(eO nv).ownBlock≠some k
section
variable {B:Nat} {w w':World} {lv v':Value} {D:List (j5×fF)} {nv:j5} {cur:List ag}
theorem F3.below(h:F3 B w lv D nv cur)(hb:Below w.heap.size w w'):F3 B w' lv D nv cur:=
 ⟨bZ h.own (fun k e=>hb.block k (World.ownsRow.lt h.own k e).2),h.tk.below hb lz,fun d hd=>⟨(h.fin d hd).1.below hb lz,(h.fin d hd).2⟩⟩
theorem F3.push(h:F3 B w lv D nv cur){st:Int}{la:Bool}(hg:w.grownBy w' lv.ownBlock)(hown:w'.ownsRow B 137 3 v' (D.length+1) (D.flatMap Bp++Bp (nv,⟨cur,st,la⟩))) :
  F3 B w' v' (D++[(nv,⟨cur,st,la⟩)]) (none,0,0) []:=by
 have hT:∀v l,aO B w v l->aO B w' v l:=fun v l hv=>hv.moved fun k e=>hg.block k (World.ownsRow.lt hv k e).2 (fun q=>nY hv h.own (by decide) k e q.symm);refine⟨?_,aO.nil,fun d hd=>?_⟩
 ·have e:(D++[(nv,(⟨cur,st,la⟩:fF))]).flatMap Bp=D.flatMap Bp++Bp (nv,⟨cur,st,la⟩):=by simp
  rw[e,List.length_append,List.length_singleton];exact hown
 ·rcases List.mem_append.1 hd with hd|hd
  ·exact⟨hT _ _ (h.fin d hd).1,fun k _ e=>by cases e⟩
  ·rw[List.mem_singleton.1 hd]
   exact⟨hT _ _ h.tk,fun k _ e=>by cases e⟩
theorem F3.tok(h:F3 B w lv D nv cur){t:ag}{gb cap:Nat}(hg:w.grownBy w' (eO nv).ownBlock)(hown:aO B w' (.slice (some ⟨gb,0,none⟩) (cur.length+1) cap) (cur++[t]))(hat:(eO nv).ownBlock=some gb\/w.heap.size<=gb) :
  F3 B w' lv D (some ⟨gb,0,none⟩,cur.length+1,cap) (cur++[t]):=by
 refine⟨bZ h.own (fun k e=>hg.block k (World.ownsRow.lt h.own k e).2 (fun q=>nY h.tk h.own (by decide) k q.symm e)),hown,fun d hd=>?_⟩;obtain⟨f1,f2⟩:=h.fin d hd;refine⟨f1.moved fun k e=>hg.block k (World.ownsRow.lt f1 k e).2 (fun q=>f2 k e q.symm),fun k e q=>?_⟩;have q:gb=k:=by simpa [eO,Value.ownBlock] using q
 subst q;rcases hat with hat|hat
 ·exact f2 _ e hat
 ·have:=(World.ownsRow.lt f1 _ e).2;omega
theorem F3.done(h:F3 B w lv D nv cur):Ej B w lv (D.map (·.2)):=⟨D,rfl,h.own,fun d hd=>(h.fin d hd).1⟩
end
theorem mV{w:World}{ops:Array Oper}{rest:List Oper}{p:Oper}{a:Act}{Q:Exit->Act->World->Prop}(hgd:p.guard=none)(s x:Operand)
  (hop:p.op=.call { callee:=.builtin .append,args:=#[s,x],argTypes:=#[90,90] }) (B:Nat) (lv:Value) (D:List (j5×fF)) (d:j5×fF) (hs:a.eval s=lv)
  (hown:w.ownsRow B 137 3 lv D.length (D.flatMap Bp)) (g:Nat) (hx:a.eval x=.slice (some ⟨g,0,none⟩) 1 1) (hc:ae w g #[eO d.1,.int .i64 d.2.stop,.bool d.2.last] 137)
  (hD:D.length<=1000000) (hbase:B<=w.heap.size)
  (hK:∀g2 c2 w',w'.ownsRow B 137 3 (.slice (some ⟨g2,0,none⟩) (D.length+1) c2) (D.length+1) (D.flatMap Bp++Bp d)->w.grownBy w' lv.ownBlock->
   wpList Tryz.prog ops Q rest (a.put p.dst (.slice (some ⟨g2,0,none⟩) (D.length+1) c2)) w'):wpList Tryz.prog ops Q (p::rest) a w:=by
 obtain⟨i,Aa,Ab,Ac,Ad⟩:=info_parts Tryz.infoLn;refine wpList_append_lies w hgd s x 90 hop B 137 i _ 3 40 Tryz.underlying90 Aa Ab Ac Ad rfl (by decide) lv D.length (D.flatMap Bp) hs hown ⟨g,0,none⟩ 1 1 (Bp d) hx rfl ?_ ?_ (by omega) (by unfold maxLen;omega) (by omega) hbase _ rfl (fun g2 c2 w' h1 h2 _ _=>hK g2 c2 w' h1 h2)
 ·intro j u hu
  rw[Addr.add_lit,Nat.zero_add];exact hc.cell _ _ (by simpa [Bp] using hu)
 ·intro u hu
  simp only[Bp,List.mem_cons,List.not_mem_nil,or_false] at hu;rcases hu with rfl|rfl|rfl<;>rfl
theorem EQ(w:World)(tv:Value)(toks:List ag)(size:Int)(h:aH w tv toks)(hk7:∀t∈toks,t.kind<5\/t.kind=5\/t.kind=6\/t.kind=7)(hn:toks.length<=1000000) :
  Calls Tryz.prog 53 #[tv,.int .i64 size] w fun e w'=>∃v,e=.returned v/\Ej w.heap.size w' v (dX size toks [])/\Below w.heap.size w w':=by
 obtain⟨a,cp,rfl,An,Aj,-⟩:=h.len;unfold maxLen at Aj;have HT:=Hh h;obtain⟨R,hR⟩:=exq (dX size toks []);rw[<-hR];have HR:=Hh hR;clear h hR;go_enter Tryz.func53,Tryz.ntmps53;go_wp2_with fail;go_loopw [5,6,7] (fun lv nv i wr=>∃(k:Nat) (D:List (j5×fF)) (s:j5) (cur:List ag),k<=toks.length/\i=.int .i64 (k:Int)/\nv=eO s/\Hid (F3 w.heap.size wr lv D s cur/\R=D.map (·.2)++dX size (toks.drop k) cur/\D.length<=k/\cur.length<=k/\Below w.heap.size w wr)) (fun _ _ i _=>toks.length-(intOf i).toNat)
 case atStart=>exact⟨0,[],(none,0,0),[],Nat.zero_le _,rfl,rfl,Hh ⟨⟨World.ownsRow_nil _ _ _ _,aO.nil,fun d hd=>by cases hd⟩,by rw[HR.out];rfl,Nat.le_refl _,Nat.le_refl _,Below.refl _ _⟩⟩
 case round=>
  obtain⟨k,D,s,cur,hk,rfl,rfl,HS⟩:=hrel;obtain⟨na,nn,nc⟩:=s;obtain⟨a',c',e'⟩:=HS.out.1.tk.len;simp only[eO,Value.slice.injEq] at e';obtain⟨rfl,rfl,rfl⟩:=e';obtain⟨la,lc,rfl⟩:=Bc HS.out.1.own;simp only[eO];have Ap:=HS.out.2.2.2.2.size
  by_cases hkl:k<toks.length
  ·obtain⟨b,Ai,rfl,Ao,c0,c1,c2⟩:=(HT.out.below HS.out.2.2.2.2 lz).get hkl
   have Ah:b<w.heap.size:=by
    obtain⟨b2,Ak,e2,h2,-⟩:=HT.out.get hkl;cases e2;exact h2
   have Ae:=HS.out.2.1;rw[List.drop_eq_getElem_cons hkl] at Ae;have Af:=hk7 _ (List.getElem_mem hkl);generalize toks[k]=t at *;obtain⟨kd,tx,ps⟩:=t;simp only at c0 c1 c2 Af;rw[dX] at Ae;have Ac:=Hh Ae;clear Ae
   by_cases h5:kd=5
   ·subst h5
    have Ad:Hid (R=D.map (·.2)++⟨cur,ps,false⟩::dX size (toks.drop (k+1)) []):=Hh (by rw[Ac.out,if_neg (by simp),if_pos rfl]);clear Ac Af;go_wp2_with (with_reducible first|refine aK ?_)
    refine Stop.out ?_;have hA:=(Below.refl _ wr).alloc lz (.cells #[.slice na cur.length nc,.int .i64 ps,.bool false] 137);refine mV rfl _ _ rfl w.heap.size (.slice la D.length lc) D ((na,cur.length,nc),⟨cur,ps,false⟩) rfl (by exact (HS.out.1.below hA).own) wr.heap.size rfl (ae.new wr _ _) (by have:=HS.out.2.2.1;omega) (by simp;omega) ?_;intro g3 c3 w3 hown3 hg3;have Ab:=(HS.out.1.below hA).push hg3 hown3;have Aa:=(HS.out.2.2.2.2.alloc HS.out.2.2.2.2.size (.cells #[.slice na cur.length nc,.int .i64 ps,.bool false] 137)).grown hg3 (by simp;omega) (fun k e=>(World.ownsRow.lt HS.out.1.own k e).1);have Al:=(Aa.cell (p:=⟨b,Ai+k*3,none⟩) Ah).trans ((HS.out.2.2.2.2.cell (p:=⟨b,Ai+k*3,none⟩) Ah).symm.trans c0);have HN:Hid (F3 w.heap.size w3 (.slice (some ⟨g3,0,none⟩) (D.length+1) c3) (D++[((na,cur.length,nc),⟨cur,ps,false⟩)]) (none,0,0) []/\R=(D++[((na,cur.length,nc),(⟨cur,ps,false⟩:fF))]).map (·.2)++dX size (toks.drop (k+1)) []/\(D++[((na,cur.length,nc),(⟨cur,ps,false⟩:fF))]).length<=k+1/\([]:List ag).length<=k+1/\Below w.heap.size w w3):=Hh ⟨Ab,by rw[Ad.out];simp,by simp;have:=HS.out.2.2.1;omega,Nat.zero_le _,Aa⟩;have Am:=Aa.size;clear Ab Aa hown3 hg3 hA c0 c1 c2;have Ag:b<w3.heap.size:=by omega
    go_wp2_with fail;go_roundw
    case rel=>exact⟨k+1,_,_,_,hkl,by go_num,rfl,HN⟩
    case measure=>simp[intOf];omega
   ·have e5:(kd==5)=false:=by simpa using h5
    by_cases h6:kd=6\/kd=7
    ·have e6:decide (kd<5)=false:=by rw[decide_eq_false_iff_not];omega
     have HN:Hid (F3 w.heap.size wr (.slice la D.length lc) D (na,cur.length,nc) cur/\R=D.map (·.2)++dX size (toks.drop (k+1)) cur/\D.length<=k+1/\cur.length<=k+1/\Below w.heap.size w wr):=Hh ⟨HS.out.1,by rw[Ac.out,if_pos h6],by have:=HS.out.2.2.1;omega,by have:=HS.out.2.2.2.1;omega,HS.out.2.2.2.2⟩;clear h5 h6 Af HS Ac;go_wp2_with fail;go_roundw
     case rel=>exact⟨k+1,_,_,_,hkl,by go_num,rfl,HN⟩
     case measure=>simp[intOf];omega
    ·have e6:decide (kd<5)=true:=by rw[decide_eq_true_iff];omega
     have Ad:Hid (R=D.map (·.2)++dX size (toks.drop (k+1)) (cur++[⟨kd,tx,ps⟩])):=Hh (by rw[Ac.out,if_neg h6,if_neg h5]);clear h5 h6 Af Ac;go_wp2_with (with_reducible first|refine aK ?_)
     refine Stop.out ?_;have hA:=(Below.refl _ wr).alloc lz (.cells #[.int .i64 kd,.string tx,.int .i64 ps] 63);refine ja rfl _ _ rfl w.heap.size cur ⟨kd,tx,ps⟩ (by exact (HS.out.1.below hA).tk) wr.heap.size rfl (ae.new wr _ _) (by have:=HS.out.2.2.2.1;omega) (by simp;omega) _ rfl ?_;intro g3 c3 w3 hown3 hg3 hat3 Ag;have Ab:=(HS.out.1.below hA).tok hg3 hown3 (hat3.imp id (fun q=>Nat.le_of_eq q.symm));have Aa:=(HS.out.2.2.2.2.alloc HS.out.2.2.2.2.size (.cells #[.int .i64 kd,.string tx,.int .i64 ps] 63)).grown hg3 (by simp;omega) (fun k e=>(World.ownsRow.lt HS.out.1.tk k e).1);have HN:Hid (F3 w.heap.size w3 (.slice la D.length lc) D (some ⟨g3,0,none⟩,cur.length+1,c3) (cur++[⟨kd,tx,ps⟩])/\R=D.map (·.2)++dX size (toks.drop (k+1)) (cur++[⟨kd,tx,ps⟩])/\D.length<=k+1/\(cur++[(⟨kd,tx,ps⟩:ag)]).length<=k+1/\Below w.heap.size w w3):=Hh ⟨Ab,Ad.out,by have:=HS.out.2.2.1;omega,by simp;have:=HS.out.2.2.2.1;omega,Aa⟩;clear Ab Aa hown3 hg3 hA c0 c1 c2;go_wp2_with fail;go_roundw
     case rel=>exact⟨k+1,_,_,_,hkl,by go_num,rfl,HN⟩
     case measure=>simp[intOf];omega
  ·obtain rfl:k=toks.length:=by omega
   have Ad:Hid (R=D.map (·.2)++[⟨cur,size,true⟩]):=Hh (by rw[HS.out.2.1,List.drop_length];rfl);go_wp2_with (with_reducible first|refine aK ?_)
   refine Stop.out ?_;have hA:=(Below.refl _ wr).alloc lz (.cells #[.slice na cur.length nc,.int .i64 size,.bool true] 137);refine mV rfl _ _ rfl w.heap.size (.slice la D.length lc) D ((na,cur.length,nc),⟨cur,size,true⟩) rfl (by exact (HS.out.1.below hA).own) wr.heap.size rfl (ae.new wr _ _) (by have:=HS.out.2.2.1;omega) (by simp;omega) ?_;intro g3 c3 w3 hown3 hg3;have Ab:=(HS.out.1.below hA).push hg3 hown3;have Aa:=(HS.out.2.2.2.2.alloc HS.out.2.2.2.2.size (.cells #[.slice na cur.length nc,.int .i64 size,.bool true] 137)).grown hg3 (by simp;omega) (fun k e=>(World.ownsRow.lt HS.out.1.own k e).1);have HN:Hid (Ej w.heap.size w3 (.slice (some ⟨g3,0,none⟩) (D.length+1) c3) R/\Below w.heap.size w w3):=Hh ⟨by rw[Ad.out];have q:=Ab.done;rw[List.map_append] at q;exact q,Aa⟩;clear Ab Aa hown3 hg3 hA;go_wp2_with fail;go_ret;exact⟨_,rfl,HN.out⟩
abbrev aW(o t:ByteArray)(kv:Value)(a e:Int):Array Value:=#[.string o,.string t,kv,.int .i64 a,.int .i64 e]
abbrev mR:Array Value:=#[.string ⟨#[]⟩,.string ⟨#[]⟩,.slice none 0 0,.int .i64 0,.int .i64 0]
structure Ls(w:World)(lv:Value)(l:List ag):Prop where
 toks:aH w lv l
 few:l.length<=1000
 short:∀t∈l,t.text.size<=1048576
 quo:∀t∈l,t.kind=3->jD t.text≠none
theorem Ls.below{w w':World}{lv:Value}{l:List ag}(h:Ls w lv l)(hb:Below w.heap.size w w'):Ls w' lv l:=⟨h.toks.below hb lz,h.few,h.short,h.quo⟩
theorem Ls.sl{w:World}{lv:Value}{l:List ag}(h:Ls w lv l):∃a c,lv=.slice a l.length c/\l.length<=c/\c<=maxLen:=by
 obtain⟨a,c,rfl,h1,h2,-⟩:=h.toks.len;exact⟨a,c,rfl,h1,h2⟩
def GP(k:Nat)(r:eX)(w:World)(e:Ending)(w':World):Prop:=
 Below w.heap.size w w'/\∃o t a n c,e=.returned (.agg (aW o t (.slice a n c) ((k+r.2.1:Nat):Int) r.2.2))/\(r.2.2=0->af (fun b=>w.heap.size<=b) w' r.1 (dQ o t (.slice a n c)))
def CC(m:Nat):Prop:=∀(w:World) (lv:Value) (l:List ag) (k d:Nat),Ls w lv l->k<=l.length->d<=64->(ai m .choice (l.drop k) d).2.2≠-1->
 Calls Tryz.prog 164 #[lv,.int .i64 (k:Nat),.int .i64 (d:Nat)] w (GP k (ai m .choice (l.drop k) d) w)
def TC(m:Nat):Prop:=∀(w:World) (lv:Value) (l:List ag) (k d n:Nat),Ls w lv l->k<=l.length->d<=64->1<=n->n<=7->(ai m (.term n) (l.drop k) d).2.2≠-1->
 Calls Tryz.prog 193 #[lv,.int .i64 (k:Nat),.int .i64 (d:Nat),.int .i64 (n:Nat)] w (GP k (ai m (.term n) (l.drop k) d) w)
def XC(m:Nat):Prop:=∀(w:World) (lv:Value) (l:List ag) (k d:Nat),Ls w lv l->k<=l.length->d<=64->(ai m .tight (l.drop k) d).2.2≠-1->
 Calls Tryz.prog 222 #[lv,.int .i64 (k:Nat),.int .i64 (d:Nat)] w (GP k (ai m .tight (l.drop k) d) w)
def PC(m:Nat):Prop:=∀(w:World) (lv:Value) (l:List ag) (k d:Nat),Ls w lv l->k<=l.length->d<=64->(ai m .post (l.drop k) d).2.2≠-1->
 Calls Tryz.prog 234 #[lv,.int .i64 (k:Nat),.int .i64 (d:Nat)] w (GP k (ai m .post (l.drop k) d) w)
def QC(m:Nat):Prop:=∀(w:World) (lv:Value) (l:List ag) (k d:Nat),Ls w lv l->k<=l.length->d<=64->(ai m .prime (l.drop k) d).2.2≠-1->
 Calls Tryz.prog 237 #[lv,.int .i64 (k:Nat),.int .i64 (d:Nat)] w (GP k (ai m .prime (l.drop k) d) w)
def MC(m:Nat):Prop:=∀(w:World) (lv:Value) (l:List ag) (k d:Nat) (s:ByteArray),Ls w lv l->k<l.length->d<=64->s=p9\/s=o9->(ai m (.many s) (l.drop k) d).2.2≠-1->
 Calls Tryz.prog 239 #[lv,.int .i64 (k:Nat),.int .i64 (d:Nat),.string s] w (GP k (ai m (.many s) (l.drop k) d) w)
theorem zt(a b:ByteArray):(a.toList==b.toList)=decide (a=b):=by
 by_cases h:a=b
 ·subst h;simp
 ·rw[decide_eq_false h];exact nT h
theorem fC(w:World)(lv:Value)(l:List ag)(k:Nat)(s:ByteArray)(h:aH w lv l)(hl:l.length<=1000)(hk:k<=l.length+1):Calls Tryz.prog 194 #[lv,.int .i64 (k:Nat),.string s] w fun e w'=>e=.returned (.bool (bK (l.drop k) s))/\w=w':=by
 obtain⟨a,c,rfl,h1,h2,-⟩:=h.len;unfold maxLen at h2
 by_cases hkl:k<l.length
 ·obtain⟨b,Ab,rfl,Aa,q0,q1,q2⟩:=h.get hkl
  have HD:Hid (bK (l.drop k) s=(decide (l[k].kind=4)&&decide (l[k].text=s))):=Hh (by rw[List.drop_eq_getElem_cons hkl];rfl);generalize l[k]=t at *;obtain⟨kd,tx,ps⟩:=t;simp only at q0 q1 HD;clear h q2
  have ek:(kd==4)=decide (kd=4):=by
   by_cases h:kd=4
   ·subst h;simp
   ·rw[decide_eq_false h];simpa using h
  have et:=zt tx s;generalize decide (kd=4)=bk at *;generalize decide (tx=s)=bt at *;go_enter Tryz.func194,Tryz.ntmps194;cases bk<;>cases bt
  all_goals
   go_wp2;go_ret;exact⟨by rw[HD.out];rfl,rfl⟩
 ·have HD:Hid (bK (l.drop k) s=false):=Hh (by rw[List.drop_eq_nil_of_le (by omega)];rfl)
  clear h;go_enter Tryz.func194,Tryz.ntmps194;go_wp2;go_ret;exact⟨by rw[HD.out];rfl,rfl⟩
theorem LJ(l:List ag)(k:Nat)(hk:k<=l.length):cZ (l.drop k) 0=(aU,0,if k=l.length then 2 else 3):=by
 unfold cZ
 by_cases h:k=l.length
 ·rw[if_pos (by rw[List.drop_eq_nil_iff];omega),if_pos h]
 ·rw[if_neg (by rw[List.drop_eq_nil_iff];omega),if_neg h]
theorem lC(w:World)(lv:Value)(l:List ag)(k:Nat)(h:aH w lv l)(hl:l.length<=1000)(hk:k<=l.length) :
  Calls Tryz.prog 195 #[lv,.int .i64 (k:Nat)] w fun e w'=>e=.returned (.agg (aW ⟨#[]⟩ ⟨#[]⟩ (.slice none 0 0) (k:Int) (cZ (l.drop k) 0).2.2))/\Below w.heap.size w w':=by
 obtain⟨a,c,rfl,h1,h2,-⟩:=h.len;unfold maxLen at h2;rw[LJ l k hk];clear h
 by_cases hkl:k=l.length
 ·subst hkl
  rw[if_pos rfl];go_enter Tryz.func195,Tryz.ntmps195;go_wp2;have hq:=ae.new w (aW ⟨#[]⟩ ⟨#[]⟩ (.slice none 0 0) (l.length:Nat) 2) 163;obtain⟨Aa,Ab,Ac,Ad,Ae⟩:=hq.m5 rfl;refine bodyPost_ret (v:=.agg (aW ⟨#[]⟩ ⟨#[]⟩ (.slice none 0 0) (l.length:Nat) 2)) (by simp[results,Tryz.results195,go_sem,Aa,Ab,Ac,Ad,Ae]) rfl ?_;exact⟨rfl,(Below.refl _ w).alloc lz _⟩
 ·rw[if_neg hkl]
  have Af:k<l.length:=by omega
  go_enter Tryz.func195,Tryz.ntmps195;go_wp2;have hq:=ae.new w (aW ⟨#[]⟩ ⟨#[]⟩ (.slice none 0 0) (k:Nat) 3) 163;obtain⟨Aa,Ab,Ac,Ad,Ae⟩:=hq.m5 rfl;refine bodyPost_ret (v:=.agg (aW ⟨#[]⟩ ⟨#[]⟩ (.slice none 0 0) (k:Nat) 3)) (by simp[results,Tryz.results195,go_sem,Aa,Ab,Ac,Ad,Ae]) rfl ?_;exact⟨rfl,(Below.refl _ w).alloc lz _⟩
theorem Oh{w W:World}{k:Nat}{r:eX}{o t:ByteArray}{a:Option Addr}{n c:Nat}{pa pe:Int}(h1:pa=((k+r.2.1:Nat):Int))(h2:pe=r.2.2)(hb:Below w.heap.size w W)(hX:r.2.2=0->af (fun b=>w.heap.size+1<=b) W r.1 (dQ o t (.slice a n c))) :
  GP k r w (.returned (.agg (aW o t (.slice a n c) pa pe))) (ak W w.heap.size 0 [.string o,.string t,.slice a n c,.int .i64 pa,.int .i64 pe]):=by
 subst h1 h2;refine⟨aS w.heap.size w.heap.size lz _ 0 _ _ hb,o,t,a,n,c,rfl,fun he=>?_⟩;refine af.move (by rw[aA];exact Nat.le_refl _) (fun b hb' _=>aL _ _ _ _ _ (by omega)) (fun b hb' _=>by omega) _ _ (hX he)
theorem gI{g:eX}{f:dR->Nat->eX}(h:(il g f).2.2≠-1):g.2.2≠-1:=fun e=>by
 rw[aZ (by rw[e];decide)] at h;exact h e
theorem GA{r:List ag}{s s2:ByteArray}(h:bK r s=true)(hs:s≠s2):bK r s2=false:=by
 cases r with
 |nil=>rfl
 |cons t r=>
  simp only[bK,Bool.and_eq_true,decide_eq_true_eq] at h;simp only[bK,h.2,decide_eq_false hs,Bool.and_false]
theorem Ls.alloc{w:World}{lv:Value}{l:List ag}(h:Ls w lv l)(o:Obj):Ls (w.alloc o) lv l:=h.below ((Below.refl _ w).alloc lz _)
theorem cO{w W:World}{k:Nat}{r:eX}{o t:ByteArray}{a:Option Addr}{n c:Nat}{pa pe:Int}(h1:pa=((k+r.2.1:Nat):Int))(h2:pe=r.2.2)(hb:Below w.heap.size w W)(hX:r.2.2=0->af (fun b=>w.heap.size+1<=b) W r.1 (dQ o t (.slice a n c))) :
  GP k r w (.returned (.agg (aW o t (.slice a n c) pa pe))) W:=by
 subst h1 h2;exact⟨hb,o,t,a,n,c,rfl,fun he=>af.move lz (fun _ _ _=>rfl) (fun b hb' _=>by omega) _ _ (hX he)⟩
section
variable {w w4:World} {vs:List Value}
theorem fB(hb:Below w.heap.size w w4)(A:Obj):Below w.heap.size w ((ak w4 w.heap.size 0 vs).alloc A):=(aS w.heap.size w.heap.size lz vs 0 _ _ hb).alloc (by rw[aA];exact hb.size) _
theorem BC(hb:Below w.heap.size w w4)(A B:Obj):Below w.heap.size w (((ak w4 w.heap.size 0 vs).alloc A).alloc B):=(fB hb A).alloc (by simp only[World.size_alloc,aA];have:=hb.size;omega) _
theorem Nb{x:dR}{cs:List Value}(hX:af (fun b=>w.heap.size+1<=b) w4 x cs)(A B:Obj):af (fun b=>w.heap.size+1<=b) (((ak w4 w.heap.size 0 vs).alloc A).alloc B) x cs:=
 af.move (by simp only[World.size_alloc,aA];omega) (fun b hb hl=>by
  rw[Below.heap_alloc _ _ _ (by simp only[World.size_alloc,aA];omega),Below.heap_alloc _ _ _ (by rw[aA];omega),aL _ _ _ _ _ (by omega)]) (fun b hb _=>hb) _ _ hX
theorem xX(hl:w.heap.size<w4.heap.size)(A:Obj){op text:ByteArray}(kids:List (dR×List Value))(hk:∀s∈kids,af (fun b=>w.heap.size+1<=b) w4 s.1 s.2)(hm:kids.length<=maxLen) :
  af (fun b=>w.heap.size+1<=b) (((ak w4 w.heap.size 0 vs).alloc A).alloc (.cells (kids.flatMap (·.2)).toArray 52)) (.mk op text (kids.map (·.1))) [.string op,.string text,.slice (some ⟨w4.heap.size+1,0,none⟩) kids.length kids.length]:=by
 have hc:=ae.new ((ak w4 w.heap.size 0 vs).alloc A) (kids.flatMap (·.2)).toArray 52;rw[World.size_alloc,aA] at hc;exact qb kids hc (by show w.heap.size+1<=w4.heap.size+1;omega) (fun s hs=>Nb (hk s hs) _ _) hm
end
theorem yR(m:Nat)(hP:PC m)(hX:XC m):XC (m+1):=by
 intro w lv l k d h hk hd hne;obtain⟨a,c,rfl,A5,A4⟩:=h.sl;have A1:=h.few;unfold maxLen at A4;rw[ai] at hne ⊢;have h0:=h.alloc (.cells mR 163);have Ax:Below w.heap.size w (w.alloc (.cells mR 163)):=(Below.refl _ w).alloc lz _;have Az:=ae.new w mR 163;have Av:=fun s=>fC (w.alloc (.cells mR 163)) (.slice a l.length c) l k s h0.toks A1 (by omega)
 by_cases hb:bK (l.drop k) dz=false/\bK (l.drop k) jB=false
 ·rw[if_pos hb] at hne ⊢
  have hC:=hP _ _ l k d h0 hk hd hne;obtain⟨Ai,Aj⟩:=hb;generalize ai m .post (l.drop k) d=R at *;obtain⟨rx,rn,re⟩:=R;have HB:=Jh Ax Az;clear h h0 Ax Az hne;go_enter Tryz.func222,Tryz.ntmps222;go_wp2_with (go_at_call 194;refine (Av _).mono ?_;rintro _ _ ⟨rfl,rfl⟩;simp only[Ai,Aj])
  refine hC.mono ?_;clear hC Av;rintro _ w4 ⟨hb4,o,t,a4,n4,c4,rfl,hX4⟩;have Ab:=HB.out.2.below hb4 HB.out.2.lt;have A0:=Ab.lt;have Aa:=Jh (HB.out.1.trans (hb4.mono HB.out.1.size)) (And.intro Ab hX4);clear hb4 hX4;obtain⟨Ak,Ap,Al,Aq,Am,Ar,An,As,Ao,At⟩:=Ab.n5 rfl;clear Ab;go_wp2_with fail;have hq:=((((Aa.out.2.1.setI 0 (.string o)).setI 1 (.string t)).setI 2 (.slice a4 n4 c4)).setI 3 (.int .i64 ((k:Int)+(rn:Int)))).setI 4 (.int .i64 re);obtain⟨Ac,Ad,Ae,Af,Ag⟩:=hq.m5 rfl;refine bodyPost_ret (v:=.agg (#[.string o,.string t,.slice a4 n4 c4,.int .i64 ((k:Int)+(rn:Int)),.int .i64 re])) (by simp[results,Tryz.results222,go_sem,Ac,Ad,Ae,Af,Ag]) rfl ?_;show GP k _ w _ (ak w4 w.heap.size 0 [.string o,.string t,.slice a4 n4 c4,.int .i64 ((k:Int)+(rn:Int)),.int .i64 re]);exact Oh (by simp) rfl Aa.out.1 (fun he=>by have:=Aa.out.2.2 he;simpa using this)
 ·rw[if_neg hb] at hne ⊢
  have A2:k<l.length:=by
   by_cases A2:k<l.length
   ·exact A2
   ·exfalso;apply hb;rw[List.drop_eq_nil_of_le (by omega)];exact⟨rfl,rfl⟩
  obtain⟨op,A3,Ay⟩:∃op,op=(if bK (l.drop k) dz then dz else pE)/\((bK (l.drop k) dz=true/\bK (l.drop k) jB=false/\op=dz)\/(bK (l.drop k) dz=false/\bK (l.drop k) jB=true/\op=pE)):=by
   refine⟨_,rfl,?_⟩
   by_cases h1:bK (l.drop k) dz=true
   ·exact .inl ⟨h1,GA h1 (by decide),by rw[if_pos h1]⟩
   ·have h1:bK (l.drop k) dz=false:=by simpa using h1
    refine .inr ⟨h1,?_,by rw[if_neg (by rw[h1];decide)]⟩
    by_cases h2:bK (l.drop k) jB=true
    ·exact h2
    ·exact absurd ⟨h1,by simpa using h2⟩ hb
  rw[<-A3] at hne ⊢;clear A3 hb
  by_cases hd64:64<=d
  ·rw[if_pos hd64]
   clear h h0 Ax Az hne;go_enter Tryz.func222,Tryz.ntmps222;rcases Ay with ⟨Ai,Aj,rfl⟩|⟨Ai,Aj,rfl⟩
   all_goals
    go_wp2_with (go_at_call 194;refine (Av _).mono ?_;rintro _ _ ⟨rfl,rfl⟩;simp only[Ai,Aj])
    have hq:=ae.new w (aW ⟨#[]⟩ ⟨#[]⟩ (.slice none 0 0) (k:Nat) 5) 163;obtain⟨Ac,Ad,Ae,Af,Ag⟩:=hq.m5 rfl;refine bodyPost_ret (v:=.agg (aW ⟨#[]⟩ ⟨#[]⟩ (.slice none 0 0) (k:Nat) 5)) (by simp[results,Tryz.results222,go_sem,Ac,Ad,Ae,Af,Ag]) rfl ?_;exact⟨(Below.refl _ w).alloc lz _,_,_,_,_,_,rfl,fun he=>by cases he⟩
  ·rw[if_neg hd64] at hne ⊢
   have Ah:=gI hne;simp only[dO] at Ah;rw[List.drop_drop,show k+1=k+1 from rfl] at hne Ah ⊢;have hC:=hX _ _ l (k+1) (d+1) h0 (by omega) (by omega) Ah;rw[show ((k+1:Nat):Int)=(k:Int)+1 by omega,show ((d+1:Nat):Int)=(d:Int)+1 by omega] at hC;generalize ai m .tight (l.drop (k+1)) (d+1)=R at *;obtain⟨rx,rn,re⟩:=R;have HB:=Jh Ax Az;clear h h0 Ax Az hne Ah;go_enter Tryz.func222,Tryz.ntmps222;rcases Ay with ⟨Ai,Aj,rfl⟩|⟨Ai,Aj,rfl⟩
   ·skip
    go_wp2_with (go_at_call 194;refine (Av _).mono ?_;rintro _ _ ⟨rfl,rfl⟩;simp only[Ai,Aj])
    refine hC.mono ?_;clear hC Av;rintro _ w4 ⟨hb4,o,t,a4,n4,c4,rfl,hX4⟩;have Ab:=HB.out.2.below hb4 HB.out.2.lt;have A0:=Ab.lt;have Aa:=Jh (HB.out.1.trans (hb4.mono HB.out.1.size)) (And.intro Ab hX4);clear hb4 hX4;obtain⟨Ak,Ap,Al,Aq,Am,Ar,An,As,Ao,At⟩:=Ab.n5 rfl;clear Ab
    by_cases he:re=0
    ·subst he
     go_wp2_with fail;have Aw:=Aa.out.2.2 (by first|trivial|rfl);rw[World.size_alloc] at Aw;have hq:=((((((Aa.out.2.1.setI 0 (.string dz)).setI 1 (.string ⟨#[]⟩)).setI 2 (.slice (some ⟨w4.heap.size+1,0,none⟩) 1 1)).setI 3 (.int .i64 ((k:Int)+1+(rn:Int)))).setI 4 (.int .i64 0)).alloc (.cells (aW o t (.slice a4 n4 c4) ((k:Int)+1+(rn:Int)) 0) 163)).alloc (.cells #[.string o,.string t,.slice a4 n4 c4] 52)
     have hn:af (fun b=>w.heap.size+1<=b) (((ak w4 w.heap.size 0 [.string dz,.string ⟨#[]⟩,.slice (some ⟨w4.heap.size+1,0,none⟩) 1 1,.int .i64 ((k:Int)+1+(rn:Int)),.int .i64 0]).alloc (.cells (aW o t (.slice a4 n4 c4) ((k:Int)+1+(rn:Int)) 0) 163)).alloc (.cells #[.string o,.string t,.slice a4 n4 c4] 52)) (.mk dz iL [rx]) [.string dz,.string iL,.slice (some ⟨w4.heap.size+1,0,none⟩) 1 1]:=
      xX A0 _ [(rx,dQ o t (.slice a4 n4 c4))] (fun s hs=>by simp at hs;subst hs;exact Aw) (by simp[maxLen])
     have Au:=BC (vs:=[.string dz,.string ⟨#[]⟩,.slice (some ⟨w4.heap.size+1,0,none⟩) 1 1,.int .i64 ((k:Int)+1+(rn:Int)),.int .i64 0]) Aa.out.1 (.cells (aW o t (.slice a4 n4 c4) ((k:Int)+1+(rn:Int)) 0) 163) (.cells #[.string o,.string t,.slice a4 n4 c4] 52);obtain⟨Ac,Ad,Ae,Af,Ag⟩:=hq.m5 rfl;refine bodyPost_ret (v:=.agg (#[.string dz,.string ⟨#[]⟩,.slice (some ⟨w4.heap.size+1,0,none⟩) 1 1,.int .i64 ((k:Int)+1+(rn:Int)),.int .i64 0])) (by simp[results,Tryz.results222,go_sem,Ac,Ad,Ae,Af,Ag]) rfl ?_;rw[bP (by rfl)];exact cO (r:=(.mk dz iL [rx],1+rn,0)) (by simp only;omega) rfl Au (fun _=>hn)
    ·have e0:(re != 0)=true:=by simpa using he
     go_wp2_with fail;have hq:=(((((Aa.out.2.1.setI 0 (.string o)).setI 1 (.string t)).setI 2 (.slice a4 n4 c4)).setI 3 (.int .i64 ((k:Int)+1+(rn:Int)))).setI 4 (.int .i64 re)).alloc (.cells (aW o t (.slice a4 n4 c4) ((k:Int)+1+(rn:Int)) re) 163);have Au:=fB (vs:=[.string o,.string t,.slice a4 n4 c4,.int .i64 ((k:Int)+1+(rn:Int)),.int .i64 re]) Aa.out.1 (.cells (aW o t (.slice a4 n4 c4) ((k:Int)+1+(rn:Int)) re) 163);obtain⟨Ac,Ad,Ae,Af,Ag⟩:=hq.m5 rfl;refine bodyPost_ret (v:=.agg (#[.string o,.string t,.slice a4 n4 c4,.int .i64 ((k:Int)+1+(rn:Int)),.int .i64 re])) (by simp[results,Tryz.results222,go_sem,Ac,Ad,Ae,Af,Ag]) rfl ?_;rw[aZ (by exact he)];exact cO (r:=(aU,1+rn,re)) (by simp only;omega) rfl Au (fun h=>absurd h he)
   ·skip
    go_wp2_with (go_at_call 194;refine (Av _).mono ?_;rintro _ _ ⟨rfl,rfl⟩;simp only[Ai,Aj])
    refine hC.mono ?_;clear hC Av;rintro _ w4 ⟨hb4,o,t,a4,n4,c4,rfl,hX4⟩;have Ab:=HB.out.2.below hb4 HB.out.2.lt;have A0:=Ab.lt;have Aa:=Jh (HB.out.1.trans (hb4.mono HB.out.1.size)) (And.intro Ab hX4);clear hb4 hX4;obtain⟨Ak,Ap,Al,Aq,Am,Ar,An,As,Ao,At⟩:=Ab.n5 rfl;clear Ab
    by_cases he:re=0
    ·subst he
     go_wp2_with fail;have Aw:=Aa.out.2.2 (by first|trivial|rfl);rw[World.size_alloc] at Aw;have hq:=((((((Aa.out.2.1.setI 0 (.string pE)).setI 1 (.string ⟨#[]⟩)).setI 2 (.slice (some ⟨w4.heap.size+1,0,none⟩) 1 1)).setI 3 (.int .i64 ((k:Int)+1+(rn:Int)))).setI 4 (.int .i64 0)).alloc (.cells (aW o t (.slice a4 n4 c4) ((k:Int)+1+(rn:Int)) 0) 163)).alloc (.cells #[.string o,.string t,.slice a4 n4 c4] 52)
     have hn:af (fun b=>w.heap.size+1<=b) (((ak w4 w.heap.size 0 [.string pE,.string ⟨#[]⟩,.slice (some ⟨w4.heap.size+1,0,none⟩) 1 1,.int .i64 ((k:Int)+1+(rn:Int)),.int .i64 0]).alloc (.cells (aW o t (.slice a4 n4 c4) ((k:Int)+1+(rn:Int)) 0) 163)).alloc (.cells #[.string o,.string t,.slice a4 n4 c4] 52)) (.mk pE iL [rx]) [.string pE,.string iL,.slice (some ⟨w4.heap.size+1,0,none⟩) 1 1]:=
      xX A0 _ [(rx,dQ o t (.slice a4 n4 c4))] (fun s hs=>by simp at hs;subst hs;exact Aw) (by simp[maxLen])
     have Au:=BC (vs:=[.string pE,.string ⟨#[]⟩,.slice (some ⟨w4.heap.size+1,0,none⟩) 1 1,.int .i64 ((k:Int)+1+(rn:Int)),.int .i64 0]) Aa.out.1 (.cells (aW o t (.slice a4 n4 c4) ((k:Int)+1+(rn:Int)) 0) 163) (.cells #[.string o,.string t,.slice a4 n4 c4] 52);obtain⟨Ac,Ad,Ae,Af,Ag⟩:=hq.m5 rfl;refine bodyPost_ret (v:=.agg (#[.string pE,.string ⟨#[]⟩,.slice (some ⟨w4.heap.size+1,0,none⟩) 1 1,.int .i64 ((k:Int)+1+(rn:Int)),.int .i64 0])) (by simp[results,Tryz.results222,go_sem,Ac,Ad,Ae,Af,Ag]) rfl ?_;rw[bP (by rfl)];exact cO (r:=(.mk pE iL [rx],1+rn,0)) (by simp only;omega) rfl Au (fun _=>hn)
    ·have e0:(re != 0)=true:=by simpa using he
     go_wp2_with fail;have hq:=(((((Aa.out.2.1.setI 0 (.string o)).setI 1 (.string t)).setI 2 (.slice a4 n4 c4)).setI 3 (.int .i64 ((k:Int)+1+(rn:Int)))).setI 4 (.int .i64 re)).alloc (.cells (aW o t (.slice a4 n4 c4) ((k:Int)+1+(rn:Int)) re) 163);have Au:=fB (vs:=[.string o,.string t,.slice a4 n4 c4,.int .i64 ((k:Int)+1+(rn:Int)),.int .i64 re]) Aa.out.1 (.cells (aW o t (.slice a4 n4 c4) ((k:Int)+1+(rn:Int)) re) 163);obtain⟨Ac,Ad,Ae,Af,Ag⟩:=hq.m5 rfl;refine bodyPost_ret (v:=.agg (#[.string o,.string t,.slice a4 n4 c4,.int .i64 ((k:Int)+1+(rn:Int)),.int .i64 re])) (by simp[results,Tryz.results222,go_sem,Ac,Ad,Ae,Af,Ag]) rfl ?_;rw[aZ (by exact he)];exact cO (r:=(aU,1+rn,re)) (by simp only;omega) rfl Au (fun h=>absurd h he)
theorem rX(r:List ag)(n:Nat):cZ r n=(aU,n,(cZ r 0).2.2):=by unfold cZ;split<;>rfl
theorem oq{l:List ag}{k:Nat}{s:ByteArray}(h:bK (l.drop k) s=true):k<l.length:=by
 by_cases hk:k<l.length
 ·exact hk
 ·rw[List.drop_eq_nil_of_le (by omega)] at h;cases h
theorem df{w W:World}(hb:Below w.heap.size w W)(vs:List Value):Below w.heap.size w (ak W w.heap.size 0 vs):=aS w.heap.size w.heap.size lz vs 0 _ _ hb
theorem mi{w W:World}{x:dR}{cs vs:List Value}(hX:af (fun b=>w.heap.size+1<=b) W x cs):af (fun b=>w.heap.size+1<=b) (ak W w.heap.size 0 vs) x cs:=
 af.move (by rw[aA];exact Nat.le_refl _) (fun b hb _=>aL _ _ _ _ _ (by omega)) (fun b hb _=>hb) _ _ hX
theorem qC{w W:World}{x:dR}{cs:List Value}(hX:af (fun b=>w.heap.size+1<=b) W x cs)(A:Obj):af (fun b=>w.heap.size+1<=b) (W.alloc A) x cs:=
 af.move (by simp) (fun b _ hl=>Below.heap_alloc _ _ _ hl) (fun b hb _=>hb) _ _ hX
theorem Ep{w W W':World}{x:dR}{cs:List Value}(hX:af (fun b=>w.heap.size+1<=b) W x cs)(hb:Below W.heap.size W W'):af (fun b=>w.heap.size+1<=b) W' x cs:=
 af.move hb.size (fun b _ hl=>hb.block b hl) (fun b hb _=>hb) _ _ hX
theorem tF{w w4:World}{vs:List Value}{x:dR}{cs:List Value}(hX:af (fun b=>w.heap.size+1<=b) w4 x cs)(A:Obj):af (fun b=>w.heap.size+1<=b) ((ak w4 w.heap.size 0 vs).alloc A) x cs:=
 qC (mi hX) A
structure vJ(w W:World)(lv:Value)(l:List ag):Prop where
 b:Below w.heap.size w W
 q:ae W w.heap.size mR 163
 l:Ls W lv l
theorem vJ.go{w W W':World}{lv:Value}{l:List ag}(h:vJ w W lv l)(hb:Below W.heap.size W W'):vJ w W' lv l:=⟨h.b.trans (hb.mono h.b.size),h.q.below hb h.q.lt,h.l.below hb⟩
theorem vJ.start{w:World}{lv:Value}{l:List ag}(h:Ls w lv l):vJ w (w.alloc (.cells mR 163)) lv l:=⟨(Below.refl _ w).alloc lz _,ae.new w mR _,h.alloc _⟩
theorem vJ.next{w W:World}{lv:Value}{l:List ag}(h:vJ w W lv l)(o:Obj):vJ w (W.alloc o) lv l:=h.go ((Below.refl _ W).alloc lz _)
theorem vJ.exp{w W W':World}{lv:Value}{l:List ag}{x:dR}{cs:List Value}(h:vJ w W lv l)(hX:af (fun b=>W.heap.size<=b) W' x cs):af (fun b=>w.heap.size+1<=b) W' x cs:=
 af.move lz (fun _ _ _=>rfl) (fun b hb _=>by have:=h.q.lt;omega) _ _ hX
theorem yS(m:Nat)(hT:TC m)(hC:CC m):CC (m+1):=by
 intro w lv l k d h hk hd hne;obtain⟨a,c,rfl,Cd,BV⟩:=h.sl;have AV:=h.few;unfold maxLen at BV;rw[ai] at hne ⊢;have Bo:=vJ.start h;have Bg:=gI hne;have Bc:=(eT m (.term 1) (l.drop k) d (by simp only[Nt.okX];omega) Bg).1;rw[List.length_drop] at Bc;have B0:=hT _ _ l k d 1 Bo.l hk hd (by omega) (by omega) Bg
 obtain⟨R,hR⟩:∃R,R=(il (ai m (.term 1) (l.drop k) d) fun a k2=>
   if bK ((l.drop k).drop k2) sQ=false then (a,k2,0) else if 64<=d then lX k2 else
   il (dO (k2+1) (ai m .choice ((l.drop k).drop (k2+1)) (d+1))) fun b k3=>
   if bK ((l.drop k).drop k3) Mc=false then cZ ((l.drop k).drop k3) k3 else
   il (dO (k3+1) (ai m .choice ((l.drop k).drop (k3+1)) (d+1))) fun c k4=>(.mk sQ iL [a,b,c],k4,0)):=⟨_,rfl⟩
 rw[<-hR] at hne ⊢;generalize ai m (.term 1) (l.drop k) d=R1 at *;obtain⟨x1,n1,e1⟩:=R1;simp only at Bc Bg;have HR:=Hh hR;have HN:=Hh hne;clear hne hR Bg;have Bl:=Hh Bo;have Bx:=Hh hC;clear h Bo hC;go_enter Tryz.func164,Tryz.ntmps164;go_wp2_with fail;refine (B0).mono ?_;clear B0;rintro _ w4 ⟨hbX,o1,t1,a1,m1,c1,heX,hXX⟩;simp only at heX hXX;obtain⟨p1,AI⟩:∃pz:Nat,pz=k+n1:=⟨_,rfl⟩;rw[<-AI] at heX;subst heX;have AD:=Hh AI;clear AI;have Bp:=Bl.out.go hbX;have Bn:=Hh (fun h=>Bl.out.exp (hXX h));have AE:=Bp.q;have Cb:=AE.lt;have AH:=Hh Bp;clear hbX hXX Bl Bp
 by_cases he1:e1=0
 ·subst he1
  simp only[bP (g:=(x1,n1,(0:Int))) rfl,List.drop_drop] at HR;have AI:=AD.out;rw[<-AI] at HR;have AG:=fun s=>fC (w4.alloc (.cells (aW o1 t1 (.slice a1 m1 c1) p1 0) 163)) (.slice a l.length c) l p1 s (AH.out.next _).l.toks AV (by omega)
  by_cases hqs:bK (l.drop p1) sQ=false
  ·have Au:Hid (R=(x1,n1,0)):=Hh (by rw[HR.out,if_pos hqs])
   obtain⟨Aa,Af,Ab,Ag,Ac,Ah,Ad,Ai,Ae,Aj⟩:=AE.n5 rfl;clear AE AI;go_wp2_with (go_at_call 194;refine (AG _).mono ?_;rintro _ _ ⟨rfl,rfl⟩;simp only[hqs])
   have hq:=(((((AH.out.q.setI 0 (.string o1)).setI 1 (.string t1)).setI 2 (.slice a1 m1 c1)).setI 3 (.int .i64 p1)).setI 4 (.int .i64 0)).alloc (.cells (aW o1 t1 (.slice a1 m1 c1) p1 0) 163);have Av:=fB (vs:=[.string o1,.string t1,.slice a1 m1 c1,.int .i64 p1,.int .i64 0]) AH.out.b (.cells (aW o1 t1 (.slice a1 m1 c1) p1 0) 163);obtain⟨Aw,Ax,Ay,Az,A0⟩:=hq.m5 rfl;refine bodyPost_ret (v:=.agg (#[.string o1,.string t1,.slice a1 m1 c1,.int .i64 p1,.int .i64 0])) (by simp[results,Tryz.results164,go_sem,Aw,Ax,Ay,Az,A0]) rfl ?_;rw[Au.out];have BY:=tF (vs:=[.string o1,.string t1,.slice a1 m1 c1,.int .i64 p1,.int .i64 0]) (Bn.out (by first|trivial|rfl)) (.cells (aW o1 t1 (.slice a1 m1 c1) p1 0) 163);exact cO (r:=(x1,n1,0)) (by simp only;rw[AD.out]) rfl Av (fun h=>BY)
  ·have hqs:bK (l.drop p1) sQ=true:=by simpa using hqs
   have BZ:p1<l.length:=oq hqs
   by_cases hd64:64<=d
   ·have Au:Hid (R=(aU,n1,5)):=Hh (by rw[HR.out,if_neg (by rw[hqs];decide),if_pos hd64];rfl)
    clear HR HN;obtain⟨Aa,Af,Ab,Ag,Ac,Ah,Ad,Ai,Ae,Aj⟩:=AE.n5 rfl;clear AE AI;go_wp2_with (go_at_call 194;refine (AG _).mono ?_;rintro _ _ ⟨rfl,rfl⟩;simp only[hqs])
    have hq:=(((((AH.out.q.setI 0 (.string ⟨#[]⟩)).setI 1 (.string ⟨#[]⟩)).setI 2 (.slice none 0 0)).setI 3 (.int .i64 p1)).setI 4 (.int .i64 5)).alloc (.cells (aW o1 t1 (.slice a1 m1 c1) p1 0) 163);have Av:=fB (vs:=[.string ⟨#[]⟩,.string ⟨#[]⟩,.slice none 0 0,.int .i64 p1,.int .i64 5]) AH.out.b (.cells (aW o1 t1 (.slice a1 m1 c1) p1 0) 163);obtain⟨Aw,Ax,Ay,Az,A0⟩:=hq.m5 rfl;refine bodyPost_ret (v:=.agg (#[.string ⟨#[]⟩,.string ⟨#[]⟩,.slice none 0 0,.int .i64 p1,.int .i64 5])) (by simp[results,Tryz.results164,go_sem,Aw,Ax,Ay,Az,A0]) rfl ?_;rw[Au.out];exact cO (r:=(aU,n1,5)) (by simp only;rw[AD.out]) rfl Av (fun h=>by cases h)
   ·simp only[if_neg (show ¬bK (l.drop p1) sQ=false by rw[hqs];decide),if_neg hd64] at HR
    rw[show k+(n1+1)=p1+1 by omega] at HR
    have Bh:(ai m .choice (l.drop (p1+1)) (d+1)).2.2≠-1:=by
     have:=HN.out;rw[HR.out] at this;have h9:=gI this;exact h9
    have Bd:=(eT m .choice (l.drop (p1+1)) (d+1) trivial Bh).1;rw[List.length_drop] at Bd;have Bq:=AH.out.next (.cells (aW o1 t1 (.slice a1 m1 c1) p1 0) 163);have Bs:=Bx.out _ _ l (p1+1) (d+1) Bq.l (by omega) (by omega) Bh;rw[show ((p1+1:Nat):Int)=(p1:Int)+1 by omega,show ((d+1:Nat):Int)=(d:Int)+1 by omega] at Bs;generalize ai m .choice (l.drop (p1+1)) (d+1)=R2 at *;obtain⟨x2,n2,e2⟩:=R2;simp only at Bd Bh;have B1:=ae.new w4 (aW o1 t1 (.slice a1 m1 c1) p1 0) 163;have Be:=Jh B1 (qC (Bn.out (by first|trivial|rfl)) (.cells (aW o1 t1 (.slice a1 m1 c1) p1 0) 163));have Bm:=Hh Bq;clear Bq B1 Bh;obtain⟨Aa,Af,Ab,Ag,Ac,Ah,Ad,Ai,Ae,Aj⟩:=AE.n5 rfl;clear AE AI;go_wp2_with (go_at_call 194;refine (AG _).mono ?_;rintro _ _ ⟨rfl,rfl⟩;simp only[hqs])
    clear Aa Ab Ac Ad Ae Af Ag Ah Ai Aj AG;refine (Bs).mono ?_;clear Bs;rintro _ w6 ⟨hbX,o2,t2,a2,m2,c2,heX,hXX⟩;simp only at heX hXX;obtain⟨p2,AZ⟩:∃pz:Nat,pz=p1+1+n2:=⟨_,rfl⟩;rw[<-AZ] at heX;subst heX;have Bb:=Hh AZ;clear AZ;have Br:=Bm.out.go hbX;have AX:=Be.out.1.below hbX Be.out.1.lt;have Bi:=Ep Be.out.2 hbX;have Bz:=Hh (fun h=>Bm.out.exp (hXX h));have AW:=Br.q;have Cc:=AW.lt;have Ce:=AX.lt;have AY:=Jh Br (And.intro AX Bi);clear hbX hXX Bm Br Be;have B4:w.heap.size≠w4.heap.size:=by omega
    by_cases he2:e2=0
    ·subst he2
     simp only[bP (g:=dO (n1+1) (x2,n2,(0:Int))) rfl] at HR;have AZ:=Bb.out;have hu:(dO (n1+1) (x2,n2,(0:Int))).2.1=n1+1+n2:=rfl;have Bw:(dO (n1+1) (x2,n2,(0:Int))).1=x2:=rfl;have Ba:=AD.out;rw[hu,Bw,show k+(n1+1+n2)=p2 by omega,show k+(n1+1+n2+1)=p2+1 by omega] at HR;have Bf:=AY.out.1.next (.cells (aW o2 t2 (.slice a2 m2 c2) p2 0) 163);have B2:=ae.new w6 (aW o2 t2 (.slice a2 m2 c2) p2 0) 163;have A1:=Jh Bf (And.intro (AY.out.2.1.alloc (.cells (aW o2 t2 (.slice a2 m2 c2) p2 0) 163)) (And.intro B2 (And.intro (qC AY.out.2.2 (.cells (aW o2 t2 (.slice a2 m2 c2) p2 0) 163)) (qC (Bz.out (by first|trivial|rfl)) (.cells (aW o2 t2 (.slice a2 m2 c2) p2 0) 163)))));have AG:=fun s=>fC (w6.alloc (.cells (aW o2 t2 (.slice a2 m2 c2) p2 0) 163)) (.slice a l.length c) l p2 s Bf.l.toks AV (by omega);have AU:=lC (w6.alloc (.cells (aW o2 t2 (.slice a2 m2 c2) p2 0) 163)) (.slice a l.length c) l p2 Bf.l.toks AV (by omega);clear Bf B2 AY Bz Bn
     by_cases hcs:bK (l.drop p2) Mc=false
     ·have Au:Hid (R=(aU,n1+1+n2,(cZ (l.drop p2) 0).2.2)):=Hh (by rw[HR.out,if_pos hcs,rX])
      have BU:Hid ((cZ (l.drop p2) 0).2.2≠0):=Hh (by unfold cZ;split<;>simp);generalize (cZ (l.drop p2) 0).2.2=eb at *;clear HR HN AZ Ba hu Bw;obtain⟨Ak,Ap,Al,Aq,Am,Ar,An,As,Ao,At⟩:=AW.n5 rfl;obtain⟨A2,A7,A3,A8,A4,A9,A5,AA,A6,AB⟩:=AX.n5 rfl;clear AW AX;go_wp2_with (go_at_call 194;refine (AG _).mono ?_;rintro _ _ ⟨rfl,rfl⟩;simp only[hcs])
      refine AU.mono ?_;clear AU AG Ak Al Am An Ao Ap Aq Ar As At A2 A3 A4 A5 A6 A7 A8 A9 AA AB;rintro _ w8 ⟨rfl,hb8⟩;have AT:=A1.out.1.go hb8;have AF:=AT.q;have B3:=AF.lt;have AC:=Hh AT;clear AT hb8 A1;obtain⟨AJ,AO,AK,AP,AL,AQ,AM,AR,AN,AS⟩:=AF.n5 rfl;clear AF;go_wp2_with fail;have hq:=((((AC.out.q.setI 0 (.string ⟨#[]⟩)).setI 1 (.string ⟨#[]⟩)).setI 2 (.slice none 0 0)).setI 3 (.int .i64 p2)).setI 4 (.int .i64 eb);have Av:=df AC.out.b [.string ⟨#[]⟩,.string ⟨#[]⟩,.slice none 0 0,.int .i64 p2,.int .i64 eb];obtain⟨Aw,Ax,Ay,Az,A0⟩:=hq.m5 rfl;refine bodyPost_ret (v:=.agg (#[.string ⟨#[]⟩,.string ⟨#[]⟩,.slice none 0 0,.int .i64 p2,.int .i64 eb])) (by simp[results,Tryz.results164,go_sem,Aw,Ax,Ay,Az,A0]) rfl ?_;rw[Au.out];exact cO (r:=(aU,n1+1+n2,eb)) (by simp only;have:=Bb.out;have:=AD.out;omega) rfl Av (fun h=>absurd h BU.out)
     ·have hcs:bK (l.drop p2) Mc=true:=by simpa using hcs
      have Ca:p2<l.length:=oq hcs;rw[if_neg (by rw[hcs];decide)] at HR
      have Bu:(ai m .choice (l.drop (p2+1)) (d+1)).2.2≠-1:=by
       have:=HN.out;rw[HR.out] at this;have h9:=gI this;exact h9
      have Bt:=Bx.out _ _ l (p2+1) (d+1) A1.out.1.l (by omega) (by omega) Bu;rw[show ((p2+1:Nat):Int)=(p2:Int)+1 by omega,show ((d+1:Nat):Int)=(d:Int)+1 by omega] at Bt;generalize ai m .choice (l.drop (p2+1)) (d+1)=R3 at *;obtain⟨x3,n3,e3⟩:=R3;simp only at Bu;clear Bu AU AZ Ba hu Bw;obtain⟨Ak,Ap,Al,Aq,Am,Ar,An,As,Ao,At⟩:=AW.n5 rfl;obtain⟨A2,A7,A3,A8,A4,A9,A5,AA,A6,AB⟩:=AX.n5 rfl;clear AW AX;go_wp2_with (go_at_call 194;refine (AG _).mono ?_;rintro _ _ ⟨rfl,rfl⟩;simp only[hcs])
      clear AG Ak Al Am An Ao Ap Aq Ar As At A2 A3 A4 A5 A6 A7 A8 A9 AA AB;refine (Bt).mono ?_;clear Bt;rintro _ w8 ⟨hbX,o3,t3,a3,m3,c3,heX,hXX⟩;simp only at heX hXX;obtain⟨p3,Bv⟩:∃pz:Nat,pz=p2+1+n3:=⟨_,rfl⟩;rw[<-Bv] at heX;subst heX;have By:=Hh Bv;clear Bv;have AT:=A1.out.1.go hbX;have Bj:=A1.out.2.1.below hbX A1.out.2.1.lt;have Bk:=A1.out.2.2.1.below hbX A1.out.2.2.1.lt;have Bi:=Ep A1.out.2.2.2.1 hbX;have B6:=Ep A1.out.2.2.2.2 hbX;have BS:=Hh (fun h=>A1.out.1.exp (hXX h));have AF:=AT.q;have B3:=AF.lt;have BW:=Bj.lt;have BX:=Bk.lt;have AC:=Jh AT (And.intro Bi B6);clear hbX hXX A1 AT Bi B6;have B5:w.heap.size≠w6.heap.size:=by omega
      by_cases he3:e3=0
      ·subst he3
       have Au:Hid (R=(.mk sQ iL [x1,x2,x3],n1+1+n2+1+n3,0)):=Hh (by rw[HR.out,bP (by rfl)];rfl);clear HR HN;obtain⟨AJ,AO,AK,AP,AL,AQ,AM,AR,AN,AS⟩:=AF.n5 rfl;obtain⟨B7,BD,B8,BE,B9,BF,BA,BG,BB,BH⟩:=Bj.n5 rfl;obtain⟨BI,BN,BJ,BO,BK,BP,BL,BQ,BM,BR⟩:=Bk.n5 rfl;clear AF Bj Bk;go_wp2_with fail;have BT:=BS.out (by first|trivial|rfl);have hq:=((((((AC.out.1.q.setI 0 (.string sQ)).setI 1 (.string ⟨#[]⟩)).setI 2 (.slice (some ⟨w8.heap.size+1,0,none⟩) 3 3)).setI 3 (.int .i64 p3)).setI 4 (.int .i64 0)).alloc (.cells (aW o3 t3 (.slice a3 m3 c3) p3 0) 163)).alloc (.cells #[.string o1,.string t1,.slice a1 m1 c1,.string o2,.string t2,.slice a2 m2 c2,.string o3,.string t3,.slice a3 m3 c3] 52)
       have hn:af (fun b=>w.heap.size+1<=b) (((ak w8 w.heap.size 0 [.string sQ,.string ⟨#[]⟩,.slice (some ⟨w8.heap.size+1,0,none⟩) 3 3,.int .i64 p3,.int .i64 0]).alloc (.cells (aW o3 t3 (.slice a3 m3 c3) p3 0) 163)).alloc (.cells #[.string o1,.string t1,.slice a1 m1 c1,.string o2,.string t2,.slice a2 m2 c2,.string o3,.string t3,.slice a3 m3 c3] 52)) (.mk sQ iL [x1,x2,x3]) [.string sQ,.string iL,.slice (some ⟨w8.heap.size+1,0,none⟩) 3 3]:=
        xX B3 _ [(x1,dQ o1 t1 (.slice a1 m1 c1)),(x2,dQ o2 t2 (.slice a2 m2 c2)),(x3,dQ o3 t3 (.slice a3 m3 c3))] (fun s hs=>by
         simp only[List.mem_cons,List.not_mem_nil,or_false] at hs;rcases hs with rfl|rfl|rfl
         ·exact AC.out.2.1
         ·exact AC.out.2.2
         ·exact BT) (by simp[maxLen])
       have Av:=BC (vs:=[.string sQ,.string ⟨#[]⟩,.slice (some ⟨w8.heap.size+1,0,none⟩) 3 3,.int .i64 p3,.int .i64 0]) AC.out.1.b (.cells (aW o3 t3 (.slice a3 m3 c3) p3 0) 163) (.cells #[.string o1,.string t1,.slice a1 m1 c1,.string o2,.string t2,.slice a2 m2 c2,.string o3,.string t3,.slice a3 m3 c3] 52);obtain⟨Aw,Ax,Ay,Az,A0⟩:=hq.m5 rfl;refine bodyPost_ret (v:=.agg (#[.string sQ,.string ⟨#[]⟩,.slice (some ⟨w8.heap.size+1,0,none⟩) 3 3,.int .i64 p3,.int .i64 0])) (by simp[results,Tryz.results164,go_sem,Aw,Ax,Ay,Az,A0]) rfl ?_;rw[Au.out];exact cO (r:=(.mk sQ iL [x1,x2,x3],n1+1+n2+1+n3,0)) (by simp only;have:=By.out;have:=Bb.out;have:=AD.out;omega) rfl Av (fun _=>hn)
      ·have e0:(e3 != 0)=true:=by simpa using he3
       have Au:Hid (R=(aU,n1+1+n2+1+n3,e3)):=Hh (by rw[HR.out,aZ (by exact he3)];rfl);clear HR HN;obtain⟨AJ,AO,AK,AP,AL,AQ,AM,AR,AN,AS⟩:=AF.n5 rfl;clear AF Bj Bk;go_wp2_with fail;have hq:=(((((AC.out.1.q.setI 0 (.string o3)).setI 1 (.string t3)).setI 2 (.slice a3 m3 c3)).setI 3 (.int .i64 p3)).setI 4 (.int .i64 e3)).alloc (.cells (aW o3 t3 (.slice a3 m3 c3) p3 e3) 163);have Av:=fB (vs:=[.string o3,.string t3,.slice a3 m3 c3,.int .i64 p3,.int .i64 e3]) AC.out.1.b (.cells (aW o3 t3 (.slice a3 m3 c3) p3 e3) 163);obtain⟨Aw,Ax,Ay,Az,A0⟩:=hq.m5 rfl;refine bodyPost_ret (v:=.agg (#[.string o3,.string t3,.slice a3 m3 c3,.int .i64 p3,.int .i64 e3])) (by simp[results,Tryz.results164,go_sem,Aw,Ax,Ay,Az,A0]) rfl ?_;rw[Au.out];exact cO (r:=(aU,n1+1+n2+1+n3,e3)) (by simp only;have:=By.out;have:=Bb.out;have:=AD.out;omega) rfl Av (fun h=>absurd h he3)
    ·have e0:(e2 != 0)=true:=by simpa using he2
     have Au:Hid (R=(aU,n1+1+n2,e2)):=Hh (by rw[HR.out,aZ (by exact he2)];rfl);clear HR HN;obtain⟨Ak,Ap,Al,Aq,Am,Ar,An,As,Ao,At⟩:=AW.n5 rfl;clear AW AX;go_wp2_with fail;have hq:=(((((AY.out.1.q.setI 0 (.string o2)).setI 1 (.string t2)).setI 2 (.slice a2 m2 c2)).setI 3 (.int .i64 p2)).setI 4 (.int .i64 e2)).alloc (.cells (aW o2 t2 (.slice a2 m2 c2) p2 e2) 163);have Av:=fB (vs:=[.string o2,.string t2,.slice a2 m2 c2,.int .i64 p2,.int .i64 e2]) AY.out.1.b (.cells (aW o2 t2 (.slice a2 m2 c2) p2 e2) 163);obtain⟨Aw,Ax,Ay,Az,A0⟩:=hq.m5 rfl;refine bodyPost_ret (v:=.agg (#[.string o2,.string t2,.slice a2 m2 c2,.int .i64 p2,.int .i64 e2])) (by simp[results,Tryz.results164,go_sem,Aw,Ax,Ay,Az,A0]) rfl ?_;rw[Au.out];exact cO (r:=(aU,n1+1+n2,e2)) (by simp only;have:=Bb.out;have:=AD.out;omega) rfl Av (fun h=>absurd h he2)
 ·have e0:(e1 != 0)=true:=by simpa using he1
  have Au:Hid (R=(aU,n1,e1)):=Hh (by rw[HR.out,aZ (by exact he1)]);clear HR HN;obtain⟨Aa,Af,Ab,Ag,Ac,Ah,Ad,Ai,Ae,Aj⟩:=AE.n5 rfl;clear AE;go_wp2_with fail;have hq:=(((((AH.out.q.setI 0 (.string o1)).setI 1 (.string t1)).setI 2 (.slice a1 m1 c1)).setI 3 (.int .i64 p1)).setI 4 (.int .i64 e1)).alloc (.cells (aW o1 t1 (.slice a1 m1 c1) p1 e1) 163);have Av:=fB (vs:=[.string o1,.string t1,.slice a1 m1 c1,.int .i64 p1,.int .i64 e1]) AH.out.b (.cells (aW o1 t1 (.slice a1 m1 c1) p1 e1) 163);obtain⟨Aw,Ax,Ay,Az,A0⟩:=hq.m5 rfl;refine bodyPost_ret (v:=.agg (#[.string o1,.string t1,.slice a1 m1 c1,.int .i64 p1,.int .i64 e1])) (by simp[results,Tryz.results164,go_sem,Aw,Ax,Ay,Az,A0]) rfl ?_;rw[Au.out];exact cO (r:=(aU,n1,e1)) (by simp only;rw[AD.out]) rfl Av (fun h=>absurd h he1)
def yU(w:World)(g:Nat):Nat:=match w.cell? ⟨g,3,none⟩ with
 |some (.int _ n)=>n.toNat
 |_=>0
theorem sN{w:World}{g:Nat}{o t:ByteArray}{kv:Value}{p:Nat}{e:Int}(h:ae w g (aW o t kv (p:Nat) e) 163):yU w g=p:=by
 unfold yU;rw[h.cell 3 (.int .i64 (p:Nat)) rfl];simp
def PY(w:World)(q2:Nat)(lv:Value)(l:List ag)(k d n m:Nat)(R:eX)(wr:World):Prop:=
 vJ w wr lv l/\∃(o t:ByteArray) (a:Option Addr) (nn c p:Nat) (e:Int),ae wr q2 (aW o t (.slice a nn c) (p:Nat) e) 163/\k<=p/\
  ((e=0/\p<=l.length/\∃j x,j<=m/\R=dO (p-k) (ai j (.tloop n x) (l.drop p) d)/\af (fun b=>w.heap.size+1<=b/\b≠q2) wr x (dQ o t (.slice a nn c)))\/(e≠0/\R=(aU,p-k,e)))
theorem ow{P:Nat->Prop}{W:World}{x:dR}{cs:List Value}(hX:af P W x cs)(A:Obj):af P (W.alloc A) x cs:=
 af.move (by simp) (fun b _ hl=>Below.heap_alloc _ _ _ hl) (fun b hb _=>hb) _ _ hX
theorem uB{w w7:World}{q:Nat}{vs:List Value}(hq:q<w7.heap.size){op text:ByteArray}(kids:List (dR×List Value))(hk:∀s∈kids,af (fun b=>w.heap.size+1<=b/\b≠q) w7 s.1 s.2)(hm:kids.length<=maxLen)(hw:w.heap.size+1<=w7.heap.size) :
  af (fun b=>w.heap.size+1<=b/\b≠q) ((ak w7 q 0 vs).alloc (.cells (kids.flatMap (·.2)).toArray 52)) (.mk op text (kids.map (·.1))) [.string op,.string text,.slice (some ⟨w7.heap.size,0,none⟩) kids.length kids.length]:=by
 have hc:=ae.new (ak w7 q 0 vs) (kids.flatMap (·.2)).toArray 52;rw[aA] at hc;refine qb (P:=fun b=>w.heap.size+1<=b/\b≠q) kids hc ⟨hw,by omega⟩ (fun s hs=>?_) hm;exact af.move (by rw[World.size_alloc,aA];omega) (fun b hb hl=>by rw[Below.heap_alloc _ _ _ (by rw[aA];exact hl),aL _ _ _ _ _ hb.2]) (fun b hb _=>hb) _ _ (hk s hs)
theorem vJ.put{w W:World}{lv:Value}{l:List ag}(h:vJ w W lv l){q:Nat}(hq:w.heap.size<q)(vs:List Value)(hb:∀b,lv.ownBlock=some b->b<w.heap.size):vJ w (ak W q 0 vs) lv l:=by
 refine⟨aS q w.heap.size (by omega) vs 0 _ _ h.b,h.q.setAllOther (by omega),⟨?_,h.l.few,h.l.short,h.l.quo⟩⟩;refine h.l.toks.moved (by rw[aA];exact Nat.le_refl _) (fun b off hl hv=>?_);exact iB (aL _ _ _ _ _ (by have:=hb b hv;omega)) off
theorem Ct(m:Nat)(hX:XC m)(hT:∀j,j<=m->TC j):TC (m+1):=by
 intro w lv l k d n h hk hd hn1 hn7 hne;obtain⟨a,c,rfl,Cp,Ca⟩:=h.sl;have Cb:=h.few;unfold maxLen at Ca;rw[ai] at hne ⊢;have A9:=vJ.start h;have HL:=Hh h.toks
 by_cases h7:n=7
 ·subst h7
  rw[if_pos (by omega)] at hne ⊢;have AA:=hX _ _ l k d A9.l hk hd hne;generalize ai m .tight (l.drop k) d=R1 at *;obtain⟨x1,n1,e1⟩:=R1;have A6:=Hh A9;clear h A9 hne;go_enter Tryz.func193,Tryz.ntmps193;go_wp2_with fail;refine (AA).mono ?_;clear AA;rintro _ w4 ⟨hbX,o1,t1,a1,m1,c1,heX,hXX⟩;simp only at heX hXX;obtain⟨p1,A3⟩:∃pz:Nat,pz=k+n1:=⟨_,rfl⟩;rw[<-A3] at heX;subst heX;have AT:=Hh A3;clear A3;have A7:=A6.out.go hbX;have BX:=Hh (fun h=>A6.out.exp (hXX h));have Bh:=A7.q;have Bo:=Bh.lt;have Bk:=Hh A7;clear hbX hXX A6 A7;obtain⟨Bq,Bv,Br,Bw,Bs,Bx,Bt,By,Bu,Bz⟩:=Bh.n5 rfl;clear Bh;go_wp2_with fail;have hq:=((((Bk.out.q.setI 0 (.string o1)).setI 1 (.string t1)).setI 2 (.slice a1 m1 c1)).setI 3 (.int .i64 p1)).setI 4 (.int .i64 e1);have Aw:=df Bk.out.b [.string o1,.string t1,.slice a1 m1 c1,.int .i64 p1,.int .i64 e1];obtain⟨Ay,Az,A0,A1,A2⟩:=hq.m5 rfl;refine bodyPost_ret (v:=.agg (#[.string o1,.string t1,.slice a1 m1 c1,.int .i64 p1,.int .i64 e1])) (by simp[results,Tryz.results193,go_sem,Ay,Az,A0,A1,A2]) rfl ?_
  exact cO (r:=(x1,n1,e1)) (by simp only;rw[AT.out]) rfl Aw (fun h=>mi (vs:=[.string o1,.string t1,.slice a1 m1 c1,.int .i64 p1,.int .i64 e1]) (BX.out h))
 ·have Cr:n<7:=by omega
  have Cs:((n:Int)==7)=false:=by rw[beq_eq_false_iff_ne];omega
  rw[if_neg (by omega)] at hne ⊢;have AX:=gI hne;have A8:=(eT m (.term (n+1)) (l.drop k) d (by simp only[Nt.okX];omega) AX).1;rw[List.length_drop] at A8;have AA:=hT m lz _ _ l k d (n+1) A9.l hk hd (by omega) (by omega) AX;rw[show ((n+1:Nat):Int)=(n:Int)+1 by omega] at AA;obtain⟨R,hR⟩:=exq ((il (ai m (.term (n+1)) (l.drop k) d) fun a k2=>dO k2 (ai m (.tloop n a) ((l.drop k).drop k2) d)));rw[<-hR] at hne ⊢;generalize ai m (.term (n+1)) (l.drop k) d=R1 at *;obtain⟨x1,n1,e1⟩:=R1;simp only at A8 AX;have HR:=Hh hR;have HN:=Hh hne;have HT:=Hh hT;have A6:=Hh A9;clear h A9 hne hR hT AX h7;go_enter Tryz.func193,Tryz.ntmps193;go_wp2_with fail;refine (AA).mono ?_;clear AA;rintro _ w4 ⟨hbX,o1,t1,a1,m1,c1,heX,hXX⟩;simp only at heX hXX;obtain⟨p1,A3⟩:∃pz:Nat,pz=k+n1:=⟨_,rfl⟩;rw[<-A3] at heX;subst heX;have AT:=Hh A3;clear A3;have A7:=A6.out.go hbX
  have AZ:PY w w4.heap.size (.slice a l.length c) l k d n m R (w4.alloc (.cells (aW o1 t1 (.slice a1 m1 c1) p1 e1) 163)):=by
   have A3:=AT.out;refine⟨A7.next _,o1,t1,a1,m1,c1,p1,e1,ae.new _ _ _,by omega,?_⟩
   by_cases he:e1=0
   ·left
    refine⟨he,by omega,m,x1,Nat.le_refl _,?_,?_⟩
    ·rw[HR.out,bP (by exact he),List.drop_drop,A3,show k+n1-k=n1 by omega]
    ·exact af.move (by simp) (fun b _ hl=>Below.heap_alloc _ _ _ hl) (fun b hb hl=>⟨hb,by omega⟩) _ _ (A6.out.exp (hXX he))
   ·right
    exact⟨he,by rw[HR.out,aZ (by exact he),A3,show k+n1-k=n1 by omega]⟩
  have Bo:w.heap.size<w4.heap.size:=A7.q.lt;have Bl:=Hh AZ;clear hbX hXX A6 A7 AZ HR A8 AT;go_wp2_with fail;go_loopw [10] (fun _ wr=>PY w w4.heap.size (.slice a l.length c) l k d n m R wr) (fun _ wr=>l.length+1-yU wr w4.heap.size)
  case atStart=>exact Bl.out
  case round=>
   clear Bl;obtain⟨hA,o5,t5,a5,Aa,c5,p,e,Av,Cn,AZ⟩:=hrel;have Ax:=hA.q;have Cq:=Ax.lt;have Cd:=Av.lt;have BW:=Hh (sN Av);rcases AZ with ⟨rfl,hpl,j,x,hj,hRe,hXx⟩|⟨he,hRe⟩
   ·have HH:=Jh hA hXx
    by_cases hpl2:p<l.length
    ·obtain⟨bb,BU,rfl,Bp,q0,q1,q2⟩:=hA.l.toks.get hpl2
     have Bg:l.drop p=l[p]::l.drop (p+1):=List.drop_eq_getElem_cons hpl2;obtain⟨kd,AV⟩:∃z,l[p].kind=z:=⟨_,rfl⟩;obtain⟨tx,Ba⟩:∃z,l[p].text=z:=⟨_,rfl⟩;rw[AV] at q0;rw[Ba] at q1;have AD:GG (l.drop p) n=if kd=4/\Dn tx=(n:Int) then some tx else none:=by rw[Bg];simp only[GG,AV,Ba]
     clear q2 hA hXx
     by_cases hgo:kd=4/\Dn tx=(n:Int)
     ·obtain⟨h4,A4⟩:=hgo
      rw[if_pos ⟨h4,A4⟩] at AD
      cases j with
      |zero=>exact absurd (by rw[hRe];rfl) HN.out
      |succ j=>
      rw[ai,AD] at hRe;simp only at hRe;rw[List.drop_drop] at hRe
      have AY:(ai j (.term (n+1)) (l.drop (p+1)) d).2.2≠-1:=by
       have:=HN.out;rw[hRe] at this;have h9:(il (dO 1 (ai j (.term (n+1)) (l.drop (p+1)) d)) fun b k2=>dO k2 (ai j (.tloop n (.mk tx iL [x,b])) ((l.drop p).drop k2) d)).2.2≠-1:=this;have h8:=gI h9;exact h8
      have AE:=(eT j (.term (n+1)) (l.drop (p+1)) d (by simp only[Nt.okX];omega) AY).1;rw[List.length_drop] at AE;have Bf:=HT.out j (by omega) _ _ l (p+1) d (n+1) HH.out.1.l (by omega) hd (by omega) (by omega) AY;rw[show ((n+1:Nat):Int)=(n:Int)+1 by omega,show ((p+1:Nat):Int)=(p:Int)+1 by omega] at Bf;generalize ai j (.term (n+1)) (l.drop (p+1)) d=R2 at *;obtain⟨x2,n2,e2⟩:=R2;simp only at AE AY;have Bd:=Hh hRe;have Cf:(Dn tx==(n:Int))=true:=by rw[beq_iff_eq];exact A4
      have e4:(kd==4)=true:=by simpa using h4
      have AU:=fun W=>wW tx W;have Cl:=Hh A4;generalize Dn tx=L at *;clear hRe AD Bg AV Ba AY A4 h4;have AH:=Av;obtain⟨Al,Aq,Am,Ar,An,As,Ao,At,Ap,Au⟩:=Ax.n5 rfl;obtain⟨Ab,Ag,Ac,Ah,Ad,Ai,Ae,Aj,Af,Ak⟩:=Av.n5 rfl;clear Ax Av;go_wp2_with (go_at_call 223;refine (AU _).mono ?_;rintro _ _ ⟨rfl,rfl⟩)
      clear AU Al Am An Ao Ap Aq Ar As At Au Ab Ac Ad Ae Af Ag Ah Ai Aj Ak;refine (Bf).mono ?_;clear Bf;rintro _ w6 ⟨hbX,o2,t2,a2,m2,c2,heX,hXX⟩;simp only at heX hXX;obtain⟨p2,AG⟩:∃pz:Nat,pz=p+1+n2:=⟨_,rfl⟩;rw[<-AG] at heX;subst heX;have Bc:=Hh AG;clear AG;have Be:=HH.out.1.go hbX;have AW:=Be.q;have Co:=AW.lt;have AB:=AH.below hbX Cd;have Cg:=AB.lt;have BV:=(hbX.cell (p:=⟨bb,BU+p*3+1,none⟩) Bp).trans q1;have AF:=Nat.lt_of_lt_of_le Bp hbX.size;have Bn:af (fun b=>w.heap.size+1<=b/\b≠w4.heap.size) w6 x (dQ o5 t5 (.slice a5 Aa c5)):=af.move hbX.size (fun b _ hl=>hbX.block b hl) (fun b hb _=>hb) _ _ HH.out.2;have Bm:Hid (e2=0->af (fun b=>w.heap.size+1<=b/\b≠w4.heap.size) w6 x2 (dQ o2 t2 (.slice a2 m2 c2))):=Hh (fun he=>af.move lz (fun _ _ _=>rfl) (fun b hb _=>⟨by omega,by omega⟩) _ _ (hXX he));have H6:=Jh Be (And.intro AB Bn);have hne:w.heap.size≠w4.heap.size:=by omega
      clear hbX hXX HH AH Be Bn q0 q1
      by_cases he2:e2=0
      ·subst he2
       have AC:Below w6.heap.size w6 (w6.alloc (.cells (aW o2 t2 (.slice a2 m2 c2) p2 0) 163)):=(Below.refl _ w6).alloc lz _;have Bb:=AB.below AC Cg;have Bj:=ae.new w6 (aW o2 t2 (.slice a2 m2 c2) p2 0) 163;have q7:=(AC.cell (p:=⟨bb,BU+p*3+1,none⟩) AF).trans BV;have Ce:=Nat.lt_of_lt_of_le AF AC.size;have H7:=Jh (H6.out.1.go AC) (And.intro Bb (And.intro (ow H6.out.2.2 (.cells (aW o2 t2 (.slice a2 m2 c2) p2 0) 163)) (ow (Bm.out (by first|trivial|rfl)) (.cells (aW o2 t2 (.slice a2 m2 c2) p2 0) 163))));have Cc:w4.heap.size≠w6.heap.size:=by omega
       obtain⟨AJ,AO,AK,AP,AL,AQ,AM,AR,AN,AS⟩:=AB.n5 rfl;clear AB AW BV;go_wp2_with fail;clear AJ AK AL AM AN AO AP AQ AR AS AC H6 Bm;have Ch:=Bb.lt;have Ci:=Bj.lt;generalize w6.alloc (.cells (aW o2 t2 (.slice a2 m2 c2) p2 0) 163)=w7 at *;obtain⟨BA,BF,BB,BG,BC,BH,BD,BI,BE,BJ⟩:=Bb.n5 rfl;obtain⟨BK,BP,BL,BQ,BM,BR,BN,BS,BO,BT⟩:=Bj.n5 rfl;clear Bb Bj;go_region
       all_goals
        go_wp2_with fail;go_roundw
        case rel=>
         have hn:af (fun b=>w.heap.size+1<=b/\b≠w4.heap.size) ((ak w7 w4.heap.size 0 [.string tx,.string ⟨#[]⟩,.slice (some ⟨w7.heap.size,0,none⟩) 2 2,.int .i64 p2,.int .i64 0]).alloc (.cells #[.string o5,.string t5,.slice a5 Aa c5,.string o2,.string t2,.slice a2 m2 c2] 52)) (.mk tx iL [x,x2]) [.string tx,.string iL,.slice (some ⟨w7.heap.size,0,none⟩) 2 2]:=
          uB (by omega) [(x,dQ o5 t5 (.slice a5 Aa c5)),(x2,dQ o2 t2 (.slice a2 m2 c2))] (fun s hs=>by
           simp only[List.mem_cons,List.not_mem_nil,or_false] at hs;rcases hs with rfl|rfl
           ·exact H7.out.2.2.1
           ·exact H7.out.2.2.2) (by simp[maxLen]) (by have:=H7.out.1.q.lt;omega)
         obtain⟨b0,Ck,BZ,Cm,-⟩:=HL.out.get hpl2;cases BZ
         have BY:=(H7.out.1.put (q:=w4.heap.size) Bo [.string tx,.string ⟨#[]⟩,.slice (some ⟨w7.heap.size,0,none⟩) 2 2,.int .i64 p2,.int .i64 0] (fun b hb=>by simp only[Value.ownBlock,Option.some.injEq] at hb;omega)).next (.cells #[.string o5,.string t5,.slice a5 Aa c5,.string o2,.string t2,.slice a2 m2 c2] 52);have Bi:=(H7.out.2.1.put [.string tx,.string ⟨#[]⟩,.slice (some ⟨w7.heap.size,0,none⟩) 2 2,.int .i64 p2,.int .i64 0] 0).alloc (.cells #[.string o5,.string t5,.slice a5 Aa c5,.string o2,.string t2,.slice a2 m2 c2] 52);have AG:=Bc.out;refine⟨BY.go (Below.drew (Below.refl _ _)),tx,⟨#[]⟩,_,2,2,p2,0,Bi.drew,by omega,.inl ⟨rfl,by omega,j,.mk tx iL [x,x2],by omega,?_,af.below (Below.drew (Below.refl _ _)) _ _ hn⟩⟩;rw[Bd.out,bP (by rfl)];show dO (p-k) (dO (1+n2) (ai j (.tloop n (.mk tx iL [x,x2])) ((l.drop p).drop (1+n2)) d))=_;rw[mg,List.drop_drop,show p+(1+n2)=p2 by omega,show p-k+(1+n2)=p2-k by omega]
        case measure=>
         have Bi:=((H7.out.2.1.put [.string tx,.string ⟨#[]⟩,.slice (some ⟨w7.heap.size,0,none⟩) 2 2,.int .i64 p2,.int .i64 0] 0).alloc (.cells #[.string o5,.string t5,.slice a5 Aa c5,.string o2,.string t2,.slice a2 m2 c2] 52)).drew;have Cj:=sN (p:=p2) (e:=0) Bi;have AG:=Bc.out;show l.length+1-yU (((ak w7 w4.heap.size 0 [.string tx,.string ⟨#[]⟩,.slice (some ⟨w7.heap.size,0,none⟩) 2 2,.int .i64 p2,.int .i64 0]).alloc (.cells #[.string o5,.string t5,.slice a5 Aa c5,.string o2,.string t2,.slice a2 m2 c2] 52)).drew) w4.heap.size<l.length+1-yU wr w4.heap.size;rw[BW.out,Cj];omega
      ·have e0:(e2 != 0)=true:=by simpa using he2
       have A5:Hid (R=(aU,p-k+(1+n2),e2)):=Hh (by rw[Bd.out,aZ (by exact he2)];rfl);clear Bd;obtain⟨B0,B5,B1,B6,B2,B7,B3,B8,B4,B9⟩:=AW.n5 rfl;clear AW AB;go_wp2_with fail;have hq:=(((((H6.out.1.q.setI 0 (.string o2)).setI 1 (.string t2)).setI 2 (.slice a2 m2 c2)).setI 3 (.int .i64 p2)).setI 4 (.int .i64 e2)).alloc (.cells (aW o2 t2 (.slice a2 m2 c2) p2 e2) 163);have Aw:=fB (vs:=[.string o2,.string t2,.slice a2 m2 c2,.int .i64 p2,.int .i64 e2]) H6.out.1.b (.cells (aW o2 t2 (.slice a2 m2 c2) p2 e2) 163);obtain⟨Ay,Az,A0,A1,A2⟩:=hq.m5 rfl;refine bodyPost_ret (v:=.agg (#[.string o2,.string t2,.slice a2 m2 c2,.int .i64 p2,.int .i64 e2])) (by simp[results,Tryz.results193,go_sem,Ay,Az,A0,A1,A2]) rfl ?_;rw[A5.out];exact cO (r:=(aU,p-k+(1+n2),e2)) (by simp only;have:=Bc.out;omega) rfl Aw (fun h=>absurd h he2)
     ·have A5:Hid (R=(x,p-k,0)):=Hh (by
       rw[hRe]
       cases j with
       |zero=>exact absurd (by rw[hRe];rfl) HN.out
       |succ j=>rw[ai,AD,if_neg hgo];rfl)
      clear hRe AD Bg AV Ba
      by_cases h4:kd=4
      ·have Cf:(Dn tx==(n:Int))=false:=by rw[beq_eq_false_iff_ne];exact fun q=>hgo ⟨h4,q⟩
       have e4:(kd==4)=true:=by simpa using h4
       have AU:=fun W=>wW tx W;generalize Dn tx=L at *;clear hgo h4;obtain⟨Al,Aq,Am,Ar,An,As,Ao,At,Ap,Au⟩:=Ax.n5 rfl;obtain⟨Ab,Ag,Ac,Ah,Ad,Ai,Ae,Aj,Af,Ak⟩:=Av.n5 rfl;clear Ax Av;go_wp2_with (go_at_call 223;refine (AU _).mono ?_;rintro _ _ ⟨rfl,rfl⟩)
       have hq:=((((HH.out.1.q.setI 0 (.string o5)).setI 1 (.string t5)).setI 2 (.slice a5 Aa c5)).setI 3 (.int .i64 p)).setI 4 (.int .i64 0);have Aw:=df HH.out.1.b [.string o5,.string t5,.slice a5 Aa c5,.int .i64 p,.int .i64 0];obtain⟨Ay,Az,A0,A1,A2⟩:=hq.m5 rfl;refine bodyPost_ret (v:=.agg (#[.string o5,.string t5,.slice a5 Aa c5,.int .i64 p,.int .i64 0])) (by simp[results,Tryz.results193,go_sem,Ay,Az,A0,A1,A2]) rfl ?_;rw[A5.out];have AI:=mi (vs:=[.string o5,.string t5,.slice a5 Aa c5,.int .i64 p,.int .i64 0]) (af.move lz (fun _ _ _=>rfl) (fun b hb _=>hb.1) _ _ HH.out.2);exact cO (r:=(x,p-k,0)) (by simp only;omega) rfl Aw (fun _=>AI)
      ·have e4:(kd==4)=false:=by simpa using h4
       clear hgo h4;obtain⟨Al,Aq,Am,Ar,An,As,Ao,At,Ap,Au⟩:=Ax.n5 rfl;obtain⟨Ab,Ag,Ac,Ah,Ad,Ai,Ae,Aj,Af,Ak⟩:=Av.n5 rfl;clear Ax Av;go_wp2_with fail;have hq:=((((HH.out.1.q.setI 0 (.string o5)).setI 1 (.string t5)).setI 2 (.slice a5 Aa c5)).setI 3 (.int .i64 p)).setI 4 (.int .i64 0);have Aw:=df HH.out.1.b [.string o5,.string t5,.slice a5 Aa c5,.int .i64 p,.int .i64 0];obtain⟨Ay,Az,A0,A1,A2⟩:=hq.m5 rfl;refine bodyPost_ret (v:=.agg (#[.string o5,.string t5,.slice a5 Aa c5,.int .i64 p,.int .i64 0])) (by simp[results,Tryz.results193,go_sem,Ay,Az,A0,A1,A2]) rfl ?_;rw[A5.out];have AI:=mi (vs:=[.string o5,.string t5,.slice a5 Aa c5,.int .i64 p,.int .i64 0]) (af.move lz (fun _ _ _=>rfl) (fun b hb _=>hb.1) _ _ HH.out.2);exact cO (r:=(x,p-k,0)) (by simp only;omega) rfl Aw (fun _=>AI)
    ·have A5:Hid (R=(x,p-k,0)):=Hh (by
      rw[hRe]
      cases j with
      |zero=>exact absurd (by rw[hRe];rfl) HN.out
      |succ j=>rw[ai,List.drop_eq_nil_of_le (by omega)];rfl)
     clear hRe hA hXx;obtain⟨Al,Aq,Am,Ar,An,As,Ao,At,Ap,Au⟩:=Ax.n5 rfl;obtain⟨Ab,Ag,Ac,Ah,Ad,Ai,Ae,Aj,Af,Ak⟩:=Av.n5 rfl;clear Ax Av;go_wp2_with fail;have hq:=((((HH.out.1.q.setI 0 (.string o5)).setI 1 (.string t5)).setI 2 (.slice a5 Aa c5)).setI 3 (.int .i64 p)).setI 4 (.int .i64 0);have Aw:=df HH.out.1.b [.string o5,.string t5,.slice a5 Aa c5,.int .i64 p,.int .i64 0];obtain⟨Ay,Az,A0,A1,A2⟩:=hq.m5 rfl;refine bodyPost_ret (v:=.agg (#[.string o5,.string t5,.slice a5 Aa c5,.int .i64 p,.int .i64 0])) (by simp[results,Tryz.results193,go_sem,Ay,Az,A0,A1,A2]) rfl ?_;rw[A5.out];have AI:=mi (vs:=[.string o5,.string t5,.slice a5 Aa c5,.int .i64 p,.int .i64 0]) (af.move lz (fun _ _ _=>rfl) (fun b hb _=>hb.1) _ _ HH.out.2);exact cO (r:=(x,p-k,0)) (by simp only;omega) rfl Aw (fun _=>AI)
   ·have e0:(e==0)=false:=by simpa using he
    have HH:=Hh hA;have A5:=Hh hRe;clear hA hRe;obtain⟨Al,Aq,Am,Ar,An,As,Ao,At,Ap,Au⟩:=Ax.n5 rfl;obtain⟨Ab,Ag,Ac,Ah,Ad,Ai,Ae,Aj,Af,Ak⟩:=Av.n5 rfl;clear Ax Av;go_wp2_with fail;have hq:=((((HH.out.q.setI 0 (.string o5)).setI 1 (.string t5)).setI 2 (.slice a5 Aa c5)).setI 3 (.int .i64 p)).setI 4 (.int .i64 e);have Aw:=df HH.out.b [.string o5,.string t5,.slice a5 Aa c5,.int .i64 p,.int .i64 e];obtain⟨Ay,Az,A0,A1,A2⟩:=hq.m5 rfl;refine bodyPost_ret (v:=.agg (#[.string o5,.string t5,.slice a5 Aa c5,.int .i64 p,.int .i64 e])) (by simp[results,Tryz.results193,go_sem,Ay,Az,A0,A1,A2]) rfl ?_;rw[A5.out];exact cO (r:=(aU,p-k,e)) (by simp only;omega) rfl Aw (fun h=>absurd h he)
end Go.Proofs.YtbcdaaobbebooaaGreatDoor
