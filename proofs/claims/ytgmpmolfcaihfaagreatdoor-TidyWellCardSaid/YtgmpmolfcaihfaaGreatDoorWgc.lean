/- Laws that TidyWell rests on; conditions: those that each names. -/
import Derived.Test.YtgmpmolfcaihfaaGreatDoorWgb
import Derived.Laws.EntriesVeiled
import Derived.Deep.AppendLies
set_option linter.unusedSimpArgs false
set_option linter.unusedVariables false
set_option maxRecDepth 100000
set_option maxHeartbeats 20000000
open And renaming intro→cE
open Bool renaming or_false→my
open Decidable renaming byContradiction→eE
open Go renaming Calls→cJ,Value→cq,World→cd,bodyPost_ret→bj,maxLen→cV,results_none→lO,results→cD
open Go.Ending renaming returned→bk
open Go.IntKind renaming i64→ar
open Go.Obj renaming cells→aE
open Go.Proofs.Tryz renaming prog→bh,results179→tw,results201→wg
open Go.RowKit renaming Below→cj
open Go.RowKit.Below renaming heap_alloc→fX,refl→ba
open Go.Value renaming agg→ew,int→ao,pointer→cx,slice→an,slice→iN,string→al,tuple→dr
open Go.World renaming cell?_alloc_past→kc,size_alloc→cF
open Go.World.ownsRow renaming lt→cy
open List renaming cons_append→cf,drop_append_of_le_length→eo,drop_drop→c4,drop_eq_getElem_cons→cg,drop_length→ei,flatMap_cons→fb,getElem?_append_right→eK,getElem?_eq_some_iff→fv,getElem_append_right→lP,getElem_map→ju,getElem_mem→cH,length_cons→bc,length_drop→bm,length_map→cW,map_append→eJ,map_cons→cI,map_nil→ke,mem_append→cX,mem_cons→cL,mem_take_iff_getElem→CD,not_mem_nil→fW,take_add→od,take_append_of_le_length→eW,take_succ_cons→cN
open List.cons renaming inj→rr
open Nat renaming add_assoc→kO,le_of_not_lt→D1,le_refl→cA,le_trans→dy,zero_add→df,zero_le→ck
open Option renaming map_eq_some_iff→eH,none→aq,some→aw
open Prod renaming ext→yk
namespace Go.Proofs.YtgmpmolfcaihfaaGreatDoor
variable{o op text:E7}{e:Int}{cs vals:List cq}{l r:List ae}{B B2 b base bd bp bt c cap d g k m m2 n q q5:Nat}{P:Nat->Prop}{lv v:cq}{w w' w0:cd}{t x:iA}{f:iA->Nat->gq}
def ry(l:List Nat):Prop:=∀x∈l,32<=x
theorem ry.app{a b:List Nat}(h1:ry a)(h2:ry b):ry (a++b):=fun x hx=>(cX.1 hx).elim (h1 x) (h2 x)
theorem QS(h:pu c=aw d):32<=c:=by
 unfold pu at h;split at h
 .omega
 split at h
 .omega
 split at h
 .omega
 .cases h
theorem xX:∀(k n:Nat) (l:List Nat),(ji k n l).2=0->ry (l.take k)
 |0,_,_,_=>by intro x hx;simp at hx
 |_+1,_,[],_=>by intro x hx;simp at hx
 | k+1,n,c::r,h=>by
  simp only[ji] at h
  cases hc:pu c with
  |none=>simp[hc] at h
  |some d=>
   rw[hc] at h;simp only at h;rw[cN];intro x hx;rcases cL.1 hx with rfl|hx
   .exact QS hc
   .exact xX k _ r h x hx
theorem Qv{l:List Nat}(h:(jV n l).2.2=0):ry (l.take 6):=by
 match l with
 |[]=>simp[jV,aJ] at h
 |[c]=>by_cases b:c=92<;>simp[jV,aJ,b] at h
 |c::d::u=>
  by_cases b:c=92
  .by_cases i:d=117
   .have k:(aQ u).2=0:=by
     unfold jV at h;simp only at h;rw[E6 (by simp[b]),E6 (by simp[i])] at h
     by_cases j:(aQ u).2=0
     .exact j
     .rw[E4 (by simpa using j)] at h;exact absurd h j
    have q:=xX 4 0 u k;subst b i;simp only[cN];intro x f;rcases cL.1 f with rfl|f
    .decide
    rcases cL.1 f with rfl|f
    .decide
    .exact q x f
   .unfold jV at h;simp only at h;rw[E6 (by simp[b]),E4 (by simpa using i)] at h;simp[aJ] at h
  .unfold jV at h;simp only at h;rw[E4 (by simpa using b)] at h;simp[aJ] at h
theorem KP{r:List Nat}(h:(aU r).2.2=0):ry (r.take ((aU r).2.1-2)):=by
 have b:(aQ r).2=0:=by
  unfold aU at h
  by_cases b:(aQ r).2=0
  .exact b
  .rw[E4 (by simpa using b)] at h;exact absurd h b
 have i:=xX 4 0 r b;unfold aU at h ⊢;rw[E6 (by simp[b])] at h ⊢
 by_cases c:56320<=(aQ r).1/\(aQ r).1<=57343
 .rw[E4 c] at h;simp[aJ] at h
 rw[E6 c] at h ⊢
 by_cases f:(aQ r).1<55296\/57343<(aQ r).1
 .rw[E4 f]
  exact i
 .rw[E6 f] at h ⊢
  obtain⟨_,_,_,Aa,k⟩:=wY (by have:=kF b;omega) h;rw[Aa];have j:=Qv h;show ry (r.take 10);rw[show (10:Nat)=4+6 from rfl,od];exact i.app j
theorem Qd{r:List Nat}(u:yP (c::r))(C:¬c<32)(h:(aG (c::r)).2≠0):ry ((c::r).take (aG (c::r)).2):=by
 obtain⟨z,A,f,B⟩:=jU (c:=(aG (c::r)).1) (n:=(aG (c::r)).2) u rfl h;rw[<-f]
 have k:32<=(aG (c::r)).1:=by
  obtain⟨j,i⟩:∃j,(aG (c::r)).2=j+1:=⟨(aG (c::r)).2-1,by omega⟩
  by_cases g:(aG (c::r)).1<128
  .have:fQ (aG (c::r)).1=[(aG (c::r)).1]:=by simp[fQ,g]
   rw[this,i] at f;simp only[cN,List.cons.injEq] at f;omega
  .omega
 generalize (aG (c::r)).1=v at *;intro x b;unfold fQ at b;split at b
 .simp at b;omega
 split at b
 .simp at b;omega
 split at b
 .simp at b;omega
 .simp at b;omega
theorem Q6(h:Cb c=aw b):32<=c:=by
 unfold Cb at h;repeat' (split at h)
 all_goals first|(cases h;omega)|omega|cases h
theorem NN{l:List Nat}(C:yP l)(h:(ax l).2.2=0):ry (l.take (ax l).2.1):=by
 match l with
 |[]=>intro x f;simp at f
 |c::r=>
  rw[J8] at h ⊢
  by_cases j:c<32
  .rw[E4 j] at h;simp[aJ] at h
  rw[E6 j] at h ⊢
  by_cases A:c=92
  .rw[E4 A] at h ⊢
   match r with
   |[]=>simp[ou,aJ] at h
   |d::t=>
    simp only[ou] at h ⊢
    cases hd:Cb d with
    |some b=>
     simp only[cN,List.take_zero];intro x f;simp at f
     rcases f with rfl|rfl
     .omega
     .exact Q6 hd
    |none=>
     rw[hd] at h;simp only at h ⊢
     by_cases i:d=117
     .rw[E4 i] at h ⊢
      have q:=KP h
      obtain⟨k,B⟩:∃k,(aU t).2.1=k+2:=by
       have:(aU t).2.1=6\/(aU t).2.1=12:=by
        unfold aU at h ⊢
        by_cases v:(aQ t).2=0
        .rw[E6 (by simp[v])] at h ⊢
         by_cases z:56320<=(aQ t).1/\(aQ t).1<=57343
         .rw[E4 z] at h;simp[aJ] at h
         .rw[E6 z] at h ⊢
          by_cases g2:(aQ t).1<55296\/57343<(aQ t).1
          .rw[E4 g2];exact .inl rfl
          .rw[E6 g2] at h ⊢
           exact .inr (wY (by omega) h).choose_spec.2.2.1
        .rw[E4 (by simpa using v)] at h;exact absurd h v
       rcases this with h|h
       .exact⟨4,h⟩
       .exact⟨10,h⟩
      rw[B] at q ⊢;simp only[Nat.add_sub_cancel] at q;simp only[cN];intro x f;rcases cL.1 f with rfl|f
      .omega
      rcases cL.1 f with rfl|f
      .omega
      .exact q x f
     .rw[E6 i] at h;simp[aJ] at h
  .rw[E6 A] at h ⊢
   by_cases i:(aG (c::r)).2=0
   .rw[E4 i] at h;simp[aJ] at h
   .rw[E6 i]
    exact Qd C j i
theorem Ep:∀(k:Nat) (l:List Nat),l.length<=k->yP l->(bT l).2.2=0->ry (l.take (bT l).2.1)
 | k,l,hk,hl,h=>by
  by_cases h34:l.head?=aw 34
  .have e:bT l=([],1,0):=by rw[dx hl,E4 h34]
   rw[e]
   cases l with
   |nil=>cases h34
   |cons c r=>
    have i:c=34:=by simpa using h34
    subst i;intro x j;simp at j
    omega
  .have b:(ax l).2.2=0:=by
    refine eE fun hn=>?_;rw[dx hl,E6 h34,E4 hn] at h;exact hn h
   obtain⟨_,_,_,v,z⟩:=lu hl b
   have f:(bT (l.drop (ax l).2.1)).2.2=0:=by
    refine eE fun hn=>?_;rw[dx hl,E6 h34,E6 (by simp[b]),E4 hn] at h;exact hn h
   have e:bT l=((ax l).1++(bT (l.drop (ax l).2.1)).1,(ax l).2.1+(bT (l.drop (ax l).2.1)).2.1,0):=by
    rw[dx hl,E6 h34,E6 (by simp[b]),E6 (by simp[f])]
   cases k with
   |zero=>omega
   |succ k=>
    have q:=Ep k (l.drop (ax l).2.1) (by simp;omega) (hl.drop _) f;rw[e,od];exact (NN hl b).app q
theorem Nh{l:List Nat}(k:yP l)(h:(aW l).2.2=0):ry (l.take (aW l).2.1):=by
 cases l with
 |nil=>intro x d;simp at d
 |cons c r=>
  have i:c=34:=by
   refine eE fun hn=>?_;rw[aW,E4 hn] at h;simp[aJ] at h
  have e:aW (c::r)=ig [] 1 (bT r):=by rw[aW,E6 (by simpa using i)]
  have f:(bT r).2.2=0:=by
   refine eE fun hn=>?_;rw[e,ig,E4 hn] at h;exact hn h
  have j:=Ep r.length r lz (fun x d=>k x (by simp[d])) f;rw[e,ig,E6 (by simp[f])];simp only;rw[Nat.add_comm 1,cN];intro x d;rcases cL.1 d with rfl|d
  .omega
  .exact j x d
theorem Sv{l b:Bs}(h:oG (l++10::b)=.tok k n):oG l=.tok k n:=by
 unfold oG at h ⊢;split at h
 .next f=>
  have j:=Nh (gN _) f;have Ab:=kg (gN _) f
  have Aa:(aW (nb (l++10::b))).2.1<=l.length:=by
   refine D1 fun hlt=>?_;generalize (aW (nb (l++10::b))).2.1=q at *
   have:=j 10 (by
    rw[vN];refine CD.2 ⟨l.length,?_,?_⟩
    .simp[kr];omega
    .rw[lP (by simp[kr])]
     simp[nb])
   omega
  have i:=qH (l:=nb (l++10::b)) (m:=nb (l.drop (aW (nb (l++10::b))).2.1)) (gN _) (gN _) f
  have o:(nb (l++10::b)).take (aW (nb (l++10::b))).2.1++nb (l.drop (aW (nb (l++10::b))).2.1)=nb l:=by
   generalize (aW (nb (l++10::b))).2.1=m at *;rw[vN,eW (by rw[kr];exact Aa)];unfold nb;rw[<-List.map_take,<-eJ,List.take_append_drop]
  rw[o] at i;rw[i,E4 f];exact h
 .cases h
theorem yH:∀(l:Bs) (n:Nat),gP l=aw n->l[n]?=aw 42/\l[n+1]?=aw 47
 |[],_,h=>by cases h
 | c::l,n,h=>by
  rw[gP] at h;split at h
  .next hc=>
   cases h
   cases l with
   |nil=>simp at hc
   |cons d l=>simp at hc;simp[hc.1,hc.2]
  .obtain⟨m,hm,rfl⟩:=eH.1 h
   simpa using yH l m hm
theorem IW:∀(l s:Bs) (n:Nat),gP (l++s)=aw n->n+2<=l.length->gP l=aw n
 |[],_,_,_,hn=>by simp at hn
 |[c],_,n,_,hn=>by simp at hn
 | c::d::l,s,n,h,hn=>by
  rw[cf,gP] at h;rw[gP];have hh:((d::l)++s).head?=(d::l).head?:=rfl;rw[hh] at h;split at h
  .next hc=>rw[E4 hc];exact h
  .next hc=>
   rw[E6 hc];obtain⟨m,hm,rfl⟩:=eH.1 h;rw[IW (d::l) s m hm (by simp at hn ⊢;omega)];rfl
theorem OP{l b:Bs}(h:eT (l++10::b)=.tok k n)(j:2<=l.length):eT l=.tok k n:=by
 unfold eT at h ⊢;rw[eo j] at h
 cases he:gP (l.drop 2++10::b) with
 |none=>rw[he] at h;cases h
 |some m=>
  rw[he] at h;simp only at h;have Aa:=yH _ _ he
  by_cases i:((l++10::b).take (m+2)).contains 10=true
  .rw[E4 i] at h;cases h
  .rw[E6 i] at h
   have Ac:(l.drop 2).length=l.length-2:=bm
   have Ab:(l.drop 2++10::b)[l.length-2]?=aw 10:=by
    rw[eK (by omega)];simp
   have Ad:m+2<=l.length:=by
    refine D1 fun hlt=>i ?_;rw[List.contains_iff_mem];refine CD.2 ⟨l.length,?_,?_⟩
    .simp;omega
    .rw[lP lz];simp
   have Ae:m≠l.length-2:=fun e=>by rw[e,Ab] at Aa;simp at Aa
   have Af:m+1≠l.length-2:=fun e=>by have:=Aa.2;rw[e,Ab] at this;simp at this
   rw[IW _ _ m he (by omega)];simp only;rw[eW (by omega)] at i h;rw[E6 i];exact h
theorem Qe{l:Bs}(D:l≠[]){b:Bs}(h:dY (l++10::b)=.tok k n):dY l=.tok k n:=by
 cases l with
 |nil=>exact absurd rfl D
 |cons c r=>
  rw[cf] at h;rw[dY] at h ⊢;split at h
  .next j=>rw[E4 j];rw[xy (by simp[uF,show Ky 10=false from rfl])] at h;exact h
  next j=>
  rw[E6 j];split at h
  .next o=>
   rw[E4 o];rw[<-cf] at h;unfold nA at h ⊢;rw[Au (EJ b) (by simp),eW (rR _)] at h;exact h
  next o=>
  rw[E6 o];split at h
  .next z=>rw[E4 z];rw[<-cf] at h;exact Sv h
  next z=>
  rw[E6 z];split at h
  .next f=>rw[E4 f];exact h
  next f=>
  rw[E6 f]
  have C:∀x:UInt8,x≠10->(((r++10::b).head?=aw x)↔(r.head?=aw x)):=fun x hx=>by
   cases r with
   |nil=>simp;exact fun e=>hx e.symm
   |cons d r=>simp
  simp only[C 47 (by decide),C 42 (by decide)] at h;split at h
  .next B=>rw[E4 B];rw[<-cf,ET] at h;exact h
  next B=>
  rw[E6 B];split at h
  .next i=>
   rw[E4 i];rw[<-cf] at h;exact OP h (by cases r with|nil=>simp at i|cons d r=>simp)
  next i=>
  rw[E6 i];rw[zG (.inr (by simp))] at h;exact h
theorem Fu:∀(k:Nat) (a:Bs) (p:Nat) (b:Bs),a.length<=k->(aC (a++10::b) p).2.2=0->(aC a p).2.2=0
 |k,[],p,b,_,_=>by rw[dM]
 |0,c::r,p,b,hk,_=>by simp at hk
 | k+1,c::r,p,b,hk,h=>by
  simp only[bc] at hk;rw[cf] at h
  cases hb:aN c with
  |true=>
   rw[bV hb] at h ⊢;exact Fu k r (p+1) b (by omega) h
  |false=>
   cases ho:dY (c::(r++10::b)) with
   |bad o e=>rw[fw hb ho] at h;exact absurd h (nZ ho)
   |tok kd sz=>
    have ho2:=Qe (l:=c::r) (by simp) (b:=b) ho;have hs:=dC ho2;rw[bc] at hs;rw[dE hb ho,<-cf,eo (by simp;omega)] at h;rw[dE hb ho2];exact Fu k _ _ b (by rw[bm,bc];omega) h
def Wh(q:Nat)(t:ae):ae:=⟨t.kind,t.text,t.pos+(q:Nat)⟩
theorem yA:∀(k:Nat) (l:Bs) (p q:Nat),l.length<=k->aC l (p+q)=((aC l p).1.map (Wh q),if (aC l p).2.2=0 then -1 else (aC l p).2.1+(q:Nat),(aC l p).2.2)
 |k,[],p,q,_=>by rw[dM,dM];rfl
 |0,c::r,p,q,hk=>by simp at hk
 | k+1,c::r,p,q,hk=>by
  simp only[bc] at hk
  cases hb:aN c with
  |true=>
   rw[bV hb,bV hb,show p+q+1=p+1+q by omega];exact yA k r (p+1) q (by omega)
  |false=>
   cases ho:dY (c::r) with
   |bad o e=>
    rw[fw hb ho,fw hb ho];simp only[ke,E6 (nZ ho)]
    congr 2
    omega
   |tok kd sz=>
    have hs:=dC ho;rw[dE hb ho,dE hb ho,show p+q+sz=p+sz+q by omega,yA k ((c::r).drop sz) (p+sz) q (by rw[bm,bc];omega)];simp only[cI,Wh]
    congr 2
def lZ(m:Nat)(r:List ae)(g:gq):Prop:=g.2.2≠-1->g.2.1<=r.length/\(g.2.2=0->m<=g.2.1)
theorem lZ.and{g:gq}(h:lZ m r g)(c:g.2.2=0->m<=g.2.1->g.2.1<=r.length->lZ m2 r (f g.1 g.2.1)):lZ m2 r (jr g f):=by
 by_cases a:g.2.2=0
 .rw[cB a]
  have b:=h (by rw[a];decide);exact c a (b.2 a) b.1
 .rw[bA a];exact fun hn=>⟨(h hn).1,fun e=>absurd e a⟩
theorem lZ.up{g:gq}(h:lZ m (r.drop n) g)(f:n<=r.length):lZ (n+m) r (eZ n g):=by
 intro b;obtain⟨c,d⟩:=h b;rw[bm] at c;exact⟨by simp only[eZ];omega,fun e=>by have:=d e;simp only[eZ];omega⟩
theorem lZ.less{g:gq}(h:lZ m r g)(hm:m2<=m):lZ m2 r g:=fun h0=>⟨(h h0).1,fun e=>dy hm ((h h0).2 e)⟩
theorem lZ.ok(h1:n<=r.length)(h2:m<=n):lZ m r (x,n,0):=fun _=>⟨h1,fun _=>h2⟩
theorem lZ.bad{q:List ae}(a:n<=r.length):lZ m r (dJ q n):=by
 unfold dJ;split
 .exact fun _=>⟨a,fun e=>by cases e⟩
 .exact fun _=>⟨a,fun e=>by cases e⟩
theorem lZ.deep(hn:n<=r.length):lZ m r (ow n):=fun _=>⟨hn,fun e=>by cases e⟩
theorem fZ:∀(n:Nat) (t:Nt) (r:List ae) (d:Nat),t.okX r->lZ t.least r (ah n t r d):=by
 intro n
 induction n with
 |zero=>
  intro t r d _ h;exact absurd rfl h
 |succ n ih=>
  intro t r d B;have f:∀(t:Nt) (r:List ae) (d:Nat),t.okX r->lZ t.least r (ah n t r d):=fun t r d h=>ih t r d h;clear ih
  cases t with
  |choice=>
   rw[ah];refine (f (.term 1) r d (by simp only[Nt.okX];omega)).and fun _ h1 h2=>?_;simp only[Nt.least] at h1 ⊢;split
   .exact (.ok (h2) (h1))
   .next A=>
    have A:=fE (iU A);split
    .exact .deep h2
    .refine ((f .choice (r.drop _) (d+1) (by simp only[Nt.okX];try omega)).up A).and fun _ h3 h4=>?_
     simp only[Nt.least] at h3;split
     .exact .bad h4
     .next C=>
      have C:=fE (iU C);refine ((f .choice (r.drop _) (d+1) (by simp only[Nt.okX];try omega)).up C).and fun _ h5 h6=>?_;exact (.ok (h6) (by simp only[Nt.least] at *;omega))
  |term lv=>
   simp only[Nt.okX] at B;rw[ah];split
   .exact f .tight r d (by simp only[Nt.okX];try omega)
   .refine (f (.term (lv+1)) r d (by simp only[Nt.okX];omega)).and fun _ h1 h2=>?_
    simp only[Nt.least] at h1;exact ((f (.tloop lv _) (r.drop _) d (by simp only[Nt.okX];try omega)).up h2).less (by simp only[Nt.least];omega)
  |tloop lv a=>
   rw[ah];split
   .exact (.ok (ck _) (ck _))
   .next o D=>
    have j:=BR D;refine ((f (.term (lv+1)) (r.drop 1) d (by simp only[Nt.okX] at B ⊢;omega)).up j).and fun _ h1 h2=>?_;simp only[Nt.least] at h1;exact ((f (.tloop lv _) (r.drop _) d B).up h2).less (ck _)
  |tight=>
   rw[ah];split
   .exact f .post r d (by simp only[Nt.okX];try omega)
   .next i=>
    have j:1<=r.length:=by
     by_cases h1:cu r dQ=false
     .exact iU (w:=kZ) (fun h2=>i ⟨h1,h2⟩)
     .exact iU h1
    split
    .exact .deep (ck _)
    .refine ((f .tight (r.drop 1) (d+1) (by simp only[Nt.okX];try omega)).up j).and fun _ h1 h2=>?_
     exact (.ok (h2) (by simp only[Nt.least] at *;omega))
  |post=>
   rw[ah];refine (f .prime r d (by simp only[Nt.okX];try omega)).and fun _ h1 h2=>?_;simp only[Nt.least] at h1;exact ((f (.ploop _) (r.drop _) d (by simp only[Nt.okX];try omega)).up h2).less (by simp only[Nt.least];omega)
  |ploop a=>
   rw[ah];split
   .next i=>
    have j:=bW i;split
    .exact .bad j
    .next t q A=>
     have Aa:2<=r.length:=by have:=congrArg List.length A;simp at this;omega
     split
     .exact ((f (.ploop _) (r.drop 2) d (by simp only[Nt.okX];try omega)).up Aa).less (ck _)
     .exact .bad j
   .split
    .next i=>
     have j:=bW i;split
     .exact .deep (ck _)
     .refine ((f .choice (r.drop 1) (d+1) (by simp only[Nt.okX];try omega)).up j).and fun _ h1 h2=>?_
      simp only[Nt.least] at h1;split
      .exact .bad h2
      .next x=>
       have x:=fE (iU x);exact ((f (.ploop _) (r.drop _) d (by simp only[Nt.okX];try omega)).up x).less (ck _)
    .exact (.ok (ck _) (ck _))
  |prime=>
   cases r with
   |nil=>exact .bad (ck _)
   |cons t r'=>
    simp only[ah];split
    .split
     .next i=>
      have:=((f (.many tF) ((t::r').drop 1) d (bW i)).up (n:=1) (by simp));refine this.and fun _ h1 h2=>?_;exact (.ok (h2) (by simp only[Nt.least] at *;omega))
     .exact (.ok (by simp) lz)
    .split
     .exact (.ok (by simp) lz)
     .split
      .split
       .exact fun _=>⟨ck _,fun e=>by cases e⟩
       .exact (.ok (by simp) lz)
      .split
       .refine (f (.many rT) (t::r') d (by simp[Nt.okX])).and fun _ h1 h2=>?_
        exact (.ok (h2) (h1))
       .split
        .split
         .exact .deep (ck _)
         .refine ((f .choice ((t::r').drop 1) (d+1) (by simp only[Nt.okX];try omega)).up (n:=1) (by simp)).and fun _ h1 h2=>?_
          simp only[Nt.least] at h1;split
          .exact .bad h2
          .next x=>exact (.ok (fE (iU x)) (by simp only[Nt.least] at *;omega))
        .exact .bad (ck _)
  |many s=>
   have j:1<=r.length:=B;rw[ah];split
   .exact .deep (ck _)
   .split
    .next i=>exact (.ok (fE (bW i)) (by simp only[Nt.least] at *;omega))
    .exact ((f (.mloop s []) (r.drop 1) d (by simp only[Nt.okX];try omega)).up j).less (by simp only[Nt.least];omega)
  |mloop s l=>
   rw[ah];refine (f .choice r (d+1) (by simp only[Nt.okX];try omega)).and fun _ h1 h2=>?_;simp only[Nt.least] at h1;split
   .next i=>
    have i:=fE (bW i);exact ((f (.mloop s _) (r.drop _) d (by simp only[Nt.okX];try omega)).up i).less (by simp only[Nt.least];omega)
   .split
    .next i=>exact (.ok (fE (bW i)) (by simp only[Nt.least] at *;omega))
    .exact .bad h2
def aO(t:ae)(all:List UInt8):Bool:=decide (t.kind=4)&&(match t.text.data.toList with|[c]=>all.contains c|_=>false)
def dD(t:ae):Bool:=decide (t.kind=6) || decide (t.kind=7)
def gV(t:ae):Bool:=decide (t.kind=1) || (decide (t.kind=2) || decide (t.kind=3))
def Rq:List ae->Bool
 |[]=>false
 |t::r=>if dD t then Rq r else decide (t.kind=4)&&!aO t [41,93]
def qX(row:List ae)(i:Nat):Bool:=Rq (row.take i).reverse
def Dc(a b:ae)(m:Bool):Nat:=
 if dD a || dD b then 1
 else if aO a [40,91,46] || aO b [41,93,44,46] then 0
 else if aO b [40]&&decide (a.kind=1) then 0
 else if aO b [91]&&(gV a || aO a [41,93]) then 0
 else if aO a [33] || (aO a [45]&&m) then 0
 else if aO a [123]&&aO b [125] then 0
 else 1
def lF(row:List ae):Nat->Nat
 |0=>0
 | i+1=>match row[i]?,row[i+1]? with
  |some a,aw b=>Dc a b (qX row i)
  |_,_=>0
def bZ(t:ae)(w:E7):Bool:=decide (t.kind=4)&&decide (t.text=w)
theorem uA(t:ae)(c:UInt8):aO t [c]=bZ t (au [c]):=by
 unfold aO bZ
 congr 1
 by_cases h:t.text=au [c]
 .rw[decide_eq_true h,h]
  simp[au]
 .rw[decide_eq_false h]
  split
  .next x b=>
   simp only[List.contains_cons,List.contains_nil,my]
   by_cases e:x=c
   .exact absurd (jA (by rw[b,e];rfl)) h
   .simpa using e
  .rfl
theorem dA(t:ae)(c:UInt8)(r:List UInt8):aO t (c::r)=(bZ t (au [c]) || aO t r):=by
 rw[<-uA];unfold aO;cases decide (t.kind=4)
 .rfl
 .simp only[Bool.true_and]
  split
  .simp
  .rfl
theorem yM(t:ae):aO t []=false:=by
 unfold aO;split<;>simp
def UJ(a b:ae)(m:Bool):Nat:=
 if dD a || dD b then 1
 else if bZ a (au [40]) || (bZ a (au [91]) || (bZ a (au [46]) || (bZ a (au [33]) || (bZ a (au [45])&&m)))) then 0
 else if bZ b (au [41]) || (bZ b (au [93]) || (bZ b (au [44]) || bZ b (au [46]))) then 0
 else if (bZ b (au [40])&&decide (a.kind=1)) || ((bZ b (au [91])&&(gV a || (bZ a (au [41]) || bZ a (au [93])))) || (bZ a (au [123])&&bZ b (au [125]))) then 0
 else 1
theorem QX(a b:ae)(m:Bool):Dc a b m=UJ a b m:=by
 unfold Dc UJ;simp only[dA,yM,my];have h:∀(c d:Bool) (e:Nat),(if c=true then 0 else if d=true then 0 else e)=if (c || d)=true then 0 else e:=by intro c d e;cases c<;>cases d<;>rfl
 simp only[h]
 by_cases i:(dD a || dD b)=true
 .rw[E4 i,E4 i]
 .rw[E6 i,E6 i]
  congr 2
  ac_rfl
def R3(r:List ae)(g G1 G2:gq):Prop:=g.2.2=0->g.2.1<=r.length/\((G1=g/\G2=g)\/(G1=G2/\G1.2.2=5))
open Go.RowKit Go.Tab Go.ChangeShapes
abbrev fq(o t:E7)(kv:cq):List cq:=[al o,al t,kv]
abbrev Wl(o t:E7)(kv:cq):cq:=ew #[al o,al t,kv]
mutual
def zi(w:cd):iA->List cq->Prop
 | .mk op text kids,cs=>∃a cap,cs=[al op,al text,an a kids.length cap]/\
   kids.length<=cap/\cap<=cV/\(a=aq->cap=0)/\∀x,a=aw x->kids≠[]->x.spot=aq/\x.block<w.heap.size/\CK w x.block x.off kids
def CK(w:cd)(b off:Nat):List iA->Prop
 |[]=>True
 |t::r=>(∃cs,(∀j u,cs[j]?=aw u->w.cell? ⟨b,off+j,aq⟩=aw u)/\zi w t cs)/\CK w b (off+3) r
end
theorem zi.shape(h:zi w t cs):∃op text sa sn sc,cs=[al op,al text,an sa sn sc]:=by
 cases t
 simp only[zi] at h;obtain⟨a,Aa,rfl,-⟩:=h;exact⟨_,_,_,_,_,rfl⟩
section
variable {H:Type} {enc:TypeId×cq->H} {W:cd} {base:Nat} {spare:Nat->Bool} {held:Bool}
end
open Go.RowKit Go.Tab
mutual
def af(P:Nat->Prop)(w:cd):iA->List cq->Prop
 | .mk op text kids,cs=>∃a cap,cs=[al op,al text,an a kids.length cap]/\
   kids.length<=cap/\cap<=cV/\(a=aq->cap=0)/\∀x,a=aw x->kids≠[]->x.spot=aq/\(x.block<w.heap.size/\P x.block/\∀off,w.frozen? ⟨x.block,off,aq⟩=false)/\gy P w x.block x.off kids
def gy(P:Nat->Prop)(w:cd)(b off:Nat):List iA->Prop
 |[]=>True
 |t::r=>(∃cs,(∀j u,cs[j]?=aw u->w.cell? ⟨b,off+j,aq⟩=aw u)/\af P w t cs)/\gy P w b (off+3) r
end
mutual
theorem af.at{P:Nat->Prop}{w:cd}:∀(t:iA) (cs:List cq),af P w t cs->zi w t cs
 | .mk op text kids,cs,h=>by
  simp only[af] at h;simp only[zi];obtain⟨a,cap,h1,h3,h4,h5,h6⟩:=h;refine⟨a,cap,h1,h3,h4,h5,fun x hx hne=>?_⟩;obtain⟨g1,g2,g3⟩:=h6 x hx hne;exact⟨g1,g2.1,gy.at kids x.off g3⟩
theorem gy.at{P:Nat->Prop}{w:cd}{b:Nat}:∀(l:List iA) (off:Nat),gy P w b off l->CK w b off l
 |[],_,_=>by simp only[CK]
 | t::r,off,h=>by
  simp only[gy] at h;simp only[CK];obtain⟨⟨cs,h1,h2⟩,h3⟩:=h;exact⟨⟨cs,h1,af.at t cs h2⟩,gy.at r _ h3⟩
end
mutual
theorem af.move{P:Nat->Prop}{w:cd}{w':cd}{Q:Nat->Prop}(hs:w.heap.size<=w'.heap.size)(hb:∀k,P k->k<w.heap.size->w'.heap[k]?=w.heap[k]?)(hq:∀k,P k->k<w.heap.size->Q k) :
  ∀(t:iA) (cs:List cq),af P w t cs->af Q w' t cs
 | .mk op text kids,cs,h=>by
  simp only[af] at h ⊢;obtain⟨a,cap,h1,h3,h4,h5,h6⟩:=h;refine⟨a,cap,h1,h3,h4,h5,fun x hx hne=>?_⟩;obtain⟨g1,g2,g3⟩:=h6 x hx hne;exact⟨g1,⟨Nat.lt_of_lt_of_le g2.1 hs,hq _ g2.2.1 g2.1,fun off=>(II (hb _ g2.2.1 g2.1) off).trans (g2.2.2 off)⟩,gy.move hs hb hq ⟨g2.1,g2.2.1⟩ kids x.off g3⟩
theorem gy.move{P Q:Nat->Prop}{w w':cd}(hs:w.heap.size<=w'.heap.size)(hb:∀k,P k->k<w.heap.size->w'.heap[k]?=w.heap[k]?)(hq:∀k,P k->k<w.heap.size->Q k){b:Nat}(hP:b<w.heap.size/\P b) :
  ∀(l:List iA) (off:Nat),gy P w b off l->gy Q w' b off l
 |[],_,_=>by simp only[gy]
 | t::r,off,h=>by
  simp only[gy] at h ⊢;obtain⟨⟨cs,h1,h2⟩,h3⟩:=h;exact⟨⟨cs,fun j u hu=>(jC (hb b hP.2 hP.1) _).trans (h1 j u hu),af.move hs hb hq t cs h2⟩,gy.move hs hb hq hP r _ h3⟩
end
theorem gy.make{P:Nat->Prop}{w:cd}{b:Nat}:∀(l:List iA) (off:Nat),(∀k (h:k<l.length),∃cs,(∀j u,cs[j]?=aw u->w.cell? ⟨b,off+k*3+j,aq⟩=aw u)/\af P w l[k] cs)->gy P w b off l
 |[],_,_=>by simp only[gy]
 | t::r,off,h=>by
  simp only[gy];constructor
  .obtain⟨cs,h1,h2⟩:=h 0 (by simp)
   exact⟨cs,fun j u hu=>by have:=h1 j u hu;simpa using this,by simpa using h2⟩
  .refine gy.make r (off+3) (fun k hk=>?_)
   obtain⟨cs,h1,h2⟩:=h (k+1) (by simp;omega);refine⟨cs,fun j u hu=>?_,by simpa using h2⟩;rw[<-h1 j u hu]
   congr 2
   omega
theorem af.below(hb:cj w.heap.size w w')(t:iA)(cs:List cq)(h:af P w t cs):af P w' t cs:=
 af.move hb.size (fun k _ hk=>hb.block k hk) (fun _ h _=>h) t cs h
theorem af.len3(h:af P w t cs):cs.length=3:=by
 cases t
 simp only[af] at h;obtain⟨a,Aa,rfl,-⟩:=h;rfl
theorem af.shape(h:af P w t cs):∃op text sa sn sc,cs=[al op,al text,an sa sn sc]:=(af.at _ _ h).shape
theorem af.leaf(P:Nat->Prop)(w:cd)(o t:E7):af P w (.mk o t []) [al o,al t,an aq 0 0]:=by
 simp only[af];exact⟨aq,0,rfl,cA _,ck _,fun _=>rfl,fun x hx=>by cases hx⟩
theorem af.node{t:E7}{kids:List iA}(r:base<=b)(q:b<w.heap.size)(z:∀off,w.frozen? ⟨b,off,aq⟩=false)(v:kids.length<=cap)(B:cap<=cV)(h:∀k (h:k<kids.length),∃cs,(∀j u,cs[j]?=aw u->w.cell? ⟨b,k*3+j,aq⟩=aw u)/\af (fun k=>base<=k) w kids[k] cs) :
  af (fun k=>base<=k) w (.mk o t kids) [al o,al t,an (aw ⟨b,0,aq⟩) kids.length cap]:=by
 simp only[af];refine⟨aw ⟨b,0,aq⟩,cap,rfl,v,B,(fun h=>by cases h),fun x hx _=>?_⟩;cases hx
 exact⟨rfl,⟨q,r,z⟩,gy.make kids 0 (fun k hk=>by
  obtain⟨cs,a,i⟩:=h k hk
  exact⟨cs,fun j u hu=>by rw[df];exact a j u hu,i⟩)⟩
abbrev j5(w:cd)(g:Nat)(lv:cq)(k:Int)(e:Int):Prop:=aa w g #[lv,ao ar k,ao ar e] 184
structure rF(w:cd)(g:Nat)(lv:cq)(l:List ae)(k:Nat):Prop where
 box:j5 w g lv (k:Nat) 0
 toks:aP w lv l
 own:∀b,lv.ownBlock=aw b->b<g
 le:k<=l.length
 small:l.length<=1000000
 tab:Tab w
 tabg:0<g
 short:∀t∈l,t.text.size<=1048576
theorem rF.go{k':Nat}(h:rF w g lv l k)(hs:aF g w w')(hc:j5 w' g lv (k':Nat) 0)(hk:k'<=l.length):rF w' g lv l k':=
 ⟨hc,h.toks.moved hs.size (fun b off hb hv=>jC (hs.2 b hb (by have:=h.own b hv;omega)) off),h.own,hk,h.small,fun j hj=>(hs.cell (h.tab j hj) (by have:=h.tabg;omega)),h.tabg,h.short⟩
theorem QO(w:cd)(g:Nat)(lv:cq)(k e:Int)(s:E7)(i:j5 w g lv k e)(j:e≠0)(o:∃a n c,lv=an a n c) :
  cJ bh 181 #[cx (aw ⟨g,0,aq⟩),al s] w fun r w'=>r=bk (.bool false)/\∃n,w'=w.drewN n:=by
 obtain⟨a,n,c,rfl⟩:=o;have Ag:=i.lt;have Ah:(e != 0)=true:=by simpa using j
 obtain⟨Aa,Ad,Ab,Ae,Ac,Af⟩:=i.n3 rfl;go_in;go_wp2_with fail;go_quiet (fail)
 go_wp2;go_ret;exact⟨rfl,_,rfl⟩
theorem oW(w:cd)(g:Nat)(lv:cq)(l:List ae)(k:Nat)(s:E7)(h:rF w g lv l k) :
  cJ bh 181 #[cx (aw ⟨g,0,aq⟩),al s] w fun r w'=>r=bk (.bool (cu (l.drop k) s))/\cj w.heap.size w w':=by
 have D:=h.box;have Ar:=D.lt;obtain⟨a,c,rfl,Y,Ay,-⟩:=h.toks.len;unfold cV at Ay;have A6:=h.le
 by_cases L:k=l.length
 .subst L
  rw[ei];obtain⟨Aa,Ad,Ab,Ae,Ac,Af⟩:=D.n3 rfl;go_in;go_wp2_with fail;go_quiet (fail)
  go_wp2;go_ret;exact⟨rfl,dz _ _ _⟩
 .have Aq:k<l.length:=by omega
  obtain⟨b,A8,rfl,H,I,c1,J⟩:=aP.get h.toks Aq;have K:cu (l.drop k) s=(decide (l[k].kind=4)&&decide (l[k].text=s)):=by rw[cg Aq];rfl
  rw[K];have A7:((k:Int)==(l.length:Int))=false:=by rw[Fc];omega
  generalize l[k]=t at *;clear K L;obtain⟨Aa,Ad,Ab,Ae,Ac,Af⟩:=D.n3 rfl;go_in;go_wp2_with fail;go_quiet (fail)
  go_wp2_with fail;have C:∀(n b' o':Nat) (u:cq),b'<w.heap.size->w.cell? ⟨b',o',aq⟩=aw u->((w.drewN n).alloc (aE #[ao ar 0,al ⟨#[]⟩,ao ar 0] 62)).cell? ⟨b',o',aq⟩=aw u:=fun n b' o' u h1 h2=>(kc _ _ _ h1).trans h2;have V:=fun n=>C n _ _ _ Ar Aa;have X:=fun n=>C n _ _ _ Ar Ab;have Au:=fun n=>C n _ _ _ H I;have Av:=fun n=>C n _ _ _ H c1;have Aw:=fun n=>C n _ _ _ H J;have A:=fun n=>aa.new (w.drewN n) #[ao ar 0,al ⟨#[]⟩,ao ar 0] 62;have Q:∀n,((w.drewN n).alloc (aE #[ao ar 0,al ⟨#[]⟩,ao ar 0] 62)).cell? ⟨w.heap.size,0,aq⟩=aw (ao ar 0):=fun n=>(A n).cell 0 _ rfl;have R:∀n,((w.drewN n).alloc (aE #[ao ar 0,al ⟨#[]⟩,ao ar 0] 62)).cell? ⟨w.heap.size,1,aq⟩=aw (al ⟨#[]⟩):=fun n=>(A n).cell 1 _ rfl;have U:∀n,((w.drewN n).alloc (aE #[ao ar 0,al ⟨#[]⟩,ao ar 0] 62)).cell? ⟨w.heap.size,2,aq⟩=aw (ao ar 0):=fun n=>(A n).cell 2 _ rfl;have Az:∀n,((w.drewN n).alloc (aE #[ao ar 0,al ⟨#[]⟩,ao ar 0] 62)).frozen? ⟨w.heap.size,0,aq⟩=false:=fun n=>(A n).frozen 0;have M:∀n,((w.drewN n).alloc (aE #[ao ar 0,al ⟨#[]⟩,ao ar 0] 62)).frozen? ⟨w.heap.size,1,aq⟩=false:=fun n=>(A n).frozen 1;have O:∀n,((w.drewN n).alloc (aE #[ao ar 0,al ⟨#[]⟩,ao ar 0] 62)).frozen? ⟨w.heap.size,2,aq⟩=false:=fun n=>(A n).frozen 2
  go_region
  have Ai:cj w.heap.size w (((((w.drewN (nq+1)).alloc (aE #[ao ar 0,al ⟨#[]⟩,ao ar 0] 62)).setCell ⟨w.heap.size,0,aq⟩ (ao ar t.kind)).setCell ⟨w.heap.size,1,aq⟩ (al t.text)).setCell ⟨w.heap.size,2,aq⟩ (ao ar t.pos)):=
   aZ _ _ lz [ao ar t.kind,al t.text,ao ar t.pos] 0 _ _ ((dz w.heap.size w (nq+1)).alloc lz _)
  have Ag:aa (((((w.drewN (nq+1)).alloc (aE #[ao ar 0,al ⟨#[]⟩,ao ar 0] 62)).setCell ⟨w.heap.size,0,aq⟩ (ao ar t.kind)).setCell ⟨w.heap.size,1,aq⟩ (al t.text)).setCell ⟨w.heap.size,2,aq⟩ (ao ar t.pos)) w.heap.size #[ao ar t.kind,al t.text,ao ar t.pos] 62:=aa.put [ao ar t.kind,al t.text,ao ar t.pos] 0 (A (nq+1));generalize (((((w.drewN (nq+1)).alloc (aE #[ao ar 0,al ⟨#[]⟩,ao ar 0] 62)).setCell ⟨w.heap.size,0,aq⟩ (ao ar t.kind)).setCell ⟨w.heap.size,1,aq⟩ (al t.text)).setCell ⟨w.heap.size,2,aq⟩ (ao ar t.pos))=W1 at Ai Ag ⊢;have Y:=Ag.lt;have Ah:=Hh Ai;clear Ai C V X Au Av Aw A Q R U Az M O I c1 J Aa Ab Ac Ad Ae Af D h;obtain⟨Aj,An,Ak,Ao,Al,Ap⟩:=Ag.n3 rfl;clear Ag
  by_cases B:t.kind=4
  .have A5:(t.kind==4)=true:=by rw[beq_iff_eq];exact B
   by_cases E:t.text=s
   .subst E
    have G:=Hh B;clear B;go_wp2;go_ret;exact⟨jT (by simp[G.out]),Ah.out⟩
   .have hx:=Am E
    have HS:=Hh E;clear B E;go_wp2;go_ret;exact⟨jT (by simp[HS.out]),Ah.out⟩
  .have hx:(t.kind==4)=false:=by rw[Fc];exact B
   have G:=Hh B;clear B;go_wp2;go_ret;exact⟨jT (by simp[G.out]),Ah.out⟩
theorem FK(w:cd)(g:Nat)(lv:cq)(k e:Int)(i:j5 w g lv k 0) :
  cJ bh 203 #[cx (aw ⟨g,0,aq⟩),ao ar e] w fun r w'=>r=bk (dr #[])/\j5 w' g lv k e/\aF g w w':=by
 have Ag:=i.lt;have j:=i.setI 2 (ao ar e);have o:=Hh j;clear j;obtain⟨Aa,Ad,Ab,Ae,Ac,Af⟩:=i.n3 rfl;go_in;go_wp2
 (first|go_end0|refine bj (lO rfl _ _ _) rfl ?_)
 exact⟨rfl,o.out,(aF.refl g w).set 2 _⟩
theorem Tu(w:cd)(g:Nat)(lv:cq)(k e o:Int)(i:j5 w g lv k e)(j:e≠0) :
  cJ bh 203 #[cx (aw ⟨g,0,aq⟩),ao ar o] w fun r w'=>r=bk (dr #[])/\w=w':=by
 have Ag:=i.lt;have Ah:(e==0)=false:=by simpa using j
 obtain⟨Aa,Ad,Ab,Ae,Ac,Af⟩:=i.n3 rfl;go_in;go_wp2
 (first|go_end0|refine bj (lO rfl _ _ _) rfl ?_)
 exact⟨rfl,rfl⟩
def CP(r:List ae):Int:=if r=[] then 2 else 3
theorem rM(r:List ae):CP r≠0:=by unfold CP;split<;>decide
theorem vZ(r:List ae)(n:Nat):dJ r n=(bf,n,CP r):=by unfold dJ CP;split<;>rfl
theorem rJ(w:cd)(g:Nat)(lv:cq)(l:List ae)(k:Nat)(h:rF w g lv l k) :
  cJ bh 204 #[cx (aw ⟨g,0,aq⟩)] w fun r w'=>r=bk (dr #[])/\j5 w' g lv (k:Nat) (CP (l.drop k))/\aF g w w':=by
 have E:=h.box;have Aj:=E.lt;obtain⟨a,c,rfl,Ag,Ah,-⟩:=h.toks.len;have Ai:=h.le;have D:=fun n=>FK (w.drewN n) g (an a l.length c) (k:Nat) (CP (l.drop k)) (E.drewN n)
 by_cases G:k=l.length
 .have C:CP (l.drop k)=2:=by rw[G,ei];rfl
  rw[C] at D ⊢;have H:((k:Int)==(l.length:Int))=true:=by rw[beq_iff_eq];omega
  clear G h C;obtain⟨Aa,Ad,Ab,Ae,Ac,Af⟩:=E.n3 rfl;go_in;go_wp2_with fail;go_quiet (fail)
  go_wp2_with fail;refine (D _).mono ?_;rintro _ I ⟨rfl,u,A⟩;go_wp2
  (first|go_end0|refine bj (lO rfl _ _ _) rfl ?_)
  exact⟨rfl,u,(aF.of (dz _ _ _)).trans A⟩
 .have C:CP (l.drop k)=3:=by
   unfold CP;rw[E6 (by rw[List.drop_eq_nil_iff];omega)]
  rw[C] at D ⊢;have H:((k:Int)==(l.length:Int))=false:=by rw[Fc];omega
  clear G h C;obtain⟨Aa,Ad,Ab,Ae,Ac,Af⟩:=E.n3 rfl;go_in;go_wp2_with fail;go_quiet (fail)
  go_wp2_with fail;refine (D _).mono ?_;rintro _ I ⟨rfl,u,A⟩;go_wp2
  (first|go_end0|refine bj (lO rfl _ _ _) rfl ?_)
  exact⟨rfl,u,(aF.of (dz _ _ _)).trans A⟩
theorem O7(w:cd)(g:Nat)(lv:cq)(k e:Int)(j:j5 w g lv k e)(x:e≠0)(A:∃a n c,lv=an a n c) :
  cJ bh 204 #[cx (aw ⟨g,0,aq⟩)] w fun r w'=>r=bk (dr #[])/\∃n,w'=w.drewN n:=by
 obtain⟨a,n,c,rfl⟩:=A;have Ag:=j.lt;have p:=fun m e2=>Tu (w.drewN m) g (an a n c) k e e2 (j.drewN m) x;cases hq:(k==(n:Int))
 all_goals
  obtain⟨Aa,Ad,Ab,Ae,Ac,Af⟩:=j.n3 rfl;go_in;go_wp2_with fail;go_quiet (fail)
  go_wp2_with fail;refine (p _ _).mono ?_;rintro _ _ ⟨rfl,i⟩;cases i
  go_wp2
  (first|go_end0|refine bj (lO rfl _ _ _) rfl ?_)
  exact⟨rfl,_,rfl⟩
theorem qm(w:cd)(g:Nat)(lv:cq)(k d:Nat)(i:j5 w g lv (k:Nat) 0)(o:d<64)(p:k<=1000000) :
  cJ bh 182 #[cx (aw ⟨g,0,aq⟩),ao ar ((d:Int)+1)] w fun r w'=>r=bk (.bool true)/\j5 w' g lv ((k+1:Nat)) 0/\aF g w w':=by
 have Ag:=i.lt;have j:=Hh (i.setI 1 (ao ar ((k:Int)+1)));obtain⟨Aa,Ad,Ab,Ae,Ac,Af⟩:=i.n3 rfl;go_in;go_wp2;go_ret;exact⟨rfl,j.out,(aF.refl g w).set 1 _⟩
theorem uf(w:cd)(g:Nat)(lv:cq)(k d:Nat)(j:j5 w g lv (k:Nat) 0)(q:64<=d) :
  cJ bh 182 #[cx (aw ⟨g,0,aq⟩),ao ar ((d:Int)+1)] w fun r w'=>r=bk (.bool false)/\j5 w' g lv (k:Nat) 5/\aF g w w':=by
 have i:=FK w g lv (k:Nat) 5 j;go_in;go_wp2_with fail;refine i.mono ?_;rintro _ p ⟨rfl,a,b⟩;go_wp2;go_ret;exact⟨rfl,a,b⟩
theorem zO(w:cd)(g:Nat)(lv:cq)(l:List ae)(k:Nat)(s:E7)(h:rF w g lv l k) :
  cJ bh 183 #[cx (aw ⟨g,0,aq⟩),al s] w fun r w'=>r=bk (dr #[])/\
   j5 w' g lv ((if cu (l.drop k) s then k+1 else k:Nat)) (if cu (l.drop k) s then 0 else CP (l.drop k))/\aF g w w':=by
 have A:=oW w g lv l k s h;have Ai:=h.le;have Ak:=h.small
 cases hs:cu (l.drop k) s with
 |true=>
  rw[hs] at A;go_in;go_wp2_with fail;refine A.mono ?_;rintro _ E ⟨rfl,q⟩;have Aa:=h.box.below q h.box.lt;have Aj:=Aa.lt;have H:=Hh (Aa.setI 1 (ao ar ((k:Int)+1)));have G:=Hh (aF.of (g:=g) q);clear q hs A;obtain⟨Ab,Ae,Ac,Af,Ad,Ag⟩:=Aa.n3 rfl;clear Aa;go_wp2
  (first|go_end0|refine bj (lO rfl _ _ _) rfl ?_)
  exact⟨rfl,H.out,G.out.set 1 _⟩
 |false=>
  rw[hs] at A;go_in;go_wp2_with fail;refine A.mono ?_;rintro _ E ⟨rfl,q⟩;have Ah:=aF.of (g:=g) q;have K:=rJ E g lv l k (h.go Ah (h.box.below q h.box.lt) h.le);go_wp2_with fail;refine K.mono ?_;rintro _ L ⟨rfl,C,D⟩;go_wp2
  (first|go_end0|refine bj (lO rfl _ _ _) rfl ?_)
  exact⟨rfl,C,Ah.trans D⟩
theorem LK(w:cd)(g:Nat)(lv:cq)(k e:Int)(s:E7)(i:j5 w g lv k e)(j:e≠0)(p:∃a n c,lv=an a n c) :
  cJ bh 183 #[cx (aw ⟨g,0,aq⟩),al s] w fun r w'=>r=bk (dr #[])/\∃n,w'=w.drewN n:=by
 have b:=QO w g lv k e s i j p;have f:=fun n=>O7 (w.drewN n) g lv k e (i.drewN n) j p;go_in;go_wp2_with fail;refine b.mono ?_;rintro _ _ ⟨rfl,n,rfl⟩;go_wp2_with fail;refine (f n).mono ?_;rintro _ _ ⟨rfl,m,rfl⟩;go_wp2
 (first|go_end0|refine bj (lO rfl _ _ _) rfl ?_)
 exact⟨rfl,n+m,rfl⟩
theorem Ij(s:E7):(∃x∈yX,s=au x.1/\Ik s=x.2)\/(Ik s = -1/\∀x∈yX,s≠au x.1):=by
 unfold Ik
 cases hf:yX.find? (fun x=>x.1==s.data.toList) with
 |some x=>
  refine .inl ⟨x,List.mem_of_find?_eq_some hf,?_,rfl⟩;have b:=List.find?_some hf;simp only[beq_iff_eq] at b;rw[b];exact zF s
 |none=>
  refine .inr ⟨rfl,fun x hx e=>?_⟩;have b:=List.find?_eq_none.1 hf x hx;rw[e,aV] at b;simp at b
def Ve(s:E7):Int:=if 1<=Ik s/\Ik s<=6 then Ik s else 0
theorem fresh(s:E7)(h:∀x∈yX,s≠au x.1)(l:Bs)(c:l∈yX.map (·.1)):(s.toList==l)=false:=by
 obtain⟨x,b,rfl⟩:=List.mem_map.1 c;have a:=Am (h x b);rw[show (au x.1).toList=x.1 by rw[ByteArray.toList_eq];rfl] at a;exact a
theorem Ba(s:E7)(w:cd):cJ bh 186 #[al s] w fun e w'=>e=bk (ao ar (Ik s))/\w=w':=by
 rcases Ij s with ⟨x,q,rfl,o⟩|⟨o,h⟩
 .rw[o]
  clear o;simp only[yX,cL,fW,or_false] at q;rcases q with rfl|rfl|rfl|rfl|rfl|rfl|rfl|rfl|rfl|rfl|rfl|rfl|rfl|rfl|rfl|rfl|rfl|rfl|rfl|rfl|rfl|rfl|rfl
  all_goals
   simp only[au];go_in;go_wp2;go_ret;exact⟨rfl,rfl⟩
 .rw[o]
  have n0:=fresh s h [63] (by decide);have n1:=fresh s h [124,124] (by decide);have n2:=fresh s h [38,38] (by decide);have n3:=fresh s h [61,61] (by decide);have n4:=fresh s h [33,61] (by decide);have n5:=fresh s h [60] (by decide);have A:=fresh s h [62] (by decide);have n7:=fresh s h [60,61] (by decide);have B:=fresh s h [62,61] (by decide);have C:=fresh s h [43] (by decide);have Aa:=fresh s h [45] (by decide);have Ab:=fresh s h [42] (by decide);have Ac:=fresh s h [47] (by decide);have Ad:=fresh s h [37] (by decide);have Ae:=fresh s h [33] (by decide);have Af:=fresh s h [110,101,103] (by decide);have Ag:=fresh s h [103,101,116] (by decide);have Ah:=fresh s h [97,116] (by decide);have Ai:=fresh s h [110,97,109,101] (by decide);have Aj:=fresh s h [99,97,108,108] (by decide);have Ak:=fresh s h [110,117,109] (by decide);have Al:=fresh s h [116,101,120,116] (by decide);have Am:=fresh s h [108,105,115,116] (by decide);clear o h;go_in;go_wp2;go_ret;exact⟨rfl,rfl⟩
theorem Je(s:E7)(w:cd):cJ bh 202 #[al s] w fun e w'=>e=bk (ao ar (Ve s))/\w=w':=by
 unfold Ve;rcases Ij s with ⟨x,q,rfl,o⟩|⟨o,h⟩
 .rw[o]
  clear o;simp only[yX,cL,fW,or_false] at q;rcases q with rfl|rfl|rfl|rfl|rfl|rfl|rfl|rfl|rfl|rfl|rfl|rfl|rfl|rfl|rfl|rfl|rfl|rfl|rfl|rfl|rfl|rfl|rfl
  all_goals
   simp only[au];go_in;go_wp2;go_ret;exact⟨rfl,rfl⟩
 .rw[o]
  have n0:=fresh s h [63] (by decide);have n1:=fresh s h [124,124] (by decide);have n2:=fresh s h [38,38] (by decide);have n3:=fresh s h [61,61] (by decide);have n4:=fresh s h [33,61] (by decide);have n5:=fresh s h [60] (by decide);have A:=fresh s h [62] (by decide);have n7:=fresh s h [60,61] (by decide);have B:=fresh s h [62,61] (by decide);have C:=fresh s h [43] (by decide);have Aa:=fresh s h [45] (by decide);have Ab:=fresh s h [42] (by decide);have Ac:=fresh s h [47] (by decide);have Ad:=fresh s h [37] (by decide);have Ae:=fresh s h [33] (by decide);have Af:=fresh s h [110,101,103] (by decide);have Ag:=fresh s h [103,101,116] (by decide);have Ah:=fresh s h [97,116] (by decide);have Ai:=fresh s h [110,97,109,101] (by decide);have Aj:=fresh s h [99,97,108,108] (by decide);have Ak:=fresh s h [110,117,109] (by decide);have Al:=fresh s h [116,101,120,116] (by decide);have Am:=fresh s h [108,105,115,116] (by decide);clear o h;go_in;go_wp2;go_ret;exact⟨rfl,rfl⟩
theorem OA(w:cd)(n m:Nat):∃q,(w.drewN n).drewN m=w.drewN q:=⟨n+m,cd.drewN_drewN _ _ _⟩
def Sq(r:List ae):Int:=match r with
 |[]=>0
 |t::_=>if t.kind=4 then Ve t.text else 0
theorem TG{s:E7}{lv:Nat}(b:1<=lv)(c:lv<=6):Ve s=lv↔Ik s=lv:=by
 unfold Ve;split<;>constructor<;>intro h<;>omega
theorem LB{lv:Nat}(i:1<=lv)(j:lv<=6):Sq r=lv↔∃o,LZ r lv=aw o:=by
 unfold Sq LZ
 cases r with
 |nil=>
  constructor
  .intro h;simp only at h;omega
  .rintro⟨o,h⟩;cases h
 |cons t r=>
  simp only
  by_cases b:t.kind=4
  .rw[E4 b,TG i j]
   constructor
   .intro h;exact⟨t.text,by rw[E4 ⟨b,h⟩]⟩
   .rintro⟨o,h⟩
    split at h
    .next f=>exact f.2
    .cases h
  .rw[E6 b]
   constructor
   .intro h;omega
   .rintro⟨o,h⟩
    rw[E6 (fun f=>b f.1)] at h;cases h
theorem QQ{lv:Nat}(h:LZ r lv=aw o):∃t q,r=t::q/\t.text=o:=by
 unfold LZ at h
 cases r with
 |nil=>cases h
 |cons t q=>
  simp only at h;split at h
  .cases h;exact⟨t,q,rfl,rfl⟩
  .cases h
theorem Sr(w:cd)(g:Nat)(lv:cq)(k e:Int)(i:j5 w g lv k e)(j:e≠0)(o:∃a n c,lv=an a n c) :
  cJ bh 180 #[cx (aw ⟨g,0,aq⟩)] w fun r w'=>r=bk (ao ar 0)/\∃n,w'=w.drewN n:=by
 obtain⟨a,n,c,rfl⟩:=o;have Ag:=i.lt;have Ah:(e != 0)=true:=by simpa using j
 obtain⟨Aa,Ad,Ab,Ae,Ac,Af⟩:=i.n3 rfl;go_in;go_wp2_with fail;go_quiet (fail)
 go_wp2;go_ret;exact⟨rfl,_,rfl⟩
theorem LD(w:cd)(g:Nat)(lv:cq)(l:List ae)(k:Nat)(h:rF w g lv l k) :
  cJ bh 180 #[cx (aw ⟨g,0,aq⟩)] w fun r w'=>r=bk (ao ar (Sq (l.drop k)))/\∃n,w'=w.drewN n:=by
 have C:=h.box;have Am:=C.lt;obtain⟨a,c,rfl,Ak,Ai,-⟩:=h.toks.len;unfold cV at Ai;have Al:=h.le
 by_cases E:k=l.length
 .have H:Sq (l.drop k)=0:=by rw[E,ei];rfl
  rw[H];have Aj:((k:Int)==(l.length:Int))=true:=by rw[beq_iff_eq];omega
  clear E H h;obtain⟨Aa,Ad,Ab,Ae,Ac,Af⟩:=C.n3 rfl;go_in;go_wp2_with fail;go_quiet (fail)
  go_wp2;go_ret;exact⟨rfl,_,rfl⟩
 .have Ag:k<l.length:=by omega
  obtain⟨b,J,rfl,M,K,c1,L⟩:=aP.get h.toks Ag;have G:Sq (l.drop k)=if l[k].kind=4 then Ve l[k].text else 0:=by rw[cg Ag];rfl
  rw[G];have Aj:((k:Int)==(l.length:Int))=false:=by rw[Fc];omega
  generalize l[k]=t at *;clear G E h
  by_cases u:t.kind=4
  .rw[E4 u]
   have Ah:(t.kind != 4)=false:=by rw[bne_eq_false_iff_eq];exact u
   have I:=Je t.text;clear u;obtain⟨Aa,Ad,Ab,Ae,Ac,Af⟩:=C.n3 rfl;go_in;go_wp2_with fail;go_quiet (fail)
   go_wp2_with fail;go_quiet (exact (I _).mono fun _ _ h=>⟨h.1,_,h.2.symm⟩)
   go_wp2;go_ret;exact⟨rfl,OA _ _ _⟩
  .rw[E6 u]
   have Ah:(t.kind != 4)=true:=by rw[bne_iff_ne];exact u
   clear u;obtain⟨Aa,Ad,Ab,Ae,Ac,Af⟩:=C.n3 rfl;go_in;go_wp2_with fail;go_quiet (fail)
   go_wp2;go_ret;exact⟨rfl,_,rfl⟩
def XP(g:Nat)(lv:cq)(k:Nat)(r:gq)(w:cd)(e:Ending)(w':cd):Prop:=
 aF g w w'/\j5 w' g lv ((k+r.2.1:Nat)) r.2.2/\∃o t a n c,e=bk (Wl o t (an a n c))/\(r.2.2=0->af (fun b=>w.heap.size<=b) w' r.1 (fq o t (an a n c)))
structure K5(w:cd)(g bp bd bt d:Nat):Prop where
 p:aa w bp #[cx (aw ⟨g,0,aq⟩)] 182
 d:aa w bd #[ao ar (d:Nat)] 3
 t:aa w bt #[.func (.func 178) #[] #[cx (aw ⟨bp,0,aq⟩),cx (aw ⟨bd,0,aq⟩),cx (aw ⟨bt,0,aq⟩)]] 185
 np:bp≠g
 nd:bd≠g
 nt:bt≠g
theorem K5.save(h:K5 w g bp bd bt d)(hs:aF g w w'):K5 w' g bp bd bt d:=
 ⟨hs.cells h.p h.np,hs.cells h.d h.nd,hs.cells h.t h.nt,h.np,h.nd,h.nt⟩
def qZ(m:Nat):Prop:=∀(w:cd) (g:Nat) (lv:cq) (l:List ae) (k d:Nat),rF w g lv l k->d<=64->(ah m .choice (l.drop k) d).2.2≠-1->
 cJ bh 150 #[cx (aw ⟨g,0,aq⟩),ao ar (d:Nat)] w (XP g lv k (ah m .choice (l.drop k) d) w)
def Jk(m:Nat):Prop:=∀(w:cd) (g:Nat) (lv:cq) (l:List ae) (k d n bp bd bt:Nat),rF w g lv l k->K5 w g bp bd bt d->d<=64->1<=n->n<=7->(ah m (.term n) (l.drop k) d).2.2≠-1->
 cJ bh 178 #[ao ar (n:Nat),cx (aw ⟨bp,0,aq⟩),cx (aw ⟨bd,0,aq⟩),cx (aw ⟨bt,0,aq⟩)] w (XP g lv k (ah m (.term n) (l.drop k) d) w)
def F4(m:Nat):Prop:=∀(w:cd) (g:Nat) (lv:cq) (l:List ae) (k d:Nat),rF w g lv l k->d<=64->(ah m .tight (l.drop k) d).2.2≠-1->
 cJ bh 179 #[cx (aw ⟨g,0,aq⟩),ao ar (d:Nat)] w (XP g lv k (ah m .tight (l.drop k) d) w)
def RL(m:Nat):Prop:=∀(w:cd) (g:Nat) (lv:cq) (l:List ae) (k d:Nat),rF w g lv l k->d<=64->(ah m .post (l.drop k) d).2.2≠-1->
 cJ bh 201 #[cx (aw ⟨g,0,aq⟩),ao ar (d:Nat)] w (XP g lv k (ah m .post (l.drop k) d) w)
def K6(m:Nat):Prop:=∀(w:cd) (g:Nat) (lv:cq) (l:List ae) (k d:Nat),rF w g lv l k->d<=64->(ah m .prime (l.drop k) d).2.2≠-1->
 cJ bh 212 #[cx (aw ⟨g,0,aq⟩),ao ar (d:Nat)] w (XP g lv k (ah m .prime (l.drop k) d) w)
def Uj(B:Nat)(w:cd)(kids:List iA)(v:cq):Prop:=∀o t,af (fun b=>B<=b) w (.mk o t kids) (fq o t v)
def RO(m:Nat):Prop:=∀(w:cd) (g:Nat) (lv:cq) (l:List ae) (k d:Nat) (s:E7),rF w g lv l k->1<=(l.drop k).length->d<=64->s=tF\/s=rT->(ah m (.many s) (l.drop k) d).2.2≠-1->
 cJ bh 215 #[cx (aw ⟨g,0,aq⟩),ao ar (d:Nat),al s] w fun e w'=>
  aF g w w'/\j5 w' g lv ((k+(ah m (.many s) (l.drop k) d).2.1:Nat)) (ah m (.many s) (l.drop k) d).2.2/\∃a n c,e=bk (an a n c)/\((ah m (.many s) (l.drop k) d).2.2=0->Uj w.heap.size w' (ah m (.many s) (l.drop k) d).1.kids (an a n c))
theorem uh:∀(L:List (iA×List cq)) (_:∀s∈L,s.2.length=3) (k:Nat) (hk:k<L.length) (j:Nat) (_:j<3),(L.flatMap (·.2))[k*3+j]?=L[k].2[j]?
 | s::r,h8,0,_,j,hj=>by
  have h:=h8 s (by simp);simp only[fb,Nat.zero_mul,df,List.getElem_cons_zero];rw[List.getElem?_append_left (by omega)]
 | s::r,h8,k+1,hk,j,hj=>by
  have h:=h8 s (by simp);have ih:=uh r (fun x hx=>h8 x (by simp[hx])) k (by simpa using hk) j hj;simp only[fb,List.getElem_cons_succ] at ih ⊢;rw[eK (by omega),<-ih]
  congr 1
  omega
theorem Qh{w3:cd}(C:B<=w3.heap.size)(kids:List (iA×List cq))(z:∀s∈kids,af (fun b=>B<=b/\b≠q) w3 s.1 s.2)(E:kids.length<=cV) :
  af (fun b=>B<=b) ((aj w3 q 0 vals).alloc (aE (kids.flatMap (·.2)).toArray 45)) (.mk op text (kids.map (·.1))) [al op,al text,an (aw ⟨w3.heap.size,0,aq⟩) kids.length kids.length]:=by
 have Aa:(kids.map (·.1)).length=kids.length:=cW ..;have i:=aa.new (aj w3 q 0 vals) (kids.flatMap (·.2)).toArray 45;rw[aD] at i;have r:∀s∈kids,s.2.length=3:=fun s hs=>(z s hs).len3
 have v:=af.node (base:=B) (w:=(aj w3 q 0 vals).alloc (aE (kids.flatMap (·.2)).toArray 45)) (o:=op) (t:=text) (kids:=kids.map (·.1)) (b:=w3.heap.size) (cap:=kids.length) C i.lt (fun off=>i.frozen off) (by rw[Aa];exact cA _) E (fun k hkl=>by
  rw[Aa] at hkl;refine⟨kids[k].2,fun j u hu=>i.cell _ _ ?_,?_⟩
  .have x:j<3:=by have:=(fv.1 hu).1;rw[r _ (cH hkl)] at this;exact this
   simp only[List.getElem?_toArray];rw[uh kids r k hkl j x];exact hu
  .rw[ju]
   refine af.move ?_ (fun b hb hlt=>?_) (fun b hb _=>hb.1) _ _ (z _ (cH hkl))
   .rw[cF,aD];omega
   .rw[fX _ _ _ (by rw[aD];exact hlt),aR _ _ _ _ _ hb.2])
 rw[Aa] at v;exact v
theorem rF.sl(h:rF w g lv l k):∃a n c,lv=an a n c:=by
 obtain⟨a,c,rfl,-⟩:=h.toks.len;exact⟨_,_,_,rfl⟩
abbrev gU:Array cq:=#[al ⟨#[]⟩,al ⟨#[]⟩,an aq 0 0]
structure Rs(w0:cd)(q g:Nat)(w:cd):Prop where
 save:aF g w0 w
 res:aa w q gU 45
 qg:q≠g
 q0:w0.heap.size<=q
section
variable {w0 w w':cd} {q g:Nat}
theorem Rs.step(h:Rs w0 q g w)(hs:aF g w w'):Rs w0 q g w':=⟨h.save.trans hs,hs.cells h.res h.qg,h.qg,h.q0⟩
theorem Rs.below(h:Rs w0 q g w)(hb:cj w.heap.size w w'):Rs w0 q g w':=h.step (aF.of hb)
theorem Rs.start(h:rF w0 g lv l k):Rs w0 w0.heap.size g (w0.alloc (aE gU 45)):=
 ⟨(aF.refl _ _).alloc _,aa.new _ _ _,by have:=h.box.lt;omega,cA _⟩
theorem rF.step(h:rF w g lv l k)(hb:cj w.heap.size w w'):rF w' g lv l k:=h.go (aF.of hb) (h.box.below hb h.box.lt) h.le
theorem Rs.fin(h:Rs w0 q g w)(vals:List cq):aF g w0 (aj w q 0 vals):=
 ⟨aZ q 0 (ck _) vals 0 _ _ h.save.1,fun k hk hn=>(aR q vals 0 w k (by have:=h.q0;omega)).trans (h.save.2 k hk hn)⟩
theorem Rs.prc{k:Int}(h:Rs w0 q g w)(hc:j5 w g lv k e)(vals:List cq):j5 (aj w q 0 vals) g lv k e:=hc.setAllOther (fun e=>h.qg e.symm)
theorem TW{t:E7}{a:Option Addr}(hB:B<=w.heap.size)(hx:af (fun b=>B<=b/\b≠q) w x (fq o t (an a n c))) :
  af (fun b=>B<=b) ((aj w q 0 vals).alloc (aE #[al o,al t,an a n c] 45)) (.mk op text [x]) [al op,al text,an (aw ⟨w.heap.size,0,aq⟩) 1 1]:=
 Qh (q:=q) (vals:=vals) hB [(x,fq o t (an a n c))] (by intro s hs;simp at hs;subst hs;exact hx) (by unfold cV;simp)
theorem af.past(h:af (fun b=>B<=b) w x cs)(h1:B2<=B)(h2:q<B):af (fun b=>B2<=b/\b≠q) w x cs:=
 af.move lz (fun _ _ _=>rfl) (fun b hb _=>⟨dy h1 hb,by omega⟩) _ _ h
end
theorem af.keep(h1:B2<=B)(h2:q<B)(h:af (fun b=>B<=b) w x cs):af (fun b=>B2<=b) (aj w q 0 vals) x cs:=
 af.move (by rw[aD];exact cA _) (fun b hb _=>aR _ _ 0 _ b (by omega)) (fun b hb _=>dy h1 hb) _ _ h
theorem jD{g:gq}(h:(jr g f).2.2≠-1):g.2.2≠-1:=by
 unfold jr at h;split at h
 .next a=>rw[a];decide
 .exact h
theorem JC(m:Nat)(hT:F4 m)(hP:RL m):F4 (m+1):=by
 intro w g lv l k d h hd G;obtain⟨a0,n0,c0,rfl⟩:=h.sl;have hR:=Rs.start h;have S:=h.step ((ba _ w).alloc lz (aE gU 45));have Ay:=h.le;have Az:=h.small;rw[ah] at G ⊢;have An:=oW _ g _ l k dQ S
 by_cases s1:cu (l.drop k) dQ=true
 .rw[E6 (by rw[s1];simp)] at G ⊢
  rw[s1] at An;rw[E4 s1] at G ⊢
  by_cases K:64<=d
  .rw[E4 K]
   clear G;go_in;go_wp2_with fail;refine An.mono ?_;rintro _ w2 ⟨rfl,F⟩;have O:=S.step F;have Ai:=hR.below F;go_wp2_with fail;refine (uf w2 g _ k d O.box K).mono ?_;rintro _ V ⟨rfl,E,J⟩;have Aa:=Ai.step J;clear J Ai O F hR S h;have As:=Aa.res.lt;have Y:=Jh Aa E;have Ab:=Aa.res;clear Aa E;obtain⟨Ac,Af,Ad,Ag,Ae,Ah⟩:=Ab.n3 rfl;clear Ab;go_wp2;obtain⟨Aa,E⟩:=Y.out;have hq:=((Aa.res.setI 0 (al ⟨#[]⟩)).setI 1 (al ⟨#[]⟩)).setI 2 (an aq 0 0);obtain⟨hx,hy,hz⟩:=hq.m3 rfl;refine bj (v:=ew #[al ⟨#[]⟩,al ⟨#[]⟩,an aq 0 0]) (by simp[cD,tw,go_sem,hx,hy,hz]) rfl ?_;have Ak:=Aa.fin [al ⟨#[]⟩,al ⟨#[]⟩,an aq 0 0];have Aj:=Aa.prc E [al ⟨#[]⟩,al ⟨#[]⟩,an aq 0 0];show XP g (an a0 n0 c0) k _ w _ (aj V w.heap.size 0 [al ⟨#[]⟩,al ⟨#[]⟩,an aq 0 0]);exact⟨Ak,Aj,_,_,_,_,_,rfl,fun h=>by cases h⟩
  .rw[E6 K,c4] at G
   rw[E6 K,c4];have Au:=bW s1;rw[bm] at Au;have Ap:=jD G;simp only[eZ] at Ap;have Ao:=fun V h3=>hT V g (an a0 n0 c0) l (k+1) (d+1) h3 (by omega) Ap;rw[show ((d+1:Nat):Int)=(d:Int)+1 by omega] at Ao;clear G Ap;generalize ah m .tight (l.drop (k+1)) (d+1)=r1 at *;obtain⟨x1,n1,e1⟩:=r1;go_in;go_wp2_with fail;refine An.mono ?_;rintro _ w2 ⟨rfl,F⟩;have O:=S.step F;have Ai:=hR.below F;go_wp2_with fail;refine (qm w2 g _ k d O.box (by omega) (by omega)).mono ?_;rintro _ V ⟨rfl,hc3,J⟩;have h3:=O.go J hc3 (by omega);have Am:=Ai.step J;go_wp2_with fail;refine (Ao V h3).mono ?_;rintro _ N ⟨M,E,o,t,a,n,c,rfl,hX⟩;have Aa:=Am.step M;have Aq:=Am.res.lt;have Ar:=Am.save.size;have HX:=Hh hX;clear hX M Am h3 J hc3 Ai O F hR S h Ao;simp only at E;have As:=Aa.res.lt;have Y:=Jh Aa E;have Ab:=Aa.res;clear Aa E;obtain⟨Ac,Af,Ad,Ag,Ae,Ah⟩:=Ab.n3 rfl;clear Ab;have At:=Y.out.1.save.size;go_wp2;obtain⟨Aa,E⟩:=Y.out;have hq:=(((Aa.res.setI 0 (al dQ)).setI 1 (al ⟨#[]⟩)).setI 2 (an (aw ⟨N.heap.size,0,aq⟩) 1 1)).alloc (aE #[al o,al t,an a n c] 45)
   obtain⟨hx,hy,hz⟩:=hq.m3 rfl;refine bj (v:=ew #[al dQ,al ⟨#[]⟩,an (aw ⟨N.heap.size,0,aq⟩) 1 1]) (by simp[cD,tw,go_sem,hx,hy,hz]) rfl ?_;have Ak:=(Aa.fin [al dQ,al ⟨#[]⟩,an (aw ⟨N.heap.size,0,aq⟩) 1 1]).alloc (aE #[al o,al t,an a n c] 45);have Aj:=(Aa.prc E [al dQ,al ⟨#[]⟩,an (aw ⟨N.heap.size,0,aq⟩) 1 1]).alloc (aE #[al o,al t,an a n c] 45);show XP g (an a0 n0 c0) k _ w _ ((aj N w.heap.size 0 [al dQ,al ⟨#[]⟩,an (aw ⟨N.heap.size,0,aq⟩) 1 1]).alloc (aE #[al o,al t,an a n c] 45))
   by_cases he:e1=0
   .subst he
    rw[show k+1+n1=k+(1+n1) by omega] at Aj;rw[cB (by rfl)];simp only[eZ];exact⟨Ak,Aj,_,_,_,_,_,rfl,fun _=>TW (q:=w.heap.size) (op:=dQ) (text:=⟨#[]⟩) (vals:=[al dQ,al ⟨#[]⟩,an (aw ⟨N.heap.size,0,aq⟩) 1 1]) At (af.past (HX.out rfl) Ar Aq)⟩
   .rw[show k+1+n1=k+(1+n1) by omega] at Aj
    rw[bA (by exact he)];exact⟨Ak,Aj,_,_,_,_,_,rfl,fun h=>absurd h he⟩
 .have Aw:cu (l.drop k) dQ=false:=by simpa using s1
  rw[Aw] at An
  by_cases s2:cu (l.drop k) kZ=true
  .rw[E6 (by rw[s2];simp)] at G ⊢
   rw[E6 s1] at G ⊢
   by_cases K:64<=d
   .rw[E4 K]
    clear G;go_in;go_wp2_with fail;refine An.mono ?_;rintro _ w1 ⟨rfl,H⟩;have Al:=S.step H;go_wp2_with fail;refine (oW _ g _ l k kZ Al).mono ?_;rw[s2];rintro _ w2 ⟨rfl,hb9⟩;have F:cj (w.alloc (aE gU 45)).heap.size (w.alloc (aE gU 45)) w2:=H.trans (hb9.mono H.size);clear hb9 H Al;have O:=S.step F;have Ai:=hR.below F;go_wp2_with fail;refine (uf w2 g _ k d O.box K).mono ?_;rintro _ V ⟨rfl,E,J⟩;have Aa:=Ai.step J;clear J Ai O F hR S h;have As:=Aa.res.lt;have Y:=Jh Aa E;have Ab:=Aa.res;clear Aa E;obtain⟨Ac,Af,Ad,Ag,Ae,Ah⟩:=Ab.n3 rfl;clear Ab;go_wp2;obtain⟨Aa,E⟩:=Y.out;have hq:=((Aa.res.setI 0 (al ⟨#[]⟩)).setI 1 (al ⟨#[]⟩)).setI 2 (an aq 0 0);obtain⟨hx,hy,hz⟩:=hq.m3 rfl;refine bj (v:=ew #[al ⟨#[]⟩,al ⟨#[]⟩,an aq 0 0]) (by simp[cD,tw,go_sem,hx,hy,hz]) rfl ?_;have Ak:=Aa.fin [al ⟨#[]⟩,al ⟨#[]⟩,an aq 0 0];have Aj:=Aa.prc E [al ⟨#[]⟩,al ⟨#[]⟩,an aq 0 0];show XP g (an a0 n0 c0) k _ w _ (aj V w.heap.size 0 [al ⟨#[]⟩,al ⟨#[]⟩,an aq 0 0]);exact⟨Ak,Aj,_,_,_,_,_,rfl,fun h=>by cases h⟩
   .rw[E6 K,c4] at G
    rw[E6 K,c4];have Au:=bW s2;rw[bm] at Au;have Ap:=jD G;simp only[eZ] at Ap;have Ao:=fun V h3=>hT V g (an a0 n0 c0) l (k+1) (d+1) h3 (by omega) Ap;rw[show ((d+1:Nat):Int)=(d:Int)+1 by omega] at Ao;clear G Ap;generalize ah m .tight (l.drop (k+1)) (d+1)=r1 at *;obtain⟨x1,n1,e1⟩:=r1;go_in;go_wp2_with fail;refine An.mono ?_;rintro _ w1 ⟨rfl,H⟩;have Al:=S.step H;go_wp2_with fail;refine (oW _ g _ l k kZ Al).mono ?_;rw[s2];rintro _ w2 ⟨rfl,hb9⟩;have F:cj (w.alloc (aE gU 45)).heap.size (w.alloc (aE gU 45)) w2:=H.trans (hb9.mono H.size);clear hb9 H Al;have O:=S.step F;have Ai:=hR.below F;go_wp2_with fail;refine (qm w2 g _ k d O.box (by omega) (by omega)).mono ?_;rintro _ V ⟨rfl,hc3,J⟩;have h3:=O.go J hc3 (by omega);have Am:=Ai.step J;go_wp2_with fail;refine (Ao V h3).mono ?_;rintro _ N ⟨M,E,o,t,a,n,c,rfl,hX⟩;have Aa:=Am.step M;have Aq:=Am.res.lt;have Ar:=Am.save.size;have HX:=Hh hX;clear hX M Am h3 J hc3 Ai O F hR S h Ao;simp only at E;have As:=Aa.res.lt;have Y:=Jh Aa E;have Ab:=Aa.res;clear Aa E;obtain⟨Ac,Af,Ad,Ag,Ae,-⟩:=Ab.n3 rfl
    have Ah:=Ab.frozen 2;clear Ab;have At:=Y.out.1.save.size;go_wp2;obtain⟨Aa,E⟩:=Y.out;have hq:=(((Aa.res.setI 0 (al sj)).setI 1 (al ⟨#[]⟩)).setI 2 (an (aw ⟨N.heap.size,0,aq⟩) 1 1)).alloc (aE #[al o,al t,an a n c] 45);obtain⟨hx,hy,hz⟩:=hq.m3 rfl;refine bj (v:=ew #[al sj,al ⟨#[]⟩,an (aw ⟨N.heap.size,0,aq⟩) 1 1]) (by simp[cD,tw,go_sem,hx,hy,hz]) rfl ?_;have Ak:=(Aa.fin [al sj,al ⟨#[]⟩,an (aw ⟨N.heap.size,0,aq⟩) 1 1]).alloc (aE #[al o,al t,an a n c] 45);have Aj:=(Aa.prc E [al sj,al ⟨#[]⟩,an (aw ⟨N.heap.size,0,aq⟩) 1 1]).alloc (aE #[al o,al t,an a n c] 45);show XP g (an a0 n0 c0) k _ w _ ((aj N w.heap.size 0 [al sj,al ⟨#[]⟩,an (aw ⟨N.heap.size,0,aq⟩) 1 1]).alloc (aE #[al o,al t,an a n c] 45))
    by_cases he:e1=0
    .subst he
     rw[show k+1+n1=k+(1+n1) by omega] at Aj;rw[cB (by rfl)];simp only[eZ];exact⟨Ak,Aj,_,_,_,_,_,rfl,fun _=>TW (q:=w.heap.size) (op:=sj) (text:=⟨#[]⟩) (vals:=[al sj,al ⟨#[]⟩,an (aw ⟨N.heap.size,0,aq⟩) 1 1]) At (af.past (HX.out rfl) Ar Aq)⟩
    .rw[show k+1+n1=k+(1+n1) by omega] at Aj
     rw[bA (by exact he)];exact⟨Ak,Aj,_,_,_,_,_,rfl,fun h=>absurd h he⟩
  .have Ax:cu (l.drop k) kZ=false:=by simpa using s2
   rw[E4 ⟨Aw,Ax⟩] at G ⊢;have Av:=fun V h3=>hP V g (an a0 n0 c0) l k d h3 hd G;clear G;generalize ah m .post (l.drop k) d=r1 at *;obtain⟨x1,n1,e1⟩:=r1;go_in;go_wp2_with fail;refine An.mono ?_;rintro _ w1 ⟨rfl,H⟩;have Al:=S.step H;go_wp2_with fail;refine (oW _ g _ l k kZ Al).mono ?_;rw[Ax];rintro _ w2 ⟨rfl,F⟩;have O:=Al.step F;have Ai:=(hR.below H).below F;go_wp2_with fail;refine (Av w2 O).mono ?_;rintro _ N ⟨M,E,o,t,a,n,c,rfl,hX⟩;have Aa:=Ai.step M;have Aq:=Ai.res.lt;have Ar:=Ai.save.size;have HX:=Hh hX;clear hX M Ai O F Al H hR S h Av;simp only at E;have As:=Aa.res.lt;have Y:=Jh Aa E;have Ab:=Aa.res;clear Aa E;obtain⟨Ac,Af,Ad,Ag,Ae,Ah⟩:=Ab.n3 rfl;clear Ab;go_wp2;obtain⟨Aa,E⟩:=Y.out;have hq:=((Aa.res.setI 0 (al o)).setI 1 (al t)).setI 2 (an a n c);obtain⟨hx,hy,hz⟩:=hq.m3 rfl;refine bj (v:=ew #[al o,al t,an a n c]) (by simp[cD,tw,go_sem,hx,hy,hz]) rfl ?_;have Ak:=Aa.fin [al o,al t,an a n c];have Aj:=Aa.prc E [al o,al t,an a n c];show XP g (an a0 n0 c0) k _ w _ (aj N w.heap.size 0 [al o,al t,an a n c])
   exact⟨Ak,Aj,_,_,_,_,_,rfl,fun he=>af.keep Ar Aq (HX.out he)⟩
def wM(w:cd)(g:Nat):Nat:=match w.cell? ⟨g,1,aq⟩ with
 |some (ao _ n)=>n.toNat
 |_=>0
theorem j5.pos(h:j5 w g lv (k:Nat) e):wM w g=k:=by
 unfold wM;rw[aa.cell h 1 (ao ar (k:Nat)) rfl];simp
def TL(w0:cd)(q q2 g bp bd bt:Nat)(lv:cq)(l:List ae)(k d n m:Nat)(R:gq)(wr:cd):Prop:=
  Rs w0 q g wr/\K5 wr g bp bd bt d/\∃o t a nn c,aa wr q2 #[al o,al t,an a nn c] 45/\
    ((∃j x k',j<=m/\rF wr g lv l k'/\k<=k'/\R=eZ (k'-k) (ah j (.tloop n x) (l.drop k') d)/\af (fun b=>w0.heap.size<=b/\b≠q/\b≠q2) wr x (fq o t (an a nn c)))\/
     (∃(k':Nat) (e:Int),j5 wr g lv (k':Nat) e/\e≠0/\k<=k'/\R=(bf,k'-k,e)))
theorem oM(a b:Nat)(g:gq):eZ a (eZ b g)=eZ (a+b) g:=by unfold eZ;simp only[kO]
theorem tQ{W:cd}(kids:List (iA×List cq))(o:aa W b (kids.flatMap (·.2)).toArray 45)(v:P b)(r:∀s∈kids,af P W s.1 s.2)(z:kids.length<=cV) :
  af P W (.mk op text (kids.map (·.1))) [al op,al text,an (aw ⟨b,0,aq⟩) kids.length kids.length]:=by
 have Aa:(kids.map (·.1)).length=kids.length:=cW ..;have i:∀s∈kids,s.2.length=3:=fun s hs=>(r s hs).len3;simp only[af];refine⟨aw ⟨b,0,aq⟩,kids.length,by rw[Aa],by rw[Aa];exact cA _,z,(fun h=>by cases h),fun x hx _=>?_⟩;cases hx
 refine⟨rfl,⟨o.lt,v,fun off=>o.frozen off⟩,gy.make _ 0 (fun k hkl=>?_)⟩;rw[Aa] at hkl;refine⟨kids[k].2,fun j u hu=>?_,?_⟩
 .rw[df]
  refine o.cell _ _ ?_;have q:j<3:=by have:=(fv.1 hu).1;rw[i _ (cH hkl)] at this;exact this
  simp only[List.getElem?_toArray];rw[uh kids i k hkl j q];exact hu
 .rw[ju]
  exact r _ (cH hkl)
theorem aF.setAllNew(h:aF g w w')(hq:w.heap.size<=q)(vals:List cq):aF g w (aj w' q 0 vals):=
 ⟨aZ q 0 (ck _) vals 0 _ _ h.1,fun k hk hn=>(aR q vals 0 w' k (by omega)).trans (h.2 k hk hn)⟩
theorem M9(m:Nat)(hT:F4 m)(hTm:∀j,j<=m->Jk j):Jk (m+1):=by
 intro w g lv l k d n bp bd bt h hB hd hn1 hn7 hne;obtain⟨a0,n0,c0,rfl⟩:=h.sl;have hR:=Rs.start h;have h1:=h.step ((ba _ w).alloc lz (aE gU 45));have Am:=hB.save ((aF.refl g w).alloc (aE gU 45));have BC:=h.le;have BN:=h.small;have BB:=h.box.lt;have H0:=Jh h hB;rw[ah] at hne ⊢;have B0:=Am.p.lt;have Bx:=Am.d.lt;have B7:=Am.t.lt;have A0:=Am.p.cell 0 _ rfl;have Az:=Am.d.cell 0 _ rfl;have A1:=Am.t.cell 0 _ rfl
 by_cases h7:n=7
 .subst h7
  rw[E4 (by omega)] at hne ⊢;have An:=fun w3 h3=>hT w3 g (an a0 n0 c0) l k d h3 hd hne;clear hne;generalize ah m .tight (l.drop k) d=r1 at *;obtain⟨x1,n1,e1⟩:=r1;go_in;go_wp2_with fail;refine (An _ h1).mono ?_;rintro _ w4 ⟨hs4,hc9,o,t,a,n,c,rfl,hX⟩;have Aa:=hR.step hs4;have B5:w.heap.size<(w.alloc (aE gU 45)).heap.size:=by simp
  have B8:w.heap.size<=(w.alloc (aE gU 45)).heap.size:=by simp
  have HX:=Hh hX;clear hX hs4 hR h1 h An hB Am A0 Az A1;simp only at hc9;have Bq:=Aa.res.lt;have HR:=Jh Aa hc9;have Ad:=Aa.res;clear Aa hc9;obtain⟨Ag,Aj,Ah,Ak,Ai,Al⟩:=Ad.n3 rfl;clear Ad;go_wp2;obtain⟨Aa,hc9⟩:=HR.out;have hq:=((Aa.res.setI 0 (al o)).setI 1 (al t)).setI 2 (an a n c);obtain⟨hx,hy,hz⟩:=hq.m3 rfl;refine bj (v:=ew #[al o,al t,an a n c]) (by simp[cD,Tryz.results178,go_sem,hx,hy,hz]) rfl ?_;have A7:=Aa.fin [al o,al t,an a n c];have A5:=Aa.prc hc9 [al o,al t,an a n c];show XP g (an a0 n0 c0) k _ w _ (aj w4 w.heap.size 0 [al o,al t,an a n c]);exact⟨A7,A5,_,_,_,_,_,rfl,fun he=>af.keep B8 B5 (HX.out he)⟩
 .have BF:n<7:=by omega
  have BG:((n:Int)==7)=false:=by rw[Fc];omega
  rw[E6 (by omega)] at hne ⊢;have AS:=jD hne;have A9:(ah m (.term (n+1)) (l.drop k) d).2.1<=(l.drop k).length:=(fZ m (.term (n+1)) (l.drop k) d (by simp only[Nt.okX];omega) AS).1;have An:=fun w3 h3 hb3=>hTm m lz w3 g (an a0 n0 c0) l k d (n+1) bp bd bt h3 hb3 hd (by omega) (by omega) AS;rw[show ((n+1:Nat):Int)=(n:Int)+1 by omega] at An;obtain⟨R,AL⟩:∃R,(jr (ah m (.term (n+1)) (l.drop k) d) fun a k2=>eZ k2 (ah m (.tloop n a) ((l.drop k).drop k2) d))=R:=⟨_,rfl⟩;rw[AL] at hne ⊢;have AI:=Hh AL;clear AL AS h7;generalize ah m (.term (n+1)) (l.drop k) d=r1 at *;obtain⟨x1,n1,e1⟩:=r1;go_in;go_wp2_with fail;refine (An _ h1 Am).mono ?_;rintro _ w4 ⟨hs4,hc4,o,t,a,nn,c,rfl,hX⟩;simp only at hc4;have AY:=hR.step hs4;have AX:=Am.save hs4;have B9:=hs4.size;simp only[cF] at B9;have Af:=AY.below ((ba _ w4).alloc lz (aE #[al o,al t,an a nn c] 45));have Ac:=AX.save ((aF.refl g w4).alloc (aE #[al o,al t,an a nn c] 45));have A2:=hc4.alloc (aE #[al o,al t,an a nn c] 45);have Ao:=aa.new w4 #[al o,al t,an a nn c] 45
  have Ba:TL w w.heap.size w4.heap.size g bp bd bt (an a0 n0 c0) l k d n m R (w4.alloc (aE #[al o,al t,an a nn c] 45)):=by
   refine⟨Af,Ac,o,t,a,nn,c,Ao,?_⟩
   by_cases he:e1=0
   .subst he
    left
    have Bc:=A9
    (try simp only at Bc)
    rw[bm] at Bc;refine⟨m,x1,k+n1,cA _,(h1.go hs4 hc4 (by omega)).step ((ba _ w4).alloc lz _),by omega,?_,?_⟩
    .rw[<-AI.out,cB (by rfl)]
     simp only[c4];rw[show k+n1-k=n1 by omega]
    .refine af.move (by simp) (fun b _ hlt=>fX _ _ _ hlt) (fun b hb hlt=>?_) _ _ (hX rfl)
     simp only[cF] at hb;exact⟨by omega,by omega,by omega⟩
   .right
    exact⟨k+n1,e1,A2,he,by omega,by rw[<-AI.out,bA (by exact he),show k+n1-k=n1 by omega]⟩
  have AV:=Hh Ba;clear Ba hX Ao A2 Ac Af AX AY hc4 hs4 Am hR h1 h An hB A0 Az A1 A9 AI;have BL:w.heap.size<w4.heap.size:=by omega
  go_wp2;go_loopw [7,8] (fun _ _ wr=>TL w w.heap.size w4.heap.size g bp bd bt (an a0 n0 c0) l k d n m R wr) (fun _ _ wr=>l.length+1-wM wr g)
  .exact AV.out
  clear AV;obtain⟨Af,Ac,o5,t5,a5,Ab,c5,Ao,B4⟩:=hrel;have B0:=Ac.p.lt;have Bx:=Ac.d.lt;have B7:=Ac.t.lt;have A0:=Ac.p.cell 0 _ rfl;have Az:=Ac.d.cell 0 _ rfl;have A1:=Ac.t.cell 0 _ rfl;have BM:=Ao.lt;rcases B4 with ⟨j,x,k',hj,h5,hkk,hRe,hX⟩|⟨k',e,A2,he,hkk,hRe⟩
  .cases hil:LZ (l.drop k') n with
   |none=>
    have B2:((Sq (l.drop k'):Int)==(n:Int))=false:=by
     rw[Fc];intro e;obtain⟨o,ho⟩:=(LB hn1 (by omega)).1 e;rw[hil] at ho;cases ho
    have Ax:=LD wr g _ l k' h5
    have Bw:R=(x,k'-k,0):=by
     rw[hRe]
     cases j with
     |zero=>rw[hRe] at hne;exact absurd rfl hne
     |succ j=>rw[ah,hil];rfl
    generalize Sq (l.drop k')=rk at *;go_wp2_with fail;refine Ax.mono ?_;rintro _ _ ⟨rfl,nd,rfl⟩;have Aa:=Af.step ((aF.refl g wr).drewN nd);have hc9:=h5.box.drewN nd;have AR:=Ao.drewN nd;have HX:=Hh hX;clear Af Ac h5 A0 Az A1 Ao hX hRe Ax;have Bq:=Aa.res.lt;have HR:=Jh Aa hc9;have Ad:=Aa.res;clear Aa hc9;obtain⟨Ag,Aj,Ah,Ak,Ai,Al⟩:=Ad.n3 rfl;clear Ad;obtain⟨AB,AE,AC,AF,AD,AG⟩:=AR.n3 rfl;go_wp2;obtain⟨Aa,hc9⟩:=HR.out;have hq:=((Aa.res.setI 0 (al o5)).setI 1 (al t5)).setI 2 (an a5 Ab c5);obtain⟨hx,hy,hz⟩:=hq.m3 rfl;refine bj (v:=ew #[al o5,al t5,an a5 Ab c5]) (by simp[cD,Tryz.results178,go_sem,hx,hy,hz]) rfl ?_;have A7:=Aa.fin [al o5,al t5,an a5 Ab c5];have A5:=Aa.prc hc9 [al o5,al t5,an a5 Ab c5];show XP g (an a0 n0 c0) k _ w _ (aj (wr.drewN nd) w.heap.size 0 [al o5,al t5,an a5 Ab c5]);rw[Bw];have AP:k+(k'-k)=k':=by omega
    exact⟨A7,by show j5 _ g _ ((k+(k'-k):Nat)) 0;rw[AP];exact A5,_,_,_,_,_,rfl,fun _=>af.move (P:=fun b=>w.heap.size<=b/\b≠w.heap.size/\b≠w4.heap.size) (by rw[aD];exact cA _) (fun b hb _=>aR _ _ 0 _ b hb.2.1) (fun b hb _=>hb.1) x _ (af.below (dz _ _ _) x _ HX.out)⟩
   |some op=>
    have B2:((Sq (l.drop k'):Int)==(n:Int))=true:=by
     rw[beq_iff_eq];exact (LB hn1 (by omega)).2 ⟨op,hil⟩
    have Ax:=LD wr g _ l k' h5;have AN:k'<l.length:=by have:=BR hil;rw[bm] at this;omega
    obtain⟨tk,tq,Br,Bz⟩:=QQ hil
    have AT:l[k']=tk:=by
     rw[cg AN] at Br;exact (rr Br).1
    obtain⟨tb,AU,B6,BO,Bu,AW,Bv⟩:=aP.get h5.toks AN;rw[AT,Bz] at AW;subst B6
    cases j with
    |zero=>rw[hRe] at hne;exact absurd rfl hne
    |succ j=>
    rw[ah,hil] at hRe;simp only at hRe;rw[c4] at hRe
    have Bd:(jr (eZ 1 (ah j (.term (n+1)) (l.drop (k'+1)) d)) fun b k2=>eZ k2 (ah j (.tloop n (.mk op jO [x,b])) ((l.drop k').drop k2) d)).2.2≠-1:=by
     rw[hRe] at hne;exact hne
    have Bn:(ah j (.term (n+1)) (l.drop (k'+1)) d).2.2≠-1:=jD (g:=eZ 1 (ah j (.term (n+1)) (l.drop (k'+1)) d)) Bd;clear Bd;have AQ:(ah j (.term (n+1)) (l.drop (k'+1)) d).2.1<=(l.drop (k'+1)).length:=(fZ j (.term (n+1)) (l.drop (k'+1)) d (by simp only[Nt.okX];omega) Bn).1;rw[bm] at AQ;have An:=fun w3 h3 hb3=>hTm j (by omega) w3 g (an (aw ⟨tb,AU,aq⟩) n0 c0) l (k'+1) d (n+1) bp bd bt h3 hb3 hd (by omega) (by omega) Bn;rw[show ((n+1:Nat):Int)=(n:Int)+1 by omega] at An;generalize ah j (.term (n+1)) (l.drop (k'+1)) d=r2 at *;obtain⟨x2,n2,e2⟩:=r2;have Bt:=Hh hRe;clear hRe;generalize Sq (l.drop k')=rk at *;go_wp2_with fail;refine Ax.mono ?_;rintro _ _ ⟨rfl,nd,rfl⟩;have BA:=h5.box.lt;have Bs:=Hh h5.box.pos;have A8:=h5.box
    have BD:((n0:Nat):Int)=(l.length:Int):=by
     obtain⟨a9,c9,By,-⟩:=h5.toks.len;cases By;rfl
    have BI:=Ac.np;have BH:=Ac.nd;have BJ:=Ac.nt;have B1:=Af.qg;have BK:=Af.res.lt;obtain⟨Aq,At,Ar,Au,As,Av⟩:=A8.n3 rfl;have HX:=Hh hX;clear hX;go_wp2_with fail;go_quiet (fail)
    go_wp2_with fail;have A3:aF g wr ((wr.drewN (nd+nq)).setCell ⟨g,1,aq⟩ (ao ar ((k':Int)+1))):=((aF.refl g wr).drewN _).set 1 _;have AM:j5 ((wr.drewN (nd+nq)).setCell ⟨g,1,aq⟩ (ao ar ((k':Int)+1))) g (an (aw ⟨tb,AU,aq⟩) n0 c0) ((k'+1:Nat)) 0:=(h5.box.drewN (nd+nq)).setI 1 (ao ar ((k':Int)+1));generalize (wr.drewN (nd+nq)).setCell ⟨g,1,aq⟩ (ao ar ((k':Int)+1))=w6 at A3 AM ⊢;refine (An w6 (h5.go A3 AM AN) (Ac.save A3)).mono ?_;rintro _ w7 ⟨hs7,hc7,o2,t2,a2,m2,c2,rfl,hX2⟩;simp only at hc7 hX2;have Ae:=A3.trans hs7;have A6:=Af.step Ae;have AJ:=Ac.save Ae;have Be:=Ae.cells Ao (by omega);have BQ:=A3.size;have BS:=hs7.size
    have AK:e2=0->rF w7 g (an (aw ⟨tb,AU,aq⟩) n0 c0) l (k'+1+n2):=fun he=>by
     subst he;exact h5.go Ae hc7 (by omega)
    have AH:af (fun b=>w.heap.size<=b/\b≠w.heap.size/\b≠w4.heap.size) w7 x (fq o5 t5 (an a5 Ab c5)):=
     af.move Ae.size (fun b hb hlt=>Ae.2 b hlt (by omega)) (fun b hb _=>hb) x _ HX.out
    have H7:=Jh A6 (cE AJ (cE hc7 (cE AK (cE AH hX2))));clear Af Ac Ae A3 hs7 AM hc7 AK AH hX2 HX A8 Aq Ar As At Au Av Ao An Ax Bu AW Bv A0 Az A1 A6 AJ h5;have BP:w4.heap.size<w7.heap.size:=by omega
    obtain⟨Bf,Bi,Bg,Bj,Bh,Bk⟩:=Be.n3 rfl;go_wp2_with fail;obtain⟨A6,AJ,hc7,AK,AH,hX2⟩:=H7.out;obtain⟨h,hB⟩:=H0.out;have AZ:=(A6.save.setAllNew (q:=w4.heap.size) (by omega) [al op,al ⟨#[]⟩,an (aw ⟨w7.heap.size+1,0,aq⟩) 2 2]);have Bb:j5 (aj w7 w4.heap.size 0 [al op,al ⟨#[]⟩,an (aw ⟨w7.heap.size+1,0,aq⟩) 2 2]) g _ _ _:=hc7.setAllOther (by omega);have Bl:aa (aj w7 w4.heap.size 0 [al op,al ⟨#[]⟩,an (aw ⟨w7.heap.size+1,0,aq⟩) 2 2]) w4.heap.size _ _:=Be.put [al op,al ⟨#[]⟩,an (aw ⟨w7.heap.size+1,0,aq⟩) 2 2] 0;have Bo:aa (aj w7 w4.heap.size 0 [al op,al ⟨#[]⟩,an (aw ⟨w7.heap.size+1,0,aq⟩) 2 2]) w.heap.size _ _:=A6.res.setAllOther (by omega);have Ay:=aD w4.heap.size [al op,al ⟨#[]⟩,an (aw ⟨w7.heap.size+1,0,aq⟩) 2 2] 0 w7;have AA:=fun b (hb:b≠w4.heap.size)=>aR w4.heap.size [al op,al ⟨#[]⟩,an (aw ⟨w7.heap.size+1,0,aq⟩) 2 2] 0 w7 b hb
    show TL w w.heap.size w4.heap.size g bp bd bt _ l k d n m R (((aj w7 w4.heap.size 0 [al op,al ⟨#[]⟩,an (aw ⟨w7.heap.size+1,0,aq⟩) 2 2]).alloc (aE #[al o2,al t2,an a2 m2 c2] 45)).alloc (aE #[al o5,al t5,an a5 Ab c5,al o2,al t2,an a2 m2 c2] 45))/\
     l.length+1-wM (((aj w7 w4.heap.size 0 [al op,al ⟨#[]⟩,an (aw ⟨w7.heap.size+1,0,aq⟩) 2 2]).alloc (aE #[al o2,al t2,an a2 m2 c2] 45)).alloc (aE #[al o5,al t5,an a5 Ab c5,al o2,al t2,an a2 m2 c2] 45)) g<l.length+1-wM wr g
    generalize aj w7 w4.heap.size 0 [al op,al ⟨#[]⟩,an (aw ⟨w7.heap.size+1,0,aq⟩) 2 2]=w8 at AZ Bb Bl Bo Ay AA ⊢;have Ap:=(AZ.alloc (aE #[al o2,al t2,an a2 m2 c2] 45)).alloc (aE #[al o5,al t5,an a5 Ab c5,al o2,al t2,an a2 m2 c2] 45);have hc9:=(Bb.alloc (aE #[al o2,al t2,an a2 m2 c2] 45)).alloc (aE #[al o5,al t5,an a5 Ab c5,al o2,al t2,an a2 m2 c2] 45);have Bm:=(Bl.alloc (aE #[al o2,al t2,an a2 m2 c2] 45)).alloc (aE #[al o5,al t5,an a5 Ab c5,al o2,al t2,an a2 m2 c2] 45);have Bp:=(Bo.alloc (aE #[al o2,al t2,an a2 m2 c2] 45)).alloc (aE #[al o5,al t5,an a5 Ab c5,al o2,al t2,an a2 m2 c2] 45);have AO:=aa.new (w8.alloc (aE #[al o2,al t2,an a2 m2 c2] 45)) #[al o5,al t5,an a5 Ab c5,al o2,al t2,an a2 m2 c2] 45;rw[cF,Ay] at AO
    have Aw:∀b,b≠w4.heap.size->b<w7.heap.size->((w8.alloc (aE #[al o2,al t2,an a2 m2 c2] 45)).alloc (aE #[al o5,al t5,an a5 Ab c5,al o2,al t2,an a2 m2 c2] 45)).heap[b]?=w7.heap[b]?:=fun b hb hlt=>by
     rw[fX _ _ _ (by rw[cF];omega),fX _ _ _ (by omega),AA b hb]
    have B3:((w8.alloc (aE #[al o2,al t2,an a2 m2 c2] 45)).alloc (aE #[al o5,al t5,an a5 Ab c5,al o2,al t2,an a2 m2 c2] 45)).heap.size=w7.heap.size+2:=by
     rw[cF,cF,Ay]
    generalize (w8.alloc (aE #[al o2,al t2,an a2 m2 c2] 45)).alloc (aE #[al o5,al t5,an a5 Ab c5,al o2,al t2,an a2 m2 c2] 45)=w9 at Ap hc9 Bm Bp AO Aw B3 ⊢;have A4:=Bt.out;constructor
    .refine⟨⟨Ap,Bp,B1,cA _⟩,hB.save Ap,op,⟨#[]⟩,_,_,_,Bm,?_⟩
     by_cases he:e2=0
     .subst he
      left
      refine⟨j,.mk op jO [x,x2],k'+1+n2,by omega,h.go Ap hc9 (by omega),by omega,?_,?_⟩
      .rw[A4,cB (by rfl)]
       simp only[oM,eZ,c4];rw[show k'+(1+n2)=k'+1+n2 by omega];exact yk rfl (yk (by simp only;omega) rfl)
      .refine tQ (P:=fun b=>w.heap.size<=b/\b≠w.heap.size/\b≠w4.heap.size) [(x,fq o5 t5 (an a5 Ab c5)),(x2,fq o2 t2 (an a2 m2 c2))] AO ⟨by omega,by omega,by omega⟩ (fun s hs=>?_) (by unfold cV;simp)
       simp at hs
       rcases hs with rfl|rfl
       .exact af.move (by omega) (fun b hb hlt=>Aw b hb.2.2 hlt) (fun b hb _=>hb) x _ AH
       .exact af.move (by omega) (fun b hb hlt=>Aw b (by omega) hlt) (fun b hb _=>⟨by omega,by omega,by omega⟩) x2 _ (hX2 rfl)
     .right
      refine⟨k'+1+n2,e2,hc9,he,by omega,?_⟩;rw[A4,bA (by exact he)];simp only[eZ];rw[show k'-k+(1+n2)=k'+1+n2-k by omega]
    .rw[j5.pos hc9,Bs.out]
     omega
  .have Ax:=Sr wr g _ _ e A2 he ⟨_,_,_,rfl⟩
   have BE:((0:Int)==(n:Int))=false:=by rw[Fc];omega
   go_wp2_with fail;refine Ax.mono ?_;rintro _ _ ⟨rfl,nd,rfl⟩;have Aa:=Af.step ((aF.refl g wr).drewN nd);have hc9:=A2.drewN nd;have AR:=Ao.drewN nd;clear Af Ac A2 A0 Az A1 Ao;have Bq:=Aa.res.lt;have HR:=Jh Aa hc9;have Ad:=Aa.res;clear Aa hc9;obtain⟨Ag,Aj,Ah,Ak,Ai,Al⟩:=Ad.n3 rfl;clear Ad;obtain⟨AB,AE,AC,AF,AD,AG⟩:=AR.n3 rfl;go_wp2;obtain⟨Aa,hc9⟩:=HR.out;have hq:=((Aa.res.setI 0 (al o5)).setI 1 (al t5)).setI 2 (an a5 Ab c5);obtain⟨hx,hy,hz⟩:=hq.m3 rfl;refine bj (v:=ew #[al o5,al t5,an a5 Ab c5]) (by simp[cD,Tryz.results178,go_sem,hx,hy,hz]) rfl ?_;have A7:=Aa.fin [al o5,al t5,an a5 Ab c5];have A5:=Aa.prc hc9 [al o5,al t5,an a5 Ab c5];show XP g (an a0 n0 c0) k _ w _ (aj (wr.drewN nd) w.heap.size 0 [al o5,al t5,an a5 Ab c5]);rw[hRe];have AP:k+(k'-k)=k':=by omega
   exact⟨A7,by show j5 _ g _ ((k+(k'-k):Nat)) e;rw[AP];exact A5,_,_,_,_,_,rfl,fun h=>absurd h he⟩
structure Ch(w0:cd)(q q6 g bp bd bt d:Nat)(cs:Array cq)(w:cd):Prop where
 rs:Rs w0 q g w
 tb:K5 w g bp bd bt d
 first:aa w q6 cs 45
 q6g:q6≠g
 q60:w0.heap.size<=q6
 q6q:q6≠q
theorem Ch.step{q6:Nat}{cs:Array cq}(h:Ch w0 q q6 g bp bd bt d cs w)(hs:aF g w w'):Ch w0 q q6 g bp bd bt d cs w':=
 ⟨h.rs.step hs,h.tb.save hs,hs.cells h.first h.q6g,h.q6g,h.q60,h.q6q⟩
theorem I9(m:Nat)(hT:Jk m)(hC:qZ m):qZ (m+1):=by
 intro w g lv l k d h hd hne;obtain⟨a0,n0,c0,rfl⟩:=h.sl;have BI:=h.le;have BJ:=h.small;have BH:=h.box.lt;obtain⟨R,AQ⟩:=exq (ah (m+1) .choice (l.drop k) d);rw[<-AQ] at hne ⊢;rw[ah] at AQ;have Bc:(ah m (.term 1) (l.drop k) d).2.2≠-1:=by rw[AQ] at hne;exact jD hne
 have AR:(ah m (.term 1) (l.drop k) d).2.1<=(l.drop k).length:=(fZ m (.term 1) (l.drop k) d (by simp only[Nt.okX];omega) Bc).1;rw[bm] at AR;have Bl:=fun w3 h3 bp bd bt hb3=>hT w3 g (an a0 n0 c0) l k d 1 bp bd bt h3 hb3 hd (by omega) (by omega) Bc;rw[show ((1:Nat):Int)=1 from rfl] at Bl;generalize ah m (.term 1) (l.drop k) d=r1 at *;obtain⟨x1,n1,e1⟩:=r1;simp only at AR Bc;have AV:=Hh AQ;have Bp:=Hh hne;clear AQ hne Bc;go_in;go_wp2_with fail
 have Ba:cj w.heap.size w ((((w.alloc (aE #[cx (aw ⟨g,0,aq⟩)] 182)).alloc (aE #[ao ar (d:Nat)] 3)).alloc (aE gU 45)).alloc (aE #[.func (.func 178) #[] #[cx (aw ⟨w.heap.size,0,aq⟩),cx (aw ⟨w.heap.size+1,0,aq⟩),cx (aw ⟨w.heap.size+1+1+1,0,aq⟩)]] 185)):=
  ((((ba _ w).alloc lz _).alloc (by simp) _).alloc (by simp only[cF];omega) _).alloc (by simp only[cF];omega) _
 have Bm:=(((aa.new w #[cx (aw ⟨g,0,aq⟩)] 182).alloc (aE #[ao ar (d:Nat)] 3)).alloc (aE gU 45)).alloc (aE #[.func (.func 178) #[] #[cx (aw ⟨w.heap.size,0,aq⟩),cx (aw ⟨w.heap.size+1,0,aq⟩),cx (aw ⟨w.heap.size+1+1+1,0,aq⟩)]] 185);have Ou:=((aa.new (w.alloc (aE #[cx (aw ⟨g,0,aq⟩)] 182)) #[ao ar (d:Nat)] 3).alloc (aE gU 45)).alloc (aE #[.func (.func 178) #[] #[cx (aw ⟨w.heap.size,0,aq⟩),cx (aw ⟨w.heap.size+1,0,aq⟩),cx (aw ⟨w.heap.size+1+1+1,0,aq⟩)]] 185);have Bb:=(aa.new ((w.alloc (aE #[cx (aw ⟨g,0,aq⟩)] 182)).alloc (aE #[ao ar (d:Nat)] 3)) gU 45).alloc (aE #[.func (.func 178) #[] #[cx (aw ⟨w.heap.size,0,aq⟩),cx (aw ⟨w.heap.size+1,0,aq⟩),cx (aw ⟨w.heap.size+1+1+1,0,aq⟩)]] 185);have Bf:=aa.new (((w.alloc (aE #[cx (aw ⟨g,0,aq⟩)] 182)).alloc (aE #[ao ar (d:Nat)] 3)).alloc (aE gU 45)) #[.func (.func 178) #[] #[cx (aw ⟨w.heap.size,0,aq⟩),cx (aw ⟨w.heap.size+1,0,aq⟩),cx (aw ⟨w.heap.size+1+1+1,0,aq⟩)]] 185;simp only[cF] at Ou Bb Bf;have BG:((((w.alloc (aE #[cx (aw ⟨g,0,aq⟩)] 182)).alloc (aE #[ao ar (d:Nat)] 3)).alloc (aE gU 45)).alloc (aE #[.func (.func 178) #[] #[cx (aw ⟨w.heap.size,0,aq⟩),cx (aw ⟨w.heap.size+1,0,aq⟩),cx (aw ⟨w.heap.size+1+1+1,0,aq⟩)]] 185)).heap.size=w.heap.size+4:=by simp only[cF]
 generalize ((((w.alloc (aE #[cx (aw ⟨g,0,aq⟩)] 182)).alloc (aE #[ao ar (d:Nat)] 3)).alloc (aE gU 45)).alloc (aE #[.func (.func 178) #[] #[cx (aw ⟨w.heap.size,0,aq⟩),cx (aw ⟨w.heap.size+1,0,aq⟩),cx (aw ⟨w.heap.size+1+1+1,0,aq⟩)]] 185))=wA at Ba Bm Ou Bb Bf BG ⊢;have AD:=h.step Ba;have AZ:K5 wA g w.heap.size (w.heap.size+1) (w.heap.size+1+1+1) d:=⟨Bm,Ou,Bf,by omega,by omega,by omega⟩;have Bw:Rs w (w.heap.size+1+1) g wA:=⟨aF.of Ba,Bb,by omega,by omega⟩;clear Ba Bm Ou Bb Bf;refine (Bl wA AD _ _ _ AZ).mono ?_;rintro _ w2 ⟨hs2,hc2,o1,t1,a1,m1,c1,rfl,hX1⟩;simp only at hc2 hX1;have BK:=hs2.size;have AN:aF g w2 (w2.alloc (aE #[al o1,al t1,an a1 m1 c1] 45)):=(aF.refl g w2).alloc _
 have A1:Ch w (w.heap.size+1+1) w2.heap.size g w.heap.size (w.heap.size+1) (w.heap.size+1+1+1) d #[al o1,al t1,an a1 m1 c1] (w2.alloc (aE #[al o1,al t1,an a1 m1 c1] 45)):=
  ⟨(Bw.step hs2).step AN,(AZ.save hs2).save AN,aa.new _ _ _,by omega,by omega,by omega⟩
 have Ax:=hc2.alloc (aE #[al o1,al t1,an a1 m1 c1] 45);have AH:=hs2.trans AN
 have A3:e1=0->af (fun b=>w.heap.size<=b/\b≠w.heap.size+1+1/\b≠w2.heap.size) (w2.alloc (aE #[al o1,al t1,an a1 m1 c1] 45)) x1 (fq o1 t1 (an a1 m1 c1)):=fun he=>
  af.move AN.size (fun b hb hlt=>AN.2 b hlt (by omega)) (fun b hb hlt=>⟨by omega,by omega,by omega⟩) x1 _ (hX1 he)
 have Bg:w2.heap.size<(w2.alloc (aE #[al o1,al t1,an a1 m1 c1] 45)).heap.size:=by simp
 have Bk:=AZ.save hs2;have Az:=Bk.p.cell 0 _ rfl;have A0:=Bk.p.lt;have H3:=Hh Bg;have Bo:=Jh A1 (cE Ax (cE AH (cE A3 AD)));clear AN hc2 hs2 hX1 Bw AZ Bl Bk A1 Ax AH A3 AD Bg;go_wp2_with fail;obtain⟨A1,Ax,AH,A3,AD⟩:=Bo.out;have Bg:=H3.out;clear Bo H3 Az A0;generalize w2.alloc (aE #[al o1,al t1,an a1 m1 c1] 45)=w3 at A1 Ax AH A3 Bg ⊢
 by_cases he1:e1=0
 focus
  subst he1;have AP:=AD.go AH Ax (by omega);clear AD AH;have A3:=A3 rfl;have Aj:=AV.out;rw[cB (by rfl)] at Aj;simp only[c4] at Aj;clear AV
  by_cases s1:cu (l.drop (k+n1)) sQ=false
  focus
   rw[E4 s1] at Aj;have hI:=oW _ g _ l (k+n1) sQ AP;rw[s1] at hI;have HX:=Hh A3;have A4:=Hh Aj;clear A3 Aj AP;refine hI.mono ?_;rintro _ w4 ⟨rfl,hb4⟩;have Aa:=A1.step (aF.of hb4);have Ab:=Ax.below hb4 Ax.lt;have HX:=Hh (af.below hb4 x1 _ HX.out);clear A1 Ax hb4 hI
  rotate_left
  focus
   have B6:cu (l.drop (k+n1)) sQ=true:=by simpa using s1
   rw[E6 s1] at Aj;have B9:k+n1+1<=l.length:=by have:=bW B6;rw[bm] at this;omega
   have hI:=oW _ g _ l (k+n1) sQ AP;rw[B6] at hI;have Bh:=Hh AP;clear AP;have HX:=Hh A3;clear A3
   by_cases hd6:64<=d
   focus
    rw[E4 hd6] at Aj;have A4:=Hh Aj;clear Aj;refine hI.mono ?_;rintro _ w4 ⟨rfl,hb4⟩;have Aa:=A1.step (aF.of hb4);have Ab:=Ax.below hb4 Ax.lt;clear A1 Ax hb4 hI HX Bh;have hN:=uf w4 g _ (k+n1) d Ab hd6;have Az:=Aa.tb.p.cell 0 _ rfl;have A6:=Aa.tb.d.cell 0 _ rfl;have A0:=Aa.tb.p.lt;have A7:=Aa.tb.d.lt;have Ac:=Aa.rs.res;have AB:=Ac.lt;have Aw:=Aa.first
    have A8:=Aw.lt;have A9:=Ab.lt;have HR:=Jh Aa Ab;obtain⟨Ad,Ag,Ae,Ah,Af,Ai⟩:=Ac.n3 rfl;obtain⟨Aq,At,Ar,Au,As,Av⟩:=Aw.n3 rfl;obtain⟨Ak,An,Al,Ao,Am,Ap⟩:=Ab.n3 rfl;clear Aa Ab Ac Aw;go_wp2_with fail;refine hN.mono ?_;rintro _ w5 ⟨rfl,hc5,hs5⟩;obtain⟨Aa,Ab⟩:=HR.out;clear HR Az A6 A0 A7 AB A8 A9 Ad Ae Af Ag Ah Ai Aq Ar As At Au Av Ak Al Am An Ao Ap;clear Ab
    replace Aa:=Aa.step hs5
    have Ab:=hc5;clear hs5 hc5 hN
   rotate_left
   focus
    rw[E6 hd6] at Aj;have hne:=Bp.out;rw[Aj] at hne;have Bd:(ah m .choice (l.drop (k+(n1+1))) (d+1)).2.2≠-1:=jD (g:=eZ (n1+1) (ah m .choice (l.drop (k+(n1+1))) (d+1))) hne;have AS:=(fZ m .choice (l.drop (k+(n1+1))) (d+1) (by simp only[Nt.okX]) Bd).1;rw[bm] at AS;have A2:=fun w3 h3=>hC w3 g (an a0 n0 c0) l (k+(n1+1)) (d+1) h3 (by omega) Bd;rw[show ((d+1:Nat):Int)=(d:Int)+1 by omega] at A2;clear hne;generalize ah m .choice (l.drop (k+(n1+1))) (d+1)=r2 at *;obtain⟨x2,n2,e2⟩:=r2;simp only at AS Bd;have A4:=Hh Aj;clear Aj Bd;refine hI.mono ?_;rintro _ w4 ⟨rfl,hb4⟩;have Aa:=A1.step (aF.of hb4);have Ab:=Ax.below hb4 Ax.lt;have Bq:=Hh (Bh.out.step hb4);have Br:=Hh (af.below hb4 x1 _ HX.out);clear A1 Ax hb4 hI HX Bh;have hN:=qm w4 g _ (k+n1) d Ab (by omega) (by omega);have Az:=Aa.tb.p.cell 0 _ rfl;have A6:=Aa.tb.d.cell 0 _ rfl;have A0:=Aa.tb.p.lt;have A7:=Aa.tb.d.lt;have Ac:=Aa.rs.res;have AB:=Ac.lt;have Aw:=Aa.first
    have A8:=Aw.lt;have A9:=Ab.lt;have HR:=Jh Aa Ab;obtain⟨Ad,Ag,Ae,Ah,Af,Ai⟩:=Ac.n3 rfl;obtain⟨Aq,At,Ar,Au,As,Av⟩:=Aw.n3 rfl;obtain⟨Ak,An,Al,Ao,Am,Ap⟩:=Ab.n3 rfl;clear Aa Ab Ac Aw;go_wp2_with fail;refine hN.mono ?_;rintro _ w5 ⟨rfl,hc5,hs5⟩;obtain⟨Aa,Ab⟩:=HR.out;clear HR Az A6 A0 A7 AB A8 A9 Ad Ae Af Ag Ah Ai Aq Ar As At Au Av Ak Al Am An Ao Ap;clear Ab;have Bj:rF w5 g (an a0 n0 c0) l (k+(n1+1)):=Bq.out.go hs5 hc5 B9
    replace Aa:=Aa.step hs5
    have Ab:=hc5;have Bs:=Hh (af.move hs5.size (fun b hb hlt=>hs5.2 b hlt (by omega)) (fun b hb _=>hb) x1 _ Br.out);clear hs5 hc5 hN Bq Br;have A2:=A2 w5 Bj;have Az:=Aa.tb.p.cell 0 _ rfl;have A6:=Aa.tb.d.cell 0 _ rfl;have A0:=Aa.tb.p.lt;have A7:=Aa.tb.d.lt;have Ac:=Aa.rs.res;have AB:=Ac.lt;have Aw:=Aa.first
    have A8:=Aw.lt;have A9:=Ab.lt;have HR:=Jh Aa Ab;obtain⟨Ad,Ag,Ae,Ah,Af,Ai⟩:=Ac.n3 rfl;obtain⟨Aq,At,Ar,Au,As,Av⟩:=Aw.n3 rfl;obtain⟨Ak,An,Al,Ao,Am,Ap⟩:=Ab.n3 rfl;clear Aa Ab Ac Aw;go_wp2_with fail;refine A2.mono ?_;rintro _ w6 ⟨hs6,hc6,o2,t2,a2,m2,c2,rfl,hX6⟩;simp only at hc6 hX6;obtain⟨Aa,Ab⟩:=HR.out;clear HR Az A6 A0 A7 AB A8 A9 Ad Ae Af Ag Ah Ai Aq Ar As At Au Av Ak Al Am An Ao Ap;have BE:=Aa.first.lt
    have BC:=Aa.rs.res.lt;have Ay:=Aa.step hs6;have BL:=hs6.size;have hc6:j5 w6 g (an a0 n0 c0) ((k+(n1+1+n2):Nat)) e2:=by rw[kO] at hc6;exact hc6
    have Bu:e2=0->rF w6 g (an a0 n0 c0) l (k+(n1+1+n2)):=fun he=>by
     subst he;exact Bj.go hs6 hc6 (by omega)
    have AJ:af (fun b=>w.heap.size<=b/\b≠w.heap.size+1+1/\b≠w2.heap.size) w6 x1 (fq o1 t1 (an a1 m1 c1)):=
     af.move hs6.size (fun b hb hlt=>hs6.2 b hlt (by omega)) (fun b hb _=>hb) x1 _ Bs.out
    have AC:e2=0->af (fun b=>w.heap.size<=b/\b≠w.heap.size+1+1/\b≠w2.heap.size) w6 x2 (fq o2 t2 (an a2 m2 c2)):=fun he=>
     af.move lz (fun b hb _=>rfl) (fun b hb _=>⟨by omega,by omega,by omega⟩) x2 _ (hX6 he)
    clear Aa Ab hs6 hX6 Bs Bj A2;have AM:cj w6.heap.size w6 (w6.alloc (aE #[al o2,al t2,an a2 m2 c2] 45)):=(ba _ _).alloc lz _;have AF:=aa.new w6 #[al o2,al t2,an a2 m2 c2] 45;have Aa:=Ay.step (aF.of AM);have Ab:=hc6.below AM hc6.lt;have A5:e2=0->rF (w6.alloc (aE #[al o2,al t2,an a2 m2 c2] 45)) g (an a0 n0 c0) l (k+(n1+1+n2)):=fun he=>(Bu he).step AM;have AW:=Jh (af.below AM x1 _ AJ) (fun he=>af.below AM x2 _ (AC he));have Bn:(w6.alloc (aE #[al o2,al t2,an a2 m2 c2] 45)).heap.size=w6.heap.size+1:=by simp
    have H7:=Jh Aa (cE Ab (cE A5 AF));clear AM Aa Ab A5 AF AJ AC Bu;have Az:=Ay.tb.p.cell 0 _ rfl;have A0:=Ay.tb.p.lt;clear Ay hc6;have Bt:=Hh Bn;clear Bn;go_wp2_with fail;clear Az A0;obtain⟨Aa,Ab,A5,AF⟩:=H7.out;have Bn:=Bt.out;clear H7 Bt;generalize w6.alloc (aE #[al o2,al t2,an a2 m2 c2] 45)=w7 at *;clear hc6 A3 A2;have B4:w6.heap.size≠g/\w6.heap.size≠w.heap.size+1+1/\w6.heap.size≠w2.heap.size/\w.heap.size<=w6.heap.size:=⟨by omega,by omega,by omega,by omega⟩
    by_cases he2:e2=0
    focus
     subst he2;have A5:=A5 rfl;obtain⟨AJ,AC⟩:=AW.out;have AC:=AC rfl
     have Aj:R=(if cu (l.drop (k+(n1+1+n2))) RU=false then dJ (l.drop (k+(n1+1+n2))) (n1+1+n2) else jr (eZ (n1+1+n2+1) (ah m .choice (l.drop (k+(n1+1+n2+1))) (d+1))) fun c k3=>(.mk sQ jO [x1,x2,c],k3,0)):=by
      rw[A4.out,cB (by rfl)];rfl
     have hN:=zO w7 g _ l (k+(n1+1+n2)) RU A5
     by_cases s2:cu (l.drop (k+(n1+1+n2))) RU=false
     focus
      rw[E4 s2,vZ] at Aj;rw[s2,E6 (by simp),E6 (by simp)] at hN;have hw:(CP (l.drop (k+(n1+1+n2))) != 0)=true:=by simpa using rM _
      have B5:CP (l.drop (k+(n1+1+n2)))≠0:=rM _;generalize CP (l.drop (k+(n1+1+n2)))=ee at *;have A4:=Hh Aj;have B8:=Hh B5;clear Aj B5 AJ AC AW A5 AF;refine hN.mono ?_;rintro _ w8 ⟨rfl,hc8,hs8⟩;clear Ab
      replace Aa:=Aa.step hs8
      have Ab:=hc8;clear hs8 hc8 hN
     rotate_left
     .rw[E6 s2] at Aj
      have B7:cu (l.drop (k+(n1+1+n2))) RU=true:=by simpa using s2
      rw[B7,E4 rfl,E4 rfl] at hN;have BA:k+(n1+1+n2)+1<=l.length:=by have:=bW B7;rw[bm] at this;omega
      have hne:=Bp.out;rw[Aj] at hne;have Be:(ah m .choice (l.drop (k+(n1+1+n2+1))) (d+1)).2.2≠-1:=jD (g:=eZ (n1+1+n2+1) (ah m .choice (l.drop (k+(n1+1+n2+1))) (d+1))) hne;have AT:=(fZ m .choice (l.drop (k+(n1+1+n2+1))) (d+1) (by simp only[Nt.okX]) Be).1;rw[bm] at AT;have A2:=fun w3 h3=>hC w3 g (an a0 n0 c0) l (k+(n1+1+n2+1)) (d+1) h3 (by omega) Be;rw[show ((d+1:Nat):Int)=(d:Int)+1 by omega] at A2;clear hne;generalize ah m .choice (l.drop (k+(n1+1+n2+1))) (d+1)=r3 at *;obtain⟨x3,n3,e3⟩:=r3;simp only at AT Be;have A4:=Hh Aj;clear Aj Be AW;refine hN.mono ?_;rintro _ w8 ⟨rfl,hc8,hs8⟩;have Bv:rF w8 g (an a0 n0 c0) l (k+(n1+1+n2+1)):=A5.go hs8 hc8 BA;have AO:=Aa.step hs8;have Bx:=hs8.cells AF B4.1;have Bi:=Jh (af.move hs8.size (fun b hb hlt=>hs8.2 b hlt (by omega)) (fun b hb _=>hb) x1 _ AJ) (af.move hs8.size (fun b hb hlt=>hs8.2 b hlt (by omega)) (fun b hb _=>hb) x2 _ AC);have BM:=hs8.size;clear Ab Aa AF AJ AC hs8 A5 hN;have Aa:=AO;have Ab:=hc8;clear AO hc8;have A2:=A2 w8 Bv;have Az:=Aa.tb.p.cell 0 _ rfl;have A6:=Aa.tb.d.cell 0 _ rfl;have A0:=Aa.tb.p.lt;have A7:=Aa.tb.d.lt;have Ac:=Aa.rs.res;have AB:=Ac.lt;have Aw:=Aa.first
      have A8:=Aw.lt;have A9:=Ab.lt;have HR:=Jh Aa Ab;obtain⟨Ad,Ag,Ae,Ah,Af,Ai⟩:=Ac.n3 rfl;obtain⟨Aq,At,Ar,Au,As,Av⟩:=Aw.n3 rfl;obtain⟨Ak,An,Al,Ao,Am,Ap⟩:=Ab.n3 rfl;clear Aa Ab Ac Aw;go_wp2_with fail;refine A2.mono ?_;rintro _ w9 ⟨hs9,hc10,o3,t3,a3,m3,c3,rfl,hX9⟩;simp only at hc10 hX9;obtain⟨Aa,Ab⟩:=HR.out;clear HR Az A6 A0 A7 AB A8 A9 Ad Ae Af Ag Ah Ai Aq Ar As At Au Av Ak Al Am An Ao Ap;have BF:=Aa.first.lt
      have BD:=Aa.rs.res.lt;have Ay:=Aa.step hs9;have AG:=hs9.cells Bx B4.1;have BN:=hs9.size;have hc10:j5 w9 g (an a0 n0 c0) ((k+(n1+1+n2+1+n3):Nat)) e3:=by rw[kO] at hc10;exact hc10
      have AX:=af.move hs9.size (fun b hb hlt=>hs9.2 b hlt (by omega)) (fun b hb _=>hb) x1 _ Bi.out.1;have AY:=af.move hs9.size (fun b hb hlt=>hs9.2 b hlt (by omega)) (fun b hb _=>hb) x2 _ Bi.out.2;clear Aa Ab hs9 Bv A2 Bi Bx;have HX:=Jh AX (cE AY hX9);have Aa:=Ay;have Ab:=hc10;clear Ay hc10 AX AY hX9;have BB:=AG.lt;have Az:=Aa.tb.p.cell 0 _ rfl;have A6:=Aa.tb.d.cell 0 _ rfl;have A0:=Aa.tb.p.lt;have A7:=Aa.tb.d.lt;have Ac:=Aa.rs.res;have AB:=Ac.lt;have Aw:=Aa.first
      have A8:=Aw.lt;have A9:=Ab.lt;have HR:=Jh Aa Ab;obtain⟨Ad,Ag,Ae,Ah,Af,Ai⟩:=Ac.n3 rfl;obtain⟨Aq,At,Ar,Au,As,Av⟩:=Aw.n3 rfl;obtain⟨Ak,An,Al,Ao,Am,Ap⟩:=Ab.n3 rfl;clear Aa Ab Ac Aw;obtain⟨By,B1,Bz,B2,B0,B3⟩:=AG.n3 rfl;clear AG;go_wp2;obtain⟨Aa,Ab⟩:=HR.out;have AE:=Aa.rs;have hq:=((((AE.res.setI 0 (al sQ)).setI 1 (al ⟨#[]⟩)).setI 2 (an (aw ⟨w9.heap.size+1,0,aq⟩) 3 3)).alloc (aE #[al o3,al t3,an a3 m3 c3] 45)).alloc (aE #[al o1,al t1,an a1 m1 c1,al o2,al t2,an a2 m2 c2,al o3,al t3,an a3 m3 c3] 45);obtain⟨hx,hy,hz⟩:=hq.m3 rfl;refine bj (v:=ew #[al sQ,al ⟨#[]⟩,an (aw ⟨w9.heap.size+1,0,aq⟩) 3 3]) (by simp[cD,Tryz.results150,go_sem,hx,hy,hz]) rfl ?_
      have AL:=((AE.fin [al sQ,al ⟨#[]⟩,an (aw ⟨w9.heap.size+1,0,aq⟩) 3 3]).alloc (aE #[al o3,al t3,an a3 m3 c3] 45)).alloc (aE #[al o1,al t1,an a1 m1 c1,al o2,al t2,an a2 m2 c2,al o3,al t3,an a3 m3 c3] 45);have AK:=((AE.prc Ab [al sQ,al ⟨#[]⟩,an (aw ⟨w9.heap.size+1,0,aq⟩) 3 3]).alloc (aE #[al o3,al t3,an a3 m3 c3] 45)).alloc (aE #[al o1,al t1,an a1 m1 c1,al o2,al t2,an a2 m2 c2,al o3,al t3,an a3 m3 c3] 45);show XP g (an a0 n0 c0) k _ w _ (((aj w9 (w.heap.size+1+1) 0 [al sQ,al ⟨#[]⟩,an (aw ⟨w9.heap.size+1,0,aq⟩) 3 3]).alloc (aE #[al o3,al t3,an a3 m3 c3] 45)).alloc (aE #[al o1,al t1,an a1 m1 c1,al o2,al t2,an a2 m2 c2,al o3,al t3,an a3 m3 c3] 45));have AI:=aD (w.heap.size+1+1) [al sQ,al ⟨#[]⟩,an (aw ⟨w9.heap.size+1,0,aq⟩) 3 3] 0 w9;have AU:=fun b (hb:b≠w.heap.size+1+1)=>aR (w.heap.size+1+1) [al sQ,al ⟨#[]⟩,an (aw ⟨w9.heap.size+1,0,aq⟩) 3 3] 0 w9 b hb;generalize aj w9 (w.heap.size+1+1) 0 [al sQ,al ⟨#[]⟩,an (aw ⟨w9.heap.size+1,0,aq⟩) 3 3]=w10 at AL AK AI AU ⊢;have AG:=aa.new (w10.alloc (aE #[al o3,al t3,an a3 m3 c3] 45)) #[al o1,al t1,an a1 m1 c1,al o2,al t2,an a2 m2 c2,al o3,al t3,an a3 m3 c3] 45
      rw[cF,AI] at AG
      have AA:∀b,b≠w.heap.size+1+1->b<w9.heap.size->((w10.alloc (aE #[al o3,al t3,an a3 m3 c3] 45)).alloc (aE #[al o1,al t1,an a1 m1 c1,al o2,al t2,an a2 m2 c2,al o3,al t3,an a3 m3 c3] 45)).heap[b]?=w9.heap[b]?:=fun b hb hlt=>by
       rw[fX _ _ _ (by rw[cF];omega),fX _ _ _ (by omega),AU b hb]
      have hs9:((w10.alloc (aE #[al o3,al t3,an a3 m3 c3] 45)).alloc (aE #[al o1,al t1,an a1 m1 c1,al o2,al t2,an a2 m2 c2,al o3,al t3,an a3 m3 c3] 45)).heap.size=w9.heap.size+2:=by
       rw[cF,cF,AI]
      generalize (w10.alloc (aE #[al o3,al t3,an a3 m3 c3] 45)).alloc (aE #[al o1,al t1,an a1 m1 c1,al o2,al t2,an a2 m2 c2,al o3,al t3,an a3 m3 c3] 45)=w11 at AL AK AG AA hs9 ⊢;have Aj:=A4.out;obtain⟨AX,AY,hX9⟩:=HX.out
      by_cases he3:e3=0
      .subst he3
       rw[cB (by rfl)] at Aj;simp only[eZ] at Aj;rw[Aj];refine⟨AL,AK,_,_,_,_,_,rfl,fun _=>?_⟩;refine tQ (P:=fun b=>w.heap.size<=b) [(x1,fq o1 t1 (an a1 m1 c1)),(x2,fq o2 t2 (an a2 m2 c2)),(x3,fq o3 t3 (an a3 m3 c3))] AG (by omega) (fun s hs=>?_) (by unfold cV;simp);simp at hs
       rcases hs with rfl|rfl|rfl
       .exact af.move (by omega) (fun b hb hlt=>AA b hb.2.1 hlt) (fun b hb _=>hb.1) x1 _ AX
       .exact af.move (by omega) (fun b hb hlt=>AA b hb.2.1 hlt) (fun b hb _=>hb.1) x2 _ AY
       .exact af.move (by omega) (fun b hb hlt=>AA b (by omega) hlt) (fun b hb _=>by omega) x3 _ (hX9 rfl)
      .rw[bA (by exact he3)] at Aj
       simp only[eZ] at Aj;rw[Aj];exact⟨AL,AK,_,_,_,_,_,rfl,fun h=>absurd h he3⟩
    rotate_left
    focus
     have Aj:=A4.out;rw[bA (by exact he2)] at Aj;simp only[eZ] at Aj;have A4:=Hh Aj;have hN:=LK w7 g _ _ e2 RU Ab he2 ⟨_,_,_,rfl⟩;have hw:(e2 != 0)=true:=by simpa using he2
     clear Aj A5 AW AF;refine hN.mono ?_;rintro _ _ ⟨rfl,nd,rfl⟩;have AO:=Aa.step ((aF.refl g _).drewN nd);have hc8:=aa.drewN Ab nd;clear Aa Ab hN;have Aa:=AO;have Ab:=hc8;clear AO hc8
 rotate_left 4
 focus
  have Aj:=AV.out;rw[bA (by exact he1)] at Aj;have A4:=Hh Aj;have hI:=QO _ g _ _ e1 sQ Ax he1 ⟨_,_,_,rfl⟩;clear Aj A3 AD AH AV;refine hI.mono ?_;rintro _ _ ⟨rfl,nd,rfl⟩;have Aa:=A1.step ((aF.refl g _).drewN nd);have Ab:=Ax.drewN nd;clear A1 Ax hI
 all_goals
  have Az:=Aa.tb.p.cell 0 _ rfl;have A6:=Aa.tb.d.cell 0 _ rfl;have A0:=Aa.tb.p.lt;have A7:=Aa.tb.d.lt;have Ac:=Aa.rs.res;have AB:=Ac.lt;have Aw:=Aa.first
  have A8:=Aw.lt;have A9:=Ab.lt;have HR:=Jh Aa Ab;obtain⟨Ad,Ag,Ae,Ah,Af,Ai⟩:=Ac.n3 rfl;obtain⟨Aq,At,Ar,Au,As,Av⟩:=Aw.n3 rfl;obtain⟨Ak,An,Al,Ao,Am,Ap⟩:=Ab.n3 rfl;clear Aa Ab Ac Aw;go_wp2;obtain⟨Aa,Ab⟩:=HR.out;have AE:=Aa.rs;have hq:=((AE.res.setI 0 (al o1)).setI 1 (al t1)).setI 2 (an a1 m1 c1);obtain⟨hx,hy,hz⟩:=hq.m3 rfl;refine bj (v:=ew #[al o1,al t1,an a1 m1 c1]) (by simp[cD,Tryz.results150,go_sem,hx,hy,hz]) rfl ?_;have AL:=AE.fin [al o1,al t1,an a1 m1 c1];have AK:=AE.prc Ab [al o1,al t1,an a1 m1 c1];show XP g (an a0 n0 c0) k _ w _ (aj _ (w.heap.size+1+1) 0 [al o1,al t1,an a1 m1 c1]);rw[A4.out];refine⟨AL,AK,_,_,_,_,_,rfl,?_⟩
  first
   |exact fun h=>absurd h he1
   |exact fun h=>absurd h he2
   |exact fun h=>absurd h B8.out
   |exact fun _=>af.move (P:=fun b=>w.heap.size<=b/\b≠w.heap.size+1+1/\b≠w2.heap.size) (by rw[aD];exact cA _) (fun b hb _=>aR _ _ 0 _ b hb.2.1) (fun b hb _=>hb.1) x1 _ HX.out
   |exact fun h=>by cases h
structure Po(w0:cd)(q q5 g:Nat)(cs:Array cq)(w:cd):Prop where
 rs:Rs w0 q g w
 first:aa w q5 cs 45
 q5g:q5≠g
 q50:w0.heap.size<=q5
 q5q:q5≠q
theorem Po.step{cs:Array cq}(h:Po w0 q q5 g cs w)(hs:aF g w w'):Po w0 q q5 g cs w':=
 ⟨h.rs.step hs,hs.cells h.first h.q5g,h.q5g,h.q50,h.q5q⟩
theorem Po.put{a b c:cq}(h:Po w0 q q5 g #[a,b,c] w)(x y z:cq):Po w0 q q5 g #[x,y,z] (aj w q5 0 [x,y,z]):=
 ⟨⟨h.rs.save.setAllNew h.q50 _,h.rs.res.setAllOther (fun e=>h.q5q e.symm),h.rs.qg,h.rs.q0⟩,h.first.put [x,y,z] 0,h.q5g,h.q50,h.q5q⟩
def PL(w0:cd)(q q5 g:Nat)(lv:cq)(l:List ae)(k d m:Nat)(R:gq)(wr:cd):Prop:=
  ∃o t a nn c,Po w0 q q5 g #[al o,al t,an a nn c] wr/\
    ((∃j x k',j<=m/\rF wr g lv l k'/\k<=k'/\R=eZ (k'-k) (ah j (.ploop x) (l.drop k') d)/\af (fun b=>w0.heap.size<=b/\b≠q/\b≠q5) wr x (fq o t (an a nn c)))\/
     (∃(k':Nat) (e:Int),j5 wr g lv (k':Nat) e/\e≠0/\k<=k'/\R=(bf,k'-k,e)))
theorem Ku(w:cd)(g:Nat)(lv:cq)(k e:Int)(s:E7)(b:j5 w g lv k e)(f:e≠0)(h:∃a n c,lv=an a n c) :
  cJ bh 181 #[cx (aw ⟨g,0,aq⟩),al s] w fun r w'=>r=bk (.bool false)/\j5 w' g lv k e/\aF g w w':=by
 refine (QO w g lv k e s b f h).mono ?_;rintro _ _ ⟨rfl,n,rfl⟩;exact⟨rfl,b.drewN n,(aF.refl g w).drewN n⟩
theorem Bu(w:cd)(g:Nat)(lv:cq)(k e:Int)(s:E7)(b:j5 w g lv k e)(f:e≠0)(h:∃a n c,lv=an a n c) :
  cJ bh 183 #[cx (aw ⟨g,0,aq⟩),al s] w fun r w'=>r=bk (dr #[])/\j5 w' g lv k e/\aF g w w':=by
 refine (LK w g lv k e s b f h).mono ?_;rintro _ _ ⟨rfl,n,rfl⟩;exact⟨rfl,b.drewN n,(aF.refl g w).drewN n⟩
theorem NL(m:Nat)(hPr:K6 m)(hC:∀j,j<=m->qZ j):RL (m+1):=by
 intro w g lv l k d h hd hne;obtain⟨a0,c0,rfl,C7,Ci,-⟩:=h.toks.len;unfold cV at Ci;have C5:=h.le;have C9:=h.small;have C4:=h.box.lt;have H0:=Hh h;have hR:=Rs.start h;have h1:=h.step ((ba _ w).alloc lz (aE gU 45));obtain⟨R,AG⟩:=exq (ah (m+1) .post (l.drop k) d);rw[<-AG] at hne ⊢;rw[ah] at AG;have By:(ah m .prime (l.drop k) d).2.2≠-1:=by rw[AG] at hne;exact jD hne
 have AX:(ah m .prime (l.drop k) d).2.1<=(l.drop k).length:=(fZ m .prime (l.drop k) d (by simp only[Nt.okX]) By).1;rw[bm] at AX;have BO:=fun w3 h3=>hPr w3 g (an a0 l.length c0) l k d h3 hd By;generalize ah m .prime (l.drop k) d=r1 at *;obtain⟨x1,n1,e1⟩:=r1;simp only at AX By;have Bz:=Hh AG;clear AG By;go_in;go_wp2_with fail;refine (BO _ h1).mono ?_;rintro _ w4 ⟨hs4,hc4,o,t,a,nn,c,rfl,hX⟩;simp only at hc4 hX;have Cz:=hs4.size;simp only[cF] at Cz;have Ap:cj w4.heap.size w4 (w4.alloc (aE #[al o,al t,an a nn c] 45)):=(ba _ w4).alloc lz _
 have BN:Po w w.heap.size w4.heap.size g #[al o,al t,an a nn c] (w4.alloc (aE #[al o,al t,an a nn c] 45)):=
  ⟨(hR.step hs4).below Ap,aa.new _ _ _,by omega,by omega,by omega⟩
 have BM:PL w w.heap.size w4.heap.size g (an a0 l.length c0) l k d m R (w4.alloc (aE #[al o,al t,an a nn c] 45)):=by
  refine⟨o,t,a,nn,c,BN,?_⟩
  by_cases he:e1=0
  .subst he
   left
   refine⟨m,x1,k+n1,cA _,(h1.go hs4 hc4 (by omega)).step Ap,by omega,?_,?_⟩
   .rw[Bz.out,cB (by rfl)]
    simp only[c4];rw[show k+n1-k=n1 by omega]
   .refine af.move (by simp) (fun b _ hlt=>fX _ _ _ hlt) (fun b hb hlt=>?_) _ _ (hX rfl)
    simp only[cF] at hb;exact⟨by omega,by omega,by omega⟩
  .right
   exact⟨k+n1,e1,hc4.below Ap hc4.lt,he,by omega,by rw[Bz.out,bA (by exact he),show k+n1-k=n1 by omega]⟩
 have BJ:=Hh BM;clear BM hX BN Ap hc4 hs4 hR h1 h BO Bz AX;have C8:w.heap.size<w4.heap.size:=by omega
 go_wp2;go_loopw [6,11,69] (fun _ _ _ wr=>PL w w.heap.size w4.heap.size g (an a0 l.length c0) l k d m R wr) (fun _ _ _ wr=>l.length+1-wM wr g)
 .exact BJ.out
 clear BJ;obtain⟨o5,t5,a5,Ab,c5,Aa,Cr⟩:=hrel;rcases Cr with ⟨j,x,k',hj,h5,hkk,hRe,hX⟩|⟨k',e,hc9,he,hkk,hRe⟩
 .cases j with
  |zero=>rw[hRe] at hne;exact absurd rfl hne
  |succ j=>
  rw[ah] at hRe;have Ch:=h5.le;have hI:=oW _ g _ l k' uE h5;have BI:=Hh h5.box.pos
  by_cases s1:cu (l.drop k') uE=true
  .rw[E4 s1] at hRe
   rw[s1] at hI;have AU:k'+1<=l.length:=by have:=bW s1;rw[bm] at this;omega
   go_wp2_with fail;refine hI.mono ?_;rintro _ w5 ⟨rfl,Ap⟩;have A7:=h5.step Ap;have AO:=af.below Ap x _ hX
   replace Aa:=Aa.step (aF.of Ap)
   have C0:=Ap.size;clear hI Ap h5 hX;have AK:aF g w5 (w5.setCell ⟨g,1,aq⟩ (ao ar ((k':Int)+1))):=(aF.refl g w5).set 1 _;have Bj:j5 (w5.setCell ⟨g,1,aq⟩ (ao ar ((k':Int)+1))) g (an a0 l.length c0) ((k'+1:Nat)) 0:=A7.box.setI 1 (ao ar ((k':Int)+1));have h6:rF (w5.setCell ⟨g,1,aq⟩ (ao ar ((k':Int)+1))) g (an a0 l.length c0) l (k'+1):=A7.go AK Bj AU;have Ao:=af.move AK.size (fun b hb hlt=>AK.2 b hlt (by omega)) (fun b hb _=>hb) x _ AO;have H6:=Jh (Aa.step AK) (cE h6 Ao);have Ad:=A7.box;have AR:=Ad.lt;clear AK Bj h6 Ao AO A7 Aa;obtain⟨Ag,Aj,Ah,Ak,Ai,Al⟩:=Ad.n3 rfl;clear Ad;go_wp2_with fail;clear Ag Ah Ai Aj Ak Al AR;obtain⟨Aa,h6,Ao⟩:=H6.out;clear H6;generalize w5.setCell ⟨g,1,aq⟩ (ao ar ((k':Int)+1))=w6 at *;have hc9:=h6.box;obtain⟨kp,A6⟩:=exq (k'+1);rw[<-A6] at h6 hc9 AU;have Bw:(l.drop k').drop 1=l.drop kp:=by rw[c4,A6]
   rw[Bw] at hRe;have hW:=rJ
   by_cases s3:∃tk r,l.drop kp=tk::r/\tk.kind=1
   .obtain⟨tk,r,AM,Bb⟩:=s3
    rw[AM] at hRe;simp only at hRe;rw[E4 Bb,c4] at hRe
    have Ar:kp<l.length:=by
     have:=congrArg List.length AM;rw[bm,bc] at this;omega
    have Bq:l[kp]=tk:=by
     rw[cg Ar] at AM;exact (rr AM).1
    obtain⟨tb,C3,BG,BZ,Bt,Bv,B1⟩:=aP.get h6.toks Ar;rw[Bq] at Bt Bv B1;rw[Bb] at Bt;cases BG
    have hq:((kp:Int)==(l.length:Int))=false:=by rw[Fc];omega
    have Ad:=h6.box;have AR:=Ad.lt;have Ae:=Aa.first
    have Ba:=Ae.lt;have H6:=Jh Aa (cE h6 (cE Ao (cE hRe (cE A6 (cE Bb AM)))));clear Aa h6 hc9 Ao hRe A6 Bw AM Bq Bb hW B1 AU;obtain⟨BP,BQ⟩:=Ad.m2 rfl;obtain⟨Co,Cl,Cp,Cm,Cq,Cn⟩:=Ae.n3 rfl;go_wp2_with fail;go_quiet (fail)
    go_wp2_with fail;clear hq Bt;have AT:=fun n=>(Ae.drewN n).alloc (aE #[al o5,al t5,an a5 Ab c5] 45);have ha:∀(n b' o':Nat) (u:cq),b'<w6.heap.size->w6.cell? ⟨b',o',aq⟩=aw u->((w6.drewN n).alloc (aE #[al o5,al t5,an a5 Ab c5] 45)).cell? ⟨b',o',aq⟩=aw u:=fun n b' o' u h1 h2=>(kc _ _ _ h1).trans h2;have Cc:=fun n=>ha n _ _ _ AR BP;have Cd:=fun n=>ha n _ _ _ AR BQ;have Ce:=fun n=>ha n _ _ _ BZ Bv;have Cs:=fun n=>(AT n).cell 0 _ rfl;have Ct:=fun n=>(AT n).cell 1 _ rfl;have Cu:=fun n=>(AT n).cell 2 _ rfl;have Cv:=fun n=>(AT n).frozen 0;have Cw:=fun n=>(AT n).frozen 1;have Cy:=fun n=>(AT n).frozen 2;have HF:=Hh Ae;have HB:=Hh Ad;clear AT ha Ae Ad;go_region
    obtain⟨Aa,h6,Ao,hRe,A6,Bb,AM⟩:=H6.out;have An:aF g w6 ((w6.drewN (nq+1)).alloc (aE #[al o5,al t5,an a5 Ab c5] 45)):=((aF.refl g w6).drewN _).alloc _;have B4:=(Aa.step An).put (al qh) (al tk.text) (an (aw ⟨w6.heap.size,0,aq⟩) 1 1);have Am:j5 (aj ((w6.drewN (nq+1)).alloc (aE #[al o5,al t5,an a5 Ab c5] 45)) w4.heap.size 0 [al qh,al tk.text,an (aw ⟨w6.heap.size,0,aq⟩) 1 1]) g _ (kp:Nat) 0:=((h6.box.drewN (nq+1)).alloc (aE #[al o5,al t5,an a5 Ab c5] 45)).setAllOther (by omega);have BC:aa (aj ((w6.drewN (nq+1)).alloc (aE #[al o5,al t5,an a5 Ab c5] 45)) w4.heap.size 0 [al qh,al tk.text,an (aw ⟨w6.heap.size,0,aq⟩) 1 1]) w6.heap.size _ _:=(aa.new (w6.drewN (nq+1)) #[al o5,al t5,an a5 Ab c5] 45).setAllOther (by show w6.heap.size≠_;omega)
    have AY:∀b,b≠w4.heap.size->b<w6.heap.size->(aj ((w6.drewN (nq+1)).alloc (aE #[al o5,al t5,an a5 Ab c5] 45)) w4.heap.size 0 [al qh,al tk.text,an (aw ⟨w6.heap.size,0,aq⟩) 1 1]).heap[b]?=w6.heap[b]?:=fun b hb hlt=>by
     rw[aR _ _ _ _ _ hb,fX _ _ _ (by exact hlt)];rfl
    have Bp:(aj ((w6.drewN (nq+1)).alloc (aE #[al o5,al t5,an a5 Ab c5] 45)) w4.heap.size 0 [al qh,al tk.text,an (aw ⟨w6.heap.size,0,aq⟩) 1 1]).heap.size=w6.heap.size+1:=by
     rw[aD,cF];rfl
    have Br:∃w7,w7=aj ((w6.drewN (nq+1)).alloc (aE #[al o5,al t5,an a5 Ab c5] 45)) w4.heap.size 0 [al qh,al tk.text,an (aw ⟨w6.heap.size,0,aq⟩) 1 1]:=⟨_,rfl⟩;obtain⟨w7,Br⟩:=Br;have Bs:w7=((((w6.drewN (nq+1)).alloc (aE #[al o5,al t5,an a5 Ab c5] 45)).setCell ⟨w4.heap.size,0,aq⟩ (al qh)).setCell ⟨w4.heap.size,1,aq⟩ (al tk.text)).setCell ⟨w4.heap.size,2,aq⟩ (an (aw ⟨w6.heap.size,0,aq⟩) 1 1):=Br;rw[<-Bs];rw[<-Br] at B4 Am BC AY Bp;clear Br Bs
    have Bh:=tQ (P:=fun b=>w.heap.size<=b/\b≠w.heap.size/\b≠w4.heap.size) (op:=qh) (text:=tk.text) [(x,fq o5 t5 (an a5 Ab c5))] BC ⟨by omega,by omega,by omega⟩ (fun s hs=>by
     simp at hs
     subst hs
     exact af.move (by omega) (fun b hb hlt=>AY b hb.2.2 hlt) (fun b hb _=>hb) x _ Ao) (by unfold cV;simp)
    have A8:j5 (w7.setCell ⟨g,1,aq⟩ (ao ar ((kp:Int)+1))) g _ ((kp+1:Nat)) 0:=Am.setI 1 (ao ar ((kp:Int)+1));have AF:aF g w7 (w7.setCell ⟨g,1,aq⟩ (ao ar ((kp:Int)+1))):=(aF.refl g w7).set 1 _;have Bg:=B4.step AF;have AP:=af.move AF.size (fun b hb hlt=>AF.2 b hlt (by omega)) (fun b hb _=>hb) _ _ Bh;have H8:=Jh Bg (cE A8 (cE AP (cE hRe A6)));have Bx:=Am.lt;clear Aa h6 Ao hRe A6 Bb AM H6 An B4 BC AY Bp Bh A8 AF Bg AP HF HB Cc Cd Ce Cs Ct Cu Cv Cw Cy BP BQ Co Cp Cq Cl Cm Cn Bv AR Ba;obtain⟨BR,BU,BS,BV,BT,BW⟩:=Am.n3 rfl;clear Am;go_wp2_with fail;obtain⟨Bg,A8,AP,hRe,A6⟩:=H8.out;constructor
    .refine⟨_,_,_,_,_,Bg,.inl ⟨j,_,kp+1,by omega,H0.out.go Bg.rs.save A8 (by omega),by omega,?_,AP⟩⟩
     rw[hRe,oM];show eZ (k'-k+2) _=_;rw[show k'-k+2=kp+1-k by omega,show k'+2=kp+1 by omega];rfl
    .rw[j5.pos A8,BI.out]
     omega
   .have Af:R=eZ (k'-k) (bf,1,CP (l.drop kp)):=by
     rw[hRe,<-vZ]
     cases hq:l.drop kp with
     |nil=>rfl
     |cons tk r=>
      simp only;rw[E6 (fun e=>s3 ⟨tk,r,hq,e⟩)]
    clear hRe;have hW:=fun n=>rJ (w6.drewN n) g _ l kp (h6.step (dz w6.heap.size w6 n));have Bc:CP (l.drop kp)≠0:=rM _;have Ad:=h6.box;have AR:=Ad.lt
    by_cases Ar:kp=l.length
    focus
     have hq:((kp:Int)==(l.length:Int))=true:=by rw[beq_iff_eq];omega
     generalize CP (l.drop kp)=ee at *;have Bd:=Jh Af (cE Bc A6);clear Af Bc Ar h6 hc9 Ao A6 Bw s3 AU;obtain⟨Ag,Aj,Ah,Ak,Ai,Al⟩:=Ad.n3 rfl;clear Ad
    rotate_left
    focus
     have Ar:kp<l.length:=by omega
     have hq:((kp:Int)==(l.length:Int))=false:=by rw[Fc];omega
     obtain⟨tb,C3,BG,BZ,Bt,Bv,B1⟩:=aP.get h6.toks Ar
     have C6:(l[kp].kind != 1)=true:=by
      rw[bne_iff_ne];intro e;exact s3 ⟨l[kp],_,cg Ar,e⟩
     cases BG
     generalize l[kp].kind=kk at *;generalize CP (l.drop kp)=ee at *;have Bd:=Jh Af (cE Bc A6);clear Af Bc h6 hc9 Ao A6 Bw s3 AU;obtain⟨Ag,Aj,Ah,Ak,Ai,Al⟩:=Ad.n3 rfl;clear Ad
    all_goals
     go_quiet (fail)
     go_wp2_with fail;refine (hW _).mono ?_;rintro _ w7 ⟨rfl,Am,An⟩
     replace Aa:=(Aa.step ((aF.refl g w6).drewN _)).step An
     have hc9:=Am;clear AR Ag Ah Ai Aj Ak Al Am An hW;have Ac:=Aa.rs.res;have BF:=Ac.lt;have Ae:=Aa.first
     have Ba:=Ae.lt;have Bx:=hc9.lt;have HR:=Jh Aa hc9;obtain⟨As,Av,At,Aw,Au,Ax⟩:=Ac.n3 rfl;obtain⟨Az,A2,A0,A3,A1,A4⟩:=Ae.n3 rfl;obtain⟨A9,AC,AA,AD,AB,AE⟩:=hc9.n3 rfl;clear Aa hc9 Ac Ae;go_wp2;obtain⟨Aa,hc9⟩:=HR.out;have Aq:=Aa.rs;have hq:=((Aq.res.setI 0 (al o5)).setI 1 (al t5)).setI 2 (an a5 Ab c5);obtain⟨hx,hy,hz⟩:=hq.m3 rfl;refine bj (v:=ew #[al o5,al t5,an a5 Ab c5]) (by simp[cD,wg,go_sem,hx,hy,hz]) rfl ?_;have AN:=Aq.fin [al o5,al t5,an a5 Ab c5];have A5:=Aq.prc hc9 [al o5,al t5,an a5 Ab c5];show XP g (an _ l.length c0) k _ w _ (aj w7 w.heap.size 0 [al o5,al t5,an a5 Ab c5]);obtain⟨hRe,Bc,A6⟩:=Bd.out;rw[hRe];simp only[eZ];have AW:k+(k'-k+1)=kp:=by omega
     exact⟨AN,by show j5 _ g _ ((k+(k'-k+1):Nat)) ee;rw[AW];exact A5,_,_,_,_,_,rfl,fun h=>absurd h Bc⟩
  .have C1:cu (l.drop k') uE=false:=by simpa using s1
   rw[E6 s1] at hRe;rw[C1] at hI;go_wp2_with fail;refine hI.mono ?_;rintro _ w5 ⟨rfl,Ap⟩;have A7:=h5.step Ap;have AO:=af.below Ap x _ hX
   replace Aa:=Aa.step (aF.of Ap)
   have C0:=Ap.size;clear hI Ap h5 hX;have hI:=oW _ g _ l k' EP A7
   by_cases s2:cu (l.drop k') EP=true
   .rw[E4 s2] at hRe
    rw[s2] at hI;have AU:k'+1<=l.length:=by have:=bW s2;rw[bm] at this;omega
    go_wp2_with fail;refine hI.mono ?_;rintro _ w6 ⟨rfl,hb6⟩;have Be:=A7.step hb6;have Ao:=af.below hb6 x _ AO
    replace Aa:=Aa.step (aF.of hb6)
    have CA:=hb6.size;clear hI hb6 A7 AO
    by_cases hd6:64<=d
    .rw[E4 hd6] at hRe
     have hN:=uf w6 g _ k' d Be.box hd6;clear Ao Be;go_wp2_with fail;refine hN.mono ?_;rintro _ w7 ⟨rfl,Am,An⟩
     replace Aa:=Aa.step An
     have hc9:=Am;clear Am An hN;have Ac:=Aa.rs.res;have BF:=Ac.lt;have Ae:=Aa.first
     have Ba:=Ae.lt;have Bx:=hc9.lt;have HR:=Jh Aa hc9;obtain⟨As,Av,At,Aw,Au,Ax⟩:=Ac.n3 rfl;obtain⟨Az,A2,A0,A3,A1,A4⟩:=Ae.n3 rfl;obtain⟨A9,AC,AA,AD,AB,AE⟩:=hc9.n3 rfl;clear Aa hc9 Ac Ae;go_wp2;obtain⟨Aa,hc9⟩:=HR.out;have Aq:=Aa.rs;have hq:=((Aq.res.setI 0 (al o5)).setI 1 (al t5)).setI 2 (an a5 Ab c5);obtain⟨hx,hy,hz⟩:=hq.m3 rfl;refine bj (v:=ew #[al o5,al t5,an a5 Ab c5]) (by simp[cD,wg,go_sem,hx,hy,hz]) rfl ?_;have AN:=Aq.fin [al o5,al t5,an a5 Ab c5];have A5:=Aq.prc hc9 [al o5,al t5,an a5 Ab c5];show XP g (an a0 l.length c0) k _ w _ (aj w7 w.heap.size 0 [al o5,al t5,an a5 Ab c5]);rw[hRe];simp only[eZ,ow,Nat.add_zero];have AW:k+(k'-k)=k':=by omega
     exact⟨AN,by show j5 _ g _ ((k+(k'-k):Nat)) 5;rw[AW];exact A5,_,_,_,_,_,rfl,fun h=>by cases h⟩
    .rw[E6 hd6] at hRe
     have hN:=qm w6 g _ k' d Be.box (by omega) (by omega)
     have BE:(ah j .choice (l.drop (k'+1)) (d+1)).2.2≠-1:=by
      have Bn:=hne;rw[hRe,c4] at Bn;exact jD (g:=eZ 1 (ah j .choice (l.drop (k'+1)) (d+1))) Bn
     have Bm:=(fZ j .choice (l.drop (k'+1)) (d+1) (by simp only[Nt.okX]) BE).1;rw[bm] at Bm;have B5:=fun w3 h3=>hC j (by omega) w3 g (an a0 l.length c0) l (k'+1) (d+1) h3 (by omega) BE;rw[show ((d+1:Nat):Int)=(d:Int)+1 by omega] at B5;rw[c4] at hRe;generalize ah j .choice (l.drop (k'+1)) (d+1)=r2 at *;obtain⟨x2,n2,e2⟩:=r2;simp only at Bm BE;have Bd:=Hh hRe;clear hRe;go_wp2_with fail;refine hN.mono ?_;rintro _ w7 ⟨rfl,Am,An⟩;have B2:rF w7 g (an a0 l.length c0) l (k'+1):=Be.go An Am AU;have Bh:=af.move An.size (fun b hb hlt=>An.2 b hlt (by omega)) (fun b hb _=>hb) x _ Ao
     replace Aa:=Aa.step An
     clear hN An Am Be Ao;go_wp2_with fail;refine (B5 w7 B2).mono ?_;rintro _ w8 ⟨AF,A8,o2,t2,a2,m2,c2,rfl,hX2⟩;simp only at A8 hX2;have Ck:=Aa.first.lt
     have Cj:=Aa.rs.res.lt;have AP:=af.move AF.size (fun b hb hlt=>AF.2 b hlt (by omega)) (fun b hb _=>hb) x _ Bh;have CB:=AF.size
     have BK:e2=0->af (fun b=>w.heap.size<=b/\b≠w.heap.size/\b≠w4.heap.size) w8 x2 (fq o2 t2 (an a2 m2 c2)):=fun he=>
      af.move lz (fun b hb _=>rfl) (fun b hb _=>⟨by omega,by omega,by omega⟩) x2 _ (hX2 he)
     replace Aa:=Aa.step AF
     have BL:e2=0->rF w8 g (an a0 l.length c0) l (k'+1+n2):=fun he=>by
      subst he;exact B2.go AF A8 (by omega)
     clear AF B2 Bh B5 hX2
     -- the box of what lies between the brackets
     have AZ:cj w8.heap.size w8 (w8.alloc (aE #[al o2,al t2,an a2 m2 c2] 45)):=(ba _ _).alloc lz _;have Bl:=aa.new w8 #[al o2,al t2,an a2 m2 c2] 45
     replace Aa:=Aa.step (aF.of AZ)
     have hc9:=A8.below AZ A8.lt;have A5:e2=0->rF (w8.alloc (aE #[al o2,al t2,an a2 m2 c2] 45)) g (an a0 l.length c0) l (k'+1+n2):=fun he=>(BL he).step AZ;have B0:=Jh (af.below AZ x _ AP) (fun he=>af.below AZ x2 _ (BK he));have BH:(w8.alloc (aE #[al o2,al t2,an a2 m2 c2] 45)).heap.size=w8.heap.size+1:=by simp
     have H9:=Jh Aa (cE hc9 (cE A5 (cE Bl BH)));clear AZ Aa hc9 A5 Bl AP BK BL A8 BH;go_wp2_with fail;obtain⟨Aa,hc9,A5,Bl,BH⟩:=H9.out;clear H9;generalize w8.alloc (aE #[al o2,al t2,an a2 m2 c2] 45)=w9 at *
     have hN:∃(kk:Nat) (ee:Int),k'+1+n2<=kk/\kk<=l.length/\cJ bh 183 #[cx (aw ⟨g,0,aq⟩),al rT] w9 (fun r w'=>r=bk (dr #[])/\j5 w' g (an a0 l.length c0) (kk:Nat) ee/\aF g w9 w')/\
       ((ee=0/\e2=0/\R=eZ (kk-k) (ah j (.ploop (.mk zu jO [x,x2])) (l.drop kk) d))\/(ee≠0/\R=(bf,kk-k,ee))):=by
      have hRe:=Bd.out
      by_cases he:e2=0
      .subst he
       have Af:R=eZ (k'-k) (if cu (l.drop (k'+(1+n2))) rT=false then dJ (l.drop (k'+(1+n2))) (1+n2) else eZ (1+n2+1) (ah j (.ploop (.mk zu jO [x,x2])) (l.drop (k'+(1+n2+1))) d)):=by
        rw[hRe,cB (by rfl)];simp only[c4];rfl
       have hN:=zO w9 g _ l (k'+1+n2) rT (A5 rfl);rw[show k'+(1+n2)=k'+1+n2 by omega,show k'+(1+n2+1)=k'+1+n2+1 by omega] at Af
       by_cases s3:cu (l.drop (k'+1+n2)) rT=false
       .rw[E4 s3,vZ] at Af
        rw[s3,E6 (by simp),E6 (by simp)] at hN;refine⟨k'+1+n2,_,cA _,by omega,hN,.inr ⟨rM _,?_⟩⟩;rw[Af];exact yk rfl (yk (by simp only[eZ];omega) rfl)
       .have Ca:cu (l.drop (k'+1+n2)) rT=true:=by simpa using s3
        have Cf:k'+1+n2+1<=l.length:=by have:=bW Ca;rw[bm] at this;omega
        rw[E6 s3,oM] at Af;rw[Ca,E4 rfl,E4 rfl] at hN;refine⟨k'+1+n2+1,_,by omega,Cf,hN,.inl ⟨rfl,rfl,?_⟩⟩;rw[Af,show k'-k+(1+n2+1)=k'+1+n2+1-k by omega]
      .rw[bA (by exact he)] at hRe
       refine⟨k'+1+n2,e2,cA _,by omega,Bu w9 g _ _ e2 rT hc9 he ⟨_,_,_,rfl⟩,.inr ⟨he,?_⟩⟩;rw[hRe];exact yk rfl (yk (by simp only[eZ];omega) rfl)
     obtain⟨kk,ee,Cg,BD,hN,Ay⟩:=hN;refine hN.mono ?_;rintro _ w10 ⟨rfl,hc10,hs10⟩;have AV:=hs10.cells Bl (by omega)
     replace Aa:=Aa.step hs10
     have AH:=af.move hs10.size (fun b hb hlt=>hs10.2 b hlt (by omega)) (fun b hb _=>hb) x _ B0.out.1;have AI:=fun he=>af.move hs10.size (fun b hb hlt=>hs10.2 b hlt (by omega)) (fun b hb _=>hb) x2 _ (B0.out.2 he);have Cx:=hs10.size;have Ae:=Aa.first
     have Ba:=Ae.lt;have BX:=AV.lt;have Cb:=Jh Aa (cE hc10 (cE AH (cE AI Ay)));clear hs10 Bl Aa hc10 AH AI Ay hN B0 hc9 A5 Bd;obtain⟨Az,A2,A0,A3,A1,A4⟩:=Ae.n3 rfl;obtain⟨B6,B9,B7,BA,B8,BB⟩:=AV.n3 rfl;clear Ae AV;go_wp2_with fail;obtain⟨Aa,hc10,AH,AI,Ay⟩:=Cb.out;have B3:=Aa.put (al zu) (al ⟨#[]⟩) (an (aw ⟨w10.heap.size,0,aq⟩) 2 2);have Bi:j5 (aj w10 w4.heap.size 0 [al zu,al ⟨#[]⟩,an (aw ⟨w10.heap.size,0,aq⟩) 2 2]) g _ _ _:=hc10.setAllOther (by omega);have Bo:=fun b (hb:b≠w4.heap.size)=>aR w4.heap.size [al zu,al ⟨#[]⟩,an (aw ⟨w10.heap.size,0,aq⟩) 2 2] 0 w10 b hb;have AL:=aD w4.heap.size [al zu,al ⟨#[]⟩,an (aw ⟨w10.heap.size,0,aq⟩) 2 2] 0 w10
     show PL w w.heap.size w4.heap.size g (an a0 l.length c0) l k d m R ((aj w10 w4.heap.size 0 [al zu,al ⟨#[]⟩,an (aw ⟨w10.heap.size,0,aq⟩) 2 2]).alloc (aE #[al o5,al t5,an a5 Ab c5,al o2,al t2,an a2 m2 c2] 45))/\
      l.length+1-wM ((aj w10 w4.heap.size 0 [al zu,al ⟨#[]⟩,an (aw ⟨w10.heap.size,0,aq⟩) 2 2]).alloc (aE #[al o5,al t5,an a5 Ab c5,al o2,al t2,an a2 m2 c2] 45)) g<l.length+1-wM wr g
     generalize aj w10 w4.heap.size 0 [al zu,al ⟨#[]⟩,an (aw ⟨w10.heap.size,0,aq⟩) 2 2]=w11 at *;have AQ:cj w11.heap.size w11 (w11.alloc (aE #[al o5,al t5,an a5 Ab c5,al o2,al t2,an a2 m2 c2] 45)):=(ba _ _).alloc lz _;have Bk:=aa.new w11 #[al o5,al t5,an a5 Ab c5,al o2,al t2,an a2 m2 c2] 45;have Bf:=B3.step (aF.of AQ);have AS:j5 (w11.alloc (aE #[al o5,al t5,an a5 Ab c5,al o2,al t2,an a2 m2 c2] 45)) g (an a0 l.length c0) (kk:Nat) ee:=Bi.below AQ Bi.lt
     have AJ:∀b,b≠w4.heap.size->b<w10.heap.size->(w11.alloc (aE #[al o5,al t5,an a5 Ab c5,al o2,al t2,an a2 m2 c2] 45)).heap[b]?=w10.heap[b]?:=fun b hb hlt=>by
      rw[AQ.block b (by omega),Bo b hb]
     have BY:(w11.alloc (aE #[al o5,al t5,an a5 Ab c5,al o2,al t2,an a2 m2 c2] 45)).heap.size=w10.heap.size+1:=by rw[cF,AL]
     rw[AL] at Bk;generalize w11.alloc (aE #[al o5,al t5,an a5 Ab c5,al o2,al t2,an a2 m2 c2] 45)=w12 at *;constructor
     .refine⟨_,_,_,_,_,Bf,?_⟩
      rcases Ay with ⟨he0,he2,AG⟩|⟨he,AG⟩
      .subst he0
       left
       refine⟨j,_,kk,by omega,H0.out.go Bf.rs.save AS BD,by omega,AG,?_⟩;refine tQ (P:=fun b=>w.heap.size<=b/\b≠w.heap.size/\b≠w4.heap.size) (op:=zu) (text:=⟨#[]⟩) [(x,fq o5 t5 (an a5 Ab c5)),(x2,fq o2 t2 (an a2 m2 c2))] Bk ⟨by omega,by omega,by omega⟩ (fun s hs=>?_) (by unfold cV;simp);simp at hs
       rcases hs with rfl|rfl
       .exact af.move (by omega) (fun b hb hlt=>AJ b hb.2.2 hlt) (fun b hb _=>hb) x _ AH
       .exact af.move (by omega) (fun b hb hlt=>AJ b hb.2.2 hlt) (fun b hb _=>hb) x2 _ (AI he2)
      .right
       exact⟨kk,ee,AS,he,by omega,AG⟩
     .rw[j5.pos AS,BI.out]
      omega
   .have C2:cu (l.drop k') EP=false:=by simpa using s2
    rw[E6 s2] at hRe;rw[C2] at hI;go_wp2_with fail;refine hI.mono ?_;rintro _ w6 ⟨rfl,hb6⟩;have Ao:=Hh (af.below hb6 x _ AO)
    replace Aa:=Aa.step (aF.of hb6)
    have hc9:=A7.box.below hb6 A7.box.lt;clear hI hb6 AO A7;have Ac:=Aa.rs.res;have BF:=Ac.lt;have Ae:=Aa.first
    have Ba:=Ae.lt;have Bx:=hc9.lt;have HR:=Jh Aa hc9;obtain⟨As,Av,At,Aw,Au,Ax⟩:=Ac.n3 rfl;obtain⟨Az,A2,A0,A3,A1,A4⟩:=Ae.n3 rfl;obtain⟨A9,AC,AA,AD,AB,AE⟩:=hc9.n3 rfl;clear Aa hc9 Ac Ae;go_wp2;obtain⟨Aa,hc9⟩:=HR.out;have Aq:=Aa.rs;have hq:=((Aq.res.setI 0 (al o5)).setI 1 (al t5)).setI 2 (an a5 Ab c5);obtain⟨hx,hy,hz⟩:=hq.m3 rfl;refine bj (v:=ew #[al o5,al t5,an a5 Ab c5]) (by simp[cD,wg,go_sem,hx,hy,hz]) rfl ?_;have AN:=Aq.fin [al o5,al t5,an a5 Ab c5];have A5:=Aq.prc hc9 [al o5,al t5,an a5 Ab c5];show XP g (an a0 l.length c0) k _ w _ (aj w6 w.heap.size 0 [al o5,al t5,an a5 Ab c5]);rw[hRe];simp only[eZ,Nat.add_zero];have AW:k+(k'-k)=k':=by omega
    exact⟨AN,by show j5 _ g _ ((k+(k'-k):Nat)) 0;rw[AW];exact A5,_,_,_,_,_,rfl,fun _=>af.move (P:=fun b=>w.heap.size<=b/\b≠w.heap.size/\b≠w4.heap.size) (by rw[aD];exact cA _) (fun b hb _=>aR _ _ 0 _ b hb.2.1) (fun b hb _=>hb.1) x _ Ao.out⟩
 .have hI:=Ku _ g _ _ e uE hc9 he ⟨_,_,_,rfl⟩
  go_wp2_with fail;refine hI.mono ?_;rintro _ w6 ⟨rfl,Bj,AK⟩
  replace Aa:=Aa.step AK
  replace hc9:=Bj
  clear hI AK Bj;have hI:=Ku _ g _ _ e EP hc9 he ⟨_,_,_,rfl⟩;go_wp2_with fail;refine hI.mono ?_;rintro _ w7 ⟨rfl,Am,An⟩
  replace Aa:=Aa.step An
  replace hc9:=Am
  clear hI Am An;have Ac:=Aa.rs.res;have BF:=Ac.lt;have Ae:=Aa.first
  have Ba:=Ae.lt;have Bx:=hc9.lt;have HR:=Jh Aa hc9;obtain⟨As,Av,At,Aw,Au,Ax⟩:=Ac.n3 rfl;obtain⟨Az,A2,A0,A3,A1,A4⟩:=Ae.n3 rfl;obtain⟨A9,AC,AA,AD,AB,AE⟩:=hc9.n3 rfl;clear Aa hc9 Ac Ae;go_wp2;obtain⟨Aa,hc9⟩:=HR.out;have Aq:=Aa.rs;have hq:=((Aq.res.setI 0 (al o5)).setI 1 (al t5)).setI 2 (an a5 Ab c5);obtain⟨hx,hy,hz⟩:=hq.m3 rfl;refine bj (v:=ew #[al o5,al t5,an a5 Ab c5]) (by simp[cD,wg,go_sem,hx,hy,hz]) rfl ?_;have AN:=Aq.fin [al o5,al t5,an a5 Ab c5];have A5:=Aq.prc hc9 [al o5,al t5,an a5 Ab c5];show XP g (an a0 l.length c0) k _ w _ (aj w7 w.heap.size 0 [al o5,al t5,an a5 Ab c5]);rw[hRe];have AW:k+(k'-k)=k':=by omega
  exact⟨AN,by show j5 _ g _ ((k+(k'-k):Nat)) e;rw[AW];exact A5,_,_,_,_,_,rfl,fun h=>absurd h he⟩
theorem Tryz.infoExp:(Tryz.prog.info? 45).map (fun i=>(i.zero,i.size,i.bytes))=aw (aw (ew #[al ⟨#[]⟩,al ⟨#[]⟩,an aq 0 0]),3,56):=by kernel_rfl
def sU(base:Nat)(w:cd)(v:cq)(L:List (iA×List cq)):Prop:=(∀s∈L,s.2.length=3)/\w.ownsRow base 45 3 v L.length (L.flatMap (·.2))
def Jr(base:Nat)(w:cd)(v:cq)(L:List (iA×List cq)):Prop:=∀s∈L,af (fun k=>base<=k/\aw k≠v.ownBlock) w s.1 s.2
theorem sU.nil(base:Nat)(w:cd):sU base w (an aq 0 0) []:=⟨by simp,World.ownsRow_nil _ _ _ _⟩
theorem sU.keep{L:List (iA×List cq)}(h:sU base w v L)(x:∀k,base<=k->k<w.heap.size->w'.heap[k]?=w.heap[k]?):sU base w' v L:=by
 obtain⟨i,h⟩:=h;have u:=cy h;obtain⟨j,c⟩:=h;refine⟨i,j,?_⟩;rcases c with c|⟨g,cap,a,f,o,q,r⟩
 .exact .inl c
 .refine .inr ⟨g,cap,a,f,o,?_,r⟩
  have:=u g (by rw[f];rfl);rw[x g this.1 this.2];exact q
theorem Jr.keep{L:List (iA×List cq)}(h:Jr base w v L)(hs:w.heap.size<=w'.heap.size)(hb:∀k,base<=k->k<w.heap.size->w'.heap[k]?=w.heap[k]?):Jr base w' v L:=
 fun s hs'=>af.move hs (fun k hk hlt=>hb k hk.1 hlt) (fun _ h _=>h) _ _ (h s hs')
theorem sU.save{L:List (iA×List cq)}(h:sU base w v L)(hs:aF g w w')(hg:g<base):sU base w' v L:=
 h.keep (fun k hk hlt=>hs.2 k hlt (by omega))
theorem Jr.save{L:List (iA×List cq)}(h:Jr base w v L)(hs:aF g w w')(hg:g<base):Jr base w' v L:=
 h.keep hs.size (fun k hk hlt=>hs.2 k hlt (by omega))
theorem sU.len{L:List (iA×List cq)}(h:sU base w v L):∃a cap,v=an a L.length cap:=by
 obtain⟨-,i,c⟩:=h;rcases c with ⟨rfl,f⟩|⟨g,cap,b,rfl,_⟩
 .exact⟨aq,0,by rw[f]⟩
 .exact⟨_,cap,rfl⟩
theorem Jr.push{gb:Nat}{L:List (iA×List cq)}(h:Jr base w v L)(q:af (fun k=>base<=k/\aw k≠v.ownBlock) w x cs)(l:w.grownBy w' v.ownBlock)(i:v.ownBlock=aw gb\/gb=w.heap.size):Jr base w' (an (aw ⟨gb,0,aq⟩) n cap) (L++[(x,cs)]):=by
 have j:∀(t:iA) (cs:List cq),af (fun k=>base<=k/\aw k≠v.ownBlock) w t cs->af (fun k=>base<=k/\aw k≠(iN (aw ⟨gb,0,aq⟩) n cap).ownBlock) w' t cs:=fun t cs h=>
  af.move l.size (fun k hk hlt=>l.block k hlt hk.2) (fun k hk hlt=>⟨hk.1,fun e=>by
   simp only[Value.ownBlock] at e;rcases i with i|i
   .exact hk.2 (e.trans i.symm)
   .injection e with e;omega⟩) _ _ h
 intro s c;rcases cX.1 c with c|c
 .exact j _ _ (h s c)
 .simp at c;subst c;exact j _ _ q
theorem D6{L:List (iA×List cq)}(N:sU base w v L)(hi:Jr base w v L):Uj base w (L.map (·.1)) v:=by
 intro o t;obtain⟨F,M,I⟩:=N;rcases I with ⟨rfl,H⟩|⟨g,cap,c,rfl,q,D,B,C,J,E⟩
 .have:L=[]:=List.eq_nil_of_length_eq_zero H
  subst this;exact af.leaf _ w o t
 .simp only[af]
  refine⟨_,cap,by rw[cW],by rw[cW];exact B,C,(fun h=>by cases h),fun x hx hne=>?_⟩;cases hx
  refine⟨rfl,⟨(Array.getElem?_eq_some_iff.1 D).1,q,fun o=>frozen_of_row w g o c _ D⟩,gy.make _ 0 (fun k hk=>?_)⟩;have Aa:k<L.length:=by rw[cW] at hk;exact hk
  refine⟨L[k].2,fun j u hu=>?_,?_⟩
  .have K:j<3:=by have:=(fv.1 hu).1;rw[F _ (cH Aa)] at this;exact this
   rw[df,cell_of_row w g _ c 45 (0,0) D];have G:=uh L F k Aa j K;rw[<-E,List.getElem?_take,E4 (by omega)] at G;rw[<-hu,<-G];simp
  .rw[ju]
   exact af.move lz (fun _ _ _=>rfl) (fun b q _=>q.1) _ _ (hi _ (cH Aa))
section
variable {w:cd} {ops:Array Oper} {rest:List Oper} {o:Oper} {a:Act} {Q:Exit->Act->cd->Prop}
theorem oL(G:o.guard=aq)(s x:Operand)(R:o.op=.call { callee:=.builtin .append,args:=#[s,x],argTypes:=#[43,43] })(base:Nat)(L:List (iA×List cq))(B:sU base w (a.eval s) L)(g:Nat)(S:a.eval x=an (aw ⟨g,0,aq⟩) 1 1)(y:iA)(T V:E7)(M:Option Addr)(n1 c1:Nat)(P:aa w g #[al T,al V,an M n1 c1] 45)(W:L.length<=1000000)(E:base<=w.heap.size)(H:Nat)(N:w.heap.size=H)(O:∀gb cap w',sU base w' (an (aw ⟨gb,0,aq⟩) (L.length+1) cap) (L++[(y,fq T V (an M n1 c1))])->w.grownBy w' (a.eval s).ownBlock->((a.eval s).ownBlock=aw gb\/gb=H)->base<=gb->
   wpList bh ops Q rest (a.put o.dst (an (aw ⟨gb,0,aq⟩) (L.length+1) cap)) w'):wpList bh ops Q (o::rest) a w:=by
 obtain⟨i,Aa,Ab,Ac,Ad⟩:=info_parts Tryz.infoExp;refine wpList_append_lies w G s x 43 R base 45 i _ 3 56 Tryz.underlying43 Aa Ab Ac Ad rfl (by decide) (a.eval s) L.length (L.flatMap (·.2)) rfl B.2 ⟨g,0,aq⟩ 1 1 (fq T V (an M n1 c1)) S rfl ?_ ?_ (by omega) (by unfold cV;omega) (by omega) E H N ?_
 .intro j u C
  rw[Addr.add_lit,df];exact P.cell _ _ (by simpa using C)
 .intro u C
  simp at C
  rcases C with rfl|rfl|rfl<;>rfl
 .intro gb cap w' f F D J
  have I:=cy f gb rfl;refine O gb cap w' ⟨?_,by simpa using f⟩ F D I.1;intro s v;rcases cX.1 v with v|v
  .exact B.1 s v
  .simp at v;subst v;rfl
end
def ML(w0:cd)(g:Nat)(lv:cq)(s:E7)(l:List ae)(k d m:Nat)(R:gq)(v:cq)(wr:cd):Prop:=
 aF g w0 wr/\∃(L:List (iA×List cq)) (j k':Nat),sU w0.heap.size wr v L/\Jr w0.heap.size wr v L/\j<=m/\rF wr g lv l k'/\k<=k'/\L.length<=k'/\
  R=eZ (k'-k) (ah j (.mloop s (L.map (·.1))) (l.drop k') d)
theorem NZ(m:Nat)(hC:∀j,j<=m->qZ j):RO (m+1):=by
 intro w g lv l k d s h hlen hd hs12 hne;obtain⟨a0,c0,rfl,Bk,Ba,-⟩:=h.toks.len;unfold cV at Ba;have Bj:=h.le;have Bl:=h.small;have An:=h.box.lt;obtain⟨R,Ag⟩:=exq (ah (m+1) (.many s) (l.drop k) d);rw[<-Ag] at hne ⊢;rw[ah] at Ag
 by_cases hd6:64<=d
 .rw[E4 hd6] at Ag
  have A7:=Hh Ag;clear Ag hne;have hN:=uf w g _ k d h.box hd6;go_in;go_wp2_with fail;refine hN.mono ?_;rintro _ w2 ⟨rfl,hc2,hs2⟩;have H2:=Jh hc2 hs2;clear hc2 hs2 hN;go_wp2;go_ret;rw[A7.out];exact⟨H2.out.2,H2.out.1,_,_,_,rfl,fun h=>by cases h⟩
 .rw[E6 hd6,c4] at Ag
  rw[bm] at hlen;have AX:k+1<=l.length:=by omega
  have hN:=qm w g _ k d h.box (by omega) (by omega);go_in;go_wp2_with fail;refine hN.mono ?_;rintro _ w2 ⟨rfl,hc2,hs2⟩;have h2:rF w2 g (an a0 l.length c0) l (k+1):=h.go hs2 hc2 AX;have hI:=oW w2 g _ l (k+1) s h2;clear hN hc2
  by_cases s1:cu (l.drop (k+1)) s=true
  .rw[E4 s1] at Ag
   rw[s1] at hI;have A7:=Hh Ag;clear Ag hne;go_wp2_with fail;refine hI.mono ?_;rintro _ w3 ⟨rfl,hb3⟩;have A5:=h2.box.below hb3 h2.box.lt;have A0:=hs2.trans (aF.of hb3);have H3:=Jh (A5.setI 1 (ao ar (((k+1:Nat):Int)+1))) (A0.set 1 (ao ar (((k+1:Nat):Int)+1)));have Ay:=A5.lt;clear hs2 hI hb3 h2 A0;obtain⟨AG,AJ,AH,AK,AI,AL⟩:=A5.n3 rfl;clear A5;go_wp2;go_ret;rw[A7.out];exact⟨H3.out.2,H3.out.1,_,_,_,rfl,fun _ o t=>af.leaf _ _ o t⟩
  .have Be:cu (l.drop (k+1)) s=false:=by simpa using s1
   rw[E6 s1] at Ag;rw[Be] at hI;go_wp2_with fail;refine hI.mono ?_;rintro _ w3 ⟨rfl,hb3⟩;have h3:=h2.step hb3;have A0:=hs2.trans (aF.of hb3)
   have AC:ML w g (an a0 l.length c0) s l k d m R (an aq 0 0) w3:=by
    refine⟨A0,[],m,k+1,sU.nil _ _,(by intro s hs;cases hs),cA _,h3,by omega,ck _,?_⟩;rw[Ag,show k+1-k=1 by omega];rfl
   have AB:=Hh AC;clear AC A0 h3 hb3 hI h2 hs2 Ag;go_wp2;go_loopw [7] (fun v wr=>ML w g (an a0 l.length c0) s l k d m R v wr) (fun _ wr=>l.length+1-wM wr g)
   .exact AB.out
   clear AB;obtain⟨AA,L,j,k',Am,AT,hj,h5,Bi,Bh,Ab⟩:=hrel;obtain⟨va,vc,rfl⟩:=Am.len
   cases j with
   |zero=>rw[Ab] at hne;exact absurd rfl hne
   |succ j=>
   rw[ah] at Ab;simp only[c4] at Ab;have AZ:=h5.le;have AV:=Hh h5.box.pos
   have A9:(ah j .choice (l.drop k') (d+1)).2.2≠-1:=by
    have Az:=hne;rw[Ab] at Az;exact jD Az
   have Ax:=(fZ j .choice (l.drop k') (d+1) (by simp only[Nt.okX]) A9).1;rw[bm] at Ax;have A8:=hC j (by omega) wr g (an a0 l.length c0) l k' (d+1) h5 (by omega) A9;rw[show ((d+1:Nat):Int)=(d:Int)+1 by omega] at A8;generalize ah j .choice (l.drop k') (d+1)=r2 at *;obtain⟨x2,n2,e2⟩:=r2;simp only at Ax A9;have A4:=Hh Ab;clear Ab;go_wp2_with fail;refine A8.mono ?_;rintro _ w6 ⟨hs6,hc6,o2,t2,a2,m2,c2,rfl,hX2⟩;simp only at hc6 hX2;have Ao:=Am.save hs6 An;have Au:=AT.save hs6 An;have Bc:=hs6.size;have Bm:=AA.size;have A2:=AA.trans hs6
   have AW:e2=0->rF w6 g (an a0 l.length c0) l (k'+n2):=fun he=>by
    subst he;exact h5.go hs6 hc6 (by omega)
   have AU:∀b,(iN va L.length vc).ownBlock=aw b->b<wr.heap.size:=fun b hb=>(cy Am.2 b hb).2
   have AE:e2=0->af (fun b=>w.heap.size<=b/\aw b≠(iN va L.length vc).ownBlock) w6 x2 (fq o2 t2 (an a2 m2 c2)):=fun he=>
    af.move lz (fun _ _ _=>rfl) (fun b hb _=>⟨by omega,fun e=>by have:=AU b e.symm;omega⟩) x2 _ (hX2 he)
   clear A8 Am AT AA hs6 hX2;go_wp2_with (with_reducible first|refine aL ?_)
   refine Stop.out ?_;have Aq:cj w6.heap.size w6 (w6.alloc (aE #[al o2,al t2,an a2 m2 c2] 45)):=(ba _ _).alloc lz _;have AS:=hc6.below Aq hc6.lt;have Af:=Ao.keep (fun b _ Ay=>Aq.block b Ay);have Aw:=Au.keep Aq.size (fun b _ Ay=>Aq.block b Ay);have AF:=fun he=>af.below Aq x2 _ (AE he);have Bd:(w6.alloc (aE #[al o2,al t2,an a2 m2 c2] 45)).heap.size=w6.heap.size+1:=by simp
   have A3:=A2.trans (aF.of Aq);refine oL rfl _ _ rfl w.heap.size L (by exact Af) w6.heap.size rfl x2 o2 t2 a2 m2 c2 (aa.new _ _ _) (by omega) (by omega) _ rfl ?_;intro gb cap w7 hrow7 hg7 hat7 hge7;have Ad:e2=0->Jr w.heap.size w7 (an (aw ⟨gb,0,aq⟩) (L.length+1) cap) (L++[(x2,fq o2 t2 (an a2 m2 c2))]):=fun he=>Jr.push Aw (AF he) hg7 hat7;have Ae:aF g w w7:=A3.grown hg7 (fun b hb=>(cy Af.2 b hb).1);have At:j5 w7 g (an a0 l.length c0) ((k'+n2:Nat)) e2:=AS.kept hg7 (fun e=>by have:=(cy Af.2 g e.symm).1;omega)
   have Al:e2=0->rF w7 g (an a0 l.length c0) l (k'+n2):=fun he=>by
    subst he;exact h.go Ae At (by omega)
   clear Aq AS Af Aw AF Bd A3 hg7 hat7 hge7 hc6 Ao Au AE AW A2 AU h5 Bc
   by_cases he2:e2=0
   .subst he2
    have Ab:=A4.out;rw[cB (by rfl)] at Ab
    replace Al:=Al rfl
    replace Ad:=Ad rfl
    have hI:=oW w7 g _ l (k'+n2) lh Al
    by_cases s2:cu (l.drop (k'+n2)) lh=true
    .have AY:k'+n2+1<=l.length:=by have:=bW s2;rw[bm] at this;omega
     have Aa:R=eZ (k'+n2+1-k) (ah j (.mloop s ((L++[(x2,fq o2 t2 (an a2 m2 c2))]).map (·.1))) (l.drop (k'+n2+1)) d):=by
      rw[Ab];show eZ (k'-k) (if cu (l.drop (k'+n2)) lh=true then _ else _)=_;rw[E4 s2,oM,show k'-k+(n2+1)=k'+n2+1-k by omega];simp only[eJ,cI,ke];rfl
     rw[s2] at hI;have A4:=Hh Aa;clear Ab Aa;go_wp2_with fail;refine hI.mono ?_;rintro _ w8 ⟨rfl,hb8⟩;have Ar:=Al.box.below hb8 Al.box.lt;have A1:=aF.of (g:=g) hb8;have Ac:j5 (w8.setCell ⟨g,1,aq⟩ (ao ar ((k':Int)+(n2:Int)+1))) g (an a0 l.length c0) ((k'+n2+1:Nat)) 0:=Ar.setI 1 (ao ar ((k':Int)+(n2:Int)+1));have Ah:aF g w7 (w8.setCell ⟨g,1,aq⟩ (ao ar ((k':Int)+(n2:Int)+1))):=A1.set 1 _;have H9:=Jh Ac (cE (Ae.trans Ah) (cE (hrow7.save Ah An) (Ad.save Ah An)));have Ay:=Ar.lt;clear Ac Ah A1 hb8 hI Al Ad hrow7 Ae At;obtain⟨AM,AP,AN,AQ,AO,AR⟩:=Ar.n3 rfl;clear Ar;go_wp2_with fail;obtain⟨Ac,Ak,Ai,As⟩:=H9.out;constructor
     .refine⟨Ak,_,j,k'+n2+1,Ai,As,by omega,h.go Ak Ac AY,by omega,by simp;omega,A4.out⟩
     .have Bb:=j5.pos Ac
      rw[Bb,AV.out];omega
    .have Bf:cu (l.drop (k'+n2)) lh=false:=by simpa using s2
     rw[Bf] at hI
     have Aa:R=eZ (k'-k) (if cu (l.drop (k'+n2)) s=true then (.mk jO jO ((L++[(x2,fq o2 t2 (an a2 m2 c2))]).map (·.1)),n2+1,0) else dJ (l.drop (k'+n2)) n2):=by
      rw[Ab];show eZ (k'-k) (if cu (l.drop (k'+n2)) lh=true then _ else _)=_;rw[E6 s2];simp only[eJ,cI,ke]
     clear Ab;go_wp2_with fail;refine hI.mono ?_;rintro _ w8 ⟨rfl,hb8⟩;have AD:=Al.step hb8;have Aj:=Ae.trans (aF.of hb8);have Ap:=hrow7.save (aF.of (g:=g) hb8) An;have Av:=Ad.save (aF.of (g:=g) hb8) An;clear Al Ae hrow7 Ad hb8 hI;have hN:=zO w8 g _ l (k'+n2) s AD;go_wp2_with fail;refine hN.mono ?_;rintro _ w9 ⟨rfl,Ac,Ah⟩;have H9:=Jh Ac (cE (Aj.trans Ah) (cE (Ap.save Ah An) (Av.save Ah An)));have A6:=Hh Aa;clear Ac Ah Aj Ap Av hN AD Aa At;go_wp2;go_ret;obtain⟨Ac,Ak,Ai,As⟩:=H9.out;have Aa:=A6.out
     by_cases s3:cu (l.drop (k'+n2)) s=true
     .rw[E4 s3] at Aa
      rw[s3,E4 rfl,E4 rfl] at Ac;rw[Aa];refine⟨Ak,?_,_,_,_,rfl,fun _=>D6 Ai As⟩;show j5 _ g _ ((k+(k'-k+(n2+1)):Nat)) 0;rw[show k+(k'-k+(n2+1))=k'+n2+1 by omega];exact Ac
     .have Bg:cu (l.drop (k'+n2)) s=false:=by simpa using s3
      rw[E6 s3,vZ] at Aa;rw[Bg,E6 (by simp),E6 (by simp)] at Ac;rw[Aa];refine⟨Ak,?_,_,_,_,rfl,fun e=>absurd e (rM _)⟩;show j5 _ g _ ((k+(k'-k+n2):Nat)) (CP _);rw[show k+(k'-k+n2)=k'+n2 by omega];exact Ac
   .have Ab:=A4.out
    rw[bA (by exact he2)] at Ab;have A6:=Hh Ab;have hI:=Ku w7 g _ _ e2 lh At he2 ⟨_,_,_,rfl⟩;clear Ab Al Ad hrow7;go_wp2_with fail;refine hI.mono ?_;rintro _ w8 ⟨rfl,Ar,A1⟩;have hN:=Bu w8 g _ _ e2 s Ar he2 ⟨_,_,_,rfl⟩;have Aj:=Ae.trans A1;clear hI A1 Ae At Ar;go_wp2_with fail;refine hN.mono ?_;rintro _ w9 ⟨rfl,Ac,Ah⟩;have H9:=Jh Ac (Aj.trans Ah);clear Ac Ah Aj hN;go_wp2;go_ret;rw[A6.out];refine⟨H9.out.2,?_,_,_,_,rfl,fun e=>absurd e he2⟩;show j5 _ g _ ((k+(k'-k+n2):Nat)) e2;rw[show k+(k'-k+n2)=k'+n2 by omega];exact H9.out.1
end Go.Proofs.YtgmpmolfcaihfaaGreatDoor
