/- Laws that TidyWell rests on; conditions: those that each names. -/
import Derived.WalkKit
import Derived.WalkSpells
import Derived.WalkLawsBesides
import Derived.Outline
import Derived.Lib.Hide
import Derived.Lib.SlBytesConst
import Derived.BigQuiet
import Derived.Deep.QuietTactic
import Derived.Deep.RegionWith
import Derived.Laws.AppendOwnNone
import Derived.Deep.DeepCutAuto
import Derived.StillTailTactics
import Derived.Deep.RegionHeld3
import Derived.Deep.CutBlock
import Derived.Deep.LoopGhost
import Derived.Laws.CopyOwn
import Derived.Deep.RegionLaw
import Derived.Test.YtgmpmolfcaihfaaGreatDoorRows
import Derived.Lib.TrimByte
import Derived.Lib.SlTrimSet
import Derived.Lib.IndexMore
import Derived.Deep.Slices
import Derived.SliceStrings
import Derived.ChangeArms
import Derived.Shelf.Strings.Builder1
import Derived.Shelf.Strings.Builder2
import Derived.Shelf.Strings.Trim
import Derived.Shelf.Small.Utf8
import Derived.Shelf.Small.Strs
import Derived.Shelf.Small.Wraps
import Derived.Shelf.Strings.BuilderF
import Derived.Shelf.LaysM
import Derived.Shelf.Strconv.Clone
import Derived.Shelf.Strings.Search1
import Derived.Shelf.Strings.Search2
import Derived.Shelf.Strings.Search3
import Derived.Shelf.Strings.Count
import Derived.Shelf.Strings.Shaped
import Derived.Shelf.Strings.Prefix
import Derived.Shelf.Strings.Runes
import Derived.Shelf.Strings.IndexAny
import Derived.Shelf.Strings.AsciiSet
import Derived.Shelf.Strings.IndexAnyAll
import Derived.Shelf.Bits.Mul64
import Derived.Shelf.Strings.Repeat
import Derived.Shelf.Unicode.DecodeSlow
import Derived.Test.YtgmpmolfcaihfaaGreatDoorProg
import Derived.Lib.Builder
import Derived.Lib.AppendStr
import Derived.Lib.UnsafeStr
import Derived.Laws.Externs
import Derived.Laws.BitsAllLaws
set_option linter.unusedSimpArgs false
set_option linter.unusedVariables false
set_option maxRecDepth 100000
set_option maxHeartbeats 20000000
open Array renaming getElem?_eq_getElem→pS,getElem?_eq_some_iff→fk,getElem?_set_ne→gi,getElem?_toList→fj,getElem_modify_self→zv
open BitVec renaming ofInt_natCast→sE,ofInt→r7,toNat_ofNat→tE
open Bool renaming and_eq_true→cP,eq_false_iff→so,or_eq_false_iff→oE,or_eq_true→gd
open Decidable renaming byContradiction→eE
open Go renaming Addr→pC,Calls→cJ,Exit→DP,IntKind→eC,Operand→lk,Oper→oX,Program→oR,TypeId→ff,Value→cq,World→cd,cell_of_row→qt,info_parts→pL,maxLen→cV,wpList→gE,wp_append_own→Dd,yielded→vp
open Go.Addr renaming add_lit→iS
open Go.Builtin renaming unsafeSliceData_→rm
open Go.ByteArray renaming toList_eq→oY
open Go.Ending renaming returned→bk,returned→jj
open Go.IntKind renaming i64→ar
open Go.Lib renaming hasPrefix→po,run_unsafeSliceData_row→xd,trimLeftB→jN,trimRightB→oy,trimRightS→iu
open Go.Obj renaming cells→aE
open Go.Proofs.Tryz renaming isAgg0→tM,isAgg129→sm,isAgg192→Ds,isAgg193→DA,isAgg204→DB,isAgg21→EV,isAgg3→oA,isAgg4→pk,isAgg5→qu,isAgg9→oB,prog→bh,sizeOf0→s6,sizeOf129→rL,sizeOf192→xi,sizeOf193→xj,sizeOf204→xl,sizeOf21→Do,sizeOf3→mC,sizeOf4→oe,sizeOf5→pf,sizeOf9→mL,underlying0→pD,underlying129→nF,underlying156→xF,underlying157→xT,underlying192→tA,underlying193→tB,underlying204→tD,underlying21→tU,underlying34→CH,underlying3→gg,underlying4→k9,underlying5→ld,underlying9→ij,zeroValue0→pZ,zeroValue129→oS,zeroValue156→CI,zeroValue157→CM,zeroValue193→tW,zeroValue204→ud,zeroValue21→vj,zeroValue3→kf,zeroValue4→lB,zeroValue5→mc,zeroValue9→kh
open Go.Region renaming wanted→mw
open Go.Result renaming andThen→sC
open Go.RowKit renaming Below→cj,intOf→cR
open Go.RowKit.Below renaming drew→ed,heap_setCell→ds,refl→ba
open Go.Sem renaming run_bind→tR
open Go.Shelf renaming Ren→mB
open Go.Value renaming bool→cG,int→ao,ownBlock→ev,pointer→cx,slice→an,string→al,tuple→dr
open Go.World renaming block_lt_of_cell?→lj,grownBy_alloc→mS,ownsRow_nil→ir,setCell→rh
open Go.World.ownsRow renaming alloc→rI,lt→cy
open List renaming all_cons→ri,all_eq_true→jt,append_assoc→ef,append_nil→eI,cons_append→cf,dropWhile_sublist→rS,drop_append_of_le_length→eo,drop_drop→c4,drop_eq_getElem_cons→cg,drop_left→gR,drop_length→ei,drop_of_length_le→fg,drop_take→gO,drop_zero→dd,eq_nil_of_length_eq_zero→cC,foldl_cons→oT,getElem?_eq_getElem→br,getElem?_eq_some_iff→fv,getElem?_take→j7,getElem_cons_zero→eg,getElem_mem→cH,length_append→cm,length_cons→bc,length_drop→bm,length_map→cW,length_nil→cY,length_pos_iff→ey,length_reverse→o0,length_take→c8,length→fh,mem_cons→cL,mem_map→j8,mem_of_mem_drop→dT,nil_append→cM,not_mem_nil→fW,take_append_drop→el,take_left→fl,take_succ_cons→cN,take_take→mz,take_zero→fz
open List.cons renaming injEq→fY
open Nat renaming add_assoc→kO,add_comm→eV,add_zero→eA,le_refl→cA,le_trans→dy,le_zero→pj,lt_of_lt_of_le→cT,min_eq_left→nh,mod_eq_of_lt→vl,zero_le→ck
open Option renaming map_eq_some_iff→eH,none→aq,some→aw
open Option.some renaming injEq→du
open Prod.mk renaming injEq→n9
open UInt8 renaming ofNat→ep
theorem E4.{u}{c:Prop}{h:Decidable c}(p:c){α:Sort u}{t e:α}:ite c t e=t:=if_pos p
theorem E6.{u}{c:Prop}{h:Decidable c}(p:¬c){α:Sort u}{t e:α}:ite c t e=e:=if_neg p
abbrev E7:=ByteArray
theorem Fc.{u}{α:Type u}[BEq α][LawfulBEq α]{a b:α}:(a==b)=false↔a≠b:=beq_eq_false_iff_ne
namespace Go
variable{K:Act->cd->Prop}{xs:Array lk}{ts:Array ff}{cs:Array cq}{neg:Bool}{b d s:E7}{Q:DP->Act->cd->Prop}{e:Int}{l pre:List Nat}{r:List cq}{B a base base' cap g i j k m n o off:Nat}{x y:lk}{P:oR}{p:Prop}{α:Type}{E T t:ff}{c:UInt8}{v x0 x1 x10 x2 x3 x4 x5 x6 x7 x8 x9:cq}{w w' w'' w0:cd}
theorem pq{P f a w v W Q}(h:cJ P f a w (fun e w'=>e=bk v/\w'=W))(k:Q (bk v) W):cJ P f a w Q:=h.mono (by rintro _ _ ⟨rfl,rfl⟩;exact k)
theorem pr{P f a w v W Q}(h:cJ P f a w (fun e w'=>e=bk v/\W=w'))(k:Q (bk v) W):cJ P f a w Q:=h.mono (by rintro _ _ ⟨rfl,rfl⟩;exact k)
theorem pB{P f a w v Q}{R:cd->Prop}(h:cJ P f a w (fun e w'=>e=bk v/\R w'))(k:∀w',R w'->Q (bk v) w'):cJ P f a w Q:=h.mono (by rintro _ w' ⟨rfl,h⟩;exact k _ h)
theorem cS{x y:α}(h:x=y):aw x=aw y:=congrArg aw h
end Go
namespace Go.Tab
open Go.RowKit
variable{K:Act->cd->Prop}{xs:Array lk}{ts:Array ff}{cs:Array cq}{neg:Bool}{b d s:E7}{Q:DP->Act->cd->Prop}{e:Int}{l pre:List Nat}{r:List cq}{B a base base' cap g i j k m n o off:Nat}{x y:lk}{P:oR}{p:Prop}{α:Type}{E T t:ff}{c:UInt8}{v x0 x1 x10 x2 x3 x4 x5 x6 x7 x8 x9:cq}{w w' w'' w0:cd}
theorem _root_.lz:n ≤ n:=cA n
theorem _root_.Hh(h:p):Go.RowKit.Hid p:=h
theorem _root_.Jh{q:Prop}(h:p)(k:q):Go.RowKit.Hid (p ∧ q):=⟨h,k⟩
theorem _root_.exq(a:α):∃x,x=a:=⟨a,rfl⟩
def RowOf{α:Type}(f:α->cq)(w:cd)(v:cq)(l:List α):Prop:=
 ∃a cap,v=an a l.length cap/\l.length<=cap/\cap<=cV/\(a=aq->cap=0)/\
  ∀x,a=aw x->l≠[]->x.spot=aq/\x.block<w.heap.size/\∀j (h:j<l.length),w.cell? ⟨x.block,x.off+j,aq⟩=aw (f l[j])
abbrev ny(c:UInt8):cq:=ao .u8 (c.toNat:Int)
section
variable {α:Type} {f:α->cq} {w w':cd} {v:cq} {l:List α}
theorem RowOf.nil:RowOf f w (an aq 0 0) []:=⟨aq,0,rfl,cA _,by decide,fun _=>rfl,fun x h=>by cases h⟩
theorem RowOf.len(h:RowOf f w v l):∃a cap,v=an a l.length cap/\l.length<=cap/\cap<=cV/\(a=aq->cap=0):=by
 obtain⟨a,cap,b,c,d,g,_⟩:=h;exact⟨a,cap,b,c,d,g⟩
theorem RowOf.at{a:Option pC}(h:RowOf f w (an a n cap) l)(A:j<l.length) :
  ∃b off,a=aw ⟨b,off,aq⟩/\b<w.heap.size/\∀j (h:j<l.length),w.cell? ⟨b,off+j,aq⟩=aw (f l[j]):=by
 obtain⟨u,Aa,d,v,z,g,i⟩:=h;cases d
 cases a with
 |none=>have:=g rfl;omega
 |some x=>
  obtain⟨b,off,B⟩:=x;obtain⟨rfl,k,q⟩:=i _ rfl (by intro c;subst c;simp at A);exact⟨b,off,rfl,k,q⟩
theorem RowOf.moved(h:RowOf f w v l)(B:w.heap.size<=w'.heap.size)(A:∀b off,b<w.heap.size->v.ownBlock=aw b->w'.cell? ⟨b,off,aq⟩=w.cell? ⟨b,off,aq⟩):RowOf f w' v l:=by
 obtain⟨a,Aa,rfl,g,i,o,q⟩:=h;refine⟨a,Aa,rfl,g,i,o,fun x hx hl=>?_⟩;obtain⟨r,u,z⟩:=q x hx hl;subst hx;exact⟨r,by omega,fun j hj=>by rw[A _ _ u rfl];exact z j hj⟩
theorem RowOf.below(h:RowOf f w v l)(hb:cj B w w')(hB:w.heap.size<=B):RowOf f w' v l:=
 h.moved hb.size fun b off hx _=>hb.cell (by show b<B;omega)
theorem RowOf.cells(h:RowOf f w v l){a:Option pC}(j:v=an a n cap):n=l.length/\n<=cap/\cap<=cV/\(a=aq->cap=0):=by
 obtain⟨i,Aa,b,c,d,g,_⟩:=h;rw[j] at b;cases b;exact⟨rfl,c,d,g⟩
theorem OJ(x:pC)(n:Nat):(x.add n).block=x.block:=by
 unfold pC.add;split<;>rfl
def aI(f:α->cq)(E:ff)(base:Nat)(w:cd)(v:cq)(l:List α):Prop:=w.ownsRow base E 1 v l.length (l.map f)
variable {E:ff} {base:Nat}
theorem aI.nil:aI f E base w (an aq 0 0) []:=ir _ _ _ _
theorem aI.row(h:aI f E base w v l):RowOf f w v l:=by
 have Aa:=h.lt;obtain⟨A,k⟩:=h;rcases k with ⟨rfl,d⟩|⟨g,cap,c,rfl,C,z,d,q,B,u⟩
 .have:l=[]:=cC d
  subst this;exact RowOf.nil
 .refine⟨_,cap,rfl,d,q,fun h=>by simp at h,fun x hx _=>?_⟩
  cases hx
  refine⟨rfl,(Aa g rfl).2,fun j hj=>?_⟩;rw[qt w g _ c E (0,0) z];have i:(c.toList.take (l.length*1))[0+j]?=(l.map f)[0+j]?:=by rw[u]
  rw[j7,E4 (by omega)] at i
  simpa [hj] using i
theorem aI.alloc(h:aI f E base w v l)(o:Obj):aI f E base (w.alloc o) v l:=rI h o
theorem aI.drew(h:aI f E base w v l):aI f E base w.drew v l:=h
theorem aI.drewN(h:aI f E base w v l)(n:Nat):aI f E base (w.drewN n) v l:=h
theorem aI.kept{row:Option Nat}(h:aI f E base w v l)(hg:w.grownBy w' row)(hne:v.ownBlock=aq\/v.ownBlock≠row):aI f E base w' v l:=cd.ownsRow.kept h hg hne
theorem aI.moved(h:aI f E base w v l)(u:∀k,v.ownBlock=aw k->w'.heap[k]?=w.heap[k]?):aI f E base w' v l:=by
 obtain⟨j,i⟩:=h;refine⟨j,?_⟩;rcases i with i|⟨g,cap,a,rfl,o,q,r⟩
 .exact .inl i
 .exact .inr ⟨g,cap,a,rfl,o,by rw[u g rfl];exact q,r⟩
theorem aI.below(h:aI f E base w v l)(hb:cj B w w')(hB:w.heap.size<=B):aI f E base w' v l:=
 h.moved fun k hk=>hb.block k (cT (cy h k hk).2 hB)
theorem aI.stored(h:aI f E base w (an (aw ⟨g,0,aq⟩) n cap) l)(j:Nat)(c:α):aI f E base (w.setCell ⟨g,j,aq⟩ (f c)) (an (aw ⟨g,0,aq⟩) n cap) (l.set j c):=by
 obtain rfl:=(h.row.cells rfl).1;have a:=(cd.ownsRow.stored h j (f c)).1;unfold aI;rw[List.length_set,List.map_set];exact a
theorem aI.cellAt(h:aI f E base w (an (aw ⟨g,0,aq⟩) n cap) l)(j:Nat)(b:j<l.length):w.cell? ⟨g,j,aq⟩=aw (f l[j]):=by
 obtain rfl:=(h.row.cells rfl).1;rw[cd.ownsRow.cellAt h j (by omega)];simp[b]
theorem aI.frozenAt(h:aI f E base w (an (aw ⟨g,0,aq⟩) n cap) l)(j:Nat):w.frozen? ⟨g,j,aq⟩=false:=by
 obtain rfl:=(h.row.cells rfl).1;exact cd.ownsRow.frozenAt h j
theorem aI.setOther(h:aI f E base w v l)(x:pC)(u:cq)(hne:v.ownBlock≠aw x.block):aI f E base (w.setCell x u) v l:=
 h.moved fun k hk=>ds _ _ _ _ (by intro e;subst e;exact hne hk)
theorem aI.lit(l:List α)(i:base<=w.heap.size)(j:l.length<=cV):aI f E base (w.alloc (aE (l.map f).toArray E)) (an (aw ⟨w.heap.size,0,aq⟩) l.length l.length) l:=by
 unfold aI;have h:=cd.ownsRow_lit (base:=base) (e:=E) (size:=1) w (l.map f).toArray l.length i j (by simp)
 simpa using h
theorem aI.base_le(h:aI f E base w v l)(o:base'<=base):aI f E base' w v l:=by
 obtain⟨i,d⟩:=h;refine⟨i,?_⟩;rcases d with d|⟨g,cap,c,j,k,r⟩
 .exact .inl d
 .exact .inr ⟨g,cap,c,j,by omega,r⟩
end
theorem jo{row:Option Nat}(hg:w.grownBy w' row)(hB:B<=w.heap.size)(hr:∀k,row=aw k->B<=k):cj B w w':=
 (ba B w).grown hg hB hr
structure bG(w0:cd) where
 w:cd
 below:cj w0.heap.size w0 w
instance (w0:cd):Nonempty (bG w0):=⟨⟨w0,ba _ _⟩⟩
theorem eD{id:Nat}{l:List oX}{a:Act}(w0:cd)(hm:P.follows .mixedOrders=true)(hB:Region.lexB .any l.toArray=true)(hw:cj w0.heap.size w0 w)(h:wpQuiet P l.toArray (fun w'=>∃x:bG w0,w'=x.w) (fun a'=>∀w',(∃x:bG w0,w'=x.w)->Q .normal a' w') l a):(Code.region id l.toArray true).wp P Q a w:=
 wp_region_quiet (C:=fun w'=>∃x:bG w0,w'=x.w) hm hB ⟨⟨_,hw.drew⟩,rfl⟩ (by simpa using h)
theorem bG.call{f:FuncId}{args:Array cq}(x:bG w0)(h:cJ P f args x.w fun e w'=>e=bk v/\cj x.w.heap.size x.w w'):cJ P f args x.w fun e w'=>e=bk v/\∃y:bG w0,w'=y.w:=
 h.mono fun _ w' ⟨he,hb⟩=>⟨he,⟨w',x.below.trans (hb.mono x.below.size)⟩,rfl⟩
theorem ag(h:cj B w w')(n:Nat):cj B w (w'.drewN n):=h.trans ⟨rfl,rfl,rfl,cA _,fun _ _=>rfl⟩
theorem dz(B:Nat)(w:cd)(n:Nat):cj B w (w.drewN n):=⟨rfl,rfl,rfl,cA _,fun _ _=>rfl⟩
def Stop(p:Prop):Prop:=p
theorem Stop.out(h:p):Stop p:=h
section
variable {P:oR} {ops:Array oX} {Q:DP->Act->cd->Prop} {d:Option Tmp} {ty:ff} {pos:String} {aft:Array Edge} {g:Option (Nat×Bool)} {rest:List oX} {a:Act} {w:cd}
theorem aL(h:Stop (gE P ops Q (⟨d,.call ⟨.builtin .append,xs,ts⟩,ty,pos,aft,g⟩::rest) a w)):gE P ops Q (⟨d,.call ⟨.builtin .append,xs,ts⟩,ty,pos,aft,g⟩::rest) a w:=h
theorem xZ(h:Stop (gE P ops Q (⟨d,.call ⟨.builtin .copy,xs,ts⟩,ty,pos,aft,g⟩::rest) a w)):gE P ops Q (⟨d,.call ⟨.builtin .copy,xs,ts⟩,ty,pos,aft,g⟩::rest) a w:=h
theorem l8(h:Stop (gE P ops Q (⟨d,.makeSlice t x y,ty,pos,aft,g⟩::rest) a w)):gE P ops Q (⟨d,.makeSlice t x y,ty,pos,aft,g⟩::rest) a w:=h
theorem j6{lo hi mx:Option lk}(h:Stop (gE P ops Q (⟨d,.slice t x lo hi mx,ty,pos,aft,g⟩::rest) a w)):gE P ops Q (⟨d,.slice t x lo hi mx,ty,pos,aft,g⟩::rest) a w:=h
theorem bv(h:Stop (gE P ops Q (⟨d,.store t x y,ty,pos,aft,g⟩::rest) a w)):gE P ops Q (⟨d,.store t x y,ty,pos,aft,g⟩::rest) a w:=h
end
section
variable {α:Type} {f:α->cq} {P:oR} {w:cd} {ops:Array oX} {rest:List oX} {o:oX} {a:Act} {Q:DP->Act->cd->Prop}
theorem iB(hw:mw o (vp ops a.tmps)=true)(h:∀K:Act->cd->Prop,(∀a w,gE P ops Q rest a w->K a w)->o.wp P a w K Q):gE P ops Q (o::rest) a w:=
 wpList_step fun K hK=>by rw[E4 hw];exact h K hK
theorem uL(s x:lk)(t:ff)(T:o.op=.call { callee:=.builtin .append,args:=#[s,x],argTypes:=#[t,t] })(base:Nat)(e:ff)(bytes:Nat)(z:cq)(V:P.underlying t=aw (.slice e))(hi:(P.info? e).map (fun i=>(i.zero,i.size,i.bytes))=aw (aw z,1,bytes))(J:z.cells.size=1)(hf:∀x,(f x).oneCell'=true)(l W:List α)(q:aI f e base w (a.eval s) l)(U:RowOf f w (a.eval x) W)(Z:l.length+W.length<=cV)(F:(l.length+W.length)*bytes<=140737488355328)(A:base<=w.heap.size)(w0:cd)(S:cj base w0 w)(R:∀v' w',aI f e base w' v' (l++W)->cj base w0 w'->w.grownBy w' (a.eval s).ownBlock->K (a.put o.dst v') w'):o.wp P a w K Q:=by
 obtain⟨i,Aa,Ad,Ae,Af⟩:=pL hi;obtain⟨M,Ac,H,h2,h3,O,X⟩:=U
 by_cases C:W=[]
 .subst C
  cases M with
  |none=>
   have G:=O rfl;subst G;have Ab:=run_append_owned_none (P:=P) (w:=w) base t o.type e i 1 V Aa (a.eval s) l.length (l.map f) q;unfold oX.wp;simp[execOp,T,resolve,invoke,builtin,H,Ab,sC]
   exact R _ _ (by simpa using q) S ⟨rfl,rfl,rfl,cA _,fun _ _ _=>rfl⟩
  |some ad=>
   refine Dd w s x t T base e i z 1 bytes V Aa Ad Ae Af J (by decide) (a.eval s) l.length (l.map f) rfl q ad 0 Ac [] (by simpa using H) (by simp) (by simp) (by simp) Z F A ?_;intro v' w' B D _;exact R v' w' (by unfold aI;simpa using B) (S.trans (jo D A (fun k hk=>(cy q k hk).1))) D
 cases M with
 |none=>
  have G:=O rfl;subst G;exact absurd (cC (by omega)) C
 |some ad=>
  obtain⟨b,Ag,sp⟩:=ad;obtain⟨N,g2,g3⟩:=X _ rfl C;simp only at N g2 g3;subst N;refine Dd w s x t T base e i z 1 bytes V Aa Ad Ae Af J (by decide) (a.eval s) l.length (l.map f) rfl q ⟨b,Ag,aq⟩ W.length Ac (W.map f) H (by simp) ?_ ?_ Z F A ?_
  .intro j u E
   rw[iS];simp only[List.getElem?_map,eH] at E;obtain⟨y,hy,rfl⟩:=E;obtain⟨Y,rfl⟩:=fv.1 hy;exact g3 j Y
  .intro u E
   obtain⟨y,_,rfl⟩:=j8.1 E;exact hf y
  .intro v' w' B D _
   exact R v' w' (by unfold aI;simpa using B) (S.trans (jo D A (fun k hk=>(cy q k hk).1))) D
theorem fA(hgd:mw o (vp ops a.tmps)=true)(s x:lk)(t:ff)(ho:o.op=.call { callee:=.builtin .append,args:=#[s,x],argTypes:=#[t,t] })(base:Nat)(e:ff)(bytes:Nat)(z:cq)(ht:P.underlying t=aw (.slice e))(hi:(P.info? e).map (fun i=>(i.zero,i.size,i.bytes))=aw (aw z,1,bytes))(hzs:z.cells.size=1)(hf:∀x,(f x).oneCell'=true)(l l2:List α)(hown:aI f e base w (a.eval s) l)(hrow:RowOf f w (a.eval x) l2)(hm:l.length+l2.length<=cV)(hby:(l.length+l2.length)*bytes<=140737488355328)(hbase:base<=w.heap.size)(w0:cd)(hb:cj base w0 w)(hK:∀v' w',aI f e base w' v' (l++l2)->cj base w0 w'->w.grownBy w' (a.eval s).ownBlock->gE P ops Q rest (a.put o.dst v') w'):gE P ops Q (o::rest) a w:=
 iB hgd fun _ hK'=>uL s x t ho base e bytes z ht hi hzs hf l l2 hown hrow hm hby hbase w0 hb fun v' w' h1 h2 h3=>hK' _ _ (hK v' w' h1 h2 h3)
theorem zl{Z:Prop}(u:mw o (vp ops a.tmps)=true)(s x:lk)(t:ff)(E:o.op=.call { callee:=.builtin .append,args:=#[s,x],argTypes:=#[t,t] })(base:Nat)(e:ff)(bytes:Nat)(z:cq)(F:P.underlying t=aw (.slice e))(hi:(P.info? e).map (fun i=>(i.zero,i.size,i.bytes))=aw (aw z,1,bytes))(v:z.cells.size=1)(C:∀x,(f x).oneCell'=true)(l G:List α)(j:aI f e base w (a.eval s) l)(q:RowOf f w (a.eval x) G)(D:l.length+G.length<=cV)(r:(l.length+G.length)*bytes<=140737488355328)(c:base<=w.heap.size)(H:cd)(B:cj base H w)(A:∀v' w',aI f e base w' v' (l++G)->cj base H w'->w.grownBy w' (a.eval s).ownBlock->K (a.put o.dst v') w'):if mw o (vp ops a.tmps)=true then o.wp P a w K Q else Z:=by
 rw[E4 u];exact uL s x t E base e bytes z F hi v C l G j q D r c H B A
theorem Aw{e:ff}(h:(P.info? e).map (fun i=>i.size)=aw 1)(w:cd):(sizeOf e).run P w=.ok 1 w:=by
 obtain⟨i,hi,a⟩:=eH.1 h;simp[sizeOf,typeInfo,hi,a]
theorem yj(w:cd)(g:Nat)(t x:ff)(b cs:Array cq)(u:w.heap[g]?=aw (aE b t (0,0)))(A:b.size=cs.size)(hi:(P.info? x).map (·.size)=aw cs.size)(l:∀v∈cs.toList,v.oneCell'=true) :
  (storeVar x ⟨g,0,aq⟩ (.agg cs)).run P w=.ok () (w.setRow g cs):=by
 have Aa:=run_storeCells_at P g 0 t cs.toList 0 b w u (by simp;omega) l
 cases hq:P.info? x with
 |none=>simp[hq] at hi
 |some i=>
  have c:i.size=cs.size:=by simpa [hq] using hi
  have e:(b.toList.take (0+0)++cs.toList++b.toList.drop (0+0+cs.toList.length)).toArray=cs:=by
   rw[fg (by simp;omega)];simp
  rw[e] at Aa;simp[storeVar,cq.cells,tR,sizeOf,typeInfo,hq,c,Aa]
theorem az(f:mw o (vp ops a.tmps)=true)(F:ff)(x v:lk)(C:o.op=.store F x v)(b:o.dst=aq)(g:Nat)(E:a.eval x=cx (aw ⟨g,0,aq⟩))(cs:Array cq)(D:a.eval v=.agg cs)(t:ff)(c:Array cq)(A:w.heap[g]?=aw (aE c t (0,0)))(h:c.size=cs.size)(hi:(P.info? F).map (·.size)=aw cs.size)(q:∀v∈cs.toList,v.oneCell'=true)(u:gE P ops Q rest a (w.setRow g cs)):gE P ops Q (o::rest) a w:=by
 refine iB f fun K hK'=>?_;have Aa:=yj (P:=P) w g t F c cs A h hi q;unfold oX.wp execOp;simp only[C,E,D,Instr.storeAt,Instr.sureAddr,tR,Sem.run_pure,Result.andThen_ok,Aa,oX.upon_skip,b];exact hK' _ _ u
theorem gZ(w:cd)(t e:ff)(n:Nat)(cs:Array cq)(k:eC)(i:Int)(j:Nat)(v:cq)(z:P.underlying t=aw (.array n e))(q:(P.info? e).map (fun i=>i.size)=aw 1)(c:(match P.underlying e with|some (.struct _)=>false|some (.array _ _)=>false|none=>false|_=>true)=true)(hi:i=j)(B:j<n)(A:cs[j]?=aw v) :
  (Instr.index t (.agg cs) (ao k i)).run P w=.ok v w:=by
 subst hi
 have b:(isAgg e).run P w=.ok false w:=by
  unfold isAgg
  cases hu:P.underlying e with
  |none=>simp[hu] at c
  |some d=>
   rw[tR,run_underlying hu w];cases d<;>simp_all
 simp[Instr.index,asIntOf,run_underlying z,Aw q,part,b,tR,A]
 intro h;omega
end
end Go.Tab
namespace Go.Proofs.YtgmpmolfcaihfaaGreatDoor
open Go.RowKit Go.Tab
variable{K:Act->cd->Prop}{xs:Array lk}{ts:Array ff}{cs:Array cq}{neg:Bool}{b d s:E7}{Q:DP->Act->cd->Prop}{e:Int}{l pre:List Nat}{r:List cq}{B a base base' cap g i j k m n o off:Nat}{x y:lk}{P:oR}{p:Prop}{α:Type}{E T t:ff}{c:UInt8}{v x0 x1 x10 x2 x3 x4 x5 x6 x7 x8 x9:cq}{w w' w'' w0:cd}
def bs(s:E7):List Nat:=s.data.toList.map UInt8.toNat
theorem ay(s:E7):(bs s).length=s.size:=by
 unfold bs;rw[cW,Array.length_toList];rfl
theorem gJ:∀x∈bs s,x<256:=by
 intro x a;obtain⟨c,_,rfl⟩:=j8.1 a;exact c.toNat_lt
theorem Cq(h:i<s.size):(s[i]'h).toNat=(bs s)[i]'(by rw[ay];exact h):=by
 simp[bs];rfl
theorem Eo(h:(bs s).drop i=l)(b:j<l.length):∃h':i+j<s.size,(s[i+j]'h').toNat=l[j]:=by
 subst h;simp[ay] at b
 refine⟨by omega,?_⟩;rw[Cq];simp
theorem KJ(b:d.size=0):d=⟨#[]⟩:=by
 cases d with
 |mk a=>exact congrArg ByteArray.mk (Array.eq_empty_of_size_eq_zero b)
theorem vM(b:¬d.size=0):d.toList.isEmpty=false:=by
 rw[oY,List.isEmpty_eq_false_iff];intro h;exact b (by have:=congrArg fh h;simpa using this)
def au(l:List UInt8):E7:=⟨l.toArray⟩
theorem aV(l:List UInt8):(au l).data.toList=l:=rfl
theorem zF(s:E7):s=au s.data.toList:=by cases s;rfl
theorem jA{a:E7}(h:a.data.toList=b.data.toList):a=b:=by rw[zF a,zF b,h]
theorem ak(s:E7):s.size=s.data.toList.length:=by cases s;rfl
theorem bi(l:List UInt8):(au l).size=l.length:=by rw[ak];rfl
theorem jW(h:i<s.size):s[i]'h=s.data.toList[i]'(by rw[<-ak];exact h):=rfl
theorem fU(s:E7)(a b:Nat):(s.extract a b).data.toList=(s.data.toList.take b).drop a:=by
 rw[ByteArray.data_extract,Array.toList_extract,List.extract_eq_take_drop,gO]
theorem Cw(s t:E7):(s++t).data.toList=s.data.toList++t.data.toList:=by rw[ByteArray.data_append,Array.toList_append]
theorem jT{a b:Bool}(h:a=b):jj (cG a)=bk (cG b):=by rw[h]
theorem fC{k:eC}{a b:Int}(h:a=b):jj (ao k a)=bk (ao k b):=by rw[h]
def aa(w:cd)(g:Nat)(cs:Array cq)(t:ff):Prop:=w.heap[g]?=aw (aE cs t (0,0))
section
variable {w w':cd} {g:Nat} {cs:Array cq} {t:ff}
theorem aa.lt(h:aa w g cs t):g<w.heap.size:=(fk.1 h).1
theorem aa.cell(h:aa w g cs t)(j:Nat)(v:cq)(b:cs[j]?=aw v):w.cell? ⟨g,j,aq⟩=aw v:=by
 rw[qt w g _ cs t (0,0) h];exact b
theorem aa.frozen(h:aa w g cs t)(j:Nat):w.frozen? ⟨g,j,aq⟩=false:=by simp[cd.frozen?,show w.heap[g]?=_ from h]
theorem aa.m11(h:aa w g cs t)(e:cs.toList=x0::x1::x2::x3::x4::x5::x6::x7::x8::x9::x10::r):w.cell? ⟨g,0,aq⟩=aw x0 ∧ w.cell? ⟨g,1,aq⟩=aw x1 ∧ w.cell? ⟨g,2,aq⟩=aw x2 ∧ w.cell? ⟨g,3,aq⟩=aw x3 ∧ w.cell? ⟨g,4,aq⟩=aw x4 ∧ w.cell? ⟨g,5,aq⟩=aw x5 ∧ w.cell? ⟨g,6,aq⟩=aw x6 ∧ w.cell? ⟨g,7,aq⟩=aw x7 ∧ w.cell? ⟨g,8,aq⟩=aw x8 ∧ w.cell? ⟨g,9,aq⟩=aw x9 ∧ w.cell? ⟨g,10,aq⟩=aw x10:=
 have q:∀(j:Nat) (v:cq),(x0::x1::x2::x3::x4::x5::x6::x7::x8::x9::x10::r)[j]?=aw v->cs[j]?=aw v:=fun j v hj=>by rw[<-fj,e];exact hj
 ⟨h.cell 0 _ (q 0 _ rfl),h.cell 1 _ (q 1 _ rfl),h.cell 2 _ (q 2 _ rfl),h.cell 3 _ (q 3 _ rfl),h.cell 4 _ (q 4 _ rfl),h.cell 5 _ (q 5 _ rfl),h.cell 6 _ (q 6 _ rfl),h.cell 7 _ (q 7 _ rfl),h.cell 8 _ (q 8 _ rfl),h.cell 9 _ (q 9 _ rfl),h.cell 10 _ (q 10 _ rfl)⟩
theorem aa.m2(h:aa w g cs t)(e:cs.toList=x0::x1::r):w.cell? ⟨g,0,aq⟩=aw x0 ∧ w.cell? ⟨g,1,aq⟩=aw x1:=
 have q:∀(j:Nat) (v:cq),(x0::x1::r)[j]?=aw v->cs[j]?=aw v:=fun j v hj=>by rw[<-fj,e];exact hj
 ⟨h.cell 0 _ (q 0 _ rfl),h.cell 1 _ (q 1 _ rfl)⟩
theorem aa.m3(h:aa w g cs t)(e:cs.toList=x0::x1::x2::r):w.cell? ⟨g,0,aq⟩=aw x0 ∧ w.cell? ⟨g,1,aq⟩=aw x1 ∧ w.cell? ⟨g,2,aq⟩=aw x2:=
 have q:∀(j:Nat) (v:cq),(x0::x1::x2::r)[j]?=aw v->cs[j]?=aw v:=fun j v hj=>by rw[<-fj,e];exact hj
 ⟨h.cell 0 _ (q 0 _ rfl),h.cell 1 _ (q 1 _ rfl),h.cell 2 _ (q 2 _ rfl)⟩
theorem aa.m5(h:aa w g cs t)(e:cs.toList=x0::x1::x2::x3::x4::r):w.cell? ⟨g,0,aq⟩=aw x0 ∧ w.cell? ⟨g,1,aq⟩=aw x1 ∧ w.cell? ⟨g,2,aq⟩=aw x2 ∧ w.cell? ⟨g,3,aq⟩=aw x3 ∧ w.cell? ⟨g,4,aq⟩=aw x4:=
 have q:∀(j:Nat) (v:cq),(x0::x1::x2::x3::x4::r)[j]?=aw v->cs[j]?=aw v:=fun j v hj=>by rw[<-fj,e];exact hj
 ⟨h.cell 0 _ (q 0 _ rfl),h.cell 1 _ (q 1 _ rfl),h.cell 2 _ (q 2 _ rfl),h.cell 3 _ (q 3 _ rfl),h.cell 4 _ (q 4 _ rfl)⟩
theorem aa.m7(h:aa w g cs t)(e:cs.toList=x0::x1::x2::x3::x4::x5::x6::r):w.cell? ⟨g,0,aq⟩=aw x0 ∧ w.cell? ⟨g,1,aq⟩=aw x1 ∧ w.cell? ⟨g,2,aq⟩=aw x2 ∧ w.cell? ⟨g,3,aq⟩=aw x3 ∧ w.cell? ⟨g,4,aq⟩=aw x4 ∧ w.cell? ⟨g,5,aq⟩=aw x5 ∧ w.cell? ⟨g,6,aq⟩=aw x6:=
 have q:∀(j:Nat) (v:cq),(x0::x1::x2::x3::x4::x5::x6::r)[j]?=aw v->cs[j]?=aw v:=fun j v hj=>by rw[<-fj,e];exact hj
 ⟨h.cell 0 _ (q 0 _ rfl),h.cell 1 _ (q 1 _ rfl),h.cell 2 _ (q 2 _ rfl),h.cell 3 _ (q 3 _ rfl),h.cell 4 _ (q 4 _ rfl),h.cell 5 _ (q 5 _ rfl),h.cell 6 _ (q 6 _ rfl)⟩
theorem aa.m8(h:aa w g cs t)(e:cs.toList=x0::x1::x2::x3::x4::x5::x6::x7::r):w.cell? ⟨g,0,aq⟩=aw x0 ∧ w.cell? ⟨g,1,aq⟩=aw x1 ∧ w.cell? ⟨g,2,aq⟩=aw x2 ∧ w.cell? ⟨g,3,aq⟩=aw x3 ∧ w.cell? ⟨g,4,aq⟩=aw x4 ∧ w.cell? ⟨g,5,aq⟩=aw x5 ∧ w.cell? ⟨g,6,aq⟩=aw x6 ∧ w.cell? ⟨g,7,aq⟩=aw x7:=
 have q:∀(j:Nat) (v:cq),(x0::x1::x2::x3::x4::x5::x6::x7::r)[j]?=aw v->cs[j]?=aw v:=fun j v hj=>by rw[<-fj,e];exact hj
 ⟨h.cell 0 _ (q 0 _ rfl),h.cell 1 _ (q 1 _ rfl),h.cell 2 _ (q 2 _ rfl),h.cell 3 _ (q 3 _ rfl),h.cell 4 _ (q 4 _ rfl),h.cell 5 _ (q 5 _ rfl),h.cell 6 _ (q 6 _ rfl),h.cell 7 _ (q 7 _ rfl)⟩
theorem aa.n1(h:aa w g cs t)(e:cs.toList=x0::r):w.cell? ⟨g,0,aq⟩=aw x0 ∧ w.frozen? ⟨g,0,aq⟩=false:=
 have q:∀(j:Nat) (v:cq),(x0::r)[j]?=aw v->cs[j]?=aw v:=fun j v hj=>by rw[<-fj,e];exact hj
 ⟨h.cell 0 _ (q 0 _ rfl),h.frozen 0⟩
theorem aa.n11(h:aa w g cs t)(e:cs.toList=x0::x1::x2::x3::x4::x5::x6::x7::x8::x9::x10::r):w.cell? ⟨g,0,aq⟩=aw x0 ∧ w.frozen? ⟨g,0,aq⟩=false ∧ w.cell? ⟨g,1,aq⟩=aw x1 ∧ w.frozen? ⟨g,1,aq⟩=false ∧ w.cell? ⟨g,2,aq⟩=aw x2 ∧ w.frozen? ⟨g,2,aq⟩=false ∧ w.cell? ⟨g,3,aq⟩=aw x3 ∧ w.frozen? ⟨g,3,aq⟩=false ∧ w.cell? ⟨g,4,aq⟩=aw x4 ∧ w.frozen? ⟨g,4,aq⟩=false ∧ w.cell? ⟨g,5,aq⟩=aw x5 ∧ w.frozen? ⟨g,5,aq⟩=false ∧ w.cell? ⟨g,6,aq⟩=aw x6 ∧ w.frozen? ⟨g,6,aq⟩=false ∧ w.cell? ⟨g,7,aq⟩=aw x7 ∧ w.frozen? ⟨g,7,aq⟩=false ∧ w.cell? ⟨g,8,aq⟩=aw x8 ∧ w.frozen? ⟨g,8,aq⟩=false ∧ w.cell? ⟨g,9,aq⟩=aw x9 ∧ w.frozen? ⟨g,9,aq⟩=false ∧ w.cell? ⟨g,10,aq⟩=aw x10 ∧ w.frozen? ⟨g,10,aq⟩=false:=
 have q:∀(j:Nat) (v:cq),(x0::x1::x2::x3::x4::x5::x6::x7::x8::x9::x10::r)[j]?=aw v->cs[j]?=aw v:=fun j v hj=>by rw[<-fj,e];exact hj
 ⟨h.cell 0 _ (q 0 _ rfl),h.frozen 0,h.cell 1 _ (q 1 _ rfl),h.frozen 1,h.cell 2 _ (q 2 _ rfl),h.frozen 2,h.cell 3 _ (q 3 _ rfl),h.frozen 3,h.cell 4 _ (q 4 _ rfl),h.frozen 4,h.cell 5 _ (q 5 _ rfl),h.frozen 5,h.cell 6 _ (q 6 _ rfl),h.frozen 6,h.cell 7 _ (q 7 _ rfl),h.frozen 7,h.cell 8 _ (q 8 _ rfl),h.frozen 8,h.cell 9 _ (q 9 _ rfl),h.frozen 9,h.cell 10 _ (q 10 _ rfl),h.frozen 10⟩
theorem aa.n2(h:aa w g cs t)(e:cs.toList=x0::x1::r):w.cell? ⟨g,0,aq⟩=aw x0 ∧ w.frozen? ⟨g,0,aq⟩=false ∧ w.cell? ⟨g,1,aq⟩=aw x1 ∧ w.frozen? ⟨g,1,aq⟩=false:=
 have q:∀(j:Nat) (v:cq),(x0::x1::r)[j]?=aw v->cs[j]?=aw v:=fun j v hj=>by rw[<-fj,e];exact hj
 ⟨h.cell 0 _ (q 0 _ rfl),h.frozen 0,h.cell 1 _ (q 1 _ rfl),h.frozen 1⟩
theorem aa.n3(h:aa w g cs t)(e:cs.toList=x0::x1::x2::r):w.cell? ⟨g,0,aq⟩=aw x0 ∧ w.frozen? ⟨g,0,aq⟩=false ∧ w.cell? ⟨g,1,aq⟩=aw x1 ∧ w.frozen? ⟨g,1,aq⟩=false ∧ w.cell? ⟨g,2,aq⟩=aw x2 ∧ w.frozen? ⟨g,2,aq⟩=false:=
 have q:∀(j:Nat) (v:cq),(x0::x1::x2::r)[j]?=aw v->cs[j]?=aw v:=fun j v hj=>by rw[<-fj,e];exact hj
 ⟨h.cell 0 _ (q 0 _ rfl),h.frozen 0,h.cell 1 _ (q 1 _ rfl),h.frozen 1,h.cell 2 _ (q 2 _ rfl),h.frozen 2⟩
theorem aa.n4(h:aa w g cs t)(e:cs.toList=x0::x1::x2::x3::r):w.cell? ⟨g,0,aq⟩=aw x0 ∧ w.frozen? ⟨g,0,aq⟩=false ∧ w.cell? ⟨g,1,aq⟩=aw x1 ∧ w.frozen? ⟨g,1,aq⟩=false ∧ w.cell? ⟨g,2,aq⟩=aw x2 ∧ w.frozen? ⟨g,2,aq⟩=false ∧ w.cell? ⟨g,3,aq⟩=aw x3 ∧ w.frozen? ⟨g,3,aq⟩=false:=
 have q:∀(j:Nat) (v:cq),(x0::x1::x2::x3::r)[j]?=aw v->cs[j]?=aw v:=fun j v hj=>by rw[<-fj,e];exact hj
 ⟨h.cell 0 _ (q 0 _ rfl),h.frozen 0,h.cell 1 _ (q 1 _ rfl),h.frozen 1,h.cell 2 _ (q 2 _ rfl),h.frozen 2,h.cell 3 _ (q 3 _ rfl),h.frozen 3⟩
theorem aa.n5(h:aa w g cs t)(e:cs.toList=x0::x1::x2::x3::x4::r):w.cell? ⟨g,0,aq⟩=aw x0 ∧ w.frozen? ⟨g,0,aq⟩=false ∧ w.cell? ⟨g,1,aq⟩=aw x1 ∧ w.frozen? ⟨g,1,aq⟩=false ∧ w.cell? ⟨g,2,aq⟩=aw x2 ∧ w.frozen? ⟨g,2,aq⟩=false ∧ w.cell? ⟨g,3,aq⟩=aw x3 ∧ w.frozen? ⟨g,3,aq⟩=false ∧ w.cell? ⟨g,4,aq⟩=aw x4 ∧ w.frozen? ⟨g,4,aq⟩=false:=
 have q:∀(j:Nat) (v:cq),(x0::x1::x2::x3::x4::r)[j]?=aw v->cs[j]?=aw v:=fun j v hj=>by rw[<-fj,e];exact hj
 ⟨h.cell 0 _ (q 0 _ rfl),h.frozen 0,h.cell 1 _ (q 1 _ rfl),h.frozen 1,h.cell 2 _ (q 2 _ rfl),h.frozen 2,h.cell 3 _ (q 3 _ rfl),h.frozen 3,h.cell 4 _ (q 4 _ rfl),h.frozen 4⟩
theorem aa.n7(h:aa w g cs t)(e:cs.toList=x0::x1::x2::x3::x4::x5::x6::r):w.cell? ⟨g,0,aq⟩=aw x0 ∧ w.frozen? ⟨g,0,aq⟩=false ∧ w.cell? ⟨g,1,aq⟩=aw x1 ∧ w.frozen? ⟨g,1,aq⟩=false ∧ w.cell? ⟨g,2,aq⟩=aw x2 ∧ w.frozen? ⟨g,2,aq⟩=false ∧ w.cell? ⟨g,3,aq⟩=aw x3 ∧ w.frozen? ⟨g,3,aq⟩=false ∧ w.cell? ⟨g,4,aq⟩=aw x4 ∧ w.frozen? ⟨g,4,aq⟩=false ∧ w.cell? ⟨g,5,aq⟩=aw x5 ∧ w.frozen? ⟨g,5,aq⟩=false ∧ w.cell? ⟨g,6,aq⟩=aw x6 ∧ w.frozen? ⟨g,6,aq⟩=false:=
 have q:∀(j:Nat) (v:cq),(x0::x1::x2::x3::x4::x5::x6::r)[j]?=aw v->cs[j]?=aw v:=fun j v hj=>by rw[<-fj,e];exact hj
 ⟨h.cell 0 _ (q 0 _ rfl),h.frozen 0,h.cell 1 _ (q 1 _ rfl),h.frozen 1,h.cell 2 _ (q 2 _ rfl),h.frozen 2,h.cell 3 _ (q 3 _ rfl),h.frozen 3,h.cell 4 _ (q 4 _ rfl),h.frozen 4,h.cell 5 _ (q 5 _ rfl),h.frozen 5,h.cell 6 _ (q 6 _ rfl),h.frozen 6⟩
theorem aa.kept{row:Option Nat}(h:aa w g cs t)(hg:w.grownBy w' row)(hne:aw g≠row):aa w' g cs t:=(hg.block g h.lt hne).trans h
theorem aa.below(h:aa w g cs t)(hb:cj B w w')(hB:g<B):aa w' g cs t:=(hb.block g hB).trans h
theorem aa.alloc(h:aa w g cs t)(o:Obj):aa (w.alloc o) g cs t:=h.kept (mS w o aq) (by simp)
theorem aa.drew(h:aa w g cs t):aa w.drew g cs t:=h
theorem aa.drewN(h:aa w g cs t)(n:Nat):aa (w.drewN n) g cs t:=h
theorem aa.set(h:aa w g cs t)(j:Nat)(c:j<cs.size)(v:cq):aa (w.setCell ⟨g,j,aq⟩ v) g (cs.set j v c) t:=by
 obtain⟨Aa,b⟩:=fk.1 h;show (w.heap.modify g _)[g]?=_;rw[pS (by rw[Array.size_modify];exact Aa),zv,b];simp[Array.setIfInBounds,c]
theorem aa.new(w:cd)(cs:Array cq)(t:ff):aa (w.alloc (aE cs t)) w.heap.size cs t:=by
 show (w.heap.push _)[w.heap.size]?=_;simp
theorem aa.shape(h:aa w g cs t):w.shape? g=aw (t,cs.size):=by simp[cd.shape?,show w.heap[g]?=_ from h]
theorem aa.setOther(h:aa w g cs t)(x:pC)(u:cq)(hne:x.block≠g):aa (w.setCell x u) g cs t:=
 (ds _ _ _ _ (fun e=>hne e.symm)).trans h
end
theorem Db(W:cd)(b j:Nat)(v:cq):W.grownBy (W.setCell ⟨b,j,aq⟩ v) (aw b):=
 ⟨rfl,rfl,rfl,by simp[rh],fun k _ hk=>ds _ _ _ k (fun e=>hk (by rw[e]))⟩
theorem _root_.Go.Tab.RowOf.shape{f:α->cq}{l:List α}(h:RowOf f w v l):∃a n cap,v=an a n cap/\n=l.length:=by
 obtain⟨a,cap,c,_⟩:=h;exact⟨a,_,cap,c,rfl⟩
theorem nY{f:α->cq}{l:List α}(h:aI f E base w v l)(z:aa w g cs t)(A:t≠E):v.ownBlock≠aw g:=by
 rcases h.2 with ⟨rfl,_⟩|⟨b,cap,u,rfl,_,x,_⟩
 .simp[ev]
 .intro i
  simp only[ev,du] at i;subst i;have Aa:w.heap[b]?=aw (aE cs t (0,0)):=z;rw[x] at Aa;simp only[du,Obj.cells.injEq] at Aa;exact A Aa.2.1.symm
def bQ(E:ff)(g:Nat)(w w':cd):Prop:=
 w.heap.size<=w'.heap.size/\∀k o,k≠g->w.heap[k]?=aw o->(∀cs fr,o≠aE cs E fr)->w'.heap[k]?=aw o
theorem bQ.refl:bQ E g w w:=⟨cA _,fun _ _ _ h _=>h⟩
theorem bQ.trans(h:bQ E g w w')(h2:bQ E g w' w''):bQ E g w w'':=
 ⟨dy h.1 h2.1,fun k o hk ho hn=>h2.2 k o hk (h.2 k o hk ho hn) hn⟩
theorem bQ.alloc(h:bQ E g w w')(o:Obj):bQ E g w (w'.alloc o):=
 h.trans ⟨by simp,fun k o' _ ho _=>((mS w' o aq).block k (fk.1 ho).1 (by simp)).trans ho⟩
theorem bQ.setCell(h:bQ E g w w')(j:Nat)(v:cq):bQ E g w (w'.setCell ⟨g,j,aq⟩ v):=
 h.trans ⟨by simp[rh],fun k o' hk ho _=>by rw[ds _ _ _ _ hk];exact ho⟩
theorem bQ.grown{row:Option Nat}(h:bQ E g w w')(hg:w'.grownBy w'' row)(hr:∀k,row=aw k->k=g\/∃cs fr,w'.heap[k]?=aw (aE cs E fr)):bQ E g w w'':=
 h.trans ⟨hg.size,fun k o hk ho hn=>by
  refine (hg.block k (fk.1 ho).1 ?_).trans ho;intro e;rcases hr k e.symm with rfl|⟨cs,fr,hc⟩
  .exact hk rfl
  .rw[ho] at hc;cases hc;exact hn _ _ rfl⟩
theorem bQ.cells(h:bQ E g w w')(hc:aa w k cs t)(hk:k≠g)(ht:t≠E):aa w' k cs t:=
 h.2 k _ hk hc (fun cs' fr e=>by cases e;exact ht rfl)
theorem vK{f:α->cq}{l:List α}(h:aI f E base w v l):∀k,v.ownBlock=aw k->∃cs fr,w.heap[k]?=aw (aE cs E fr):=by
 intro k a;rcases h.2 with ⟨rfl,_⟩|⟨b,cap,c,rfl,_,i,_⟩
 .simp[ev] at a
 .simp only[ev,du] at a
  subst a;exact⟨_,_,i⟩
def Mo(c:Nat):Bool:=decide (48<=c/\c<=57)
def rC(neg:Bool)(d:E7)(e:Int):Bool:=
 if d.size=0 then !neg&&decide (e=0) else
 if 1000<d.size\/e < -10000\/10000<e then false else
 (bs d).all Mo&&(decide ((bs d)[0]?≠aw 48)&&decide ((bs d)[d.size-1]?≠aw 48))
theorem Bq(h:d.size=0):rC neg d e=(!neg&&decide (e=0)):=by rw[rC,E4 h]
theorem vL(h:d.size≠0)(a:1000<d.size\/e < -10000\/10000<e):rC neg d e=false:=by rw[rC,E6 h,E4 a]
theorem Ib(h:k<d.size)(n:¬(48<=(d[k]'h).toNat/\(d[k]'h).toNat<=57)):rC neg d e=false:=by
 have c:(bs d)[k]'(by rw[ay];exact h)∈bs d:=cH _;rw[<-Cq h] at c
 have i:(bs d).all Mo=false:=by
  rw[so];intro j;have:=jt.1 j _ c;simp only[Mo,decide_eq_true_eq] at this;exact n this
 rw[rC,E6 (by omega),i];simp
theorem Ia(b:0<d.size)(i:¬(1000<d.size\/e < -10000\/10000<e))(h:∀k (hk:k<d.size),48<=(d[k]'hk).toNat/\(d[k]'hk).toNat<=57) :
  rC neg d e=(decide ((d[0]'b).toNat≠48)&&decide ((d[d.size-1]'(by omega)).toNat≠48)):=by
 have c:(bs d).all Mo=true:=by
  rw[jt];intro x f;obtain⟨k,hk,rfl⟩:=List.getElem_of_mem f;rw[ay] at hk;rw[<-Cq hk]
  simpa [Mo] using h k hk
 rw[rC,E6 (by omega),E6 i,c,Bool.true_and,br (by rw[ay];exact b),br (by rw[ay];omega),<-Cq b,<-Cq (by omega)];simp
theorem E9(neg:Bool)(d:E7)(e:Int)(w:cd)(S:d.size<=1048576) :
  cJ bh 167 #[.agg #[cG neg,al d,ao ar e]] w fun r w'=>r=bk (cG (rC neg d e))/\cj w.heap.size w w':=by
 have Am:=aa.new w #[cG neg,al d,ao ar e] 136;have Ab:cj w.heap.size w (w.alloc (aE #[cG neg,al d,ao ar e] 136)):=(ba _ w).alloc lz _
 by_cases G:d.size=0
 .have v:=Hh (Bq (neg:=neg) (e:=e) G)
  cases neg
  all_goals
   go_in;go_wp2;go_ret;refine⟨?_,Ab⟩;rw[v.out];first|rfl|(congr 2;by_cases M:e=0<;>simp[M])
 .by_cases x:1000<d.size\/e < -10000\/10000<e
  .have v:=Hh (vL (neg:=neg) G x)
   have Al:1000<d.size\/(d.size<=1000/\e < -10000)\/(d.size<=1000/\-10000<=e/\10000<e):=by omega
   clear x;have q0:((d.size:Int)==0)=false:=by rw[Fc];omega
   have P:decide ((1000:Int)<(d.size:Int))=decide (1000<d.size):=by congr 1;apply propext;omega
   have Q:decide (e < -10000)=decide (e < -10000):=rfl;rcases Al with x|⟨x,H⟩|⟨x,H,N⟩
   all_goals
    go_in;go_wp2;go_ret;refine⟨?_,Ab⟩;rw[v.out];try rfl
  .have K:=Hh x
   have H:d.size<=1000/\-10000<=e/\e<=10000:=by omega
   clear x;have E:0<d.size:=by omega
   go_in;go_wp2;go_loop [31] (fun i=>∃k:Nat,k<=d.size/\i=ao ar (k:Int)/\∀j (hj:j<d.size),j<k->48<=(d[j]'hj).toNat/\(d[j]'hj).toNat<=57) (fun i=>d.size-(cR i).toNat)
   .exact⟨0,ck _,rfl,fun j _ h=>by omega⟩
   obtain⟨k,O,rfl,Aa⟩:=hrel;have B:=Hh Aa;clear Aa;obtain⟨Ad,Ag,Ae,Ah,Af,Ai⟩:=Am.n3 rfl
   by_cases o:k<d.size
   .by_cases u:48<=(d[k]'o).toNat/\(d[k]'o).toNat<=57
    .have Ak:Hid (∀j (hj:j<d.size),j<k+1->48<=(d[j]'hj).toNat/\(d[j]'hj).toNat<=57):=Hh (fun j hj h=>by
      by_cases D:j=k
      .subst D;exact u
      .exact B.out j hj (by omega))
     clear B;go_wp2;go_round
     .exact⟨k+1,by omega,by go_num,Ak.out⟩
     simp[cR];omega
    .have v:=Hh (Ib (neg:=neg) (e:=e) o u)
     have Ac:(d[k]'o).toNat<48\/(48<=(d[k]'o).toNat/\57<(d[k]'o).toNat):=by omega
     clear u;rcases Ac with u|u
     all_goals
      go_wp2;go_ret;refine⟨?_,Ab⟩;rw[v.out];try rfl
   .obtain rfl:k=d.size:=by omega
    have v:=Hh (Ia (neg:=neg) E K.out (fun j hj=>B.out j hj hj))
    by_cases F:(d[0]'E).toNat=48
    .go_wp2
     go_ret;refine⟨?_,Ab⟩;rw[v.out];simp[F]
    .go_wp2
     go_ret;refine⟨?_,Ab⟩;rw[v.out];have Aj:¬(((d[0]'E).toNat:Int)=48):=by omega
     by_cases I:(d[d.size-1]'(by omega)).toNat=48
     .simp[F,Aj,I,bne]
     .have J:¬(((d[d.size-1]'(by omega)).toNat:Int)=48):=by omega
      simp[F,Aj,I,J,bne]
abbrev Bs:=List UInt8
def dg(c:UInt8):Bool:=Mo c.toNat
def bN:Bs->Nat
 |[]=>0
 |c::l=>if dg c then bN l+1 else 0
theorem mE:∀l:Bs,bN l<=l.length
 |[]=>cA _
 | c::l=>by
  have:=mE l;simp only[bN,bc];split<;>omega
theorem sJ:∀(a b:Bs),a.all dg=true->bN (a++b)=a.length+bN b
 |[],b,_=>by simp
 | c::a,b,h=>by
  rw[ri,cP] at h;rw[cf,bN,E4 h.1,sJ a b h.2,bc];omega
theorem ui:∀l:Bs,(l.take (bN l)).all dg=true
 |[]=>rfl
 | c::l=>by
  rw[bN];split
  .next h=>rw[cN,ri,h,ui l];rfl
  .rfl
theorem yI:∀(l:Bs),(∀c,l.head?=aw c->dg c=false)->bN l=0
 |[],_=>rfl
 |c::l,h=>by rw[bN,h c rfl];rfl
def dm:Bs->Nat
 |[]=>0
 |p::l=>if p=46/\bN l≠0 then 1+bN l else 0
def oN:Bs->Nat
 |[]=>0
 |c::_=>if c=43\/c=45 then 1 else 0
def jl:Bs->Nat
 |[]=>0
 |m::t=>if (m=101\/m=69)/\bN (t.drop (oN t))≠0 then 1+oN t+bN (t.drop (oN t)) else 0
def fH:Bs->Nat
 |[]=>0
 |c::l=>if c=48 then 1 else bN (c::l)
def nC:Bs->Nat
 |[]=>0
 |c::_=>if c=45 then 1 else 0
def gX(l:Bs):Nat:=dm l+jl (l.drop (dm l))
def dB(l:Bs):Nat:=
 if fH (l.drop (nC l))=0 then 0 else nC l+fH (l.drop (nC l))+gX (l.drop (nC l+fH (l.drop (nC l))))
def jk(c:UInt8):Nat:=if c=45 then 0 else if c=43 then 1 else if c=48 then 2 else if 49<=c.toNat/\c.toNat<=57 then 3 else if c=46 then 4 else if c=101\/c=69 then 5 else 6
def aY:List Nat:=[1,9,2,3,9,9,9, 9,9,2,3,9,9,9, 9,9,9,9,4,6,9, 9,9,3,3,4,6,9, 9,9,5,5,9,9,9, 9,9,5,5,9,6,9, 7,7,8,8,9,9,9, 9,9,8,8,9,9,9, 9,9,8,8,9,9,9]
def bJ(st sg:Nat):Nat:=aY.getD (7*st+sg) 9
def dO(st:Nat):Bool:=st==2 || (st==3 || (st==5 || st==8))
def qB:Nat->Nat->Nat->Bs->Nat
 |_,_,L,[]=>L
 |st,i,L,c::l=>if bJ st (jk c)=9 then L else qB (bJ st (jk c)) (i+1) (if dO (bJ st (jk c)) then i+1 else L) l
inductive zh(c:UInt8):Prop
 |minus:c=45->dg c=false->jk c=0->zh c
 |plus:c=43->dg c=false->jk c=1->zh c
 |nought:c=48->dg c=true->jk c=2->zh c
 |digit:dg c=true->c≠48->c≠45->c≠43->c≠46->c≠101->c≠69->jk c=3->zh c
 |point:c=46->dg c=false->jk c=4->zh c
 |mark:(c=101\/c=69)->c≠46->c≠45->c≠43->c≠48->dg c=false->jk c=5->zh c
 |other:c≠45->c≠43->c≠48->dg c=false->c≠46->c≠101->c≠69->jk c=6->zh c
theorem uN(c:UInt8):zh c:=by
 by_cases i:c=45
 .subst i;exact .minus rfl rfl rfl
 by_cases u:c=43
 .subst u;exact .plus rfl rfl rfl
 by_cases b:c=48
 .subst b;exact .nought rfl rfl rfl
 by_cases z:49<=c.toNat/\c.toNat<=57
 .refine .digit (by simp only[dg,Mo,decide_eq_true_eq];omega) b i u ?_ ?_ ?_ (by rw[jk,E6 i,E6 u,E6 b,E4 z])<;>(rintro rfl;revert z;decide)
 have A:dg c=false:=by
  rw[so];intro h;simp only[dg,Mo,decide_eq_true_eq] at h;have:c.toNat≠48:=fun e=>b (UInt8.toNat_inj.1 e);omega
 by_cases v:c=46
 .subst v;exact .point rfl rfl rfl
 by_cases x:c=101\/c=69
 .exact .mark x v i u b A (by rw[jk,E6 i,E6 u,E6 b,E6 z,E6 v,E4 x])
 .exact .other i u b A v (fun h=>x (.inl h)) (fun h=>x (.inr h)) (by rw[jk,E6 i,E6 u,E6 b,E6 z,E6 v,E6 x])
theorem iY(st i L:Nat)(c:UInt8)(l:Bs):qB st i L (c::l)=if bJ st (jk c)=9 then L else qB (bJ st (jk c)) (i+1) (if dO (bJ st (jk c)) then i+1 else L) l:=rfl
theorem Rw:∀(l:Bs) (i:Nat),qB 8 i i l=i+bN l
 |[],i=>rfl
 | c::l,i=>by
  have ih:=Rw l (i+1);rw[iY,bN];cases uN c<;>simp_all [bJ,aY,dO]<;>omega
theorem Vz(l:Bs)(i L:Nat):qB 7 i L l=if bN l=0 then L else i+bN l:=by
 cases l with
 |nil=>rfl
 |cons c l=>
  have b:=Rw l (i+1);rw[iY,bN];cases uN c<;>simp_all [bJ,aY,dO]<;>omega
theorem Rx(m:UInt8)(l:Bs)(i:Nat)(g:m=101\/m=69):qB 6 (i+1) i l=i+jl (m::l):=by
 rw[jl];simp only[g,true_and]
 cases l with
 |nil=>rfl
 |cons c l=>
  have f:=Rw l (i+2);have b:=Vz l (i+2) i;rw[iY,oN]
  cases uN c with
  | minus h h2 h3=>
   subst h;simp[bJ,aY,dO,h3,b]
   split<;>omega
  |plus h h2 h3=>
   subst h;simp[bJ,aY,dO,h3,b]
   split<;>omega
  |nought h h2 h3=>
   subst h;simp[bJ,aY,dO,h3,f,bN,h2]
   omega
  |digit h h1 h2 h4 h5 h6 h7 h3=>
   simp[bJ,aY,dO,h3,f,bN,h,h2,h4]
   omega
  |point h h2 h3=>
   subst h;simp[bJ,aY,h3,bN,h2]
  |mark h h1 h2 h4 h5 h6 h3=>
   simp[bJ,aY,h3,bN,h2,h4,h6]
  |other h h1 h2 h4 h5 h6 h7 h3=>
   simp[bJ,aY,h3,bN,h,h1,h4]
theorem Ud:∀(l:Bs) (i:Nat),qB 5 i i l=i+bN l+jl (l.drop (bN l))
 |[],i=>rfl
 | c::l,i=>by
  have ih:=Ud l (i+1);have i6:=Rx c l i;rw[iY,bN]
  cases uN c with
  |minus h h2 h3=>subst h;simp[bJ,aY,h3,h2,jl]
  |plus h h2 h3=>subst h;simp[bJ,aY,h3,h2,jl]
  |nought h h2 h3=>subst h;simp[bJ,aY,dO,h3,h2,ih];omega
  |digit h h1 h2 h4 h5 h6 h7 h3=>simp[bJ,aY,dO,h3,h,ih];omega
  |point h h2 h3=>subst h;simp[bJ,aY,h3,h2,jl]
  |mark h h1 h2 h4 h5 h6 h3=>simp[bJ,aY,dO,h3,h6,i6 h]
  |other h h1 h2 h4 h5 h6 h7 h3=>simp[bJ,aY,h3,h4,jl,h6,h7]
theorem Ue(l:Bs)(i:Nat):qB 4 (i+1) i l=i+gX (46::l):=by
 cases l with
 |nil=>rfl
 |cons c l=>
  have f:=Ud l (i+2);rw[iY,gX,dm,bN];have b:∀x,jl (46::x)=0:=fun x=>by simp[jl]
  cases uN c with
  |minus h h2 h3=>subst h;simp[bJ,aY,h3,h2,b]
  |plus h h2 h3=>subst h;simp[bJ,aY,h3,h2,b]
  |nought h h2 h3=>subst h;simp[bJ,aY,dO,h3,h2,f,eV 1];omega
  |digit h h1 h2 h4 h5 h6 h7 h3=>simp[bJ,aY,dO,h3,h,f,eV 1];omega
  |point h h2 h3=>subst h;simp[bJ,aY,h3,h2,b]
  |mark h h1 h2 h4 h5 h6 h3=>simp[bJ,aY,h3,h6,b]
  |other h h1 h2 h4 h5 h6 h7 h3=>simp[bJ,aY,h3,h4,b]
theorem Uf(l:Bs)(i:Nat):qB 2 i i l=i+gX l:=by
 cases l with
 |nil=>rfl
 |cons c l=>
  have a:=Ue l i;have b:=Rx c l i;rw[iY]
  cases uN c with
  |minus h h2 h3=>subst h;simp[bJ,aY,h3,gX,dm,jl]
  |plus h h2 h3=>subst h;simp[bJ,aY,h3,gX,dm,jl]
  |nought h h2 h3=>subst h;simp[bJ,aY,h3,gX,dm,jl]
  |digit h h1 h2 h4 h5 h6 h7 h3=>simp[bJ,aY,h3,gX,dm,jl,h5,h6,h7]
  |point h h2 h3=>subst h;simp[bJ,aY,dO,h3,a]
  |mark h h1 h2 h4 h5 h6 h3=>simp[bJ,aY,dO,h3,b h,gX,dm,h1]
  |other h h1 h2 h4 h5 h6 h7 h3=>simp[bJ,aY,h3,gX,dm,jl,h5,h6,h7]
theorem Ry:∀(l:Bs) (i:Nat),qB 3 i i l=i+bN l+gX (l.drop (bN l))
 |[],i=>rfl
 | c::l,i=>by
  have ih:=Ry l (i+1);have i4:=Ue l i;have i6:=Rx c l i;rw[iY,bN]
  cases uN c with
  |minus h h2 h3=>subst h;simp[bJ,aY,h3,h2,gX,dm,jl]
  |plus h h2 h3=>subst h;simp[bJ,aY,h3,h2,gX,dm,jl]
  |nought h h2 h3=>subst h;simp[bJ,aY,dO,h3,h2,ih];omega
  |digit h h1 h2 h4 h5 h6 h7 h3=>simp[bJ,aY,dO,h3,h,ih];omega
  |point h h2 h3=>subst h;simp[bJ,aY,dO,h3,h2,i4]
  |mark h h1 h2 h4 h5 h6 h3=>simp[bJ,aY,dO,h3,i6 h,gX,dm,h1,h6]
  |other h h1 h2 h4 h5 h6 h7 h3=>simp[bJ,aY,h3,h4,gX,dm,jl,h5,h6,h7]
theorem VA(l:Bs)(i:Nat):qB 1 i 0 l=if fH l=0 then 0 else i+fH l+gX (l.drop (fH l)):=by
 cases l with
 |nil=>rfl
 |cons c l=>
  have b:=Uf l (i+1);have d:=Ry l (i+1);rw[iY,fH]
  cases uN c with
  |minus h h2 h3=>subst h;simp[bJ,aY,h3,h2,bN]
  |plus h h2 h3=>subst h;simp[bJ,aY,h3,h2,bN]
  |nought h h2 h3=>subst h;simp[bJ,aY,dO,h3,b]
  |digit h h1 h2 h4 h5 h6 h7 h3=>simp[bJ,aY,dO,h3,h,d,h1,bN];omega
  |point h h2 h3=>subst h;simp[bJ,aY,h3,h2,bN]
  |mark h h1 h2 h4 h5 h6 h3=>simp[bJ,aY,h3,h5,h6,bN]
  |other h h1 h2 h4 h5 h6 h7 h3=>simp[bJ,aY,h3,h2,h4,bN]
theorem OM(l:Bs):qB 0 0 0 l=dB l:=by
 cases l with
 |nil=>rfl
 |cons c l=>
  have b:=VA l 1;have d:=Uf l 1;have g:=Ry l 1;rw[iY,dB,nC]
  cases uN c with
  |minus h h2 h3=>subst h;simp[bJ,aY,dO,h3,b,eV 1,kO]
  |plus h h2 h3=>subst h;simp[bJ,aY,h3,h2,fH,bN]
  |nought h h2 h3=>subst h;simp[bJ,aY,dO,h3,d,fH]
  |digit h h1 h2 h4 h5 h6 h7 h3=>simp[bJ,aY,dO,h3,h,g,h1,h2,bN,fH];omega
  |point h h2 h3=>subst h;simp[bJ,aY,h3,h2,fH,bN]
  |mark h h1 h2 h4 h5 h6 h3=>simp[bJ,aY,h3,h5,h6,h2,fH,bN]
  |other h h1 h2 h4 h5 h6 h7 h3=>simp[bJ,aY,h3,h,h2,h4,fH,bN]
structure bI(l:Bs)(neg:Bool)(ip fr mk sg pw:Bs):Prop where
 eq:l=(if neg then [45] else [])++(ip++((if fr=[] then [] else 46::fr)++(mk++(sg++pw))))
 dip:ip.all dg=true
 dfr:fr.all dg=true
 dpw:pw.all dg=true
 ip0:ip≠[]
 lead:ip.head?=aw 48->ip.length=1
 exp:(mk=[]/\sg=[]/\pw=[])\/((mk=[101]\/mk=[69])/\(sg=[]\/sg=[43]\/sg=[45])/\pw≠[])
theorem sS{l:Bs}(h:l.all dg=true)(b:l.head?=aw c):dg c=true:=by
 cases l with
 |nil=>simp at b
 |cons a l=>simp at b;subst b;rw[ri,cP] at h;exact h.1
theorem uV(h:dg c=true):48<=c.toNat/\c.toNat<=57:=by simpa [dg,Mo] using h
theorem uU(h:dg c=true){d:UInt8}(a:dg d=false):c≠d:=by rintro rfl;rw[h] at a;cases a
theorem Re(l:Bs)(h:l.all dg=true):bN l=l.length:=by
 have:=sJ l [] h;rw[eI] at this;rw[this];rfl
theorem qR{l:Bs}(h:l≠[]):l.length≠0:=fun e=>h (cC e)
section
variable {l:Bs} {neg:Bool} {ip fr mk sg pw:Bs}
theorem bI.pow(h:bI l neg ip fr mk sg pw):jl (mk++(sg++pw))=(mk++(sg++pw)).length:=by
 rcases h.exp with ⟨rfl,rfl,rfl⟩|⟨u,v,f⟩
 .rfl
 .have q:bN pw=pw.length:=Re pw h.dpw
  have Ab:=qR f
  have j:sg=[]->oN pw=0:=fun _=>by
   cases pw with
   |nil=>exact absurd rfl f
   |cons c p=>
    have i:=sS h.dpw (c:=c) rfl;rw[oN,E6];intro e;rcases e with rfl|rfl<;>revert i<;>decide
  have Aa:oN (sg++pw)=sg.length/\(sg++pw).drop (oN (sg++pw))=pw:=by
   rcases v with rfl|rfl|rfl
   .rw[cM,j rfl];exact⟨rfl,rfl⟩
   .exact⟨rfl,rfl⟩
   .exact⟨rfl,rfl⟩
  have Ac:∃m,mk=[m]/\(m=101\/m=69):=by rcases u with rfl|rfl<;>simp
  obtain⟨m,rfl,Ad⟩:=Ac;rw[List.singleton_append,jl,Aa.2,q,E4 ⟨Ad,Ab⟩,Aa.1,bc,cm];omega
theorem bI.pow_head(h:bI l neg ip fr mk sg pw)(a:(mk++(sg++pw)).head?=aw c):dg c=false/\c≠46:=by
 rcases h.exp with ⟨rfl,rfl,rfl⟩|⟨b,i,f⟩
 .simp at a
 .rcases b with rfl|rfl<;>(simp at a;subst a;decide)
theorem bI.tail(h:bI l neg ip fr mk sg pw):gX ((if fr=[] then [] else 46::fr)++(mk++(sg++pw)))=((if fr=[] then [] else 46::fr)++(mk++(sg++pw))).length:=by
 have j:=h.pow;have i:=fun c=>h.pow_head (c:=c);generalize mk++(sg++pw)=r at j i ⊢
 by_cases b:fr=[]
 .rw[E4 b,cM,gX]
  have:dm r=0:=by
   cases r with
   |nil=>rfl
   |cons c r=>rw[dm,E6];intro e;exact (i c rfl).2 e.1
  rw[this,dd,j,Nat.zero_add]
 .rw[E6 b,gX,cf]
  have q:bN (fr++r)=fr.length:=by rw[sJ _ _ h.dfr,yI r (fun c hc=>(i c hc).1)];rfl
  have:dm (46::(fr++r))=1+fr.length:=by
   rw[dm,q,E4 ⟨rfl,qR b⟩]
  rw[this,eV 1,List.drop_succ_cons,gR,j,bc,cm];omega
theorem bI.int(h:bI l neg ip fr mk sg pw):fH (ip++((if fr=[] then [] else 46::fr)++(mk++(sg++pw))))=ip.length:=by
 have j:∀c,((if fr=[] then [] else 46::fr)++(mk++(sg++pw))).head?=aw c->dg c=false:=by
  intro c a
  by_cases b:fr=[]
  .rw[E4 b,cM] at a;exact (h.pow_head a).1
  .rw[E6 b] at a;simp at a;subst a;decide
 generalize (if fr=[] then [] else 46::fr)++(mk++(sg++pw))=r at j;have hi:=h.ip0;have u:=h.lead;have q:=h.dip;have v:bN (ip++r)=ip.length:=by rw[sJ _ _ q,yI r j];rfl
 cases ip with
 |nil=>exact absurd rfl hi
 |cons c p=>
  rw[cf,fH];split
  .next e=>subst e;exact (u rfl).symm
  .rw[<-cf,v]
theorem bI.mn(h:bI l neg ip fr mk sg pw):nC l=(if neg then 1 else 0)/\l.drop (nC l)=ip++((if fr=[] then [] else 46::fr)++(mk++(sg++pw))):=by
 have b:=h.eq;have hi:=h.ip0;have u:=h.dip;generalize (if fr=[] then [] else 46::fr)++(mk++(sg++pw))=r at b
 cases neg with
 |true=>subst b;exact⟨rfl,rfl⟩
 |false=>
  subst b
  have:nC (ip++r)=0:=by
   cases ip with
   |nil=>exact absurd rfl hi
   |cons c p=>
    have j:=sS u (c:=c) rfl;rw[cf,nC,E6];rintro rfl
    revert j;decide
  refine⟨?_,?_⟩
  .simpa using this
  .show (ip++r).drop (nC (ip++r))=_
   rw[this];rfl
theorem bI.scan(h:bI l neg ip fr mk sg pw):dB l=l.length/\l≠[]:=by
 have hi:=qR h.ip0;have b:=h.mn
 have c:l.length=nC l+(l.drop (nC l)).length:=by
  have:=congrArg fh h.eq;rw[b.2,b.1,this,cm];cases neg<;>rfl
 refine⟨?_,fun e=>by subst e;have:=h.eq;cases neg<;>simp at this;exact h.ip0 this.1⟩;rw[b.2,cm] at c;rw[dB,b.2,h.int,E6 hi,<-c4,b.2,gR,h.tail,c];omega
end
theorem NJ(l:Bs)(h:jl l=l.length):∃mk sg pw,l=mk++(sg++pw)/\pw.all dg=true/\((mk=[]/\sg=[]/\pw=[])\/((mk=[101]\/mk=[69])/\(sg=[]\/sg=[43]\/sg=[45])/\pw≠[])):=by
 cases l with
 |nil=>exact⟨[],[],[],rfl,rfl,.inl ⟨rfl,rfl,rfl⟩⟩
 |cons m t=>
  rw[jl] at h;split at h
  .next b=>
   obtain⟨j,f⟩:=b;rw[bc] at h
   have q:oN t<=t.length:=by
    cases t with
    |nil=>exact cA _
    |cons c t=>rw[oN];split<;>simp
   have o:(t.drop (oN t)).length=t.length-oN t:=by simp
   have Aa:(t.drop (oN t)).all dg=true:=by
    have:=ui (t.drop (oN t));rw[show bN (t.drop (oN t))=(t.drop (oN t)).length by omega,List.take_length] at this;exact this
   refine⟨[m],t.take (oN t),t.drop (oN t),by rw[el];rfl,Aa,.inr ⟨by rcases j with rfl|rfl<;>simp,?_,fun e=>f (by rw[e];rfl)⟩⟩
   cases t with
   |nil=>exact .inl rfl
   |cons c t=>
    rw[oN];split
    .next b=>rcases b with rfl|rfl<;>simp
    .simp
  .simp at h
theorem KD(l:Bs):∃fr,l.take (dm l)=(if fr=[] then [] else 46::fr)/\fr.all dg=true:=by
 cases l with
 |nil=>exact⟨[],rfl,rfl⟩
 |cons p l=>
  rw[dm];split
  .next h=>
   obtain⟨rfl,j⟩:=h
   have Aa:l.take (bN l)≠[]:=by
    intro e;have b:=congrArg fh e;have c:=mE l;rw[c8,nh c] at b;exact j (by simpa using b)
   exact⟨l.take (bN l),by rw[E6 Aa,eV 1,cN],ui l⟩
  .exact⟨[],rfl,rfl⟩
theorem uR(l:Bs)(h:dB l=l.length)(O:l≠[]):∃neg ip fr mk sg pw,bI l neg ip fr mk sg pw:=by
 rw[dB] at h;have Ah:=qR O;split at h
 .omega
 .next hi=>
  have Ai:nC l<=l.length:=by
   cases l with
   |nil=>exact cA _
   |cons c l=>rw[nC];split<;>simp
  have Ad:∀l:Bs,fH l<=l.length:=by
   intro l
   cases l with
   |nil=>exact cA _
   |cons c l=>rw[fH];split;(· simp);(· exact mE _)
  have Af:=Ad (l.drop (nC l));rw[<-c4] at h;have e1:l=l.take (nC l)++l.drop (nC l):=(el _ _).symm
  have j:l.take (nC l)=(if decide (nC l=1) then [45] else []):=by
   cases l with
   |nil=>rfl
   |cons c l=>
    rw[nC];split
    .next e=>subst e;rfl
    .rfl
  have Ae:(l.drop (nC l)).length=l.length-nC l:=by simp
  generalize l.drop (nC l)=a at *;have v:a=a.take (fH a)++a.drop (fH a):=(el _ _).symm;have Aa:(a.drop (fH a)).length=a.length-fH a:=by simp
  have q:(a.take (fH a)).all dg=true/\(a.take (fH a)≠[])/\((a.take (fH a)).head?=aw 48->(a.take (fH a)).length=1):=by
   cases a with
   |nil=>exact absurd rfl hi
   |cons c a=>
    rw[fH] at hi ⊢;split
    .next e=>subst e;exact⟨rfl,by simp,fun _=>rfl⟩
    .next e=>
     rw[E6 e] at hi;refine⟨ui _,fun j=>?_,fun j=>?_⟩
     .have u:=congrArg fh j
      have z:=mE (c::a);rw[c8,nh z] at u;exact hi (by simpa using u)
     .have:∃k,bN (c::a)=k+1:=⟨bN (c::a)-1,by omega⟩
      obtain⟨k,M⟩:=this;rw[M,cN] at j;simp at j
      exact absurd j e
  generalize a.take (fH a)=ip at *;generalize a.drop (fH a)=b at *;have K:gX b=b.length:=by omega
  rw[gX] at K;have x:b=b.take (dm b)++b.drop (dm b):=(el _ _).symm;obtain⟨fr,L,Ac⟩:=KD b
  have Ag:dm b<=b.length:=by
   cases b with
   |nil=>exact cA _
   |cons c b=>rw[dm];have:=mE b;split<;>simp;omega
  have Ab:(b.drop (dm b)).length=b.length-dm b:=by simp
  obtain⟨mk,sg,pw,A,F,G⟩:=NJ (b.drop (dm b)) (by omega);refine⟨decide (nC l=1),ip,fr,mk,sg,pw,⟨?_,q.1,Ac,F,q.2.1,q.2.2,G⟩⟩;rw[<-A,<-L,<-x,<-v,<-j];exact e1
def jQ(ip fr:Bs):Bs:=jN (ip++fr) 48
def iT(ip fr:Bs):Bs:=oy (jQ ip fr) 48
def Gm(ip fr:Bs)(p:Int):Int:=p-fr.length+((jQ ip fr).length-(iT ip fr).length:Nat)
def iJ(neg:Bool)(ip fr:Bs)(p:Int):(Bool×Bs×Int)×Int:=
 if iT ip fr=[] then ((false,[],0),0) else if rC neg ⟨(iT ip fr).toArray⟩ (Gm ip fr p) then ((neg,iT ip fr,Gm ip fr p),0) else ((false,[],0),4)
def lL(n:Nat)(c:UInt8):Nat:=min (n*10+(c.toNat-48)) 1099511627776
def uI(n:Nat)(c:UInt8):Nat:=if n<1000000000 then n*10+(c.toNat-48) else n
def Uo(sg:Bs)(n:Nat):Int:=if sg=[45] then -(n:Int) else n
def qJ(sg pw:Bs):Int:=Uo sg (pw.foldl lL 0)
def zq(sg pw:Bs):Int:=Uo sg (pw.foldl uI 0)
theorem He:∀(pw:Bs) (a b:Nat),pw.all dg=true->(a=b/\a<1000000000\/1000000000<=a/\1000000000<=b)->(pw.foldl lL a=pw.foldl uI b/\pw.foldl lL a<1000000000\/1000000000<=pw.foldl lL a/\1000000000<=pw.foldl uI b)
 |[],_,_,_,h=>h
 | c::pw,a,b,hd,h=>by
  rw[ri,cP] at hd;have hc:=uV hd.1;rw[oT,oT];refine He pw _ _ hd.2 ?_;unfold lL uI;rcases h with ⟨rfl,h⟩|⟨h1,h2⟩
  .rw[E4 h];omega
  .rw[E6 (by omega)];omega
theorem Gp(l:Bs):(oy l 48).length<=l.length:=by
 rw[oy,o0];have:=(rS (fun x=>x==(48:UInt8)) (l:=l.reverse)).length_le
 simpa using this
theorem Ad(l:Bs):(jN l 48).length<=l.length:=(rS _).length_le
theorem Qg(h0:d.size≠0)(h:e < -10000\/10000<e):rC neg d e=false:=vL h0 (.inr h)
theorem Hz(neg:Bool)(b fr D B:Bs)(x:B.all dg=true)(E:b.length+fr.length<=100000000):iJ neg b fr (qJ D B)=iJ neg b fr (zq D B):=by
 rcases He B 0 0 x (.inl ⟨rfl,by omega⟩) with ⟨h,_⟩|⟨j,k⟩
 .rw[qJ,zq,h]
 .unfold iJ
  by_cases i:iT b fr=[]
  .rw[E4 i,E4 i]
  .have v:(jQ b fr).length<=b.length+fr.length:=by rw[<-cm];exact Ad _
   have u:(⟨(iT b fr).toArray⟩:E7).size≠0:=by
    show (iT b fr).toArray.size≠0
    simpa using i
   have f:∀n:Nat,1000000000<=n->rC neg ⟨(iT b fr).toArray⟩ (Gm b fr (Uo D n))=false:=by
    intro n A;refine Qg u ?_;unfold Gm Uo;split<;>omega
   rw[E6 i,E6 i,qJ,zq,f _ j,f _ k];rfl
def lN(c:Nat):Bool:=decide (c<=1114111)&&(decide (c<55296) || decide (57343<c))
def tu(c:Nat):Nat:=if c<128 then 1 else if c<2048 then 2 else if c<65536 then 3 else 4
def fQ(c:Nat):List Nat:=
 if c<128 then [c] else if c<2048 then [192+c / 64,128+c % 64] else if c<65536 then [224+c / 4096,128+c / 64 % 64,128+c % 64]
 else [240+c / 262144,128+c / 4096 % 64,128+c / 64 % 64,128+c % 64]
def iH(c:Nat):List UInt8:=(fQ c).map ep
theorem kI(c:Nat):(iH c).length=tu c:=by
 unfold iH fQ tu;split
 .rfl
 split
 .rfl
 split<;>rfl
def fB(b:Nat):Nat:=if b<128 then 1 else if b<192 then 0 else if b<224 then 2 else if b<240 then 3 else if b<248 then 4 else 0
def aG:List Nat->Nat×Nat
 |[]=>(0,0)
 |a::r=>
  if a<128 then (a,1)
  else if a<192 then (0,0)
  else if a<224 then match r with
   |b::_=>if b / 64=2/\128<=(a-192)*64+(b-128) then ((a-192)*64+(b-128),2) else (0,0)
   |_=>(0,0)
  else if a<240 then match r with
   |b::c::_=>if b / 64=2/\c / 64=2/\2048<=((a-224)*64+(b-128))*64+(c-128)/\lN (((a-224)*64+(b-128))*64+(c-128)) then (((a-224)*64+(b-128))*64+(c-128),3) else (0,0)
   |_=>(0,0)
  else if a<248 then match r with
   |b::c::d::_=>if b / 64=2/\c / 64=2/\d / 64=2/\65536<=(((a-240)*64+(b-128))*64+(c-128))*64+(d-128)/\lN ((((a-240)*64+(b-128))*64+(c-128))*64+(d-128)) then ((((a-240)*64+(b-128))*64+(c-128))*64+(d-128),4) else (0,0)
   |_=>(0,0)
  else (0,0)
theorem dF{c:Nat}:lN c=true↔c<=1114111/\(c<55296\/57343<c):=by simp[lN]
theorem wU{c:Nat}(h:lN c=true)(j:List Nat):aG (fQ c++j)=(c,tu c):=by
 rw[dF] at h;unfold fQ tu
 by_cases b:c<128
 .simp[b,aG]
 by_cases f:c<2048
 .rw[E6 b,E4 f,E6 b,E4 f]
  simp only[cf,cM,aG];rw[E6 (by omega),E6 (by omega),E4 (by omega),E4 (by omega)];exact congrArg (fun x=>(x,2)) (by omega)
 by_cases i:c<65536
 .rw[E6 b,E6 f,E4 i,E6 b,E6 f,E4 i]
  simp only[cf,cM,aG,dF];rw[E6 (by omega),E6 (by omega),E6 (by omega),E4 (by omega),E4 (by omega)];exact congrArg (fun x=>(x,3)) (by omega)
 .rw[E6 b,E6 f,E6 i,E6 b,E6 f,E6 i]
  simp only[cf,cM,aG,dF];rw[E6 (by omega),E6 (by omega),E6 (by omega),E6 (by omega),E4 (by omega),E4 (by omega)];exact congrArg (fun x=>(x,4)) (by omega)
theorem jU{c:Nat}(E:∀x∈l,x<256)(h:aG l=(c,n))(H:n≠0):lN c=true/\tu c=n/\fQ c=l.take n/\n<=l.length:=by
 match l with
 |[]=>simp[aG] at h;omega
 |a::r=>
  have D:=E a (by simp);simp only[aG] at h
  by_cases v:a<128
  .rw[E4 v] at h
   simp only[n9] at h;obtain⟨rfl,rfl⟩:=h;rw[dF];simp[tu,fQ,v];omega
  rw[E6 v] at h
  by_cases z:a<192
  .rw[E4 z] at h;simp at h;omega
  rw[E6 z] at h
  by_cases A:a<224
  .rw[E4 A] at h
   match r with
   |[]=>simp at h;omega
   |b::r'=>
    simp only at h
    by_cases i:b / 64=2/\128<=(a-192)*64+(b-128)
    .rw[E4 i] at h
     simp only[n9] at h;obtain⟨j,rfl⟩:=h;have Ab:c<2048:=by omega
     have Aa:¬c<128:=by omega
     rw[dF];refine⟨by omega,by simp[tu,Aa,Ab],?_,by simp⟩;simp only[fQ,E6 Aa,E4 Ab,cN,fz,fY,and_true];omega
    .rw[E6 i] at h;simp at h;omega
  rw[E6 A] at h
  by_cases B:a<240
  .rw[E4 B] at h
   match r with
   |[]=>simp at h;omega
   |[b]=>simp at h;omega
   |b::d::r'=>
    simp only[dF] at h
    by_cases i:b / 64=2/\d / 64=2/\2048<=((a-224)*64+(b-128))*64+(d-128)/\((a-224)*64+(b-128))*64+(d-128)<=1114111/\(((a-224)*64+(b-128))*64+(d-128)<55296\/57343<((a-224)*64+(b-128))*64+(d-128))
    .rw[E4 i] at h
     simp only[n9] at h;obtain⟨j,rfl⟩:=h;have Ac:c<65536:=by omega
     have Ab:¬c<2048:=by omega
     have Aa:¬c<128:=by omega
     rw[dF];refine⟨by omega,by simp[tu,Aa,Ab,Ac],?_,by simp⟩;simp only[fQ,E6 Aa,E6 Ab,E4 Ac,cN,fz,fY,and_true];omega
    .rw[E6 i] at h;simp at h;omega
  rw[E6 B] at h
  by_cases j:a<248
  .rw[E4 j] at h
   match r with
   |[]=>simp at h;omega
   |[b]=>simp at h;omega
   |[b,d]=>simp at h;omega
   |b::d::f::r'=>
    simp only[dF] at h
    by_cases i:b / 64=2/\d / 64=2/\f / 64=2/\65536<=(((a-240)*64+(b-128))*64+(d-128))*64+(f-128)/\(((a-240)*64+(b-128))*64+(d-128))*64+(f-128)<=1114111/\((((a-240)*64+(b-128))*64+(d-128))*64+(f-128)<55296\/57343<(((a-240)*64+(b-128))*64+(d-128))*64+(f-128))
    .rw[E4 i] at h
     simp only[n9] at h;obtain⟨C,rfl⟩:=h;have Ac:¬c<65536:=by omega
     have Ab:¬c<2048:=by omega
     have Aa:¬c<128:=by omega
     rw[dF];refine⟨by omega,by simp[tu,Aa,Ab,Ac],?_,by simp⟩;simp only[fQ,E6 Aa,E6 Ab,E6 Ac,cN,fz,fY,and_true];omega
    .rw[E6 i] at h;simp at h;omega
  .rw[E6 j] at h;simp at h;omega
theorem NR{c:Nat}(g:∀x∈l,x<256)(h:aG l=(c,n))(i:n≠0)(m:List Nat):aG (l++m)=(c,n):=by
 obtain⟨a,b,d,f⟩:=jU g h i;have e:l++m=fQ c++(l.drop n++m):=by rw[d,<-ef,el]
 rw[e,wU a,b]
theorem rX(c:Nat):(fQ c).length=tu c:=by rw[<-kI];simp[iH]
theorem qE(c:Nat):1<=tu c/\tu c<=4:=by
 unfold tu;split
 .omega
 split
 .omega
 split<;>omega
theorem lw(l:List Nat)(g:∀x∈l,x<256):(aG l).2<=l.length/\(aG l).2<=4:=by
 obtain⟨c,n,h⟩:∃c n,aG l=(c,n):=⟨_,_,rfl⟩;rw[h]
 by_cases b:n=0
 .subst b;simp
 .obtain⟨_,f,_,d⟩:=jU g h b
  have:=qE c;exact⟨d,by simp only;omega⟩
theorem DN{c:Nat}(h:aG l=(c,n))(b:n=0):c=0:=by
 subst b;unfold aG at h;repeat' (first|(simp only[n9] at h;omega)|split at h)
def uG(c:Nat):List Nat->Option Nat
 |[]=>aw c
 |b::r=>if b / 64=2 then uG (c*64+b % 64) r else aq
def kD(a n:Nat):Nat:=if n=2 then a % 32 else if n=3 then a % 16 else a % 8
theorem NS{r:List Nat}(E:∀x∈a::r,x<256)(i:fB a=n)(P:2<=n) :
  aG (a::r)=if r.length<n-1 then (0,0) else match uG (kD a n) (r.take (n-1)) with
   |none=>(0,0)
   |some C=>if lN C=true/\tu C=n then (C,n) else (0,0):=by
 unfold fB at i
 by_cases v:a<128
 .rw[E4 v] at i;omega
 rw[E6 v] at i
 by_cases z:a<192
 .rw[E4 z] at i;omega
 rw[E6 z] at i
 have L:∀C,C<2048->((lN C=true/\tu C=2)↔128<=C):=by
  intro C J;rw[dF];unfold tu
  by_cases h:C<128
  .simp[h]
  .simp[h,J];omega
 have M:∀C,C<65536->((lN C=true/\tu C=3)↔(2048<=C/\lN C=true)):=by
  intro C J;unfold tu
  by_cases h:C<128
  .simp[h];omega
  .by_cases k:C<2048
   .simp[h,k];omega
   .simp[h,k,J];omega
 have O:∀C,((lN C=true/\tu C=4)↔(65536<=C/\lN C=true)):=by
  intro C;unfold tu
  by_cases h:C<128
  .simp[h];omega
  .by_cases k:C<2048
   .simp[h,k];omega
   .by_cases q:C<65536
    .simp[h,k,q];omega
    .simp[h,k,q];omega
 by_cases A:a<224
 .rw[E4 A] at i
  subst i;simp only[aG,E6 v,E6 z,E4 A]
  match r with
  |[]=>simp
  |b::r'=>
   have Aa:=E b (by simp)
   by_cases j:b / 64=2
   .have e:kD a 2*64+b % 64=(a-192)*64+(b-128):=by simp[kD];omega
    simp only[cN,fz,uG,j,if_true,true_and,e,bc];rw[E6 (show ¬(r'.length+1<2-1) by omega)];simp only[L _ (show (a-192)*64+(b-128)<2048 by omega)]
   .simp[uG,j]
 rw[E6 A] at i
 by_cases H:a<240
 .rw[E4 H] at i
  subst i;simp only[aG,E6 v,E6 z,E6 A,E4 H]
  match r with
  |[]=>simp
  |[b]=>simp
  |b::d::r'=>
   have Aa:=E b (by simp);have Ab:=E d (by simp)
   by_cases j:b / 64=2
   .by_cases l:d / 64=2
    .have e:(kD a 3*64+b % 64)*64+d % 64=((a-224)*64+(b-128))*64+(d-128):=by simp[kD];omega
     simp only[cN,fz,uG,j,l,if_true,true_and,e,bc];rw[E6 (show ¬(r'.length+1+1<3-1) by omega)];simp only[M _ (show ((a-224)*64+(b-128))*64+(d-128)<65536 by omega)]
    .simp[uG,j,l]
   .simp[uG,j]
 rw[E6 H] at i
 by_cases I:a<248
 .rw[E4 I] at i
  subst i;simp only[aG,E6 v,E6 z,E6 A,E6 H,E4 I]
  match r with
  |[]=>simp
  |[b]=>simp
  |[b,d]=>simp
  |b::d::f::r'=>
   have Aa:=E b (by simp);have Ab:=E d (by simp);have Ac:=E f (by simp)
   by_cases j:b / 64=2
   .by_cases l:d / 64=2
    .by_cases K:f / 64=2
     .have e:((kD a 4*64+b % 64)*64+d % 64)*64+f % 64=(((a-240)*64+(b-128))*64+(d-128))*64+(f-128):=by simp[kD];omega
      simp only[cN,fz,uG,j,l,K,if_true,true_and,e,bc];rw[E6 (show ¬(r'.length+1+1+1<4-1) by omega)];simp only[O]
     .simp[uG,j,l,K]
    .simp[uG,j,l]
   .simp[uG,j]
 .rw[E6 I] at i;omega
theorem CS(a:Nat):fB a=0\/fB a=1\/fB a=2\/fB a=3\/fB a=4:=by
 unfold fB;repeat' (first|omega|split)
theorem NQ{r:List Nat}(h:fB a=0):aG (a::r)=(0,0):=by
 unfold fB at h;simp only[aG]
 by_cases b:a<128
 .rw[E4 b] at h;omega
 rw[E6 b] at h ⊢
 by_cases c:a<192
 .rw[E4 c]
 rw[E6 c] at h ⊢
 by_cases e:a<224
 .rw[E4 e] at h;omega
 rw[E6 e] at h ⊢
 by_cases f:a<240
 .rw[E4 f] at h;omega
 rw[E6 f] at h ⊢
 by_cases i:a<248
 .rw[E4 i] at h;omega
 rw[E6 i]
theorem Gv(h:fB a=1):a<128:=by
 unfold fB at h
 by_cases b:a<128
 .exact b
 rw[E6 b] at h;repeat' (first|omega|split at h)
def uO:Nat->List Nat->Nat->List (Nat×Nat)×Option Nat
 |0,_,_=>([],aq)
 | k+1,l,a=>if l=[] then ([],aq) else if (aG l).2=0 then ([],aw a) else
  ((a,(aG l).1)::(uO k (l.drop (aG l).2) (a+(aG l).2)).1,(uO k (l.drop (aG l).2) (a+(aG l).2)).2)
theorem Av:∀(k j:Nat) (l:List Nat) (a:Nat),l.length<=k->l.length<=j->uO k l a=uO j l a
 |0,0,_,_,_,_=>rfl
 | 0,j+1,l,a,h,_=>by
  have:l=[]:=cC (by omega);subst this;simp[uO]
 | k+1,0,l,a,_,h=>by
  have:l=[]:=cC (by omega);subst this;simp[uO]
 | k+1,j+1,l,a,h1,h2=>by
  by_cases hl:l=[]
  .subst hl;simp[uO]
  .have hp:=ey.2 hl
   simp only[uO,E6 hl]
   by_cases he:(aG l).2=0
   .simp[he]
   .rw[Av k j _ _ (by simp;omega) (by simp;omega)]
def scan(l:List Nat)(a:Nat):List (Nat×Nat)×Option Nat:=uO l.length l a
theorem nU(a:Nat):scan [] a=([],aq):=rfl
theorem gY(i:l≠[])(a:Nat):scan l a=if (aG l).2=0 then ([],aw a) else
  ((a,(aG l).1)::(scan (l.drop (aG l).2) (a+(aG l).2)).1,(scan (l.drop (aG l).2) (a+(aG l).2)).2):=by
 unfold scan;obtain⟨k,c⟩:∃k,l.length=k+1:=⟨l.length-1,by have:=ey.2 i;omega⟩;rw[c];simp only[uO,E6 i]
 by_cases b:(aG l).2=0
 .simp[b]
 .rw[Av k (l.drop (aG l).2).length _ _ (by simp;omega) lz]
theorem kY(b:l≠[])(h:(aG l).2=0):scan l a=([],aw a):=by rw[gY b,E4 h]
theorem tC(b:l≠[]){c:Nat}(h:aG l=(c,n))(d:n≠0):scan l a=((a,c)::(scan (l.drop n) (a+n)).1,(scan (l.drop n) (a+n)).2):=by
 rw[gY b,h,E6 d]
theorem yR:∀(k:Nat) (l m:List Nat) (a:Nat),l.length<=k->(∀x∈l,x<256)->(scan l a).2=aq->
  scan (l++m) a=((scan l a).1++(scan m (a+l.length)).1,(scan m (a+l.length)).2)
 | k,l,m,a,hk,hl,h=>by
  by_cases h0:l=[]
  .subst h0;simp[nU]
  obtain⟨c,n,h1⟩:∃c n,aG l=(c,n):=⟨_,_,rfl⟩
  by_cases hn:n=0
  .rw[kY h0 (by rw[h1];exact hn)] at h;cases h
  have hle:=(jU hl h1 hn).2.2.2;rw[tC h0 h1 hn] at h ⊢;have hp:=ey.2 h0
  cases k with
  |zero=>omega
  |succ k=>
   have ih:=yR k (l.drop n) m (a+n) (by simp;omega) (fun x hx=>hl x (dT hx)) h;rw[tC (by simp[h0]) (NR hl h1 hn m) hn,eo hle,ih];have e:a+n+(l.drop n).length=a+l.length:=by simp;omega
   rw[e];simp
theorem Aq:∀(k:Nat) (l:List Nat) (a d:Nat),l.length<=k->scan l (a+d)=((scan l a).1.map (fun x=>(x.1+d,x.2)),(scan l a).2.map (·+d))
 | k,l,a,d,hk=>by
  by_cases h0:l=[]
  .subst h0;simp[nU]
  by_cases hn:(aG l).2=0
  .rw[kY h0 hn,kY h0 hn];simp
  .have hp:=ey.2 h0
   cases k with
   |zero=>omega
   |succ k=>
    have ih:=Aq k (l.drop (aG l).2) (a+(aG l).2) d (by simp;omega);rw[gY h0,gY h0,E6 hn,E6 hn];have e:a+d+(aG l).2=a+(aG l).2+d:=by omega
    rw[e,ih];simp
theorem Ar:∀(k:Nat) (l:List Nat) (a:Nat),l.length<=k->(scan l a).1.length<=l.length
 | k,l,a,hk=>by
  by_cases h0:l=[]
  .subst h0;simp[nU]
  by_cases hn:(aG l).2=0
  .rw[kY h0 hn];simp
  .have hp:=ey.2 h0
   cases k with
   |zero=>omega
   |succ k=>
    have ih:=Ar k (l.drop (aG l).2) (a+(aG l).2) (by simp;omega);rw[gY h0,E6 hn];simp at ih ⊢;omega
theorem Py{c:Nat}(h:lN c=true)(a:Nat):scan (fQ c) a=([(a,c)],aq):=by
 have b:=wU h [];rw[eI] at b;have d:=qE c;have Aa:fQ c≠[]:=by intro h;have:=rX c;rw[h] at this;simp at this;omega
 rw[tC Aa b (by omega),<-rX,ei,nU]
def pu(c:Nat):Option Nat:=if 48<=c/\c<=57 then aw (c-48) else if 97<=c/\c<=102 then aw (c-87) else if 65<=c/\c<=70 then aw (c-55) else aq
def ji:Nat->Nat->List Nat->Nat×Nat
 |0,n,_=>(n,0)
 |_+1,_,[]=>(0,2)
 | k+1,n,c::r=>match pu c with
  |none=>(0,3)
  |some d=>ji k (n*16+d) r
def aQ(l:List Nat):Nat×Nat:=ji 4 0 l
abbrev qD:=List Nat×Nat×Nat
def aJ(e:Nat):qD:=([],0,e)
def jV(n:Nat):List Nat->qD
 |[]=>aJ 2
 | c::t=>if c≠92 then aJ 3 else match t with
  |[]=>aJ 2
  | d::u=>if d≠117 then aJ 3 else if (aQ u).2≠0 then aJ (aQ u).2 else
   if (aQ u).1<56320\/57343<(aQ u).1 then aJ 3 else (fQ (65536+(n-55296)*1024+((aQ u).1-56320)),12,0)
def aU(r:List Nat):qD:=
 if (aQ r).2≠0 then aJ (aQ r).2 else
 if 56320<=(aQ r).1/\(aQ r).1<=57343 then aJ 3 else
 if (aQ r).1<55296\/57343<(aQ r).1 then (fQ (aQ r).1,6,0) else jV (aQ r).1 (r.drop 4)
def Cb(c:Nat):Option Nat:=
 if c=34\/c=92\/c=47 then aw c else if c=98 then aw 8 else if c=102 then aw 12 else if c=110 then aw 10 else if c=114 then aw 13 else if c=116 then aw 9 else aq
def ou:List Nat->qD
 |[]=>aJ 2
 | c::r=>match Cb c with
  |some b=>([b],2,0)
  |none=>if c=117 then aU r else aJ 3
def ax:List Nat->qD
 |[]=>aJ 2
 |c::r=>if c<32 then aJ 3 else if c=92 then ou r else if (aG (c::r)).2=0 then aJ 7 else ((c::r).take (aG (c::r)).2,(aG (c::r)).2,0)
theorem Dq:∀(k n:Nat) (l:List Nat),(ji k n l).2=0->k<=l.length/\(ji k n l).1<(n+1)*16 ^ k
 |0,n,l,_=>by simp[ji]
 |k+1,n,[],h=>by simp[ji] at h
 | k+1,n,c::r,h=>by
  simp only[ji] at h ⊢
  cases hc:pu c with
  |none=>rw[hc] at h;simp at h
  |some d=>
   rw[hc] at h;simp only at h
   have hd:d<16:=by
    unfold pu at hc;split at hc
    .cases hc;omega
    split at hc
    .cases hc;omega
    split at hc
    .cases hc;omega
    .cases hc
   obtain⟨f,b⟩:=Dq k _ r h;refine⟨by simp;omega,cT b ?_⟩;have:n*16+d+1<=(n+1)*16:=by omega
   calc (n*16+d+1)*16 ^ k<=((n+1)*16)*16 ^ k:=Nat.mul_le_mul_right _ this
    _=(n+1)*16 ^ (k+1):=by rw[Nat.pow_succ];ac_rfl
theorem kF(h:(aQ l).2=0):4<=l.length/\(aQ l).1<65536:=by
 have:=Dq 4 0 l h;exact⟨this.1,by have:=this.2;simpa [aQ] using this⟩
theorem wY(A:55296<=n/\n<=56319)(h:(jV n l).2.2=0):∃c,lN c=true/\(jV n l).1=fQ c/\(jV n l).2.1=12/\6<=l.length:=by
 unfold jV at h ⊢
 match l with
 |[]=>simp[aJ] at h
 |[c]=>by_cases b:c=92<;>simp[aJ,b] at h
 |c::d::u=>
  simp only at h ⊢
  by_cases b:c=92
  .by_cases i:d=117
   .rw[E6 (by simp[b]),E6 (by simp[i])] at h ⊢
    by_cases f:(aQ u).2=0
    .rw[E6 (by simp[f])] at h ⊢
     by_cases j:(aQ u).1<56320\/57343<(aQ u).1
     .rw[E4 j] at h;simp[aJ] at h
     .rw[E6 j]
      obtain⟨v,z⟩:=kF f;obtain⟨x,o⟩:=exq (65536+(n-55296)*1024+((aQ u).1-56320));rw[<-o];have k:lN x=true:=by rw[dF];omega
      exact⟨x,k,rfl,rfl,by simp only[bc];omega⟩
    .rw[E4 (by simpa using f)] at h;exact absurd h f
   .rw[E6 (by simp[b]),E4 (by simpa using i)] at h;simp[aJ] at h
  .rw[E4 (by simpa using b)] at h;simp[aJ] at h
theorem Em{r:List Nat}(h:(aU r).2.2=0):∃c,lN c=true/\(aU r).1=fQ c/\1<=(aU r).2.1/\(aU r).2.1<=r.length+2:=by
 unfold aU at h ⊢
 by_cases b:(aQ r).2=0
 .rw[E6 (by simp[b])] at h ⊢
  have q:=kF b
  by_cases f:56320<=(aQ r).1/\(aQ r).1<=57343
  .rw[E4 f] at h;simp[aJ] at h
  .rw[E6 f] at h ⊢
   by_cases i:(aQ r).1<55296\/57343<(aQ r).1
   .rw[E4 i]
    exact⟨_,by rw[dF];omega,rfl,by simp,by simp;omega⟩
   .rw[E6 i] at h ⊢
    obtain⟨c,j,k,x,o⟩:=wY (by omega) h;simp at o
    exact⟨c,j,k,by omega,by omega⟩
 .rw[E4 (by simpa using b)] at h;exact absurd h b
theorem lu(A:∀x∈l,x<256)(h:(ax l).2.2=0):∃c,lN c=true/\(ax l).1=fQ c/\1<=(ax l).2.1/\(ax l).2.1<=l.length:=by
 match l with
 |[]=>simp[ax,aJ] at h
 |c::r=>
  simp only[ax] at h ⊢
  by_cases k:c<32
  .rw[E4 k] at h;simp[aJ] at h
  rw[E6 k] at h ⊢
  by_cases o:c=92
  .rw[E4 o] at h ⊢
   match r with
   |[]=>simp[ou,aJ] at h
   |d::t=>
    simp only[ou] at h ⊢
    cases hd:Cb d with
    |some b=>
     have z:b<128:=by
      unfold Cb at hd;repeat' (split at hd)
      all_goals first|(cases hd;omega)|cases hd
     exact⟨b,by rw[dF];omega,by simp[fQ,z],by simp,by simp⟩
    |none=>
     rw[hd] at h;simp only at h ⊢
     by_cases f:d=117
     .rw[E4 f] at h ⊢
      obtain⟨c,i,q,j,v⟩:=Em h;exact⟨c,i,q,j,by simp;omega⟩
     .rw[E6 f] at h;simp[aJ] at h
  .rw[E6 o] at h ⊢
   by_cases f:(aG (c::r)).2=0
   .rw[E4 f] at h;simp[aJ] at h
   .rw[E6 f]
    obtain⟨i,q,j,v⟩:=jU A rfl f;exact⟨_,i,j.symm,by simp only;omega,v⟩
def o8:Nat->List Nat->qD
 |0,_=>aJ 2
 | k+1,l=>if l.head?=aw 34 then ([],1,0) else if (ax l).2.2≠0 then aJ (ax l).2.2 else
  if (o8 k (l.drop (ax l).2.1)).2.2≠0 then aJ (o8 k (l.drop (ax l).2.1)).2.2 else
  ((ax l).1++(o8 k (l.drop (ax l).2.1)).1,(ax l).2.1+(o8 k (l.drop (ax l).2.1)).2.1,0)
def bT(l:List Nat):qD:=o8 (l.length+1) l
def yP(l:List Nat):Prop:=∀x∈l,x<256
theorem yP.drop(h:yP l)(k:Nat):yP (l.drop k):=fun x hx=>h x (dT hx)
theorem Cu:∀(k j:Nat) (l:List Nat),yP l->l.length<k->l.length<j->o8 k l=o8 j l
 |0,_,_,_,h,_=>by omega
 |_+1,0,_,_,_,h=>by omega
 | k+1,j+1,l,hl,h1,h2=>by
  simp only[o8];split
  .rfl
  by_cases h3:(ax l).2.2=0
  .obtain⟨_,_,_,q3,q4⟩:=lu hl h3
   rw[Cu k j _ (hl.drop _) (by simp;omega) (by simp;omega)]
  .rw[E4 (by simpa using h3),E4 (by simpa using h3)]
theorem dx(c:yP l):bT l=if l.head?=aw 34 then ([],1,0) else if (ax l).2.2≠0 then aJ (ax l).2.2 else
  if (bT (l.drop (ax l).2.1)).2.2≠0 then aJ (bT (l.drop (ax l).2.1)).2.2 else
  ((ax l).1++(bT (l.drop (ax l).2.1)).1,(ax l).2.1+(bT (l.drop (ax l).2.1)).2.1,0):=by
 unfold bT;rw[o8];split
 .rfl
 by_cases b:(ax l).2.2=0
 .obtain⟨_,_,_,i,j⟩:=lu c b
  rw[Cu l.length ((l.drop (ax l).2.1).length+1) _ (c.drop _) (by simp;omega) (by simp)]
 .rw[E4 (by simpa using b),E4 (by simpa using b)]
def ig(pre:List Nat)(k:Nat)(q:qD):qD:=if q.2.2≠0 then aJ q.2.2 else (pre++q.1,k+q.2.1,0)
def aW:List Nat->qD
 |[]=>aJ 2
 |c::r=>if c≠34 then aJ 3 else ig [] 1 (bT r)
theorem D7{e:Nat}:ig pre k (aJ e)=if e≠0 then aJ e else (pre,k,0):=by simp[ig,aJ]
theorem D8(a:yP l)(h:l.head?=aw 34):ig pre k (bT l)=(pre,k+1,0):=by
 rw[dx a,E4 h];simp[ig]
theorem D9(b:yP l)(h:l.head?≠aw 34)(a:(ax l).2.2≠0):ig pre k (bT l)=aJ (ax l).2.2:=by
 rw[dx b,E6 h,E4 a,D7,E4 a]
theorem BN(f:yP l)(h:l.head?≠aw 34)(b:(ax l).2.2=0) :
  ig pre k (bT l)=ig (pre++(ax l).1) (k+(ax l).2.1) (bT (l.drop (ax l).2.1)):=by
 rw[dx f,E6 h,E6 (by simp[b])]
 by_cases a:(bT (l.drop (ax l).2.1)).2.2=0
 .rw[E6 (by simp[a])];simp[ig,a,kO]
 .rw[E4 a,D7,E4 a];simp[ig,a]
def npc(l:Bs):Bool×Bs×Bs×Bs×Bs×Bs:=
 let a:=l.drop (nC l)
 let b:=a.drop (fH a)
 let c:=b.drop (dm b)
 (decide (nC l=1),a.take (fH a),(b.take (dm b)).drop 1,c.take 1,(c.drop 1).take (oN (c.drop 1)),(c.drop 1).drop (oN (c.drop 1)))
def decR(l:Bs):(Bool×Bs×Int)×Int:=
 if dB l=l.length/\l≠[] then iJ (npc l).1 (npc l).2.1 (npc l).2.2.1 (qJ (npc l).2.2.2.2.1 (npc l).2.2.2.2.2) else ((false,[],0),3)
def OC(l:Bs):Int:=(decR l).2
section
variable {l:Bs} {neg:Bool} {ip fr mk sg pw:Bs}
theorem bI.sgEq(h:bI l neg ip fr mk sg pw)(b:pw≠[]):oN (sg++pw)=sg.length:=by
 rcases h.exp with ⟨rfl,rfl,rfl⟩|⟨i,f,-⟩
 .exact absurd rfl b
 .rcases f with rfl|rfl|rfl
  .cases pw with
   |nil=>exact absurd rfl b
   |cons c p=>
    have a:=sS h.dpw (c:=c) rfl;rw[cM,oN,E6]
    .rfl
    .intro e
     rcases e with rfl|rfl<;>revert a<;>decide
  .rfl
  .rfl
theorem bI.frac(h:bI l neg ip fr mk sg pw):dm ((if fr=[] then [] else 46::fr)++(mk++(sg++pw)))=(if fr=[] then ([]:Bs) else 46::fr).length:=by
 have i:=fun c=>h.pow_head (c:=c);generalize mk++(sg++pw)=r at i ⊢
 by_cases b:fr=[]
 .rw[E4 b,cM]
  cases r with
  |nil=>rfl
  |cons c r=>rw[dm,E6];(· rfl);intro e;exact (i c rfl).2 e.1
 .rw[E6 b,cf]
  have j:bN (fr++r)=fr.length:=by rw[sJ _ _ h.dfr,yI r (fun c hc=>(i c hc).1)];rfl
  rw[dm,j,E4 ⟨rfl,qR b⟩,bc];omega
theorem bI.npc(h:bI l neg ip fr mk sg pw):npc l=(neg,ip,fr,mk,sg,pw):=by
 have u:=h.mn;have hi:=h.int;have B:=h.frac;have D:=h.sgEq;have A:=h.exp;unfold Go.Proofs.YtgmpmolfcaihfaaGreatDoor.npc;simp only;rw[u.2,hi,gR,fl,B,gR,fl,u.1];have x:decide ((if neg=true then 1 else 0:Nat)=1)=neg:=by cases neg<;>rfl
 have z:(if fr=[] then ([]:Bs) else 46::fr).drop 1=fr:=by
  by_cases b:fr=[]
  .rw[E4 b,b];rfl
  .rw[E6 b];rfl
 rw[x,z];rcases A with ⟨rfl,rfl,rfl⟩|⟨j,-,C⟩
 .rfl
 .have Aa:mk.length=1:=by rcases j with rfl|rfl<;>rfl
  have e1:(mk++(sg++pw)).take 1=mk:=by rw[<-Aa,fl]
  have v:(mk++(sg++pw)).drop 1=sg++pw:=by rw[<-Aa,gR]
  rw[e1,v,D C,fl,gR]
theorem bI.decR(h:bI l neg ip fr mk sg pw):decR l=iJ neg ip fr (qJ sg pw):=by
 unfold Go.Proofs.YtgmpmolfcaihfaaGreatDoor.decR;rw[E4 h.scan,h.npc]
end
inductive LR where
 |tok (kind size:Nat):LR
 |bad (off:Nat) (err:Int):LR
def nb(l:Bs):List Nat:=l.map UInt8.toNat
theorem gN(l:Bs):yP (nb l):=by
 intro x a;obtain⟨c,_,rfl⟩:=j8.1 a;exact c.toNat_lt
theorem kr(l:Bs):(nb l).length=l.length:=cW ..
def gm:Bs:=[32,9,13]
def aN(c:UInt8):Bool:=gm.contains c
def lC(c:UInt8):Bool:=decide (65<=c.toNat/\c.toNat<=90) || (decide (97<=c.toNat/\c.toNat<=122) || decide (c.toNat=95))
def Ky(c:UInt8):Bool:=lC c || dg c
def uF:Bs->Nat
 |[]=>0
 |c::l=>if Ky c then uF l+1 else 0
def cO:Bs->Nat
 |[]=>0
 |c::l=>if c=10 then 0 else cO l+1
def CO(l:Bs):Option (Nat×Int):=
 match (scan (nb l) 0).1.find? (fun x=>decide (x.2<32)&&x.2 != 9) with
 |some x=>aw (x.1,3)
 | aq=>match (scan (nb l) 0).2 with
  |some a=>aw (a,7)
  |none=>aq
def gp(l:Bs)(kind:Nat):LR:=match CO l with
 |some x=>.bad x.1 x.2
 |none=>.tok kind l.length
def iy(l:Bs):Bs:=iu (l.take (cO l)) gm
def gP:Bs->Option Nat
 |[]=>aq
 |c::l=>if c=42/\l.head?=aw 47 then aw 0 else (gP l).map (·+1)
def eT(l:Bs):LR:=match gP (l.drop 2) with
 |none=>.bad 0 2
 |some n=>if (l.take (n+2)).contains 10 then .bad 0 2 else gp (l.take (n+4)) 7
def mq:List Bs:=[[61,61],[33,61],[60,61],[62,61],[38,38],[124,124]]
def qa:Bs:=[61,60,62,43,45,42,47,37,33,63,58,44,46,40,41,91,93,123,125]
def CU(l:Bs):Nat:=if mq.any (fun d=>d.isPrefixOf l) then 2 else match l with
 |[]=>0
 |c::_=>if qa.contains c then 1 else 0
def nA(l:Bs):LR:=if OC (l.take (dB l))=0 then .tok 2 (dB l) else .bad 0 (OC (l.take (dB l)))
def oG(l:Bs):LR:=if (aW (nb l)).2.2=0 then .tok 3 (aW (nb l)).2.1 else .bad 0 ((aW (nb l)).2.2:Nat)
def dY:Bs->LR
 |[]=>.bad 0 3
 |c::r=>
  if lC c then .tok 1 (1+uF r)
  else if dg c then nA (c::r)
  else if c=34 then oG (c::r)
  else if c=10 then .tok 5 1
  else if c=35\/(c=47/\r.head?=aw 47) then gp (iy (c::r)) 6
  else if c=47/\r.head?=aw 42 then eT (c::r)
  else if CU (c::r)=0 then .bad 0 3 else .tok 4 (CU (c::r))
theorem Kw:∀l:Bs,uF l<=l.length
 |[]=>cA _
 |c::l=>by have:=Kw l;simp only[uF,bc];split<;>omega
theorem sw:∀l:Bs,cO l<=l.length
 |[]=>cA _
 |c::l=>by have:=sw l;simp only[cO,bc];split<;>omega
theorem oZ:∀(l:Bs) (n:Nat),gP l=aw n->n+2<=l.length
 |[],n,h=>by simp[gP] at h
 | c::l,n,h=>by
  rw[gP] at h;split at h
  .next hc=>
   cases h
   cases l with
   |nil=>simp at hc
   |cons d l=>simp
  .obtain⟨m,hm,rfl⟩:=eH.1 h
   have:=oZ l m hm;simp only[bc];omega
theorem rR(l:Bs):dB l<=l.length:=by
 have hi:∀l:Bs,fH l<=l.length:=by
  intro l
  cases l with
  |nil=>exact cA _
  |cons c l=>rw[fH];split;(· simp);(· exact mE _)
 have j:∀l:Bs,dm l<=l.length:=by
  intro l
  cases l with
  |nil=>exact cA _
  |cons c l=>rw[dm];have:=mE l;split<;>simp;omega
 have n:∀l:Bs,oN l<=l.length:=by
  intro l
  cases l with
  |nil=>exact cA _
  |cons c l=>rw[oN];split<;>simp
 have k:∀l:Bs,jl l<=l.length:=by
  intro l
  cases l with
  |nil=>exact cA _
  |cons c l=>
   rw[jl];have b:=mE (l.drop (oN l));have d:=n l;rw[bm] at b;split
   .simp only[bc];omega
   .exact ck _
 have q:nC l<=l.length:=by
  cases l with
  |nil=>exact cA _
  |cons c l=>rw[nC];split<;>simp
 rw[dB];split
 .exact ck _
 .have b:=hi (l.drop (nC l))
  have d:=j (l.drop (nC l+fH (l.drop (nC l))));have g:=k ((l.drop (nC l+fH (l.drop (nC l)))).drop (dm (l.drop (nC l+fH (l.drop (nC l))))));rw[gX];simp only[bm] at b d g;omega
theorem Ni{r:Bs}(h:dg c=true):1<=dB (c::r):=by
 have b:nC (c::r)=0:=by
  rw[nC,E6];rintro rfl
  revert h;decide
 have hi:fH (c::r)≠0:=by
  rw[fH];split
  .decide
  .rw[bN,E4 h];omega
 rw[dB,b,dd,E6 hi];omega
theorem Ct:∀(k:Nat) (l:List Nat),yP l->(o8 k l).2.2=0->1<=(o8 k l).2.1/\(o8 k l).2.1<=l.length
 |0,l,_,h=>by simp[o8,aJ] at h
 | k+1,l,hl,h=>by
  rw[o8] at h ⊢;split at h
  .next hq=>
   rw[E4 hq]
   cases l with
   |nil=>simp at hq
   |cons c l=>simp
  .next hq=>
   rw[E6 hq];split at h
   .next hp=>exact absurd h hp
   .next hp=>
    rw[E6 hp];have hp0:(ax l).2.2=0:=by simpa using hp
    obtain⟨c,-,-,f,i⟩:=lu hl hp0;split at h
    .next b=>exact absurd h b
    .next b=>
     rw[E6 b];have:=Ct k (l.drop (ax l).2.1) (hl.drop _) (by simpa using b);simp only[bm] at this;simp only;omega
theorem kg(i:yP l)(h:(aW l).2.2=0):2<=(aW l).2.1/\(aW l).2.1<=l.length:=by
 cases l with
 |nil=>simp[aW,aJ] at h
 |cons c r=>
  rw[aW] at h ⊢;split at h
  .simp[aJ] at h
  .next f=>
   rw[E6 f];unfold ig at h ⊢;split at h
   .next b=>exact absurd h b
   .next b=>
    rw[E6 b];have:=Ct _ r (i.drop 1) (by simpa [bT] using b);simp only[bT,bc];omega
theorem wL(l:Bs):(iy l).length<=l.length:=by
 unfold iy iu;rw[o0];refine dy (rS _).length_le ?_;rw[o0,c8];omega
theorem PP{r:Bs}(f:c≠10)(i:aN c=false):1<=(iy (c::r)).length:=by
 unfold iy iu;rw[o0,cO,E6 f,cN,List.reverse_cons];generalize (r.take (cO r)).reverse=q
 induction q with
 |nil=>
  rw[cM,List.dropWhile_cons_of_neg (by rw[show gm.contains c=false from i];simp)];simp
 |cons a q ih=>
  rw[cf,List.dropWhile_cons];split
  .exact ih
  .simp
theorem Us(l:Bs):CU l<=l.length:=by
 unfold CU;split
 .next h=>
  obtain⟨d,b,c⟩:=List.any_eq_true.1 h
  have f:d.length=2:=by
   simp only[mq,cL,fW,or_false] at b;rcases b with rfl|rfl|rfl|rfl|rfl|rfl<;>rfl
  have:=(List.isPrefixOf_iff_prefix.1 c).length_le;omega
 .split
  .exact ck _
  .split
   .simp
   .exact ck _
theorem dC{l:Bs}(h:dY l=.tok k n):1<=n/\n<=l.length:=by
 cases l with
 |nil=>cases h
 |cons c r=>
  rw[dY] at h;split at h
  .cases h
   have:=Kw r;simp only[bc];omega
  split at h
  .next f=>
   unfold nA at h;split at h
   .cases h;exact⟨Ni f,rR _⟩
   .cases h
  split at h
  .unfold oG at h
   split at h
   .next o=>
    cases h
    have:=kg (gN (c::r)) o;rw[kr] at this;omega
   .cases h
  split at h
  .cases h;simp
  split at h
  .next b u=>
   unfold gp at h;split at h
   .cases h
   .cases h
    refine⟨PP b ?_,wL _⟩;rcases u with rfl|⟨rfl,-⟩<;>rfl
  split at h
  .unfold eT at h
   split at h
   .cases h
   .next n j=>
    have:=oZ _ _ j;split at h
    .cases h
    .unfold gp at h
     split at h
     .cases h
     .cases h
      simp only[c8,bm,bc] at this ⊢;omega
  split at h
  .cases h
  .cases h
   exact⟨by omega,Us _⟩
structure ae where
 kind:Int
 text:E7
 pos:Int
def BJ:Nat->Bs->Nat->List ae×Int×Int
 |0,_,_=>([],-1,0)
 |_+1,[],_=>([],-1,0)
 | n+1,c::r,p=>if aN c then BJ n r (p+1) else match dY (c::r) with
  |.bad off e=>([],((p+off:Nat):Int),e)
  |.tok k sz=>(⟨(k:Nat),au ((c::r).take sz),(p:Nat)⟩::(BJ n ((c::r).drop sz) (p+sz)).1,(BJ n ((c::r).drop sz) (p+sz)).2)
theorem yB:∀(n m:Nat) (l:Bs) (p:Nat),l.length<=n->l.length<=m->BJ n l p=BJ m l p
 | 0,m,l,p,h,_=>by
  obtain rfl:=cC (pj.1 h);cases m<;>rfl
 | n+1,0,l,p,_,h=>by
  obtain rfl:=cC (pj.1 h);rfl
 |n+1,m+1,[],p,_,_=>rfl
 | n+1,m+1,c::r,p,hn,hm=>by
  simp only[bc] at hn hm;rw[BJ,BJ];split
  .exact yB n m r _ (by omega) (by omega)
  .cases ho:dY (c::r) with
   |bad off e=>rfl
   |tok k sz=>
    have hs:=dC ho;simp only;rw[yB n m _ _ (by rw[bm,bc];omega) (by rw[bm,bc];omega)]
def aC(l:Bs)(p:Nat):List ae×Int×Int:=BJ l.length l p
theorem dM(p:Nat):aC [] p=([],-1,0):=rfl
theorem bV{r:Bs}(h:aN c=true)(p:Nat):aC (c::r) p=aC r (p+1):=by
 unfold aC;rw[bc,BJ,E4 h]
theorem fw{r:Bs}(h:aN c=false)(a:dY (c::r)=.bad off e)(p:Nat):aC (c::r) p=([],((p+off:Nat):Int),e):=by
 unfold aC;rw[bc,BJ,E6 (by rw[h];simp),a]
theorem dE{r:Bs}(h:aN c=false){sz:Nat}(b:dY (c::r)=.tok k sz)(p:Nat) :
  aC (c::r) p=(⟨(k:Nat),au ((c::r).take sz),(p:Nat)⟩::(aC ((c::r).drop sz) (p+sz)).1,(aC ((c::r).drop sz) (p+sz)).2):=by
 have f:=dC b;unfold aC;rw[bc,BJ,E6 (by rw[h];simp),b];simp only;rw[yB r.length ((c::r).drop sz).length _ _ (by rw[bm,bc];omega) lz]
theorem oh:∀(k:Nat) (l:Bs) (p:Nat),l.length<=k->(aC l p).1.length<=l.length
 | 0,l,p,h=>by
  obtain rfl:=cC (pj.1 h);exact cA _
 |k+1,[],p,_=>cA _
 | k+1,c::r,p,h=>by
  simp only[bc] at h
  by_cases hb:aN c=true
  .rw[bV hb]
   have:=oh k r (p+1) (by omega);simp only[bc];omega
  .have hb':aN c=false:=by simpa using hb
   cases ho:dY (c::r) with
   |bad off e=>rw[fw hb' ho];simp
   |tok kd sz=>
    rw[dE hb' ho];have i:=dC ho;have:=oh k ((c::r).drop sz) (p+sz) (by rw[bm,bc];omega);rw[bm] at this;simp only[bc] at this i ⊢;omega
inductive iA where
 |mk (op text:E7) (kids:List iA):iA
def iA.kids:iA->List iA
 |.mk _ _ k=>k
def bf:iA:=.mk ⟨#[]⟩ ⟨#[]⟩ []
def yX:List (Bs×Int):=[([63],0),([124,124],1),([38,38],2),([61,61],3),([33,61],3),([60],4),([62],4),([60,61],4),([62,61],4),([43],5),([45],5),([42],6),([47],6),([37],6),([33],7),([110,101,103],7),
 ([103,101,116],8),([97,116],8),([110,97,109,101],8),([99,97,108,108],8),([110,117,109],8),([116,101,120,116],8),([108,105,115,116],8)]
def Ik(s:E7):Int:=match yX.find? (fun x=>x.1==s.data.toList) with
 |some x=>x.2
 |none=>-1
def cu(r:List ae)(w:E7):Bool:=match r with
 |[]=>false
 |t::_=>decide (t.kind=4)&&decide (t.text=w)
def LZ(r:List ae)(lv:Nat):Option E7:=match r with
 |[]=>aq
 |t::_=>if t.kind=4/\Ik t.text=lv then aw t.text else aq
abbrev gq:=iA×Nat×Int
def dJ(r:List ae)(n:Nat):gq:=if r=[] then (bf,n,2) else (bf,n,3)
def eZ(n:Nat)(g:gq):gq:=(g.1,n+g.2.1,g.2.2)
def lm(s:E7):Option E7:=
 if (aW (nb s.data.toList)).2.2=0/\(aW (nb s.data.toList)).2.1=s.size then aw (au ((aW (nb s.data.toList)).1.map ep)) else aq
inductive Nt where
 |choice:Nt
 |term (lv:Nat):Nt
 |tloop (lv:Nat) (a:iA):Nt
 |tight:Nt
 |post:Nt
 |ploop (a:iA):Nt
 |prime:Nt
 |many (shut:E7):Nt
 |mloop (shut:E7) (l:List iA):Nt
abbrev sQ:E7:=⟨#[63]⟩
abbrev RU:E7:=⟨#[58]⟩
abbrev dQ:E7:=⟨#[33]⟩
abbrev kZ:E7:=⟨#[45]⟩
abbrev uE:E7:=⟨#[46]⟩
abbrev lh:E7:=⟨#[44]⟩
abbrev EO:E7:=⟨#[40]⟩
abbrev tF:E7:=⟨#[41]⟩
abbrev EP:E7:=⟨#[91]⟩
abbrev rT:E7:=⟨#[93]⟩
abbrev sj:E7:=⟨#[110,101,103]⟩
abbrev qh:E7:=⟨#[103,101,116]⟩
abbrev zu:E7:=⟨#[97,116]⟩
abbrev uS:E7:=⟨#[110,97,109,101]⟩
abbrev mJ:E7:=⟨#[99,97,108,108]⟩
abbrev Da:E7:=⟨#[110,117,109]⟩
abbrev si:E7:=⟨#[116,101,120,116]⟩
abbrev mI:E7:=⟨#[108,105,115,116]⟩
abbrev jO:E7:=⟨#[]⟩
def ow(n:Nat):gq:=(bf,n,5)
def jr(g:gq)(f:iA->Nat->gq):gq:=if g.2.2=0 then f g.1 g.2.1 else (bf,g.2)
def ah:Nat->Nt->List ae->Nat->gq
 |0,_,_,_=>(bf,0,-1)
 |n+1,.choice,r,d=>jr (ah n (.term 1) r d) fun a k=>
   if cu (r.drop k) sQ=false then (a,k,0) else if 64<=d then ow k else
   jr (eZ (k+1) (ah n .choice (r.drop (k+1)) (d+1))) fun b k2=>
   if cu (r.drop k2) RU=false then dJ (r.drop k2) k2 else
   jr (eZ (k2+1) (ah n .choice (r.drop (k2+1)) (d+1))) fun c k3=>(.mk sQ jO [a,b,c],k3,0)
 | n+1,.term lv,r,d=>if 7<=lv then ah n .tight r d else
   jr (ah n (.term (lv+1)) r d) fun a k=>eZ k (ah n (.tloop lv a) (r.drop k) d)
 | n+1,.tloop lv a,r,d=>match LZ r lv with
   |none=>(a,0,0)
   |some o=>jr (eZ 1 (ah n (.term (lv+1)) (r.drop 1) d)) fun b k=>eZ k (ah n (.tloop lv (.mk o jO [a,b])) (r.drop k) d)
 | n+1,.tight,r,d=>if cu r dQ=false/\cu r kZ=false then ah n .post r d else if 64<=d then ow 0 else
   jr (eZ 1 (ah n .tight (r.drop 1) (d+1))) fun a k=>(.mk (if cu r dQ then dQ else sj) jO [a],k,0)
 |n+1,.post,r,d=>jr (ah n .prime r d) fun a k=>eZ k (ah n (.ploop a) (r.drop k) d)
 |n+1,.ploop a,r,d=>
   if cu r uE then match r.drop 1 with
    |[]=>dJ [] 1
    |t::_=>if t.kind=1 then eZ 2 (ah n (.ploop (.mk qh t.text [a])) (r.drop 2) d) else dJ (r.drop 1) 1
   else if cu r EP then (if 64<=d then ow 0 else
    jr (eZ 1 (ah n .choice (r.drop 1) (d+1))) fun b k=>if cu (r.drop k) rT=false then dJ (r.drop k) k else eZ (k+1) (ah n (.ploop (.mk zu jO [a,b])) (r.drop (k+1)) d))
   else (a,0,0)
 | n+1,.prime,r,d=>match r with
   |[]=>dJ [] 0
   |t::r'=>
    if t.kind=1 then (if cu r' EO then jr (eZ 1 (ah n (.many tF) r' d)) fun x k=>(.mk mJ t.text x.kids,k,0) else (.mk uS t.text [],1,0))
    else if t.kind=2 then (.mk Da t.text [],1,0)
    else if t.kind=3 then (match lm t.text with|none=>(bf,0,3)|some s=>(.mk si s [],1,0))
    else if cu r EP then jr (ah n (.many rT) r d) fun x k=>(.mk mI jO x.kids,k,0)
    else if cu r EO then (if 64<=d then ow 0 else jr (eZ 1 (ah n .choice r' (d+1))) fun a k=>if cu (r.drop k) tF=false then dJ (r.drop k) k else (a,k+1,0))
    else dJ r 0
 |n+1,.many s,r,d=>if 64<=d then ow 0 else if cu (r.drop 1) s then (.mk jO jO [],2,0) else eZ 1 (ah n (.mloop s []) (r.drop 1) d)
 |n+1,.mloop s l,r,d=>jr (ah n .choice r (d+1)) fun a k=>
   if cu (r.drop k) lh then eZ (k+1) (ah n (.mloop s (l++[a])) (r.drop (k+1)) d) else if cu (r.drop k) s then (.mk jO jO (l++[a]),k+1,0) else dJ (r.drop k) k
def Nt.rank:Nt->Nat
 |.choice=>14
 |.term lv=>13-lv
 |.tloop _ _=>2
 |.tight=>5
 |.post=>4
 |.ploop _=>2
 |.prime=>3
 |.many _=>2
 |.mloop _ _=>15
def je(t:Nt)(r:List ae):Nat:=r.length*16+t.rank
theorem cB{g:gq}{f:iA->Nat->gq}(h:g.2.2=0):jr g f=f g.1 g.2.1:=by rw[jr,E4 h]
theorem bA{g:gq}{f:iA->Nat->gq}(h:g.2.2≠0):jr g f=(bf,g.2):=by rw[jr,E6 h]
def l5(m:Nat)(r:List ae)(g:gq):Prop:=g.2.2≠-1/\g.2.1<=r.length/\(g.2.2=0->m<=g.2.1)
theorem l5.and{m2:Nat}{r:List ae}{g:gq}{f:iA->Nat->gq}(h:l5 m r g)(b:g.2.2=0->m<=g.2.1->g.2.1<=r.length->l5 m2 r (f g.1 g.2.1)):l5 m2 r (jr g f):=by
 by_cases a:g.2.2=0
 .rw[cB a];exact b a (h.2.2 a) h.2.1
 .rw[bA a];exact⟨h.1,h.2.1,fun e=>absurd e a⟩
theorem l5.up{r:List ae}{g:gq}(h:l5 m (r.drop n) g)(f:n<=r.length):l5 (n+m) r (eZ n g):=by
 obtain⟨b,c,d⟩:=h;rw[bm] at c;exact⟨b,by simp only[eZ];omega,fun e=>by have:=d e;simp only[eZ];omega⟩
theorem l5.less{m2:Nat}{r:List ae}{g:gq}(h:l5 m r g)(hm:m2<=m):l5 m2 r g:=⟨h.1,h.2.1,fun e=>dy hm (h.2.2 e)⟩
theorem l5.ok{r:List ae}{x:iA}(h1:n<=r.length)(h2:m<=n):l5 m r (x,n,0):=⟨(by decide:(0:Int)≠-1),h1,fun _=>h2⟩
theorem l5.bad{r q:List ae}(a:n<=r.length):l5 m r (dJ q n):=by
 unfold dJ;split
 .exact⟨(by decide:(2:Int)≠-1),a,fun e=>by cases e⟩
 .exact⟨(by decide:(3:Int)≠-1),a,fun e=>by cases e⟩
theorem l5.deep{r:List ae}(hn:n<=r.length):l5 m r (ow n):=⟨(by decide:(5:Int)≠-1),hn,fun e=>by cases e⟩
theorem bW{r:List ae}{w:E7}(h:cu r w=true):1<=r.length:=by cases r with|nil=>cases h|cons t r=>simp
theorem iU{r:List ae}{w:E7}(h:¬cu r w=false):1<=r.length:=bW (by simpa using h)
theorem BR{r:List ae}{lv:Nat}{o:E7}(h:LZ r lv=aw o):1<=r.length:=by cases r with|nil=>cases h|cons t r=>simp
theorem fE{r:List ae}(h:1<=(r.drop k).length):k+1<=r.length:=by rw[bm] at h;omega
def Nt.okX:Nt->List ae->Prop
 |.term lv,_=>lv<=7
 |.tloop lv _,_=>lv<=6
 |.many _,r=>1<=r.length
 |_,_=>True
def Nt.least:Nt->Nat
 |.tloop _ _=>0
 |.ploop _=>0
 |_=>1
theorem qd:∀(n:Nat) (t:Nt) (r:List ae) (d:Nat),je t r<=n->t.okX r->l5 t.least r (ah n t r d):=by
 intro n
 induction n with
 |zero=>
  intro t r d h x;exfalso
  unfold je at h
  cases t with
  |term lv=>simp only[Nt.rank] at h;simp only[Nt.okX] at x;omega
  |_=>simp only[Nt.rank] at h;omega
 |succ n ih=>
  intro t r d h x;unfold je at h;have f:∀(t:Nt) (r:List ae) (d:Nat),r.length*16+t.rank<=n->t.okX r->l5 t.least r (ah n t r d):=fun t r d h=>ih t r d h;clear ih
  cases t with
  |choice=>
   simp only[Nt.rank] at h;rw[ah];refine (f (.term 1) r d (by simp only[Nt.rank];omega) (by simp only[Nt.okX];omega)).and fun _ h1 h2=>?_;simp only[Nt.least] at h1 ⊢;split
   .exact (.ok (h2) (h1))
   .next B=>
    have B:=fE (iU B);split
    .exact .deep h2
    .refine ((f .choice (r.drop _) (d+1) (by simp only[Nt.rank,bm];omega) (by simp only[Nt.okX];try omega)).up B).and fun _ h3 h4=>?_
     simp only[Nt.least] at h3;split
     .exact .bad h4
     .next C=>
      have C:=fE (iU C);refine ((f .choice (r.drop _) (d+1) (by simp only[Nt.rank,bm];omega) (by simp only[Nt.okX];try omega)).up C).and fun _ h5 h6=>?_;exact (.ok (h6) (by simp only[Nt.least] at *;omega))
  |term lv=>
   simp only[Nt.rank] at h;simp only[Nt.okX] at x;rw[ah];split
   .exact f .tight r d (by simp only[Nt.rank];omega) (by simp only[Nt.okX];try omega)
   .refine (f (.term (lv+1)) r d (by simp only[Nt.rank];omega) (by simp only[Nt.okX];omega)).and fun _ h1 h2=>?_
    simp only[Nt.least] at h1;exact ((f (.tloop lv _) (r.drop _) d (by simp only[Nt.rank,bm];omega) (by simp only[Nt.okX];try omega)).up h2).less (by simp only[Nt.least];omega)
  |tloop lv a=>
   simp only[Nt.rank] at h;rw[ah];split
   .exact (.ok (ck _) (ck _))
   .next o D=>
    have j:=BR D;refine ((f (.term (lv+1)) (r.drop 1) d (by simp only[Nt.rank,bm];omega) (by simp only[Nt.okX] at x ⊢;omega)).up j).and fun _ h1 h2=>?_;simp only[Nt.least] at h1;exact ((f (.tloop lv _) (r.drop _) d (by simp only[Nt.rank,bm];omega) x).up h2).less (ck _)
  |tight=>
   simp only[Nt.rank] at h;rw[ah];split
   .exact f .post r d (by simp only[Nt.rank];omega) (by simp only[Nt.okX];try omega)
   .next i=>
    have j:1<=r.length:=by
     by_cases h1:cu r dQ=false
     .exact iU (w:=kZ) (fun h2=>i ⟨h1,h2⟩)
     .exact iU h1
    split
    .exact .deep (ck _)
    .refine ((f .tight (r.drop 1) (d+1) (by simp only[Nt.rank,bm];omega) (by simp only[Nt.okX];try omega)).up j).and fun _ h1 h2=>?_
     exact (.ok (h2) (by simp only[Nt.least] at *;omega))
  |post=>
   simp only[Nt.rank] at h;rw[ah];refine (f .prime r d (by simp only[Nt.rank];omega) (by simp only[Nt.okX];try omega)).and fun _ h1 h2=>?_;simp only[Nt.least] at h1;exact ((f (.ploop _) (r.drop _) d (by simp only[Nt.rank,bm];omega) (by simp only[Nt.okX];try omega)).up h2).less (by simp only[Nt.least];omega)
  |ploop a=>
   simp only[Nt.rank] at h;rw[ah];split
   .next i=>
    have j:=bW i;split
    .exact .bad j
    .next t q B=>
     have Aa:2<=r.length:=by have:=congrArg fh B;simp at this;omega
     split
     .exact ((f (.ploop _) (r.drop 2) d (by simp only[Nt.rank,bm];omega) (by simp only[Nt.okX];try omega)).up Aa).less (ck _)
     .exact .bad j
   .split
    .next i=>
     have j:=bW i;split
     .exact .deep (ck _)
     .refine ((f .choice (r.drop 1) (d+1) (by simp only[Nt.rank,bm];omega) (by simp only[Nt.okX];try omega)).up j).and fun _ h1 h2=>?_
      simp only[Nt.least] at h1;split
      .exact .bad h2
      .next A=>
       have A:=fE (iU A);exact ((f (.ploop _) (r.drop _) d (by simp only[Nt.rank,bm];omega) (by simp only[Nt.okX];try omega)).up A).less (ck _)
    .exact (.ok (ck _) (ck _))
  |prime=>
   simp only[Nt.rank] at h
   cases r with
   |nil=>exact .bad (ck _)
   |cons t r'=>
    simp only[ah];simp only[bc] at h;split
    .split
     .next i=>
      have:=((f (.many tF) ((t::r').drop 1) d (by simp only[Nt.rank,bm,bc];omega) (bW i)).up (n:=1) (by simp));refine this.and fun _ h1 h2=>?_;exact (.ok (h2) (by simp only[Nt.least] at *;omega))
     .exact (.ok (by simp) lz)
    .split
     .exact (.ok (by simp) lz)
     .split
      .split
       .exact⟨(by decide:(3:Int)≠-1),ck _,fun e=>by cases e⟩
       .exact (.ok (by simp) lz)
      .split
       .refine (f (.many rT) (t::r') d (by simp only[Nt.rank,bc];omega) (by simp[Nt.okX])).and fun _ h1 h2=>?_
        exact (.ok (h2) (h1))
       .split
        .split
         .exact .deep (ck _)
         .refine ((f .choice ((t::r').drop 1) (d+1) (by simp only[Nt.rank,bm,bc];omega) (by simp only[Nt.okX];try omega)).up (n:=1) (by simp)).and fun _ h1 h2=>?_
          simp only[Nt.least] at h1;split
          .exact .bad h2
          .next A=>exact (.ok (fE (iU A)) (by simp only[Nt.least] at *;omega))
        .exact .bad (ck _)
  |many s=>
   simp only[Nt.rank] at h;have j:1<=r.length:=x;rw[ah];split
   .exact .deep (ck _)
   .split
    .next i=>exact (.ok (fE (bW i)) (by simp only[Nt.least] at *;omega))
    .exact ((f (.mloop s []) (r.drop 1) d (by simp only[Nt.rank,bm];omega) (by simp only[Nt.okX];try omega)).up j).less (by simp only[Nt.least];omega)
  |mloop s l=>
   simp only[Nt.rank] at h;rw[ah];refine (f .choice r (d+1) (by simp only[Nt.rank];omega) (by simp only[Nt.okX];try omega)).and fun _ h1 h2=>?_;simp only[Nt.least] at h1;split
   .next i=>
    have i:=fE (bW i);exact ((f (.mloop s _) (r.drop _) d (by simp only[Nt.rank,bm];omega) (by simp only[Nt.okX];try omega)).up i).less (by simp only[Nt.least];omega)
   .split
    .next i=>exact (.ok (fE (bW i)) (by simp only[Nt.least] at *;omega))
    .exact .bad h2
theorem Aa:∀(k n:Nat) (l m:List Nat),(ji k n l).2=0->ji k n (l.take k++m)=ji k n l
 |0,_,_,_,_=>by simp[ji]
 |_+1,_,[],_,h=>by simp[ji] at h
 | k+1,n,c::r,m,h=>by
  simp only[ji,cN,cf] at h ⊢
  cases hc:pu c with
  |none=>simp[hc] at h
  |some d=>
   rw[hc] at h;simp only at h ⊢;exact Aa k _ r m h
theorem vv(h:(aQ l).2=0)(m:List Nat):aQ (l.take 4++m)=aQ l:=Aa 4 0 l m h
theorem N7(h:(jV n l).2.2=0)(m:List Nat):jV n (l.take 6++m)=jV n l:=by
 match l with
 |[]=>simp[jV,aJ] at h
 |[c]=>by_cases b:c=92<;>simp[jV,aJ,b] at h
 |c::d::u=>
  by_cases b:c=92
  .by_cases f:d=117
   .have j:(aQ u).2=0:=by
     unfold jV at h;simp only at h;rw[E6 (by simp[b]),E6 (by simp[f])] at h
     by_cases i:(aQ u).2=0
     .exact i
     .rw[E4 (by simpa using i)] at h;exact absurd h i
    have k:=vv j m;subst b;subst f;simp only[cN,cf,jV,k]
   .unfold jV at h;simp only at h;rw[E6 (by simp[b]),E4 (by simpa using f)] at h;simp[aJ] at h
  .unfold jV at h;simp only at h;rw[E4 (by simpa using b)] at h;simp[aJ] at h
theorem I7{r:List Nat}(h:(aU r).2.2=0)(m:List Nat):aU (r.take ((aU r).2.1-2)++m)=aU r:=by
 have Ab:=Em h
 have f:(aQ r).2=0:=by
  unfold aU at h
  by_cases f:(aQ r).2=0
  .exact f
  .rw[E4 (by simpa using f)] at h;exact absurd h f
 have A:=kF f;unfold aU at h ⊢;rw[E6 (by simp[f])] at h
 by_cases i:56320<=(aQ r).1/\(aQ r).1<=57343
 .rw[E4 i] at h;simp[aJ] at h
 rw[E6 i] at h
 by_cases j:(aQ r).1<55296\/57343<(aQ r).1
 .have k:aQ (r.take 4++m)=aQ r:=vv f m
  simp only[E6 (show ¬(aQ r).2≠0 by simp[f]),E6 i,E4 j];simp only[show 6-2=4 from rfl,k];simp only[E6 (show ¬(aQ r).2≠0 by simp[f]),E6 i,E4 j]
 .rw[E6 j] at h
  obtain⟨_,_,_,Aa,o⟩:=wY (by omega) h;have z:10<=r.length:=by simp at o;omega
  have k:aQ (r.take 10++m)=aQ r:=by
   have:=vv f ((r.take 10).drop 4++m);rw[<-this]
   congr 1
   rw[<-ef]
   congr 1
   conv=>lhs;rw[<-el 4 (r.take 10)]
   rw[mz];rfl
  have x:(r.take 10++m).drop 4=(r.drop 4).take 6++m:=by
   rw[eo (by simp;omega),gO]
  simp only[E6 (show ¬(aQ r).2≠0 by simp[f]),E6 i,E6 j,Aa];simp only[show 12-2=10 from rfl,k];simp only[E6 (show ¬(aQ r).2≠0 by simp[f]),E6 i,E6 j,x];exact N7 h m
theorem J8(c:Nat)(r:List Nat):ax (c::r)=if c<32 then aJ 3 else if c=92 then ou r else if (aG (c::r)).2=0 then aJ 7 else ((c::r).take (aG (c::r)).2,(aG (c::r)).2,0):=rfl
theorem J7(I:yP l)(h:(ax l).2.2=0)(m:List Nat):ax (l.take (ax l).2.1++m)=ax l:=by
 have Aa:=lu I h
 match l with
 |[]=>simp[ax,aJ] at h
 |c::r=>
  simp only[ax] at h Aa ⊢
  by_cases q:c<32
  .rw[E4 q] at h;simp[aJ] at h
  rw[E6 q] at h Aa ⊢
  by_cases v:c=92
  .rw[E4 v] at h Aa ⊢
   match r with
   |[]=>simp[ou,aJ] at h
   |d::t=>
    simp only[ou] at h Aa ⊢
    cases hd:Cb d with
    |some b=>
     rw[hd] at h Aa;simp only[cN,cf,fz];rw[E6 q,E4 v];simp only[hd]
    |none=>
     rw[hd] at h Aa;simp only at h Aa ⊢
     by_cases i:d=117
     .rw[E4 i] at h Aa ⊢
      have z:=I7 h m
      obtain⟨k,E⟩:∃k,(aU t).2.1=k+2:=by
       have:(aU t).2.1=6\/(aU t).2.1=12:=by
        unfold aU at h ⊢
        by_cases A:(aQ t).2=0
        .rw[E6 (by simp[A])] at h ⊢
         by_cases B:56320<=(aQ t).1/\(aQ t).1<=57343
         .rw[E4 B] at h;simp[aJ] at h
         .rw[E6 B] at h ⊢
          by_cases g2:(aQ t).1<55296\/57343<(aQ t).1
          .rw[E4 g2];exact .inl rfl
          .rw[E6 g2] at h ⊢
           exact .inr (wY (by omega) h).choose_spec.2.2.1
        .rw[E4 (by simpa using A)] at h;exact absurd h A
       rcases this with h|h
       .exact⟨4,h⟩
       .exact⟨10,h⟩
      rw[E] at z;simp only[Nat.add_sub_cancel] at z;rw[E];simp only[cN,cf];rw[E6 q,E4 v];simp only[hd];rw[E4 i,z]
     .rw[E6 i] at h;simp[aJ] at h
  .rw[E6 v] at h Aa ⊢
   by_cases i:(aG (c::r)).2=0
   .rw[E4 i] at h;simp[aJ] at h
   .rw[E6 i] at Aa ⊢
    obtain⟨K,L,M,N⟩:=jU (c:=(aG (c::r)).1) (n:=(aG (c::r)).2) I rfl i
    have F:aG ((c::r).take (aG (c::r)).2++m)=aG (c::r):=by
     have C:=wU K m;rw[show fQ (aG (c::r)).1=(c::r).take (aG (c::r)).2 from M,L] at C;exact C
    simp only;obtain⟨j,H⟩:∃j,(aG (c::r)).2=j+1:=⟨(aG (c::r)).2-1,by omega⟩;have D:(c::r).take (aG (c::r)).2++m=c::(r.take j++m):=by rw[H];simp
    rw[D] at F ⊢;simp only;rw[E6 q,E6 v,F,E6 i]
    congr 1
    rw[<-D];rw[List.take_append_of_le_length (by rw[c8];omega),mz,Nat.min_self]
theorem Cr:∀(k:Nat) (l m:List Nat),l.length<=k->yP l->yP m->(bT l).2.2=0->bT (l.take (bT l).2.1++m)=bT l
 | k,l,m,hk,hl,hm,h=>by
  have hb:∀j,yP (l.take j++m):=fun j x hx=>by
   rcases List.mem_append.1 hx with hx|hx
   .exact hl x (List.mem_of_mem_take hx)
   .exact hm x hx
  by_cases h34:l.head?=aw 34
  .have e:bT l=([],1,0):=by rw[dx hl,E4 h34]
   rw[e];simp only
   cases l with
   |nil=>cases h34
   |cons c r=>
    have q:c=34:=by simpa using h34
    subst q;rw[dx (hb 1),E4 (by simp)]
  .have f:(ax l).2.2=0:=by
    refine eE fun hn=>?_;rw[dx hl,E6 h34,E4 hn] at h;exact hn h
   obtain⟨_,_,_,D,C⟩:=lu hl f
   have i:(bT (l.drop (ax l).2.1)).2.2=0:=by
    refine eE fun hn=>?_;rw[dx hl,E6 h34,E6 (by simp[f]),E4 hn] at h;exact hn h
   have e:bT l=((ax l).1++(bT (l.drop (ax l).2.1)).1,(ax l).2.1+(bT (l.drop (ax l).2.1)).2.1,0):=by
    rw[dx hl,E6 h34,E6 (by simp[f]),E6 (by simp[i])]
   cases k with
   |zero=>omega
   |succ k=>
    have B:=Cr k (l.drop (ax l).2.1) m (by simp;omega) (hl.drop _) hm i;rw[e];simp only
    have Ab:l.take ((ax l).2.1+(bT (l.drop (ax l).2.1)).2.1)++m=l.take (ax l).2.1++((l.drop (ax l).2.1).take (bT (l.drop (ax l).2.1)).2.1++m):=by
     rw[List.take_add,ef]
    have Ac:=J7 hl f ((l.drop (ax l).2.1).take (bT (l.drop (ax l).2.1)).2.1++m);rw[Ab];have Aa:=hb ((ax l).2.1+(bT (l.drop (ax l).2.1)).2.1);rw[Ab] at Aa
    have z:(l.take (ax l).2.1++((l.drop (ax l).2.1).take (bT (l.drop (ax l).2.1)).2.1++m)).head?≠aw 34:=by
     cases l with
     |nil=>simp at C;omega
     |cons c r=>
      obtain⟨j,A⟩:∃j,(ax (c::r)).2.1=j+1:=⟨(ax (c::r)).2.1-1,by omega⟩;rw[A]
      simpa using h34
    rw[dx Aa,E6 z,Ac,E6 (by simp[f])]
    have v:(l.take (ax l).2.1++((l.drop (ax l).2.1).take (bT (l.drop (ax l).2.1)).2.1++m)).drop (ax l).2.1=(l.drop (ax l).2.1).take (bT (l.drop (ax l).2.1)).2.1++m:=by
     rw[eo (by rw[c8];omega),List.drop_eq_nil_of_le (by rw[c8];omega),cM]
    rw[v,B,E6 (by simp[i])]
theorem qH{m:List Nat}(k:yP l)(o:yP m)(h:(aW l).2.2=0):aW (l.take (aW l).2.1++m)=aW l:=by
 cases l with
 |nil=>simp[aW,aJ] at h
 |cons c r=>
  have i:c=34:=by
   refine eE fun hn=>?_;rw[aW,E4 hn] at h;simp[aJ] at h
  have e:aW (c::r)=ig [] 1 (bT r):=by rw[aW,E6 (by simpa using i)]
  have f:(bT r).2.2=0:=by
   refine eE fun hn=>?_;rw[e,ig,E4 hn] at h;exact hn h
  have j:=Cr r.length r m lz (fun x hx=>k x (by simp[hx])) o f;rw[e,ig,E6 (by simp[f])];simp only;rw[eV 1,cN,cf,aW,E6 (by simpa using i),j,ig,E6 (by simp[f])];simp[eV]
theorem PV{l:Bs}(h:dY l=.tok k n)(j:k=3):lm (au (l.take n))≠aq:=by
 subst j
 cases l with
 |nil=>cases h
 |cons c r=>
  rw[dY] at h;split at h
  .simp only[LR.tok.injEq] at h;omega
  split at h
  .unfold nA at h
   split at h
   .simp only[LR.tok.injEq] at h;omega
   .cases h
  split at h
  .unfold oG at h
   split at h
   .next f=>
    simp only[LR.tok.injEq,true_and] at h;subst h;have Ab:=kg (gN (c::r)) f;have i:=qH (m:=[]) (gN (c::r)) (fun x hx=>by cases hx) f;rw[eI] at i;have Aa:nb ((c::r).take (aW (nb (c::r))).2.1)=(nb (c::r)).take (aW (nb (c::r))).2.1:=by unfold nb;rw[List.map_take]
    unfold lm;rw[aV,Aa,i,E4]
    .simp
    .refine⟨f,?_⟩
     rw[ak,aV,c8];rw[kr] at Ab;omega
   .cases h
  split at h
  .simp only[LR.tok.injEq] at h;omega
  split at h
  .unfold gp at h
   split at h
   .cases h
   .simp only[LR.tok.injEq] at h;omega
  split at h
  .unfold eT at h
   split at h
   .cases h
   .split at h
    .cases h
    .unfold gp at h
     split at h
     .cases h
     .simp only[LR.tok.injEq] at h;omega
  split at h
  .cases h
  .simp only[LR.tok.injEq] at h;omega
theorem xm:∀(k:Nat) (l:Bs) (p:Nat),l.length<=k->∀t∈(aC l p).1,t.kind=3->lm t.text≠aq
 |k,[],p,_,t,ht,_=>by rw[dM] at ht;cases ht
 |0,c::l,p,hk,_,_,_=>by simp at hk
 | k+1,c::l,p,hk,t,ht,h3=>by
  simp only[bc] at hk
  cases hb:aN c with
  |true=>
   rw[bV hb] at ht;exact xm k l (p+1) (by omega) t ht h3
  |false=>
   cases ho:dY (c::l) with
   |bad o e=>rw[fw hb ho] at ht;cases ht
   |tok kd sz=>
    have hs:=dC ho;rw[dE hb ho] at ht;rcases cL.1 ht with rfl|ht
    .exact PV ho (by simp only at h3;omega)
    .exact xm k _ _ (by rw[bm,bc];omega) t ht h3
open Go.RowKit Go.Tab
def lM(t:ae):List cq:=[ao ar t.kind,al t.text,ao ar t.pos]
abbrev fo(t:ae):cq:=.agg #[ao ar t.kind,al t.text,ao ar t.pos]
def aS(base:Nat)(w:cd)(v:cq)(l:List ae):Prop:=w.ownsRow base 62 3 v l.length (l.flatMap lM)
theorem aS.nil:aS base w (an aq 0 0) []:=ir _ _ _ _
theorem aS.alloc{l:List ae}(h:aS base w v l)(o:Obj):aS base (w.alloc o) v l:=rI h o
theorem aS.moved{l:List ae}(h:aS base w v l)(o:∀k,v.ownBlock=aw k->w'.heap[k]?=w.heap[k]?):aS base w' v l:=by
 obtain⟨i,b⟩:=h;refine⟨i,?_⟩;rcases b with b|⟨g,cap,a,rfl,f,j,r⟩
 .exact .inl b
 .exact .inr ⟨g,cap,a,rfl,f,by rw[o g rfl];exact j,r⟩
theorem aS.below{l:List ae}(h:aS base w v l)(hb:cj B w w')(hB:w.heap.size<=B):aS base w' v l:=
 h.moved fun k hk=>hb.block k (cT (cy h k hk).2 hB)
theorem aS.base_le{l:List ae}(h:aS base w v l)(o:base'<=base):aS base' w v l:=by
 obtain⟨i,f⟩:=h;refine⟨i,?_⟩;rcases f with f|⟨g,cap,c,k,j,r⟩
 .exact .inl f
 .exact .inr ⟨g,cap,c,k,by omega,r⟩
theorem aS.len{l:List ae}(h:aS base w v l):∃a cap,v=an a l.length cap:=by
 obtain⟨i,c⟩:=h;rcases c with ⟨rfl,f⟩|⟨g,cap,b,rfl,_⟩
 .exact⟨aq,0,by rw[f]⟩
 .exact⟨_,cap,rfl⟩
theorem Tryz.infoTok:(Tryz.prog.info? 62).map (fun i=>(i.zero,i.size,i.bytes))=aw (aw (.agg #[ao ar 0,al ⟨#[]⟩,ao ar 0]),3,32):=by kernel_rfl
theorem Ae(t:ae):∀u∈lM t,u.oneCell'=true:=by
 intro u a;simp only[lM,cL,fW,or_false] at a;rcases a with rfl|rfl|rfl<;>rfl
theorem BV:∀(l:List ae) (j:Nat) (h:j<l.length),(l.flatMap lM)[j*3]?=aw (ao ar l[j].kind)/\(l.flatMap lM)[j*3+1]?=aw (al l[j].text)/\(l.flatMap lM)[j*3+2]?=aw (ao ar l[j].pos)
 |p::l,0,_=>by simp[lM]
 | p::l,j+1,h=>by
  have ih:=BV l j (by simpa using h);have e1:(j+1)*3=j*3+3:=by omega
  rw[e1]
  simpa [lM] using ih
def aP(w:cd)(v:cq)(l:List ae):Prop:=
 ∃a cap,v=an a l.length cap/\l.length<=cap/\cap<=cV/\(a=aq->cap=0)/\
  ∀x,a=aw x->l≠[]->x.spot=aq/\x.block<w.heap.size/\∀j (h:j<l.length),w.cell? ⟨x.block,x.off+j*3,aq⟩=aw (ao ar l[j].kind)/\
   w.cell? ⟨x.block,x.off+j*3+1,aq⟩=aw (al l[j].text)/\w.cell? ⟨x.block,x.off+j*3+2,aq⟩=aw (ao ar l[j].pos)
theorem aP.nil:aP w (an aq 0 0) []:=⟨aq,0,rfl,cA _,ck _,fun _=>rfl,fun x hx=>by cases hx⟩
theorem aS.toks{l:List ae}(h:aS base w v l):aP w v l:=by
 have Aa:=cy h;obtain⟨C,z⟩:=h;rcases z with ⟨rfl,f⟩|⟨g,cap,c,rfl,E,i,f,A,D,B⟩
 .have:l=[]:=cC f
  subst this;exact aP.nil
 .refine⟨_,cap,rfl,f,A,(fun h=>by cases h),fun x hx _=>?_⟩
  cases hx
  refine⟨rfl,(Aa g rfl).2,fun j hj=>?_⟩;obtain⟨k,q,u⟩:=BV l j hj;rw[<-B,j7,E4 (by omega)] at k q u;refine⟨?_,?_,?_⟩
  .rw[qt w g _ c 62 (0,0) i]
   simpa using k
  .rw[qt w g _ c 62 (0,0) i]
   simpa using q
  .rw[qt w g _ c 62 (0,0) i]
   simpa using u
theorem aP.moved{l:List ae}(h:aP w v l)(z:w.heap.size<=w'.heap.size)(g:∀b off,b<w.heap.size->v.ownBlock=aw b->w'.cell? ⟨b,off,aq⟩=w.cell? ⟨b,off,aq⟩):aP w' v l:=by
 obtain⟨a,Aa,rfl,o,q,r,u⟩:=h;refine⟨a,Aa,rfl,o,q,r,fun x hx hl=>?_⟩;obtain⟨i,g2,g3⟩:=u x hx hl;subst hx;refine⟨i,cT g2 z,fun j hj=>?_⟩;rw[g _ _ g2 rfl,g _ _ g2 rfl,g _ _ g2 rfl];exact g3 j hj
theorem aP.below{l:List ae}(h:aP w v l)(hb:cj B w w')(hB:w.heap.size<=B):aP w' v l:=
 h.moved hb.size fun b off hx _=>hb.cell (cT hx hB)
theorem aP.get{a:Option pC}{l:List ae}(h:aP w (an a n cap) l)(u:j<l.length) :
  ∃b off,a=aw ⟨b,off,aq⟩/\b<w.heap.size/\w.cell? ⟨b,off+j*3,aq⟩=aw (ao ar l[j].kind)/\w.cell? ⟨b,off+j*3+1,aq⟩=aw (al l[j].text)/\w.cell? ⟨b,off+j*3+2,aq⟩=aw (ao ar l[j].pos):=by
 obtain⟨v,Aa,q,z,A,i,k⟩:=h;cases q
 cases a with
 |none=>have:=i rfl;omega
 |some x=>
  obtain⟨b,off,B⟩:=x;obtain⟨rfl,g2,g3⟩:=k _ rfl (by intro c;subst c;simp at u);exact⟨b,off,rfl,g2,g3 j u⟩
theorem aP.len{l:List ae}(h:aP w v l):∃a cap,v=an a l.length cap/\l.length<=cap/\cap<=cV/\(a=aq->cap=0):=by
 obtain⟨a,cap,b,c,f,g,-⟩:=h;exact⟨a,cap,b,c,f,g⟩
section
variable {w:cd} {ops:Array oX} {rest:List oX} {o:oX} {a:Act} {Q:DP->Act->cd->Prop}
theorem kT(G:mw o (vp ops a.tmps)=true)(s x:lk)(J:o.op=.call { callee:=.builtin .append,args:=#[s,x],argTypes:=#[55,55] })(base:Nat)(l:List ae)(t:ae)(A:aS base w (a.eval s) l)(g:Nat)(L:a.eval x=an (aw ⟨g,0,aq⟩) 1 1)(D:w.cell? ⟨g,0,aq⟩=aw (ao ar t.kind))(E:w.cell? ⟨g,1,aq⟩=aw (al t.text))(F:w.cell? ⟨g,2,aq⟩=aw (ao ar t.pos))(N:l.length<=1048576)(f:base<=w.heap.size)(O:cd)(I:cj base O w)(H:∀v' w',aS base w' v' (l++[t])->cj base O w'->w.grownBy w' (a.eval s).ownBlock->gE bh ops Q rest (a.put o.dst v') w'):gE bh ops Q (o::rest) a w:=by
 refine iB G fun K hK'=>?_;obtain⟨i,Aa,Ab,Ac,Ad⟩:=pL Tryz.infoTok;refine Dd w s x 55 J base 62 i _ 3 32 Tryz.underlying55 Aa Ab Ac Ad rfl (by decide) (a.eval s) l.length (l.flatMap lM) rfl A ⟨g,0,aq⟩ 1 1 (lM t) L rfl ?_ (Ae t) (by unfold cV;omega) (by omega) f ?_
 .intro j u v
  rw[iS]
  match j with
  |0=>simp[lM] at v;subst v;simpa using D
  |1=>simp[lM] at v;subst v;simpa using E
  |2=>simp[lM] at v;subst v;simpa using F
  |j+3=>simp[lM] at v
 .intro v' w' q C _
  refine hK' _ _ (H v' w' ?_ (I.trans (jo C f (fun k hk=>(cy A k hk).1))) C);unfold aS
  simpa using q
end
theorem Qw{a:E7}(h:a.toList=b.toList):a=b:=
 ByteArray.ext (Array.ext' (by rw[oY,oY] at h;exact h))
theorem Am{a:E7}(h:¬a=b):(a.toList==b.toList)=false:=by
 rw[Fc];exact fun h1=>h (Qw h1)
theorem JE(l:List α)(k:Nat)(h:k<l.length):l.take (k+1)=l.take k++[l[k]]:=by
 rw[List.take_succ_eq_append_getElem h]
theorem jC{b:Nat}(h:w'.heap[b]?=w.heap[b]?)(off:Nat):w'.cell? ⟨b,off,aq⟩=w.cell? ⟨b,off,aq⟩:=by
 simp only[cd.cell?,h]
theorem II{b:Nat}(h:w'.heap[b]?=w.heap[b]?)(off:Nat):w'.frozen? ⟨b,off,aq⟩=w.frozen? ⟨b,off,aq⟩:=by
 simp only[cd.frozen?,h]
theorem len3{l:List α}(h:l.length=3):∃a b c,l=[a,b,c]:=by
 match l,h with
 |[a,b,c],_=>exact⟨a,b,c,rfl⟩
section
variable {P:oR} {w:cd} {ops:Array oX} {rest:List oX} {o:oX} {a:Act} {Q:DP->Act->cd->Prop}
theorem q8(v:mw o (vp ops a.tmps)=true)(l c:lk)(t:ff)(x:o.op=.makeSlice t l c)(e:ff)(bytes size:Nat)(z:cq)(H:P.underlying t=aw (.slice e))(hi:(P.info? e).map (fun i=>(i.zero,i.size,i.bytes))=aw (aw z,size,bytes))(J I:eC)(n:Nat)(F:a.eval l=ao J (n:Int))(E:a.eval c=ao I (n:Int))(L:bytes*n<=281474976710656)(G:n<=cV)(D:∀(M:Array cq) (w':cd),M.size=n*size->w'=w.alloc (aE M e)->gE P ops Q rest (a.put o.dst (an (aw ⟨w.heap.size,0,aq⟩) n n)) w'):gE P ops Q (o::rest) a w:=by
 obtain⟨i,Ac,Aa⟩:=eH.1 hi;simp only[n9] at Aa;obtain⟨C,A,u⟩:=Aa;refine iB v fun K hK'=>?_
 have Ab:(i.bytes:Int)*(n:Int)<=281474976710656:=by
  have h:((i.bytes*n:Nat):Int)<=281474976710656:=by rw[u];omega
  rwa [Int.natCast_mul] at h
 have j:=run_make (P:=P) w t e i z H Ac C J I n n (by omega) (Int.le_refl _) Ab (by simp[cV] at G;omega);simp only[Int.toNat_natCast,A] at j;unfold oX.wp;simp[execOp,x,F,E,j,sC]
 exact hK' _ _ (D _ _ (size_madeCells _ _) rfl)
end
def aj(w:cd)(B:Nat):Nat->List cq->cd
 |_,[]=>w
 |o,v::r=>aj (w.setCell ⟨B,o,aq⟩ v) B (o+1) r
def PX:Array cq->Nat->List cq->Array cq
 |arr,_,[]=>arr
 |arr,o,v::r=>PX (arr.setIfInBounds o v) (o+1) r
theorem aa.setI{arr:Array cq}(h:aa w B arr T)(o:Nat)(v:cq):aa (w.setCell ⟨B,o,aq⟩ v) B (arr.setIfInBounds o v) T:=by
 obtain⟨Aa,b⟩:=fk.1 h;show (w.heap.modify B _)[B]?=_;rw[pS (by rw[Array.size_modify];exact Aa),zv,b];simp
theorem aa.put{B:Nat}{T:ff}:∀(cs:List cq) (o:Nat) {w:cd} {arr:Array cq},aa w B arr T->aa (aj w B o cs) B (PX arr o cs) T
 |[],_,_,_,h=>h
 |v::r,o,_,_,h=>aa.put r (o+1) (h.setI o v)
theorem aR(B:Nat):∀(cs:List cq) (o:Nat) (w:cd) (k:Nat),k≠B->(aj w B o cs).heap[k]?=w.heap[k]?
 |[],_,_,_,_=>rfl
 | v::r,o,w,k,h=>by
  rw[aj,aR B r _ _ _ h];exact ds _ _ _ _ h
theorem aD(B:Nat):∀(cs:List cq) (o:Nat) (w:cd),(aj w B o cs).heap.size=w.heap.size
 |[],_,_=>rfl
 |v::r,o,w=>by rw[aj,aD B r];simp[rh]
theorem aZ(B L:Nat)(hL:L<=B):∀(cs:List cq) (o:Nat) (w w':cd),cj L w w'->cj L w (aj w' B o cs)
 |[],_,_,_,h=>h
 |v::r,o,w,w',h=>aZ B L hL r _ _ _ (h.setCell (by exact hL) _)
theorem aa.setAllOther{l:List cq}(h:aa w g cs T)(hne:g≠B):aa (aj w B o l) g cs T:=(aR B l o w g hne).trans h
def aF(g:Nat)(w w':cd):Prop:=cj 0 w w'/\∀k,k<w.heap.size->k≠g->w'.heap[k]?=w.heap[k]?
section
variable {g:Nat} {w w' w'':cd}
theorem aF.size(h:aF g w w'):w.heap.size<=w'.heap.size:=h.1.size
theorem aF.refl(g:Nat)(w:cd):aF g w w:=⟨ba _ _,fun _ _ _=>rfl⟩
theorem aF.trans(h:aF g w w')(h2:aF g w' w''):aF g w w'':=
 ⟨h.1.trans h2.1,fun k hk hn=>(h2.2 k (cT hk h.size) hn).trans (h.2 k hk hn)⟩
theorem aF.of(h:cj w.heap.size w w'):aF g w w':=⟨h.mono (ck _),fun k hk _=>h.block k hk⟩
theorem aF.drew(h:aF g w w'):aF g w w'.drew:=⟨h.1.drew,h.2⟩
theorem aF.drewN(h:aF g w w')(n:Nat):aF g w (w'.drewN n):=⟨ag h.1 n,h.2⟩
theorem aF.alloc(h:aF g w w')(o:Obj):aF g w (w'.alloc o):=h.trans (aF.of ((ba _ _).alloc lz _))
theorem aF.set(h:aF g w w')(j:Nat)(v:cq):aF g w (w'.setCell ⟨g,j,aq⟩ v):=
 ⟨h.1.setCell (ck _) _,fun k hk hn=>(ds _ _ _ _ hn).trans (h.2 k hk hn)⟩
theorem aF.grown{row:Option Nat}(h:aF g w w')(hg:w'.grownBy w'' row)(hr:∀k,row=aw k->w.heap.size<=k):aF g w w'':=
 ⟨h.1.grown hg (ck _) (fun _ _=>ck _),fun k hk hn=>(hg.block k (cT hk h.size) (fun e=>by have:=hr k e.symm;omega)).trans (h.2 k hk hn)⟩
theorem aF.cells(h:aF g w w')(hc:aa w k cs t)(hk:k≠g):aa w' k cs t:=(h.2 k hc.lt hk).trans hc
theorem aF.cell(h:aF g w w')(hc:w.cell? ⟨k,off,aq⟩=aw v)(hk:k≠g):w'.cell? ⟨k,off,aq⟩=aw v:=
 (jC (h.2 k (lj w _ hc) hk) off).trans hc
theorem aF.under(h:aF g w w')(h1:B<=g)(h2:B<=w.heap.size):cj B w w':=⟨h.1.os,h.1.tape,h.1.output,h.size,fun k hk=>h.2 k (by omega) (by omega)⟩
theorem aF.chain(h:aF g w w')(hb:cj w0.heap.size w0 w)(h1:w0.heap.size<=g):cj w0.heap.size w0 w':=hb.trans (h.under h1 hb.size)
end
end Go.Proofs.YtgmpmolfcaihfaaGreatDoor
namespace Go.Proofs
open Go.Shelf
variable{K:Act->cd->Prop}{xs:Array lk}{ts:Array ff}{cs:Array cq}{neg:Bool}{b d s:E7}{Q:DP->Act->cd->Prop}{e:Int}{l pre:List Nat}{r:List cq}{B a base base' cap g i j k m n o off:Nat}{x y:lk}{P:oR}{p:Prop}{α:Type}{E T t:ff}{c:UInt8}{v x0 x1 x10 x2 x3 x4 x5 x6 x7 x8 x9:cq}{w w' w'' w0:cd}
def Tryz.lays161_ren:mB:=⟨fun|161=>166|231=>191|227=>158|233=>192|235=>193|228=>159|197=>207|151=>198|260=>214|152=>156|137=>79|119=>187|224=>188|225=>189|217=>112|266=>140|n=>n,fun|9=>9|4=>4|3=>3|5=>5|117=>193|116=>192|0=>0|124=>204|105=>211|21=>21|119=>219|46=>129|139=>222|138=>221|n=>n,fun|3=>4|4=>5|n=>n⟩
theorem Tryz.lays161:Go.Proofs.Lays.n161 bh Tryz.lays161_ren:={
 mixed:=by kernel_rfl
 f119:=Tryz.func187.trans (cS (by kernel_rfl))
 f137:=Tryz.func79.trans (cS (by kernel_rfl))
 f151:=Tryz.func198.trans (cS (by kernel_rfl))
 f152:=Tryz.func156.trans (cS (by kernel_rfl))
 f161:=Tryz.func166.trans (cS (by kernel_rfl))
 f197:=Tryz.func207.trans (cS (by kernel_rfl))
 f217:=Tryz.func112.trans (cS (by kernel_rfl))
 f224:=Tryz.func188.trans (cS (by kernel_rfl))
 f225:=Tryz.func189.trans (cS (by kernel_rfl))
 f227:=Tryz.func158.trans (cS (by kernel_rfl))
 f228:=Tryz.func159.trans (cS (by kernel_rfl))
 f231:=Tryz.func191.trans (cS (by kernel_rfl))
 f233:=Tryz.func192.trans (cS (by kernel_rfl))
 f235:=Tryz.func193.trans (cS (by kernel_rfl))
 f260:=Tryz.func214.trans (cS (by kernel_rfl))
 f266:=Tryz.func140.trans (cS (by kernel_rfl))
 t0:=pD
 a0:=tM
 z0:=s6
 v0:=pZ
 t3:=gg
 a3:=oA
 z3:=mC
 v3:=kf
 t4:=k9
 a4:=pk
 z4:=oe
 v4:=lB
 t5:=ld
 a5:=qu
 z5:=pf
 v5:=mc
 t9:=ij
 a9:=oB
 z9:=mL
 v9:=kh
 t21:=tU
 a21:=EV
 z21:=Do
 v21:=vj
 t46:=nF
 a46:=sm
 z46:=rL
 v46:=oS
 t105:=Tryz.underlying211
 a105:=Tryz.isAgg211
 z105:=Tryz.sizeOf211
 v105:=Tryz.zeroValue211
 t116:=tA
 a116:=Ds
 z116:=xi
 t117:=tB
 a117:=DA
 z117:=xj
 v117:=tW
 t119:=Tryz.underlying219
 a119:=Tryz.isAgg219
 z119:=Tryz.sizeOf219
 t124:=tD
 a124:=DB
 z124:=xl
 v124:=ud
 t138:=Tryz.underlying221
 a138:=Tryz.isAgg221
 z138:=Tryz.sizeOf221
 v138:=Tryz.zeroValue221
 t139:=Tryz.underlying222
 a139:=Tryz.isAgg222
 z139:=Tryz.sizeOf222
 v139:=Tryz.zeroValue222
 g3:=by kernel_rfl
 g4:=by kernel_rfl }
open Go.RowKit in
theorem Tryz.strings_TrimLeft_one(s:E7)(c:UInt8)(hc:c.toNat<128)(w:cd) :
  cJ bh 166 #[al s,al ⟨#[c]⟩] w fun e w'=>e=bk (al ⟨(jN s.data.toList c).toArray⟩)/\w'=w:=Any.strings_TrimLeft_one Tryz.lays161 s c hc w
def Tryz.lays162_ren:mB:=⟨fun|162=>147|232=>172|227=>158|234=>173|236=>174|228=>159|271=>197|151=>198|120=>210|197=>207|152=>156|260=>214|137=>79|119=>187|224=>188|225=>189|217=>112|266=>140|n=>n,fun|9=>9|4=>4|3=>3|5=>5|117=>193|116=>192|0=>0|124=>204|21=>21|105=>211|46=>129|119=>219|139=>222|138=>221|n=>n,fun|3=>4|4=>5|n=>n⟩
theorem Tryz.lays162:Go.Proofs.Lays.n162 bh Tryz.lays162_ren:={
 mixed:=by kernel_rfl
 f119:=Tryz.func187.trans (cS (by kernel_rfl))
 f120:=Tryz.func210.trans (cS (by kernel_rfl))
 f137:=Tryz.func79.trans (cS (by kernel_rfl))
 f151:=Tryz.func198.trans (cS (by kernel_rfl))
 f152:=Tryz.func156.trans (cS (by kernel_rfl))
 f162:=Tryz.func147.trans (cS (by kernel_rfl))
 f197:=Tryz.func207.trans (cS (by kernel_rfl))
 f217:=Tryz.func112.trans (cS (by kernel_rfl))
 f224:=Tryz.func188.trans (cS (by kernel_rfl))
 f225:=Tryz.func189.trans (cS (by kernel_rfl))
 f227:=Tryz.func158.trans (cS (by kernel_rfl))
 f228:=Tryz.func159.trans (cS (by kernel_rfl))
 f232:=Tryz.func172.trans (cS (by kernel_rfl))
 f234:=Tryz.func173.trans (cS (by kernel_rfl))
 f236:=Tryz.func174.trans (cS (by kernel_rfl))
 f260:=Tryz.func214.trans (cS (by kernel_rfl))
 f266:=Tryz.func140.trans (cS (by kernel_rfl))
 f271:=Tryz.func197.trans (cS (by kernel_rfl))
 t0:=pD
 a0:=tM
 z0:=s6
 v0:=pZ
 t3:=gg
 a3:=oA
 z3:=mC
 v3:=kf
 t4:=k9
 a4:=pk
 z4:=oe
 v4:=lB
 t5:=ld
 a5:=qu
 z5:=pf
 v5:=mc
 t9:=ij
 a9:=oB
 z9:=mL
 v9:=kh
 t21:=tU
 a21:=EV
 z21:=Do
 v21:=vj
 t46:=nF
 a46:=sm
 z46:=rL
 v46:=oS
 t105:=Tryz.underlying211
 a105:=Tryz.isAgg211
 z105:=Tryz.sizeOf211
 v105:=Tryz.zeroValue211
 t116:=tA
 a116:=Ds
 z116:=xi
 t117:=tB
 a117:=DA
 z117:=xj
 v117:=tW
 t119:=Tryz.underlying219
 a119:=Tryz.isAgg219
 z119:=Tryz.sizeOf219
 t124:=tD
 a124:=DB
 z124:=xl
 v124:=ud
 t138:=Tryz.underlying221
 a138:=Tryz.isAgg221
 z138:=Tryz.sizeOf221
 v138:=Tryz.zeroValue221
 t139:=Tryz.underlying222
 a139:=Tryz.isAgg222
 z139:=Tryz.sizeOf222
 v139:=Tryz.zeroValue222
 g3:=by kernel_rfl
 g4:=by kernel_rfl }
open Go.RowKit in
theorem Tryz.strings_TrimRight_one(s:E7)(c:UInt8)(hc:c.toNat<128)(w:cd)(hs:s.size<=9223372036854775807) :
  cJ bh 147 #[al s,al ⟨#[c]⟩] w fun e w'=>e=bk (al ⟨(oy s.data.toList c).toArray⟩)/\w'=w:=Any.strings_TrimRight_one Tryz.lays162 s c hc w hs
def Tryz.lays137_ren:mB:=⟨fun|137=>79|217=>112|266=>140|n=>n,fun|9=>9|5=>5|3=>3|n=>n,fun|n=>n⟩
theorem Tryz.lays137:Go.Proofs.Lays.n137 bh Tryz.lays137_ren:={
 mixed:=by kernel_rfl
 f137:=Tryz.func79.trans (cS (by kernel_rfl))
 f217:=Tryz.func112.trans (cS (by kernel_rfl))
 f266:=Tryz.func140.trans (cS (by kernel_rfl))
 t3:=gg
 a3:=oA
 z3:=mC
 v3:=kf
 t5:=ld
 a5:=qu
 z5:=pf
 v5:=mc
 t9:=ij
 a9:=oB
 z9:=mL
 v9:=kh }
open Go.RowKit in
theorem Tryz.strings_IndexByte(s:E7)(c:Int)(w:cd) :
  cJ bh 79 #[al s,ao .u8 c] w fun e w'=>e=bk (ao ar (Lib.indexByte s.data.toList c.toNat.toUInt8))/\w'=w:=Any.strings_IndexByte Tryz.lays137 s c w
def Tryz.lays103_ren:mB:=⟨fun|103=>164|210=>190|206=>127|n=>n,fun|9=>9|4=>4|24=>198|3=>3|n=>n,fun|n=>n⟩
theorem Tryz.lays103:Go.Proofs.Lays.n103 bh Tryz.lays103_ren:={
 mixed:=by kernel_rfl
 f103:=Tryz.func164.trans (cS (by kernel_rfl))
 f206:=Tryz.func127.trans (cS (by kernel_rfl))
 f210:=Tryz.func190.trans (cS (by kernel_rfl))
 t3:=gg
 a3:=oA
 z3:=mC
 v3:=kf
 t4:=k9
 a4:=pk
 z4:=oe
 v4:=lB
 t9:=ij
 a9:=oB
 z9:=mL
 v9:=kh
 t24:=Tryz.underlying198
 a24:=Tryz.isAgg198
 z24:=Tryz.sizeOf198
 v24:=Tryz.zeroValue198 }
open Go.RowKit in
theorem Tryz.strings_CutPrefix(s p:E7)(w:cd) :
  cJ bh 164 #[al s,al p] w fun e w'=>e=bk (dr #[al ⟨(Lib.trimPrefix s.data.toList p.data.toList).toArray⟩,cG (po s.data.toList p.data.toList)])/\w'=w:=Any.strings_CutPrefix Tryz.lays103 s p w
def Tryz.laysM316_ren:mB:=⟨fun|316=>194|n=>n,fun|9=>9|3=>3|4=>4|37=>34|0=>0|127=>79|5=>5|n=>n,fun|n=>n⟩
theorem Tryz.laysM316:Go.Proofs.LaysM.n316 bh Tryz.laysM316_ren:={
 mixed:=by kernel_rfl
 f316:=Tryz.func194.trans (cS (by kernel_rfl))
 t0:=pD
 a0:=tM
 z0:=s6
 v0:=pZ
 t3:=gg
 a3:=oA
 z3:=mC
 v3:=kf
 t4:=k9
 a4:=pk
 z4:=oe
 v4:=lB
 t9:=ij
 a9:=oB
 z9:=mL
 v9:=kh
 t37:=CH
 a37:=Tryz.isAgg34
 z37:=Tryz.sizeOf34
 v37:=Tryz.zeroValue34
 t127:=Tryz.underlying79
 a127:=Tryz.isAgg79
 z127:=Tryz.sizeOf79
 v127:=Tryz.zeroValue79
 t5:=ld
 a5:=qu
 z5:=pf
 v5:=mc
 i0:=by kernel_rfl
 i3:=by kernel_rfl
 i4:=by kernel_rfl
 i5:=by kernel_rfl
 i9:=by kernel_rfl
 i37:=by kernel_rfl
 i127:=by kernel_rfl }
open Go.RowKit in
theorem Tryz.stringslite_Clone(s:E7)(w:cd)(hlim:s.size<=281474976710656) :
  cJ bh 194 #[al s] w fun e w'=>e=bk (al s)/\cj w.heap.size w w':=Any.stringslite_Clone Tryz.laysM316 s w hlim
def Tryz.lays143_ren:mB:=⟨fun|143=>149|219=>177|217=>112|225=>189|224=>188|267=>200|266=>140|314=>211|n=>n,fun|9=>9|3=>3|4=>4|5=>5|46=>129|146=>157|51=>156|n=>n,fun|1=>2|n=>n⟩
theorem Tryz.lays143:Go.Proofs.Lays.n143 bh Tryz.lays143_ren:={
 mixed:=by kernel_rfl
 f143:=Tryz.func149.trans (cS (by kernel_rfl))
 f217:=Tryz.func112.trans (cS (by kernel_rfl))
 f219:=Tryz.func177.trans (cS (by kernel_rfl))
 f224:=Tryz.func188.trans (cS (by kernel_rfl))
 f225:=Tryz.func189.trans (cS (by kernel_rfl))
 f266:=Tryz.func140.trans (cS (by kernel_rfl))
 f267:=Tryz.func200.trans (cS (by kernel_rfl))
 f314:=Tryz.func211.trans (cS (by kernel_rfl))
 t3:=gg
 a3:=oA
 z3:=mC
 v3:=kf
 t4:=k9
 a4:=pk
 z4:=oe
 v4:=lB
 t5:=ld
 a5:=qu
 z5:=pf
 v5:=mc
 t9:=ij
 a9:=oB
 z9:=mL
 v9:=kh
 t46:=nF
 a46:=sm
 z46:=rL
 v46:=oS
 t51:=xF
 a51:=Tryz.isAgg156
 z51:=Tryz.sizeOf156
 v51:=CI
 t146:=xT
 a146:=Tryz.isAgg157
 z146:=Tryz.sizeOf157
 v146:=CM
 g1:=by kernel_rfl }
open Go.RowKit Go.Lib in
theorem Tryz.strings_Index(s sub:E7)(m:Int)(w:cd)(hs:s.size<4294967281)(hm:w.cell? ⟨2,0,aq⟩=aw (ao ar m)) :
  cJ bh 149 #[al s,al sub] w fun e w'=>e=bk (ao ar (Lib.index s.data.toList sub.data.toList))/\w'=w:=Any.strings_Index Tryz.lays143 s sub m w hs hm
def Tryz.lays138_ren:mB:=⟨fun|138=>139|195=>160|218=>161|143=>149|219=>177|217=>112|225=>189|224=>188|267=>200|266=>140|314=>211|n=>n,fun|9=>9|3=>3|4=>4|5=>5|0=>0|46=>129|146=>157|51=>156|n=>n,fun|1=>2|n=>n⟩
theorem Tryz.lays138:Go.Proofs.Lays.n138 bh Tryz.lays138_ren:={
 mixed:=by kernel_rfl
 f138:=Tryz.func139.trans (cS (by kernel_rfl))
 f143:=Tryz.func149.trans (cS (by kernel_rfl))
 f195:=Tryz.func160.trans (cS (by kernel_rfl))
 f217:=Tryz.func112.trans (cS (by kernel_rfl))
 f218:=Tryz.func161.trans (cS (by kernel_rfl))
 f219:=Tryz.func177.trans (cS (by kernel_rfl))
 f224:=Tryz.func188.trans (cS (by kernel_rfl))
 f225:=Tryz.func189.trans (cS (by kernel_rfl))
 f266:=Tryz.func140.trans (cS (by kernel_rfl))
 f267:=Tryz.func200.trans (cS (by kernel_rfl))
 f314:=Tryz.func211.trans (cS (by kernel_rfl))
 t0:=pD
 a0:=tM
 z0:=s6
 v0:=pZ
 t3:=gg
 a3:=oA
 z3:=mC
 v3:=kf
 t4:=k9
 a4:=pk
 z4:=oe
 v4:=lB
 t5:=ld
 a5:=qu
 z5:=pf
 v5:=mc
 t9:=ij
 a9:=oB
 z9:=mL
 v9:=kh
 t46:=nF
 a46:=sm
 z46:=rL
 v46:=oS
 t51:=xF
 a51:=Tryz.isAgg156
 z51:=Tryz.sizeOf156
 v51:=CI
 t146:=xT
 a146:=Tryz.isAgg157
 z146:=Tryz.sizeOf157
 v146:=CM
 g1:=by kernel_rfl }
open Go.RowKit Go.Lib in
theorem Tryz.strings_Count_one(s:E7)(c:UInt8)(w:cd) :
  cJ bh 139 #[al s,al ⟨#[c]⟩] w fun e w'=>e=bk (ao ar (Lib.countByte s.data.toList c))/\w'=w:=Any.strings_Count_one Tryz.lays138 s c w
def Tryz.lays99_ren:mB:=⟨fun|99=>87|206=>127|n=>n,fun|9=>9|4=>4|3=>3|n=>n,fun|n=>n⟩
theorem Tryz.lays99:Go.Proofs.Lays.n99 bh Tryz.lays99_ren:={
 mixed:=by kernel_rfl
 f99:=Tryz.func87.trans (cS (by kernel_rfl))
 f206:=Tryz.func127.trans (cS (by kernel_rfl))
 t3:=gg
 a3:=oA
 z3:=mC
 v3:=kf
 t4:=k9
 a4:=pk
 z4:=oe
 v4:=lB
 t9:=ij
 a9:=oB
 z9:=mL
 v9:=kh }
open Go.RowKit Go.Lib in
theorem Tryz.strings_HasPrefix(s p:E7)(w:cd) :
  cJ bh 87 #[al s,al p] w fun e w'=>e=bk (cG (po s.data.toList p.data.toList))/\w'=w:=Any.strings_HasPrefix Tryz.lays99 s p w
def Tryz.lays100_ren:mB:=⟨fun|100=>106|207=>137|n=>n,fun|9=>9|4=>4|3=>3|n=>n,fun|n=>n⟩
theorem Tryz.lays100:Go.Proofs.Lays.n100 bh Tryz.lays100_ren:={
 mixed:=by kernel_rfl
 f100:=Tryz.func106.trans (cS (by kernel_rfl))
 f207:=Tryz.func137.trans (cS (by kernel_rfl))
 t3:=gg
 a3:=oA
 z3:=mC
 v3:=kf
 t4:=k9
 a4:=pk
 z4:=oe
 v4:=lB
 t9:=ij
 a9:=oB
 z9:=mL
 v9:=kh }
open Go.RowKit Go.Lib in
theorem Tryz.strings_HasSuffix(s p:E7)(w:cd)(hs:s.size<=9223372036854775807) :
  cJ bh 106 #[al s,al p] w fun e w'=>e=bk (cG (Lib.hasSuffix s.data.toList p.data.toList))/\w'=w:=Any.strings_HasSuffix Tryz.lays100 s p w hs
def Tryz.lays153_ren:mB:=⟨fun|153=>138|152=>156|226=>157|227=>158|228=>159|137=>79|119=>187|224=>188|225=>189|217=>112|266=>140|n=>n,fun|9=>9|3=>3|4=>4|5=>5|21=>21|117=>193|116=>192|0=>0|46=>129|124=>204|n=>n,fun|n=>n⟩
theorem Tryz.lays153:Go.Proofs.Lays.n153 bh Tryz.lays153_ren:={
 mixed:=by kernel_rfl
 f119:=Tryz.func187.trans (cS (by kernel_rfl))
 f137:=Tryz.func79.trans (cS (by kernel_rfl))
 f152:=Tryz.func156.trans (cS (by kernel_rfl))
 f153:=Tryz.func138.trans (cS (by kernel_rfl))
 f217:=Tryz.func112.trans (cS (by kernel_rfl))
 f224:=Tryz.func188.trans (cS (by kernel_rfl))
 f225:=Tryz.func189.trans (cS (by kernel_rfl))
 f226:=Tryz.func157.trans (cS (by kernel_rfl))
 f227:=Tryz.func158.trans (cS (by kernel_rfl))
 f228:=Tryz.func159.trans (cS (by kernel_rfl))
 f266:=Tryz.func140.trans (cS (by kernel_rfl))
 t0:=pD
 a0:=tM
 z0:=s6
 v0:=pZ
 t3:=gg
 a3:=oA
 z3:=mC
 v3:=kf
 t4:=k9
 a4:=pk
 z4:=oe
 v4:=lB
 t5:=ld
 a5:=qu
 z5:=pf
 v5:=mc
 t9:=ij
 a9:=oB
 z9:=mL
 v9:=kh
 t21:=tU
 a21:=EV
 z21:=Do
 v21:=vj
 t46:=nF
 a46:=sm
 z46:=rL
 v46:=oS
 t116:=tA
 a116:=Ds
 z116:=xi
 t117:=tB
 a117:=DA
 z117:=xj
 v117:=tW
 t124:=tD
 a124:=DB
 z124:=xl
 v124:=ud }
def Tryz.lays150_ren:mB:=⟨fun|150=>107|153=>138|152=>156|226=>157|227=>158|228=>159|137=>79|119=>187|224=>188|225=>189|217=>112|266=>140|n=>n,fun|9=>9|4=>4|3=>3|5=>5|21=>21|117=>193|116=>192|0=>0|46=>129|124=>204|n=>n,fun|n=>n⟩
theorem Tryz.lays150:Go.Proofs.Lays.n150 bh Tryz.lays150_ren:={
 mixed:=by kernel_rfl
 f119:=Tryz.func187.trans (cS (by kernel_rfl))
 f137:=Tryz.func79.trans (cS (by kernel_rfl))
 f150:=Tryz.func107.trans (cS (by kernel_rfl))
 f152:=Tryz.func156.trans (cS (by kernel_rfl))
 f153:=Tryz.func138.trans (cS (by kernel_rfl))
 f217:=Tryz.func112.trans (cS (by kernel_rfl))
 f224:=Tryz.func188.trans (cS (by kernel_rfl))
 f225:=Tryz.func189.trans (cS (by kernel_rfl))
 f226:=Tryz.func157.trans (cS (by kernel_rfl))
 f227:=Tryz.func158.trans (cS (by kernel_rfl))
 f228:=Tryz.func159.trans (cS (by kernel_rfl))
 f266:=Tryz.func140.trans (cS (by kernel_rfl))
 t0:=pD
 a0:=tM
 z0:=s6
 v0:=pZ
 t3:=gg
 a3:=oA
 z3:=mC
 v3:=kf
 t4:=k9
 a4:=pk
 z4:=oe
 v4:=lB
 t5:=ld
 a5:=qu
 z5:=pf
 v5:=mc
 t9:=ij
 a9:=oB
 z9:=mL
 v9:=kh
 t21:=tU
 a21:=EV
 z21:=Do
 v21:=vj
 t46:=nF
 a46:=sm
 z46:=rL
 v46:=oS
 t116:=tA
 a116:=Ds
 z116:=xi
 t117:=tB
 a117:=DA
 z117:=xj
 v117:=tW
 t124:=tD
 a124:=DB
 z124:=xl
 v124:=ud }
open Go.RowKit Go.Lib in
theorem Tryz.strings_IndexAny_laid(s chars:E7)(w:cd)(hs:s.size<4294967281)(hcs:chars.size<4294967281)(has:∀(j:Nat) b,s.data.toList[j]?=aw b->b.toNat<128)(hac:∀(j:Nat) b,chars.data.toList[j]?=aw b->b.toNat<128) :
  cJ bh 138 #[al s,al chars] w fun e w'=>e=bk (ao ar (Lib.indexAny s.data.toList chars.data.toList))/\cj w.heap.size w w':=Any.strings_IndexAny_laid Tryz.lays153 (by kernel_rfl) s chars w hs hcs has hac
open Go.RowKit Go.Lib in
theorem Tryz.strings_ContainsAny_laid(s chars:E7)(w:cd)(hs:s.size<4294967281)(hcs:chars.size<4294967281)(has:∀(j:Nat) b,s.data.toList[j]?=aw b->b.toNat<128)(hac:∀(j:Nat) b,chars.data.toList[j]?=aw b->b.toNat<128) :
  cJ bh 107 #[al s,al chars] w fun e w'=>e=bk (cG (Lib.containsAny s.data.toList chars.data.toList))/\cj w.heap.size w w':=Any.strings_ContainsAny_laid Tryz.lays150 (by kernel_rfl) s chars w hs hcs has hac
def Tryz.lays105_ren:mB:=⟨fun|105=>55|212=>86|99=>87|165=>88|166=>57|170=>89|169=>13|263=>125|264=>126|206=>127|240=>90|241=>128|276=>129|277=>151|n=>n,fun|9=>9|3=>3|4=>4|20=>20|0=>0|46=>129|109=>130|5=>5|72=>36|76=>109|51=>156|146=>157|53=>159|148=>160|70=>33|37=>34|75=>108|127=>79|164=>162|80=>42|n=>n,fun|n=>n⟩
theorem Tryz.lays105:Go.Proofs.Lays.n105 bh Tryz.lays105_ren:={
 mixed:=by kernel_rfl
 f99:=Tryz.func87.trans (cS (by kernel_rfl))
 f105:=Tryz.func55.trans (cS (by kernel_rfl))
 f165:=Tryz.func88.trans (cS (by kernel_rfl))
 f166:=Tryz.func57.trans (cS (by kernel_rfl))
 f169:=Tryz.func13.trans (cS (by kernel_rfl))
 f170:=Tryz.func89.trans (cS (by kernel_rfl))
 f206:=Tryz.func127.trans (cS (by kernel_rfl))
 f212:=Tryz.func86.trans (cS (by kernel_rfl))
 f240:=Tryz.func90.trans (cS (by kernel_rfl))
 f241:=Tryz.func128.trans (cS (by kernel_rfl))
 f263:=Tryz.func125.trans (cS (by kernel_rfl))
 f264:=Tryz.func126.trans (cS (by kernel_rfl))
 f276:=Tryz.func129.trans (cS (by kernel_rfl))
 f277:=Tryz.func151.trans (cS (by kernel_rfl))
 t0:=pD
 a0:=tM
 z0:=s6
 v0:=pZ
 t3:=gg
 a3:=oA
 z3:=mC
 v3:=kf
 t4:=k9
 a4:=pk
 z4:=oe
 v4:=lB
 t5:=ld
 a5:=qu
 z5:=pf
 v5:=mc
 t9:=ij
 a9:=oB
 z9:=mL
 v9:=kh
 t20:=Tryz.underlying20
 a20:=Tryz.isAgg20
 z20:=Tryz.sizeOf20
 v20:=Tryz.zeroValue20
 t37:=CH
 a37:=Tryz.isAgg34
 z37:=Tryz.sizeOf34
 v37:=Tryz.zeroValue34
 t46:=nF
 a46:=sm
 z46:=rL
 v46:=oS
 t51:=xF
 a51:=Tryz.isAgg156
 z51:=Tryz.sizeOf156
 v51:=CI
 t53:=Tryz.underlying159
 a53:=Tryz.isAgg159
 z53:=Tryz.sizeOf159
 v53:=Tryz.zeroValue159
 t70:=Tryz.underlying33
 a70:=Tryz.isAgg33
 z70:=Tryz.sizeOf33
 v70:=Tryz.zeroValue33
 t72:=Tryz.underlying36
 a72:=Tryz.isAgg36
 z72:=Tryz.sizeOf36
 v72:=Tryz.zeroValue36
 t75:=Tryz.underlying108
 a75:=Tryz.isAgg108
 z75:=Tryz.sizeOf108
 v75:=Tryz.zeroValue108
 t76:=Tryz.underlying109
 a76:=Tryz.isAgg109
 z76:=Tryz.sizeOf109
 v76:=Tryz.zeroValue109
 t109:=Tryz.underlying130
 a109:=Tryz.isAgg130
 z109:=Tryz.sizeOf130
 v109:=Tryz.zeroValue130
 t127:=Tryz.underlying79
 a127:=Tryz.isAgg79
 z127:=Tryz.sizeOf79
 v127:=Tryz.zeroValue79
 t146:=xT
 a146:=Tryz.isAgg157
 z146:=Tryz.sizeOf157
 v146:=CM
 t148:=Tryz.underlying160
 a148:=Tryz.isAgg160
 z148:=Tryz.sizeOf160
 v148:=Tryz.zeroValue160
 t164:=Tryz.underlying162
 a164:=Tryz.isAgg162
 z164:=Tryz.sizeOf162
 v164:=Tryz.zeroValue162 }
theorem Tryz.Builder_Extra_105:Builder.Extra bh Tryz.lays105_ren:={
 sizeBuilder:=by kernel_rfl
 liesBuilder:=by kernel_rfl
 t5:=ld
 a5:=qu
 z5:=pf
 v5:=mc
 infoByte:=by kernel_rfl
 cellsByte:=by kernel_rfl
 sizeByte:=by kernel_rfl
 neB5:=by decide }
open Go.RowKit Go.Lib in
theorem Tryz.strings_Repeat(s:E7)(c:Nat)(w:cd)(hc:c<=9223372036854775807)(hlen:s.size*c<=140737488355328) :
  cJ bh 55 #[al s,ao ar c] w fun e w'=>e=bk (al ⟨(Lib.repeatL s.data.toList c).toArray⟩)/\cj w.heap.size w w':=Any.strings_Repeat Tryz.lays105 Tryz.Builder_Extra_105 s c w hc hlen
end Go.Proofs
namespace Go.Proofs.YtgmpmolfcaihfaaGreatDoor
open Go.RowKit Go.Tab
variable{K:Act->cd->Prop}{xs:Array lk}{ts:Array ff}{cs:Array cq}{neg:Bool}{b d s:E7}{Q:DP->Act->cd->Prop}{e:Int}{l pre:List Nat}{r:List cq}{B a base base' cap g i j k m n o off:Nat}{x y:lk}{P:oR}{p:Prop}{α:Type}{E T t:ff}{c:UInt8}{v x0 x1 x10 x2 x3 x4 x5 x6 x7 x8 x9:cq}{w w' w'' w0:cd}
theorem BK(c:UInt8)(w:cd):cJ bh 113 #[ao .u8 c.toNat] w fun e w'=>e=bk (cG (lC c))/\w=w':=by
 have k:lC c=(decide (65<=c.toNat/\c.toNat<=90) || (decide (97<=c.toNat/\c.toNat<=122) || decide (c.toNat=95))):=rfl;generalize lC c=b at k;generalize c.toNat=n at k
 have v:((n<65\/(65<=n/\90<n/\n<95)\/(65<=n/\90<n/\n=96)\/(65<=n/\90<n/\97<=n/\122<n))/\b=false)\/(((65<=n/\n<=90)\/(65<=n/\90<n/\97<=n/\n<=122)\/(65<=n/\90<n/\n<97/\n=95))/\b=true):=by
  cases b with
  |false=>
   have h:=k.symm;simp only[oE,decide_eq_false_iff_not] at h
   left
   exact⟨by omega,rfl⟩
  |true=>
   have h:=k.symm;simp only[gd,decide_eq_true_eq] at h
   right
   exact⟨by omega,rfl⟩
 clear k;rcases v with ⟨(h|⟨i,j,o⟩|⟨i,j,rfl⟩|⟨i,j,o,u⟩),rfl⟩|⟨(⟨i,j⟩|⟨i,j,o,u⟩|⟨i,j,o,rfl⟩),rfl⟩
 all_goals
  go_in;go_wp2;go_ret;first
  |exact⟨rfl,rfl⟩
  |exact⟨jT (by simp only[ne_eq,oE,gd,decide_eq_false_iff_not,decide_eq_true_eq,Fc,beq_iff_eq];omega),rfl⟩
theorem El(c:UInt8)(w:cd):cJ bh 115 #[ao .u8 c.toNat] w fun e w'=>e=bk (cG (dg c))/\w=w':=by
 have i:dg c=decide (48<=c.toNat/\c.toNat<=57):=rfl;generalize dg c=b at i;generalize c.toNat=n at i
 have o:((n<48\/(48<=n/\57<n))/\b=false)\/((48<=n/\n<=57)/\b=true):=by
  cases b with
  |false=>
   have h:=i.symm;simp only[decide_eq_false_iff_not] at h
   left
   exact⟨by omega,rfl⟩
  |true=>
   have h:=i.symm;simp only[decide_eq_true_eq] at h
   right
   exact⟨by omega,rfl⟩
 clear i;rcases o with ⟨(h|⟨j,k⟩),rfl⟩|⟨⟨j,k⟩,rfl⟩
 all_goals
  go_in;go_wp2;go_ret;first
  |exact⟨rfl,rfl⟩
  |exact⟨jT (by simp only[ne_eq,oE,gd,decide_eq_false_iff_not,decide_eq_true_eq,Fc,beq_iff_eq];omega),rfl⟩
theorem IC(l:Bs)(k:Nat)(h:k<l.length):uF (l.drop k)=if Ky l[k] then uF (l.drop (k+1))+1 else 0:=by
 rw[cg h,uF]
theorem Oq(s:E7)(w:cd)(B:s.size<=cV)(x:0<s.size) :
  cJ bh 114 #[al s] w fun e w'=>e=bk (ao ar ((1+uF (s.data.toList.drop 1):Nat):Int))/\w=w':=by
 unfold cV at B;generalize hq:uF (s.data.toList.drop 1)=q;have v:=Hh hq;clear hq;go_in;go_wp2;go_loop [3] (fun n=>∃k:Nat,n=ao ar (k:Int)/\1<=k/\k<=s.size/\k+uF (s.data.toList.drop k)=1+q) (fun n=>s.size-(cR n).toNat)
 .exact⟨1,rfl,cA _,x,by rw[v.out]⟩
 obtain⟨k,rfl,Ae,A,j⟩:=hrel
 by_cases i:k<s.size
 .have Ad:=IC s.data.toList k (by rw[<-ak];exact i)
  rw[Ad] at j;have Ab:=BK (s[k]'i);have Aa:=El (s[k]'i);have Ac:Ky (s[k]'i)=(lC (s[k]'i) || dg (s[k]'i)):=rfl;rw[<-jW i,Ac] at j;clear Ad Ac
  cases hb:lC (s[k]'i) with
  |true=>
   rw[hb] at j Ab;simp only[Bool.true_or,if_true] at j;have o:=Hh j;clear j hb Aa;go_wp2_with fail;refine pr (Ab _) ?_;go_wp2;go_round
   .exact⟨k+1,by go_num,by omega,by omega,by have:=o.out;omega⟩
   simp[cR];omega
  |false=>
   rw[hb] at j Ab
   cases hd:dg (s[k]'i) with
   |true=>
    rw[hd] at j Aa;simp only[Bool.or_true,if_true] at j;have o:=Hh j;clear j hb hd;go_wp2_with fail;refine pr (Ab _) ?_;go_wp2_with fail;refine pr (Aa _) ?_;go_wp2;go_round
    .exact⟨k+1,by go_num,by omega,by omega,by have:=o.out;omega⟩
    simp[cR];omega
   |false=>
    rw[hd] at j Aa;simp only[Bool.or_false,Bool.false_eq_true,if_false] at j;have o:=Hh j;clear j hb hd;go_wp2_with fail;refine pr (Ab _) ?_;go_wp2_with fail;refine pr (Aa _) ?_;go_wp2;go_ret;exact⟨fC (by have:=o.out;omega),rfl⟩
 .obtain rfl:k=s.size:=by omega
  have u:uF (s.data.toList.drop s.size)=0:=by rw[ak,ei];rfl
  rw[u] at j;have o:=Hh j;clear j u;go_wp2;go_ret;exact⟨fC (by have:=o.out;omega),rfl⟩
abbrev VG:=aI ny 5
theorem Tryz.uPB:Tryz.prog.underlying 33=aw (.pointer 36):=by kernel_rfl
theorem Tryz.uUP:Tryz.prog.underlying 162=aw .unsafePointer:=by kernel_rfl
theorem Tryz.uBytes:Tryz.prog.underlying 34=aw (.slice 5):=by kernel_rfl
theorem Tryz.uStr:Tryz.prog.underlying 9=aw .string:=by kernel_rfl
theorem Tryz.infoU8:(Tryz.prog.info? 5).map (fun i=>(i.zero,i.size,i.bytes))=aw (aw (ao .u8 0),1,1):=by kernel_rfl
theorem Tryz.sizeBld:(Tryz.prog.info? 36).map (·.size)=aw 2:=by kernel_rfl
theorem Tryz.cellsU8:Tryz.prog.cellsOf 5=1:=by kernel_rfl
theorem VR(x:UInt8):(ny x).oneCell'=true:=rfl
theorem SY(w:cd)(c:UInt8)(n:Int)(b:n=(c.toNat:Int))(t:ff):RowOf ny (w.alloc (aE #[ao .u8 n] t)) (an (aw ⟨w.heap.size,0,aq⟩) 1 1) [c]:=by
 refine⟨_,1,rfl,cA _,by decide,(fun h=>by cases h),fun x hx _=>?_⟩;cases hx
 subst b;refine⟨rfl,by simp,fun j hj=>?_⟩;obtain rfl:j=0:=by simpa using hj
 rw[World.cell?_alloc_new];rfl
structure Lc(T:ff)(base:Nat)(w:cd)(g o:Nat)(cs:Array cq)(l:List UInt8):Prop where
 cells:aa w g cs T
 addr:cs[o]?=aw (cx aq)\/cs[o]?=aw (cx (aw ⟨g,o,aq⟩))
 buf:∃v,cs[o+1]?=aw v/\VG base w v l
structure EB(T:ff)(n o:Nat):Prop where
 ne:T≠5
 lies:liesAt bh Tryz.prog.depth T (n / Tryz.prog.cellsOf T) o 36 1=true
 lt:o+1<n
def F3(g o:Nat)(cs cs':Array cq):Prop:=cs'.size=cs.size/\(∀j,j≠o->j≠o+1->cs'[j]?=cs[j]?)/\cs'[o]?=aw (cx (aw ⟨g,o,aq⟩))
theorem uW{l:List UInt8}(w:cd)(h:Lc T base w g o cs l)(A:EB T cs.size o)(F:base<=g) :
  cJ bh 90 #[cx (aw ⟨g,o,aq⟩)] w fun e w'=>e=bk (dr #[])/\∃cs',Lc T base w' g o cs' l/\F3 g o cs cs'/\(∀v,cs[o+1]?=aw v->cs'[o+1]?=aw v)/\w.grownBy w' (aw g):=by
 obtain⟨q,i,v,C,Aa⟩:=h;obtain⟨j,x,Ad⟩:=eH.1 Tryz.sizeBld;rcases i with i|i
 .have D:=q.cell o _ i
  have E:=q.frozen o;have Ac:=q.shape;have Ae:=A.lt;have Ag:=Lib.run_to_unsafe w ⟨g,o,aq⟩ Tryz.uPB Tryz.uUP x (by rw[Ad];decide) Ac (by show o<cs.size;omega);have Ah:=Lib.run_from_unsafe w ⟨g,o,aq⟩ Tryz.uUP Tryz.uPB x Ac A.lies;go_in;go_wp2;rw[run_callFunc_extern Tryz.func129 (by kernel_rfl) (by kernel_rfl) (by kernel_rfl) (e:=Extern.AbiNoEscape.same) (by kernel_rfl)];rw[Lib.run_noEscape];simp only[sC];rw[oX.upon_value];go_wp2;go_end0
  have Ab:=Db w g o (cx (aw ⟨g,o,aq⟩));refine⟨rfl,_,⟨q.set o (by omega) _,.inr (by simp),v,by rw[gi (by omega) (by omega)];exact C,Aa.kept Ab (.inr (nY Aa q A.ne))⟩,⟨by simp,fun k h1 _=>by rw[gi (by omega) (fun e=>h1 e.symm)],by simp⟩,fun u hu=>by rw[gi (by omega) (by omega)];exact hu,Ab⟩
 .have D:=q.cell o _ i
  have Af:=Lib.run_neq_ptr_same w ⟨g,o,aq⟩ Tryz.uPB x;go_in;go_wp2;go_end0
  exact⟨rfl,cs,⟨q,.inr i,v,C,Aa⟩,⟨rfl,fun _ _ _=>rfl,i⟩,fun _ h=>h,cd.grownBy.refl _ _⟩
theorem F3.trans{a b c:Array cq}(h:F3 g o a b)(h2:F3 g o b c):F3 g o a c:=
 ⟨h2.1.trans h.1,fun j h3 h4=>(h2.2.1 j h3 h4).trans (h.2.1 j h3 h4),h2.2.2⟩
theorem Lc.put{l':List UInt8}{v':cq}(h:aa w g cs T)(f:EB T cs.size o)(i:cs[o]?=aw (cx (aw ⟨g,o,aq⟩)))(b:VG base w v' l') :
  ∃cs',Lc T base (w.setCell ⟨g,o+1,aq⟩ v') g o cs' l'/\F3 g o cs cs':=by
 have Aa:=f.lt;refine⟨_,⟨h.set (o+1) Aa v',.inr (by rw[gi Aa (by omega)];exact i),v',by simp,b.setOther _ _ (fun e=>nY b h f.ne e)⟩,by simp,fun j h1 h2=>by rw[gi Aa (fun e=>h2 e.symm)],by rw[gi Aa (by omega)];exact i⟩
theorem Dl{l:List UInt8}(w:cd)(c:UInt8)(n:Int)(hn:n=(c.toNat:Int))(h:Lc T base w g o cs l)(H:EB T cs.size o)(M:base<=g)(hlen:l.length<=1000000000) :
  cJ bh 170 #[cx (aw ⟨g,o,aq⟩),ao .u8 n] w fun e w'=>e=bk .nilIface/\∃cs',Lc T base w' g o cs' (l++[c])/\F3 g o cs cs'/\cj base w w'/\bQ 5 g w w':=by
 have Ah:base<=w.heap.size:=by have:=h.cells.lt;omega
 subst hn;go_in;go_wp2_with fail;refine pB (uW w h H M) ?_;rintro O ⟨C,P,D,J,q⟩;have Ai:cj base w O:=jo q Ah (fun k hk=>by cases hk;exact M);have Ap:=q.size;obtain⟨Ab,Al,v,N,Aa⟩:=P;have Ao:=Ab.cell (o+1) _ N;go_wp2_with (with_reducible first|refine aL ?_|refine l8 ?_|refine j6 ?_|refine xZ ?_);refine Stop.out ?_
 refine fA (f:=ny) rfl _ _ 34 rfl base 5 1 _ Tryz.uBytes Tryz.infoU8 rfl VR l [c] (by exact Aa.alloc _) (by exact SY O c _ rfl _) (by unfold cV;simp;omega) (by simp;omega) (by simp;omega) w (by exact Ai.alloc (by omega) _) ?_;intro v2 V x E u;obtain⟨F,n2,G,rfl,-⟩:=x.row.shape;have Ac:=(Ab.alloc (aE #[ao .u8 (c.toNat:Int)] 5)).kept u (fun e=>(nY Aa Ab (by exact H.ne)) e.symm);have Ad:bQ 5 g w V:=(((bQ.refl.grown q (fun k hk=>.inl (by cases hk;rfl))).alloc (aE #[ao .u8 (c.toNat:Int)] 5)).grown u (fun k hk=>.inr (vK (Aa.alloc (aE #[ao .u8 (c.toNat:Int)] 5)) k hk)));have X:=Ac.frozen (o+1);have Am:=Ac.cell (o+1) _ N;have Ak:C.size=cs.size:=D.1;obtain⟨Ae,S,Ag⟩:=Lc.put Ac (by rw[Ak];exact H) D.2.2 x;have Aj:=E.setCell (p:=⟨g,o+1,aq⟩) M (an F n2 G);have Af:=Ad.setCell (o+1) (an F n2 G);clear Ad;go_wp2;go_ret;exact⟨rfl,Ae,S,D.trans Ag,Aj,Af⟩
theorem ww{ops:Array oX}{rest:List oX}{o:oX}{a:Act}(z:o.guard=aq)(sl x:lk)(t u:ff)(C:o.op=.call { callee:=.builtin .append,args:=#[sl,x],argTypes:=#[t,u] })(base:Nat)(e:ff)(D:P.underlying t=aw (.slice e))(E:P.underlying u=aw .string)(hi:(P.info? e).map (fun i=>(i.zero,i.size,i.bytes))=aw (aw (ao .u8 0),1,1))(l:List UInt8)(q:aI ny e base w (a.eval sl) l)(s:E7)(F:a.eval x=al s)(G:l.length+s.size<=2000000000)(f:base<=w.heap.size)(H:cd)(B:cj base H w)(A:∀v' w',aI ny e base w' v' (l++s.data.toList)->cj base H w'->w.grownBy w' (a.eval sl).ownBlock->gE P ops Q rest (a.put o.dst v') w'):gE P ops Q (o::rest) a w:=by
 obtain⟨i,Aa,Ab,Ac,Ad⟩:=pL hi;refine Lib.wpList_append_own_string w z sl x t u C base e i D E Aa Ab Ac Ad (a.eval sl) l.length (l.map ny) rfl q s F (by unfold cV;omega) (by omega) f ?_;intro v' w' j v _;refine A v' w' ?_ (B.trans (jo v f (fun k hk=>(cy q k hk).1))) v;unfold aI;rw[show (l++s.data.toList).length=l.length+s.size by rw[cm];rfl,List.map_append];exact j
theorem ru{l:List UInt8}(w:cd)(s:E7)(h:Lc T base w g o cs l)(H:EB T cs.size o)(M:base<=g)(hlen:l.length+s.size<=1000000000) :
  cJ bh 57 #[cx (aw ⟨g,o,aq⟩),al s] w fun e w'=>e=bk (dr #[ao ar s.size,.nilIface])/\∃cs',Lc T base w' g o cs' (l++s.data.toList)/\F3 g o cs cs'/\cj base w w'/\bQ 5 g w w':=by
 have Ah:base<=w.heap.size:=by have:=h.cells.lt;omega
 go_in;go_wp2_with fail;refine pB (uW w h H M) ?_;rintro R ⟨C,O,D,J,q⟩;have Ai:cj base w R:=jo q Ah (fun k hk=>by cases hk;exact M);have Ap:=q.size;obtain⟨Ab,Al,v,N,Aa⟩:=O;have Ao:=Ab.cell (o+1) _ N;go_wp2_with (with_reducible first|refine aL ?_|refine l8 ?_|refine j6 ?_|refine xZ ?_);refine Stop.out ?_
 refine ww rfl _ _ 34 9 rfl base 5 Tryz.uBytes Tryz.uStr Tryz.infoU8 l (by exact Aa) s rfl (by omega) (by omega) w (by exact Ai) ?_;intro X S A E x;obtain⟨F,n2,G,rfl,-⟩:=A.row.shape;have Ac:=Ab.kept x (fun e=>(nY Aa Ab (by exact H.ne)) e.symm);have Ad:bQ 5 g w S:=((bQ.refl.grown q (fun k hk=>.inl (by cases hk;rfl))).grown x (fun k hk=>.inr (vK Aa k hk)));have V:=Ac.frozen (o+1);have Am:=Ac.cell (o+1) _ N;have Ak:C.size=cs.size:=D.1;obtain⟨Ae,P,Ag⟩:=Lc.put Ac (by rw[Ak];exact H) D.2.2 A;have Aj:=E.setCell (p:=⟨g,o+1,aq⟩) M (an F n2 G);have Af:=Ad.setCell (o+1) (an F n2 G);clear Ad;go_wp2;go_ret2
 exact⟨rfl,Ae,P,D.trans Ag,Aj,Af⟩
theorem Tryz.uPU8:Tryz.prog.underlying 79=aw (.pointer 5):=by kernel_rfl
theorem FH(w:cd)(p:pC)(n k:Nat)(a:k≠p.block):(w.freeze p n).heap[k]?=w.heap[k]?:=by
 unfold cd.freeze;split
 .rfl
 .simp only[Array.getElem?_modify]
  rw[E6 (fun e=>a e.symm)]
theorem wm{l:List UInt8}(w:cd)(h:Lc T base w g o cs l)(Q:base<=w.heap.size)(R:l.length<=1000000000) :
  cJ bh 13 #[cx (aw ⟨g,o,aq⟩)] w fun e w'=>e=bk (al ⟨l.toArray⟩)/\cj base w w'/\∀k o',k<w.heap.size->w.heap[k]?=aw o'->(∀cs fr,o'≠aE cs 5 fr)->w'.heap[k]?=aw o':=by
 obtain⟨D,P,v,E,Aa⟩:=h;have Ag:∀(W:cd) (q:Option pC),(Builtin.unsafeString_ #[79,3] 9 #[cx q,ao ar 0]).run bh W=.ok (al .empty) W:=fun W q=>Lib.run_unsafeString_none W _ _ _ q;have c1:=D.drew.cell (o+1) _ E;rcases Aa.2 with ⟨rfl,M⟩|⟨b,cap,A,rfl,C,B,N,J,K,u⟩
 .have Ab:l=[]:=cC M
  subst Ab;have Ac:(rm #[34] 79 #[an aq 0 0]).run bh w.drew=.ok (cx aq) w.drew:=rfl;go_in;go_wp2;go_region
  all_goals (go_wp2;go_ret;exact⟨rfl,ed (ba base w),fun k o' _ h _=>h⟩)
 .by_cases Ab:l=[]
  .subst Ab
   clear Aa u
   by_cases i:cap=0
   .subst i
    have Ac:(rm #[34] 79 #[an (aw ⟨b,0,aq⟩) 0 0]).run bh w.drew=.ok (cx (aw ⟨w.drew.heap.size,0,aq⟩)) (w.drew.alloc (.view ⟨b,0,aq⟩ 5)):=
     Lib.run_unsafeSliceData_zero w.drew _ _ 5 Tryz.uPU8 ⟨b,0,aq⟩ 0 (5,A.size) (by have Ad:w.drew.heap[b]?=aw (aE A 5 (0,0)):=B;simp[cd.shape?,Ad])
    have F:=(D.drew.alloc (.view ⟨b,0,aq⟩ 5)).cell (o+1) _ E;have G:(w.alloc (.view ⟨b,0,aq⟩ 5)).drew.cell? ⟨g,o+1,aq⟩=aw (an (aw ⟨b,0,aq⟩) 0 0):=F;have I:=D.cell (o+1) _ E;simp only[cY] at c1 F G I;go_in;go_wp2;go_region
    all_goals
     go_wp2;go_ret;exact⟨rfl,(ed (ba base w)).alloc Q _,fun k o' hk h _=>((mS w.drew (.view ⟨b,0,aq⟩ 5) aq).block k hk (by simp)).trans h⟩
   .have Ac:(rm #[34] 79 #[an (aw ⟨b,0,aq⟩) 0 cap]).run bh w.drew=.ok (cx (aw ⟨b,0,aq⟩)) w.drew:=xd _ _ _ _ _ _ i
    simp only[cY] at c1;clear i;go_in;go_wp2;go_region
    all_goals (go_wp2;go_ret;exact⟨rfl,ed (ba base w),fun k o' _ h _=>h⟩)
  .have Af:l.length≠0:=by simpa using Ab
   have Ac:(rm #[34] 79 #[an (aw ⟨b,0,aq⟩) l.length cap]).run bh w.drew=.ok (cx (aw ⟨b,0,aq⟩)) w.drew:=xd _ _ _ _ _ _ (by omega)
   have Ae:(Builtin.unsafeString_ #[79,3] 9 #[cx (aw ⟨b,0,aq⟩),ao ar l.length]).run bh w.drew=.ok (al ⟨l.toArray⟩) (w.drew.freeze ⟨b,0,aq⟩ l.length):=by
    refine Lib.run_unsafeString_row w.drew 79 3 9 5 Tryz.uPU8 Tryz.cellsU8 b A.size (by have Ad:w.drew.heap[b]?=aw (aE A 5 (0,0)):=B;simp[cd.shape?,Ad]) l Ab (by omega) (by omega) ?_;intro j x O;obtain⟨L,rfl⟩:=fv.1 O;have:=Aa.cellAt j L;rw[iS,Nat.zero_add];exact this
   clear Aa u Ab Af;go_in;go_wp2;go_region
   all_goals
    go_wp2;go_ret;refine⟨rfl,Lib.below_freeze (ed (ba base w)) (p:=⟨b,0,aq⟩) C _,fun k o' _ h hn=>?_⟩;rw[FH _ _ _ _ (by rintro rfl;rw[B] at h;cases h;exact hn _ _ rfl)];exact h
def Tab(w:cd):Prop:=∀j:Nat,j<32->w.cell? ⟨0,j,aq⟩=aw (ao ar (fB (8*j):Nat))
theorem Tab.below(h:Tab w)(hb:cj B w w')(hB:0<B):Tab w':=fun j hj=>(hb.cell hB).trans (h j hj)
theorem Tab.pos(h:Tab w):0<w.heap.size:=lj w _ (h 0 (by decide))
theorem yg(a:Nat):fB (8*(a / 8))=fB a:=by
 unfold fB;have b:8*(a / 8)<128↔a<128:=by omega
 have c:8*(a / 8)<192↔a<192:=by omega
 have f:8*(a / 8)<224↔a<224:=by omega
 have h:8*(a / 8)<240↔a<240:=by omega
 have i:8*(a / 8)<248↔a<248:=by omega
 simp only[b,c,f,h,i]
theorem mO(a b:Nat)(h:a<4611686018427387904)(i:b<4611686018427387904):bits .and ar (a:Int) (b:Int)=((a &&& b:Nat):Int):=by
 have g:a &&& b<2 ^ 62:=Nat.and_lt_two_pow _ (by omega);have e1:(r7 64 (a:Int)).toNat=a:=by rw[sE,tE];exact vl (by omega)
 have f:(r7 64 (b:Int)).toNat=b:=by rw[sE,tE];exact vl (by omega)
 show eC.i64.wrap ((r7 64 (a:Int) &&& r7 64 (b:Int)).toNat:Int)=_;rw[BitVec.toNat_and,e1,f,eC.wrap_i64];omega
theorem vS(a b:Nat)(h:a<4611686018427387904)(i:b<4611686018427387904):bits .or ar (a:Int) (b:Int)=((a ||| b:Nat):Int):=by
 have g:a ||| b<2 ^ 62:=Nat.or_lt_two_pow (by omega) (by omega)
 have e1:(r7 64 (a:Int)).toNat=a:=by rw[sE,tE];exact vl (by omega)
 have f:(r7 64 (b:Int)).toNat=b:=by rw[sE,tE];exact vl (by omega)
 show eC.i64.wrap ((r7 64 (a:Int) ||| r7 64 (b:Int)).toNat:Int)=_;rw[BitVec.toNat_or,e1,f,eC.wrap_i64];omega
theorem xO(a k:Nat):a &&& (2 ^ k-1)=a % 2 ^ k:=Nat.and_two_pow_sub_one_eq_mod a k
theorem VC(a:Nat)(h:a<256):bits .and ar (a:Int) 31=((a % 32:Nat):Int):=by
 have:=mO a 31 (by omega) (by omega);rw[show 31=2 ^ 5-1 by rfl,xO] at this;simpa using this
theorem VD(a:Nat)(h:a<256):bits .and ar (a:Int) 15=((a % 16:Nat):Int):=by
 have:=mO a 15 (by omega) (by omega);rw[show 15=2 ^ 4-1 by rfl,xO] at this;simpa using this
theorem VY(a:Nat)(h:a<256):bits .and ar (a:Int) 7=((a % 8:Nat):Int):=by
 have:=mO a 7 (by omega) (by omega);rw[show 7=2 ^ 3-1 by rfl,xO] at this;simpa using this
theorem Ug(a:Nat)(h:a<4611686018427387904):bits .and ar (a:Int) 63=((a % 64:Nat):Int):=by
 have:=mO a 63 h (by omega);rw[show 63=2 ^ 6-1 by rfl,xO] at this;simpa using this
theorem U2(a:Nat)(h:a<256):bits .and ar (a:Int) 192=((a / 64*64:Nat):Int):=by
 have:=mO a 192 (by omega) (by omega);have b:∀a:Fin 256,a.val &&& 192=a.val / 64*64:=by decide +kernel
 rw[show a &&& 192=a / 64*64 from b ⟨a,h⟩] at this
 simpa using this
theorem VQ(a b:Nat)(h:a<16777216)(d:b<64):bits .or ar ((a:Int)*64) (b:Int)=((a*64+b:Nat):Int):=by
 have:=vS (a*64) b (by omega) (by omega);have c:=Nat.two_pow_add_eq_or_of_lt (i:=6) (b:=b) (by omega) a;rw[show 2 ^ 6*a=a*64 by omega] at c;rw[<-c] at this
 simpa using this
def mM(c:Int):Bool:=decide (0<=c)&&decide (c<=1114111)&&(decide (c<55296) || decide (57343<c))
theorem gz(c:Nat):mM (c:Int)=lN c:=by
 unfold mM lN;have e1:decide (0<=(c:Int))=true:=by simp
 have b:decide ((c:Int)<=1114111)=decide (c<=1114111):=by simp only[decide_eq_decide];omega
 have f:decide ((c:Int)<55296)=decide (c<55296):=by simp only[decide_eq_decide];omega
 have g:decide (57343<(c:Int))=decide (57343<c):=by simp only[decide_eq_decide];omega
 rw[e1,b,f,g];simp
theorem lD(c:Int)(w:cd):cJ bh 123 #[ao ar c] w fun e w'=>e=bk (cG (mM c))/\w=w':=by
 unfold mM
 by_cases b:0<=c
 .by_cases f:c<=1114111
  .by_cases h:c<55296
   .go_in
    go_wp2;go_ret;exact⟨jT (by simp[b,f,h]),rfl⟩
   .have i:decide (c<55296)=false:=by simp;omega
    go_in;go_wp2;go_ret;exact⟨jT (by simp[b,f,h]),rfl⟩
  .have i:decide (c<=1114111)=false:=by simp;omega
   go_in;go_wp2;go_ret;exact⟨jT (by simp[b,f]),rfl⟩
 .have i:decide (0<=c)=false:=by simp;omega
  go_in;go_wp2;go_ret;exact⟨jT (by simp[b]),rfl⟩
theorem nK(c:Nat)(w:cd):cJ bh 124 #[ao ar c] w fun e w'=>e=bk (ao ar (tu c:Nat))/\w=w':=by
 unfold tu
 by_cases b:c<128
 .rw[E4 b]
  go_in;go_wp2;go_ret;exact⟨rfl,rfl⟩
 .rw[E6 b]
  by_cases f:c<2048
  .rw[E4 f]
   have i:decide ((c:Int)<128)=false:=by simp;omega
   have j:decide ((c:Int)<2048)=true:=by simp;omega
   clear b f;go_in;go_wp2;go_ret;exact⟨rfl,rfl⟩
  .rw[E6 f]
   by_cases h:c<65536
   .rw[E4 h]
    have i:decide ((c:Int)<128)=false:=by simp;omega
    have j:decide ((c:Int)<2048)=false:=by simp;omega
    have k:decide ((c:Int)<65536)=true:=by simp;omega
    clear b f h;go_in;go_wp2;go_ret;exact⟨rfl,rfl⟩
   .rw[E6 h]
    have i:decide ((c:Int)<128)=false:=by simp;omega
    have j:decide ((c:Int)<2048)=false:=by simp;omega
    have k:decide ((c:Int)<65536)=false:=by simp;omega
    clear b f h;go_in;go_wp2;go_ret;exact⟨rfl,rfl⟩
abbrev iW(l:List Nat)(w:cd):Ending->cd->Prop:=fun e w'=>e=bk (dr #[ao ar (aG l).1,ao ar (aG l).2])/\w=w'
theorem mf{a b:Int}{c:Nat}(h:aG l=(c,n))(i:a=c)(j:b=n):jj (dr #[ao ar a,ao ar b])=bk (dr #[ao ar (aG l).1,ao ar (aG l).2]):=by
 rw[h,i,j]
theorem Oy(s:E7)(i:Nat)(a:Nat)(r:List Nat)(w:cd)(D:Tab w)(C:(bs s).drop i=a::r)(E:s.size<=1048576)(x:a<128) :
  cJ bh 85 #[al s,ao ar i] w (iW (a::r) w):=by
 obtain⟨v,u⟩:=Eo C (j:=0) (by simp);simp only[eA,eg] at v u;have k:aG (a::r)=(a,1):=by simp[aG,x]
 have q:=Hh k;have A:=D (a / 8) (by omega);rw[yg,show fB a=1 by simp[fB,x]] at A;clear k C;unfold iW;go_in;go_wp2;go_ret2
 exact⟨mf q.out rfl rfl,rfl⟩
theorem Vm(c b:Nat)(h:c<131072)(d:b<256):bits .or ar ((c:Int)*64) ((b:Int) % 64)=((c*64+b % 64:Nat):Int):=by
 have:=VQ c (b % 64) (by omega) (by omega)
 simpa using this
theorem KF(s:E7)(i:Nat)(a n:Nat)(r:List Nat)(w:cd)(hT:Tab w)(hl:(bs s).drop i=a::r)(hs:s.size<=1048576)(M:fB a=n)(hn:n=2\/n=3\/n=4) :
  cJ bh 85 #[al s,ao ar i] w (iW (a::r) w):=by
 have Ac:∀x∈a::r,x<256:=by rw[<-hl];exact fun x hx=>gJ x (dT hx)
 have ha:=Ac a (by simp);have hi:=Hh (fun (j:Nat) (hj:j<(a::r).length)=>Eo hl hj);have Ab:(a::r).length=s.size-i:=by rw[<-hl];simp[ay]
 simp only[bc] at Ab;obtain⟨h0,e0⟩:=hi.out 0 (by simp);simp only[eA,eg] at h0 e0;have P:=NS Ac M (by omega);have hc:=hT (a / 8) (by omega);rw[yg,M] at hc;clear hl;unfold iW
 by_cases I:r.length<n-1
 .rw[E4 I] at P
  have V:=Hh P;have hd:(s.size:Int)-i<n:=by omega
  clear P I Ab M;rcases hn with rfl|rfl|rfl
  all_goals
   go_in;go_wp2;go_ret2
   exact⟨mf V.out rfl rfl,rfl⟩
 .rw[E6 I] at P
  have V:=Hh P;have hd:(n:Int)<=(s.size:Int)-i:=by omega
  have m1:=VC a ha;have m2:=VD a ha;have m3:=VY a ha;have Ak:kD a n<32:=by unfold kD;split<;>(try split)<;>omega
  have Au:n-1<=r.length:=by omega
  have Aj:=Hh Ac;have Ar:((n:Int)==1)=false:=by rw[Fc];omega
  have Aq:((n:Int)==0)=false:=by rw[Fc];omega
  have At:n<=4:=by omega
  have As:2<=n:=by omega
  have Q:(n=2/\((n:Int)==2)=true/\kD a n=a % 32)\/(n=3/\((n:Int)==2)=false/\((n:Int)==3)=true/\kD a n=a % 16)\/(n=4/\((n:Int)==2)=false/\((n:Int)==3)=false/\kD a n=a % 8):=by
   rcases hn with rfl|rfl|rfl
   .exact .inl ⟨rfl,rfl,rfl⟩
   .exact .inr (.inl ⟨rfl,rfl,rfl,rfl⟩)
   .exact .inr (.inr ⟨rfl,rfl,rfl,rfl⟩)
  clear P I Ab M Ac hn;have Av:∀A:Nat,A=kD a n->A<32:=fun A h=>by omega
  rcases Q with ⟨-,f2,Q⟩|⟨-,f2,f3,Q⟩|⟨-,f2,f3,Q⟩
  all_goals
   have HZ:=Hh Q;clear Q;go_in;go_wp2;go_loop [4,5,7] (fun c z k=>∃C K:Nat,c=ao ar C/\z=ao ar n/\k=ao ar K/\1<=K/\K<=n/\uG (kD a n) (r.take (n-1))=uG C ((r.take (n-1)).drop (K-1))/\Hid ((K=1->C<32)/\(K=2->C<2048)/\(K=3->C<131072)/\C<8388608)) (fun _ _ k=>n-(cR k).toNat)
   .
    refine⟨kD a n,1,by rw[HZ.out];simp,rfl,rfl,by omega,by omega,by simp,?_⟩;have:=Ak;exact Hh (by omega)
   obtain⟨C,K,rfl,rfl,rfl,Ao,Ap,Aa,hC⟩:=hrel
   by_cases hKn:K<n
   .have Af:K<(a::r).length:=by simp;omega
    obtain⟨h5,e5⟩:=hi.out K Af
    have Ah:(r.take (n-1)).drop (K-1)=(a::r)[K]::(r.take (n-1)).drop K:=by
     have h6:K-1<(r.take (n-1)).length:=by simp;omega
     rw[cg h6];obtain⟨j,rfl⟩:∃j,K=j+1:=⟨K-1,by omega⟩;simp
    have hb:=Aj.out _ (cH Af);rw[Ah] at Aa;clear Ah;generalize (a::r)[K]=b at e5 hb Aa;have Am:0<=(i:Int)+(K:Int)/\(i:Int)+(K:Int)<(s.size:Int):=by omega
    have m4:=U2 b hb;have m5:=Ug b (by omega)
    by_cases R:b / 64=2
    .have Ae:C<131072:=by have:=hC.out;omega
     have m6:=Vm C b Ae hb;have m7:((b / 64*64:Nat):Int)=128:=by omega
     rw[m7] at m4;simp only[uG,R,if_true] at Aa;have HC:=Hh Aa;have HB:Hid ((K+1=1->C*64+b % 64<32)/\(K+1=2->C*64+b % 64<2048)/\(K+1=3->C*64+b % 64<131072)/\C*64+b % 64<8388608):=Hh (by have:=hC.out;omega);have An:C*64<=8388607:=by omega
     clear Aa m7 Ae;go_wp2;go_round
     .exact⟨C*64+b % 64,K+1,by go_num,rfl,by go_num,by omega,by omega,HC.out,HB⟩
     simp[cR];omega
    .have m7:(((b / 64*64:Nat):Int) != 128)=true:=by rw[bne_iff_ne];omega
     simp only[uG,R,if_false] at Aa;have HC:=Hh Aa;have E:=V.out;rw[HC.out] at E;have L:=Hh E;rw[<-m4] at m7;clear Aa E;go_wp2;go_ret2
     exact⟨mf L.out rfl rfl,rfl⟩
   .obtain rfl:K=n:=by omega
    have Ag:(r.take (K-1)).drop (K-1)=[]:=fg (by simp;omega);rw[Ag] at Aa;simp only[uG] at Aa;have E:=V.out;rw[Aa] at E;simp only at E;clear Aa Ag
    by_cases H:lN C=true
    .by_cases U:tu C=K
     .rw[E4 ⟨H,U⟩] at E
      have L:=Hh E;have Ad:((tu C:Nat):Int)=(K:Int):=by rw[U]
      have Ai:=Hh Ad;clear E U Ad;go_wp2_with fail;refine pB (lD (C:Int) w) ?_;intro X rfl;rw[gz,H];go_wp2_with fail;refine pB (nK C w) ?_;intro X rfl;rw[Ai.out];go_wp2;go_ret2
      exact⟨mf L.out rfl rfl,rfl⟩
     .rw[E6 (fun h=>U h.2)] at E
      have L:=Hh E;have Ad:(((tu C:Nat):Int) != (K:Int))=true:=by rw[bne_iff_ne];omega
      clear E U;go_wp2_with fail;refine pB (lD (C:Int) w) ?_;intro X rfl;rw[gz,H];go_wp2_with fail;refine pB (nK C w) ?_;intro X rfl;go_wp2;go_ret2
      exact⟨mf L.out rfl rfl,rfl⟩
    .rw[E6 (fun h=>H h.1)] at E
     have L:=Hh E;have Al:lN C=false:=by simpa using H
     clear E H;go_wp2_with fail;refine pB (lD (C:Int) w) ?_;intro X rfl;rw[gz,Al];go_wp2;go_ret2
     exact⟨mf L.out rfl rfl,rfl⟩
theorem yG(s:E7)(i:Nat)(w:cd)(q:Tab w)(C:s.size<=1048576) :
  cJ bh 85 #[al s,ao ar i] w (iW ((bs s).drop i) w):=by
 obtain⟨l,k⟩:∃l,(bs s).drop i=l:=⟨_,rfl⟩;rw[k]
 match l with
 |[]=>
  have D:s.size<=i:=by have:=congrArg fh k;simp[ay] at this;omega
  unfold iW;go_in;go_wp2;go_ret2
  exact⟨rfl,rfl⟩
 |a::r=>
  rcases CS a with h|h|h
  .obtain⟨A,x⟩:=Eo k (j:=0) (by simp)
   simp only[eA,eg] at A x;have E:=gJ a (dT (i:=i) (by rw[k];simp));have u:=Hh (NQ (r:=r) h);have B:=q (a / 8) (by omega);rw[yg,h] at B;clear k h;unfold iW;go_in;go_wp2;go_ret2
   exact⟨mf u.out rfl rfl,rfl⟩
  .exact Oy s i a r w q k C (Gv h)
  .exact KF s i a _ r w q k C rfl (by omega)
def U0:Option Nat->Int
 |none=>-1
 |some a=>a
def oI(l:List Nat)(k:Nat)(pre:List (Nat×Nat)):Prop:=scan l 0=(pre++(scan (l.drop k) k).1,(scan (l.drop k) k).2)
theorem oI.zero(l:List Nat):oI l 0 []:=by simp[oI]
theorem oI.bad{pre:List (Nat×Nat)}(h:oI l k pre)(c:k<l.length)(b:(aG (l.drop k)).2=0):scan l 0=(pre,aw k):=by
 have Aa:l.drop k≠[]:=by intro h;have:=congrArg fh h;simp at this;omega
 rw[h,kY Aa b];simp
theorem oI.good{c:Nat}{pre:List (Nat×Nat)}(h:oI l k pre)(i:k<l.length)(b:aG (l.drop k)=(c,n))(f:n≠0):oI l (k+n) (pre++[(k,c)]):=by
 have Aa:l.drop k≠[]:=by intro h;have:=congrArg fh h;simp at this;omega
 unfold oI at h ⊢;rw[h,tC Aa b f,c4];simp
theorem oI.done{pre:List (Nat×Nat)}(h:oI l k pre)(a:k=l.length):scan l 0=(pre,aq):=by
 rw[h,a,ei,nU];simp
theorem Lr:∀(m:Nat) (l:List Nat) (a k:Nat),l.length<=m->(∀x∈l,x<256)->(scan l a).2=aw k->k<a+l.length
 | m,l,a,k,hm,hl,h=>by
  by_cases h0:l=[]
  .subst h0;simp[nU] at h
  have hp:=ey.2 h0
  by_cases hn:(aG l).2=0
  .rw[kY h0 hn] at h;simp at h;omega
  .have hle:=(lw l hl).1
   cases m with
   |zero=>omega
   |succ m=>
    rw[gY h0,E6 hn] at h;have:=Lr m (l.drop (aG l).2) (a+(aG l).2) k (by simp;omega) (fun x hx=>hl x (dT hx)) h;simp at this;omega
theorem TT(s:E7)(w:cd)(E:Tab w)(L:s.size<=1048576) :
  cJ bh 176 #[al s] w fun e w'=>e=bk (ao ar (U0 (scan (bs s) 0).2))/\w=w':=by
 go_in;go_wp2;go_loop [3] (fun i=>∃(k:Nat) (pre:List (Nat×Nat)),i=ao ar k/\k<=s.size/\oI (bs s) k pre) (fun i=>s.size-(cR i).toNat)
 .exact⟨0,[],rfl,ck _,oI.zero _⟩
 obtain⟨k,pre,rfl,K,C⟩:=hrel;have u:=Hh C;clear C
 by_cases h:k<s.size
 .obtain⟨c,n,v⟩:∃c n,aG ((bs s).drop k)=(c,n):=⟨_,_,rfl⟩
  have Aa:=(lw ((bs s).drop k) (fun x hx=>gJ x (dT hx))).1;have j:=yG s k w E L;unfold iW at j;rw[v] at j Aa;simp only[bm,ay] at Aa;have B:=Hh v;clear v
  by_cases A:n=0
  .subst A
   have q:=Hh (u.out.bad (by rw[ay];exact h) (by rw[B.out]));go_wp2_with fail;refine j.mono ?_;clear j;rintro e D ⟨rfl,rfl⟩;go_wp2;go_ret;rw[q.out];exact⟨rfl,rfl⟩
  .have q:=Hh (u.out.good (by rw[ay];exact h) B.out A)
   have H:((n:Int)==0)=false:=by rw[Fc];omega
   have Ab:1<=n:=by omega
   clear A;go_wp2_with fail;refine j.mono ?_;clear j;rintro e D ⟨rfl,rfl⟩;go_wp2;go_round
   .exact⟨k+n,_,by go_num,by omega,q.out⟩
   simp[cR];omega
 .have q:=Hh (u.out.done (by rw[ay];omega))
  go_wp2;go_ret;rw[q.out];exact⟨rfl,rfl⟩
def KO(r:List (Nat×Nat)×Option Nat):Nat:=if r.2.isNone then r.1.length else 0
theorem EA(s:E7)(w:cd)(H:Tab w)(M:s.size<=1048576) :
  cJ bh 54 #[al s] w fun e w'=>e=bk (dr #[ao ar (KO (scan (bs s) 0)),cG (scan (bs s) 0).2.isNone])/\w=w':=by
 go_in;go_wp2;go_loop [4,5] (fun m i=>∃(k:Nat) (pre:List (Nat×Nat)),m=ao ar (pre.length:Nat)/\i=ao ar k/\k<=s.size/\pre.length<=k/\oI (bs s) k pre) (fun _ i=>s.size-(cR i).toNat)
 .exact⟨0,[],rfl,rfl,ck _,cA _,oI.zero _⟩
 obtain⟨k,pre,rfl,rfl,L,Ac,D⟩:=hrel;have u:=Hh D;clear D
 by_cases h:k<s.size
 .obtain⟨c,n,v⟩:∃c n,aG ((bs s).drop k)=(c,n):=⟨_,_,rfl⟩
  have Aa:=(lw ((bs s).drop k) (fun x hx=>gJ x (dT hx))).1;have j:=yG s k w H M;unfold iW at j;rw[v] at j Aa;simp only[bm,ay] at Aa;have C:=Hh v;clear v
  by_cases B:n=0
  .subst B
   have q:=Hh (u.out.bad (by rw[ay];exact h) (by rw[C.out]));go_wp2_with fail;refine j.mono ?_;clear j;rintro e E ⟨rfl,rfl⟩;go_wp2;go_ret2
   rw[q.out];exact⟨rfl,rfl⟩
  .have q:=Hh (u.out.good (by rw[ay];exact h) C.out B)
   have K:((n:Int)==0)=false:=by rw[Fc];omega
   have Ab:1<=n:=by omega
   clear B;go_wp2_with fail;refine j.mono ?_;clear j;rintro e E ⟨rfl,rfl⟩;go_wp2;go_round
   .exact⟨k+n,_,by simp,by go_num,by omega,by simp;omega,q.out⟩
   simp[cR];omega
 .have q:=Hh (u.out.done (by rw[ay];omega))
  go_wp2;go_ret2
  rw[q.out];exact⟨rfl,rfl⟩
end Go.Proofs.YtgmpmolfcaihfaaGreatDoor
