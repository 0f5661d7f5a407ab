/- Laws that TidyWell rests on; conditions: those that each names. -/
import Derived.Test.YtgmpmolfcaihfaaGreatDoorWga
import Derived.Laws.IdiomStrings
import Derived.RangeFuncNested
import Derived.RangeFuncBound
import Derived.RangeFuncBox
import Derived.RangeFuncCalls
import Derived.RangeFuncLeaves
import Derived.Shelf.Abstract
import Derived.Shelf.RegionOpen
import Derived.OwnWalkIn
import Derived.TacticsInMore
import Derived.LoopNIn
import Derived.LoopIn
import Derived.Maps.AppendAt
import Derived.Sort.QuietIn
import Derived.RegionIn
import Derived.Defers
import Derived.Recover
import Derived.Lib.IndexAny
import Derived.Lib.Bytealg
import Derived.Lib.LaidTab
import Derived.IntWalk
import Derived.Lib.IndexLaws
import Derived.Shelf.Strings.SlTrimAscii
import Derived.WalkMore
set_option linter.unusedSimpArgs false
set_option linter.unusedVariables false
set_option maxRecDepth 100000
set_option maxHeartbeats 20000000
open And renaming intro→cE
open Array renaming getElem?_eq_some_iff→fk,getElem?_set_ne→gi,replicate_succ→sL,replicate_zero→sR
open Bool renaming and_true→ot,false_eq_true→fm
open ByteArray renaming size_extract→gx
open Decidable renaming byContradiction→eE
open Go renaming Calls→cJ,Ending→pT,Value→cq,World→cd,belowK_b→DS,bodyPost_ret→bj,callsIn_of_wp_marks→wv,callsIn_wide→lf,maxLen→cV,ownFrom_below→DH,results_none→lO,results→cD,rounds_succ→fN,run_takeDeferred→pH,undef→fa,wpIn_rangeFunc_ownG→wx,wp_loop_rounds→mb
open Go.Addr renaming add_lit→iS
open Go.ByteArray renaming toList_eq→oY
open Go.CallsIn renaming inRound→v8
open Go.Ending renaming returned→bk,returned→jj
open Go.IntKind renaming i64→ar
open Go.Lib renaming hasPrefix→po,indexAny→me,indexByte→gA,index→DQ,trimPrefix→ue,trimRightS→iu
open Go.Obj renaming cells→aE
open Go.Proofs.Any renaming strings_TrimRight_laid→yi
open Go.Proofs.Tryz renaming func199→E0,prog→bh,results117→wa,results118→wb,results119→we,results142→tm,results80→mN,underlying181→n6
open Go.RowKit renaming Below→cj,intOf→cR
open Go.RowKit.Below renaming alloc→ej,drew→ed,heap_setCell→ds,refl→ba,setCell→ea
open Go.Value renaming bool→cG,int→ao,nilIface→ye,pointer→DM,pointer→cx,slice→an,string→al,tuple→dr
open Go.World renaming block_lt_of_cell?→lj,cell?_alloc_new→fL,cell?_alloc_past→kc,putObj_heap_other→tP,size_alloc→cF
open Go.World.ownsRow renaming lt→cy
open Int renaming natCast_add→se,toNat_natCast→eL
open List renaming all_eq_true→jt,append_assoc→ef,append_toArray→tf,cons_append→cf,drop_append_of_le_length→eo,drop_drop→c4,drop_eq_getElem_cons→cg,drop_left→gR,drop_take→gO,drop_zero→dd,find?_eq_none→yd,getElem?_cons_zero→fs,getElem?_eq_getElem→br,getElem_cons_succ→lE,getElem_cons_zero→eg,getElem_mem→cH,head?_cons→nj,isPrefixOf→qk,length_append→cm,length_cons→bc,length_drop→bm,length_nil→cY,length_pos_iff→ey,length_take→c8,length→fh,map_drop→rp,map_take→rj,mem_append→cX,mem_cons_of_mem→fi,mem_cons_self→pN,mem_cons→cL,mem_of_getElem?→mv,mem_of_mem_drop→dT,nil_append→cM,push_toArray→ux,singleton_append→fc,size_toArray→uv,take_append_drop→el,take_append_of_le_length→eW,take_left→fl,take_length→eR,take_of_length_le→eS,take_take→mz
open List.cons renaming injEq→fY
open Nat renaming le_of_lt→ph,le_refl→cA,min_eq_left→nh,reduceAdd→DE,reduceSub→DG,two_pow_add_eq_or_of_lt→sq,zero_le→ck
open Option renaming none→aq,some→aw
open Option.some renaming injEq→du,inj→dt
open UInt8 renaming ofNat→ep,toNat_inj→nf,toNat_ofNat'→yb
namespace Go.Proofs.YtgmpmolfcaihfaaGreatDoor
open Go.RowKit Go.Tab
variable{cs:Array cq}{l:Bs}{a b s:E7}{e:Int}{r:List Nat}{pre:List ae}{B base c g k n o:Nat}{row:Option Nat}{E t:TypeId}{v:cq}{A W w w':cd}
def bH(l:List UInt8):E7:=⟨l.toArray⟩
theorem zN(k m x:Nat)(b:x<2 ^ k)(c:2 ^ k*m<256)(d:x<256):bits .or ar ((2 ^ k*m:Nat):Int) (x:Int)=((2 ^ k*m+x:Nat):Int):=by
 have:=vS (2 ^ k*m) x (by omega) (by omega);rw[<-sq b m] at this;exact this
theorem Vq(x:Nat)(h:x<64):bits .or ar 128 (x:Int)=((128+x:Nat):Int):=zN 6 2 x h (by decide) (by omega)
theorem Vp(x:Nat)(h:x<64):bits .or ar 192 (x:Int)=((192+x:Nat):Int):=zN 6 3 x h (by decide) (by omega)
theorem Vo(x:Nat)(h:x<32):bits .or ar 224 (x:Int)=((224+x:Nat):Int):=zN 5 7 x h (by decide) (by omega)
theorem Vn(x:Nat)(h:x<16):bits .or ar 240 (x:Int)=((240+x:Nat):Int):=zN 4 15 x h (by decide) (by omega)
theorem p9(c:Nat)(w:cd)(f:c<=1114111):cJ bh 209 #[ao ar c] w fun e w'=>e=bk (ao .u8 (128+c % 64:Nat))/\w=w':=by
 have b:=Ug c (by omega);have m2:=Vq (c % 64) (by omega);push_cast at b m2;clear f;go_in;go_wp2;go_ret;exact⟨fC (by simp),rfl⟩
theorem Tryz.underS:Tryz.prog.underlying 9=aw .string:=by kernel_rfl
theorem kM(w:cd)(l:List UInt8)(cs:Array cq)(n:Nat)(m:List UInt8)(a:m=l)(h:cs=(l.map ny).toArray)(b:n=l.length) :
  (convert 34 9 (an (aw ⟨w.heap.size,0,aq⟩) n n)).run bh (w.alloc (aE cs 5))=.ok (al (bH m)) (w.alloc (aE cs 5)):=by
 subst a h b;refine run_convert_bytes_back (P:=bh) _ _ _ 5 _ m.length m Tryz.underlying34 Tryz.underlying5 Tryz.underS fun j hj=>?_;rw[iS,fL];simp[hj]
theorem F7(c:Nat)(w:cd)(h:lN c=true) :
  cJ bh 196 #[ao ar c] w fun e w'=>e=bk (dr #[al (bH (iH c)),cG true])/\cj w.heap.size w w':=by
 have A:=lD (c:Int) w;rw[gz,h] at A;rw[dF] at h;obtain⟨h,-⟩:=h
 by_cases i:c<128
 .have j:=nK c w
  rw[show tu c=1 by simp[tu,i]] at j;have k:iH c=[ep c]:=by simp[iH,fQ,i]
  have Aa:=kM w [ep c] #[ao .u8 c] 1 (iH c) k (by simp[ny];omega) rfl;clear k;go_in;go_wp2_with fail;refine A.mono ?_;rintro _ f ⟨rfl,rfl⟩;go_wp2_with fail;refine j.mono ?_;rintro _ f ⟨rfl,rfl⟩;go_wp2;go_ret2
  exact⟨rfl,(ba _ _).alloc lz _⟩
 .by_cases q:c<2048
  .have j:=nK c w
   rw[show tu c=2 by simp[tu,i,q]] at j;have k:iH c=[ep (192+c / 64),ep (128+c % 64)]:=by simp[iH,fQ,i,q]
   have C:=Vp (c / 64) (by omega);push_cast at C;have H:=Hh h;have Aa:=kM w [ep (192+c / 64),ep (128+c % 64)] #[ao .u8 (192+(c:Int) / 64),ao .u8 (128+(c:Int) % 64)] 2 (iH c) k (by simp[ny];omega) rfl;have G:c / 64<=31:=by omega
   clear k h i q;go_in;go_wp2_with fail;refine A.mono ?_;rintro _ f ⟨rfl,rfl⟩;go_wp2_with fail;refine j.mono ?_;rintro _ f ⟨rfl,rfl⟩;go_wp2_with fail;refine (p9 c w H.out).mono ?_;rintro _ f ⟨rfl,rfl⟩;go_wp2;go_ret2
   exact⟨rfl,(ba _ _).alloc lz _⟩
  .by_cases x:c<65536
   .have j:=nK c w
    rw[show tu c=3 by simp[tu,i,q,x]] at j;have k:iH c=[ep (224+c / 4096),ep (128+c / 64 % 64),ep (128+c % 64)]:=by simp[iH,fQ,i,q,x]
    have C:=Vo (c / 4096) (by omega);push_cast at C;have H:=Hh h;have E:=Hh (show c / 64<=1114111 by omega);have Aa:=kM w [ep (224+c / 4096),ep (128+c / 64 % 64),ep (128+c % 64)] #[ao .u8 (224+(c:Int) / 4096),ao .u8 (128+(c:Int) / 64 % 64),ao .u8 (128+(c:Int) % 64)] 3 (iH c) k (by simp[ny];omega) rfl;have G:c / 4096<=15:=by omega
    clear k h i q x;go_in;go_wp2_with fail;refine A.mono ?_;rintro _ f ⟨rfl,rfl⟩;go_wp2_with fail;refine j.mono ?_;rintro _ f ⟨rfl,rfl⟩;go_wp2_with fail;refine (p9 (c / 64) w E.out).mono ?_;rintro _ f ⟨rfl,rfl⟩;go_wp2_with fail;refine (p9 c w H.out).mono ?_;rintro _ f ⟨rfl,rfl⟩;go_wp2;go_ret2
    exact⟨rfl,(ba _ _).alloc lz _⟩
   .have j:=nK c w
    rw[show tu c=4 by simp[tu,i,q,x]] at j;have k:iH c=[ep (240+c / 262144),ep (128+c / 4096 % 64),ep (128+c / 64 % 64),ep (128+c % 64)]:=by simp[iH,fQ,i,q,x]
    have C:bits .or ar 240 ((c:Int) / 262144)=240+(c:Int) / 262144:=by
     have:=Vn (c / 262144) (by omega);rw[se,Int.natCast_ediv] at this;exact this
    have H:=Hh h;have E:=Hh (show c / 64<=1114111 by omega);have I:=Hh (show c / 4096<=1114111 by omega);have Aa:=kM w [ep (240+c / 262144),ep (128+c / 4096 % 64),ep (128+c / 64 % 64),ep (128+c % 64)] #[ao .u8 (240+(c:Int) / 262144),ao .u8 (128+(c:Int) / 4096 % 64),ao .u8 (128+(c:Int) / 64 % 64),ao .u8 (128+(c:Int) % 64)] 4 (iH c) k (by simp[ny];omega) rfl;have G:c / 262144<=4:=by omega
    clear k h i q x;go_in;go_wp2_with fail;refine A.mono ?_;rintro _ f ⟨rfl,rfl⟩;go_wp2_with fail;refine j.mono ?_;rintro _ f ⟨rfl,rfl⟩;go_wp2_with fail;refine (p9 (c / 4096) w I.out).mono ?_;rintro _ f ⟨rfl,rfl⟩;go_wp2_with fail;refine (p9 (c / 64) w E.out).mono ?_;rintro _ f ⟨rfl,rfl⟩;go_wp2_with fail;refine (p9 c w H.out).mono ?_;rintro _ f ⟨rfl,rfl⟩;go_wp2;go_ret2
    exact⟨rfl,(ba _ _).alloc lz _⟩
theorem RJ(c:Int)(w:cd)(h:mM c=false) :
  cJ bh 196 #[ao ar c] w fun e w'=>e=bk (dr #[al (bH []),cG false])/\w=w':=by
 have a:=lD c w;rw[h] at a;go_in;go_wp2_with fail;refine a.mono ?_;rintro _ b ⟨rfl,rfl⟩;go_wp2;go_ret2
 exact⟨rfl,rfl⟩
abbrev BZ(n:Int):cq:=.iface 172 (.agg #[ao ar n])
abbrev Uk(n:Int):pT:=.panicked [{ v:=BZ n,recovered:=false }]
theorem jq(n:Int)(w:cd):cJ bh 145 #[ao ar n] w fun e w'=>e=Uk n/\w=w':=by
 go_in;go_wp2;exact⟨rfl,rfl,rfl⟩
def dG(w:cd)(g:Nat)(s:E7)(k:Nat)(l:List UInt8):Prop:=
 ∃cs,Lc 176 g w g 2 cs l/\cs.size=4/\cs[0]?=aw (al s)/\cs[1]?=aw (ao ar (k:Int))
theorem Wj:EB 176 4 2:=⟨by decide,by kernel_rfl,by decide⟩
theorem dG.drewN{l:List UInt8}(h:dG w g s k l)(n:Nat):dG (w.drewN n) g s k l:=by
 obtain⟨cs,⟨a,b,v,c,e⟩,f⟩:=h;exact⟨cs,⟨a.drewN n,b,v,c,e.drewN n⟩,f⟩
theorem dG.lt{l:List UInt8}(h:dG w g s k l):g<w.heap.size:=by
 obtain⟨cs,a,_⟩:=h;exact a.cells.lt
theorem dG.moved{l:List UInt8}(h:dG w g s k l)(u:Nat):dG (w.setCell ⟨g,1,aq⟩ (ao ar (u:Int))) g s u l:=by
 obtain⟨cs,⟨b,i,v,j,c⟩,f,o,q⟩:=h;refine⟨cs.set 1 (ao ar (u:Int)) (by omega),⟨b.set 1 (by omega) _,?_,v,?_,c.setOther _ _ (nY c b (by decide))⟩,by simpa using f,?_,by simp⟩
 .rwa [gi (by omega) (by omega)]
 .rwa [gi (by omega) (by omega)]
 .rwa [gi (by omega) (by omega)]
theorem sO(g:Nat)(v:cq):cj g w (w.setCell ⟨g,1,aq⟩ v):=(ba g w).setCell (p:=⟨g,1,aq⟩) lz v
def Vg(g:Nat)(s:E7)(w:cd)(v:cq)(k':Nat)(l':List UInt8)(e:pT)(w':cd):Prop:=
 e=bk v/\dG w' g s k' l'/\cj g w w'/\bQ 5 g w w'
def Jn(g:Nat)(w:cd)(n:Int)(e:pT)(w':cd):Prop:=e=Uk n/\cj g w w'
theorem bQ.drewN(h:bQ E g w w')(n:Nat):bQ E g w (w'.drewN n):=h
theorem Below.drewN'(h:cj B w w')(n:Nat):cj B w (w'.drewN n):=h.trans (dz B w' n)
theorem NA(w:cd)(g:Nat)(s:E7)(k:Nat)(l:List UInt8)(h:dG w g s k l)(x:k=s.size)(D:s.size<=1048576) :
  cJ bh 144 #[cx (aw ⟨g,0,aq⟩)] w (Jn g w 2):=by
 obtain⟨cs,c,j,f,i⟩:=h;have u:=c.cells.cell 0 _ f;have c1:=c.cells.cell 1 _ i;have v:decide (s.size<=k)=true:=by simp;omega
 clear x c j f i;go_in;go_wp2_with fail;go_quiet (fail)
 go_wp2_with fail;refine (jq 2 _).mono ?_;rintro _ C ⟨rfl,rfl⟩;go_wp2;exact⟨rfl,rfl,Below.drewN' (ba g w) _⟩
theorem NB(w:cd)(g:Nat)(s:E7)(k:Nat)(l:List UInt8)(h:dG w g s k l)(v:k<s.size)(x:s.size<=1048576) :
  cJ bh 144 #[cx (aw ⟨g,0,aq⟩)] w (Vg g s w (ao .u8 ((s[k]'v).toNat:Nat)) (k+1) l):=by
 obtain⟨cs,c,j,f,i⟩:=id h;have o:=c.cells.cell 0 _ f;have c1:=c.cells.cell 1 _ i;have q:=c.cells.frozen 1;have u:decide (s.size<=k)=false:=by simp;omega
 have Aa:=c.cells.lt;clear c j f i;go_in;go_wp2_with fail;go_quiet (fail)
 go_wp2_with fail;go_quiet (fail)
 go_wp2;go_ret;exact⟨rfl,((h.drewN _).moved (k+1)).drewN _,Below.drewN' ((Below.drewN' (ba g w) _).setCell (p:=⟨g,1,aq⟩) lz _) _,((bQ.refl.drewN _).setCell 1 _).drewN _⟩
theorem iO(b:k<=s.size)(h:(bs s).drop k=[]):k=s.size:=by
 have:=congrArg fh h;simp[ay] at this;omega
theorem nN(w:cd)(g:Nat)(s:E7)(k:Nat)(l:List UInt8)(h:dG w g s k l)(hk:k<=s.size)(hr:(bs s).drop k=[])(hs:s.size<=1048576) :
  cJ bh 144 #[cx (aw ⟨g,0,aq⟩)] w (Jn g w 2):=NA w g s k l h (iO hk hr) hs
theorem ma(w:cd)(g:Nat)(s:E7)(k:Nat)(l:List UInt8)(h:dG w g s k l)(i:(bs s).drop k=c::r)(q:s.size<=1048576) :
  cJ bh 144 #[cx (aw ⟨g,0,aq⟩)] w (Vg g s w (ao .u8 (c:Int)) (k+1) l):=by
 obtain⟨f,b⟩:=Eo i (j:=0) (by simp);have Aa:k<s.size:=f;have e:(s[k]'Aa).toNat=c:=b;have:=NB w g s k l h Aa q
 rwa [e] at this
theorem iX{l:List Nat}(h:l.drop k=c::r):l.drop (k+1)=r/\k<l.length:=by
 refine⟨?_,?_⟩
 .rw[<-c4,h];rfl
 .have:=congrArg fh h;simp at this;omega
theorem Uw(a b:Nat)(h:a<16777216)(c:b<16):bits .or ar ((a:Int)*16) (b:Int)=((a*16+b:Nat):Int):=by
 have:=vS (a*16) b (by omega) (by omega);push_cast at this;rw[this,show a*16=2 ^ 4*a by omega,<-sq (by omega:b<2 ^ 4)]
def VH(g:Nat)(s:E7)(w:cd)(k:Nat)(l:List UInt8)(r:List Nat)(e:pT)(w':cd):Prop:=
 ((aQ r).2=0/\Vg g s w (ao ar ((aQ r).1:Nat)) (k+4) l e w')\/((aQ r).2≠0/\Jn g w ((aQ r).2:Nat) e w')
theorem Vs{j m:Nat}(c:j<4)(b:m<16 ^ j):m<4096/\∀d,d<16->m*16+d<16 ^ (j+1):=by
 have:j=0\/j=1\/j=2\/j=3:=by omega
 rcases this with rfl|rfl|rfl|rfl<;>simp at b ⊢<;>refine⟨by omega,fun d hd=>by omega⟩
theorem IL(w:cd)(g:Nat)(s:E7)(k:Nat)(l:List UInt8)(h:dG w g s k l)(hk:k<=s.size)(hs:s.size<=1048576) :
  cJ bh 208 #[cx (aw ⟨g,0,aq⟩)] w (VH g s w k l ((bs s).drop k)):=by
 go_in;go_wp2;go_loopw [3,5] (fun n i wr=>∃(j m:Nat),j<=4/\n=ao ar m/\i=ao ar j/\m<16 ^ j/\dG wr g s (k+j) l/\k+j<=s.size/\cj g w wr/\bQ 5 g w wr/\ji (4-j) m ((bs s).drop (k+j))=aQ ((bs s).drop k)) (fun _ i _=>4-(cR i).toNat)
 .exact⟨0,0,by omega,rfl,rfl,by simp,h,hk,ba _ _,bQ.refl,rfl⟩
 obtain⟨j,m,hj,rfl,rfl,M,hR,Af,O,W,v⟩:=hrel
 by_cases hj4:j<4
 .obtain⟨Ag,Aa⟩:=Vs hj4 M
  obtain⟨i,hi⟩:∃i,4-j=i+1:=⟨3-j,by omega⟩;rw[hi] at v
  cases hr:(bs s).drop (k+j) with
  |nil=>
   rw[hr,ji] at v;have C:=Hh v;have K:=nN wr g s (k+j) l hR Af hr hs;clear v hr hi Aa M;go_wp2_with fail;refine K.mono ?_;rintro _ Y ⟨rfl,A⟩;go_wp2;exact⟨rfl,.inr ⟨by rw[<-C.out];simp,by rw[<-C.out];rfl,O.trans A⟩⟩
  |cons c r=>
   obtain⟨Ad,Ae⟩:=iX hr;rw[ay] at Ae;have Z:=Hh (show (bs s).drop (k+(j+1))=r from Ad);have hc:c<256:=gJ c (dT (by rw[hr];simp));have K:=ma wr g s (k+j) l hR hr hs;rw[hr] at v;simp only[ji] at v;clear Ad
   by_cases S:48<=c/\c<=57
   .obtain⟨x,D⟩:=exq (m*16+(c-48))
    have ho:bits .or ar ((m:Int)*16) ((c:Int)-48)=(x:Int):=by
     have:=Uw m (c-48) (by omega) (by omega);rw[show (((c-48:Nat)):Int)=(c:Int)-48 by omega] at this;rw[this,D]
    have Ab:x<16 ^ (j+1):=by rw[D];exact Aa _ (by omega)
    rw[show pu c=aw (c-48) by unfold pu;rw[E4 S]] at v;simp only[<-D] at v;have C:=Hh v;have Ac:=Hh Ab;clear v hr Aa M Ab D;have P:=Hh hi;clear hi;go_wp2_with fail;refine K.mono ?_;clear K;rintro e Y ⟨rfl,F,A,E⟩;go_wp2;go_roundw
    .exact⟨j+1,x,by omega,rfl,by go_num,Ac.out,F,by omega,O.trans A,W.trans E,by rw[show 4-(j+1)=i by have:=P.out;omega,Z.out];exact C.out⟩
    simp[cR];omega
   by_cases V:97<=c/\c<=102
   .obtain⟨x,D⟩:=exq (m*16+(c-87))
    have ho:bits .or ar ((m:Int)*16) ((c:Int)-97+10)=(x:Int):=by
     have:=Uw m (c-87) (by omega) (by omega);rw[show (((c-87:Nat)):Int)=(c:Int)-97+10 by omega] at this;rw[this,D]
    have Ab:x<16 ^ (j+1):=by rw[D];exact Aa _ (by omega)
    rw[show pu c=aw (c-87) by unfold pu;rw[E6 S,E4 V]] at v;simp only[<-D] at v;have C:=Hh v;have Ac:=Hh Ab;clear v hr Aa M Ab D;have P:=Hh hi;clear hi;go_wp2_with fail;refine K.mono ?_;clear K;rintro e Y ⟨rfl,F,A,E⟩;go_wp2;go_roundw
    .exact⟨j+1,x,by omega,rfl,by go_num,Ac.out,F,by omega,O.trans A,W.trans E,by rw[show 4-(j+1)=i by have:=P.out;omega,Z.out];exact C.out⟩
    simp[cR];omega
   by_cases h3:65<=c/\c<=70
   .obtain⟨x,D⟩:=exq (m*16+(c-55))
    have ho:bits .or ar ((m:Int)*16) ((c:Int)-65+10)=(x:Int):=by
     have:=Uw m (c-55) (by omega) (by omega);rw[show (((c-55:Nat)):Int)=(c:Int)-65+10 by omega] at this;rw[this,D]
    have Ab:x<16 ^ (j+1):=by rw[D];exact Aa _ (by omega)
    rw[show pu c=aw (c-55) by unfold pu;rw[E6 S,E6 V,E4 h3]] at v;simp only[<-D] at v;have C:=Hh v;have Ac:=Hh Ab;clear v hr Aa M Ab D;have P:=Hh hi;clear hi;go_wp2_with fail;refine K.mono ?_;clear K;rintro e Y ⟨rfl,F,A,E⟩;go_wp2;go_roundw
    .exact⟨j+1,x,by omega,rfl,by go_num,Ac.out,F,by omega,O.trans A,W.trans E,by rw[show 4-(j+1)=i by have:=P.out;omega,Z.out];exact C.out⟩
    simp[cR];omega
   .rw[show pu c=aq by unfold pu;rw[E6 S,E6 V,E6 h3]] at v
    have C:=Hh v;clear v hr Aa M hi;have T:c<48\/(58<=c/\c<=64)\/(71<=c/\c<=96)\/103<=c:=by omega
    clear S V h3;rcases T with T|T|T|T
    all_goals
     go_wp2_with fail;refine K.mono ?_;rintro _ Y ⟨rfl,F,A,E⟩;go_wp2_with fail;refine (jq 3 _).mono ?_;rintro _ w2 ⟨rfl,rfl⟩;go_wp2;exact⟨rfl,.inr ⟨by rw[<-C.out];simp,by rw[<-C.out];rfl,O.trans A⟩⟩
 .obtain rfl:j=4:=by omega
  simp only[Nat.sub_self,ji] at v;have C:=Hh v;clear v M;go_wp2;go_ret;exact .inl ⟨by rw[<-C.out],by rw[<-C.out];rfl,hR,O,W⟩
def un(l:List Nat):List UInt8:=l.map ep
theorem MV(a b:List Nat):un (a++b)=un a++un b:=by simp[un]
theorem dG.wrote{l':List UInt8}(q:cs.size=4)(r:cs[0]?=aw (al s))(u:cs[1]?=aw (ao ar (k:Int)))(h:∃cs',Lc 176 g w' g 2 cs' l'/\F3 g 2 cs cs'/\cj g w w'/\bQ 5 g w w'):dG w' g s k l'/\cj g w w'/\bQ 5 g w w':=by
 obtain⟨cs',o,⟨i,f,p⟩,j,l⟩:=h;exact⟨⟨cs',o,by rw[i,q],by rw[f 0 (by omega) (by omega)];exact r,by rw[f 1 (by omega) (by omega)];exact u⟩,j,l⟩
theorem Su(w:cd)(g:Nat)(s:E7)(k:Nat)(l:List UInt8)(c:Nat)(n:Int)(x:n=(c:Int))(A:c<256)(h:dG w g s k l)(C:l.length<=100000000) :
  cJ bh 170 #[cx (aw ⟨g,2,aq⟩),ao .u8 n] w fun e w'=>e=bk .nilIface/\dG w' g s k (l++un [c])/\cj g w w'/\bQ 5 g w w':=by
 obtain⟨cs,q,f,i,p⟩:=h;refine (Dl w (ep c) n (by rw[x,yb];omega) q (by rw[f];exact Wj) lz (by omega)).mono ?_;rintro _ w' ⟨rfl,v⟩;exact⟨rfl,dG.wrote f i p v⟩
theorem VK(w:cd)(g:Nat)(s:E7)(k:Nat)(l:List UInt8)(x:E7)(h:dG w g s k l)(v:l.length+x.size<=100000000) :
  cJ bh 57 #[cx (aw ⟨g,2,aq⟩),al x] w fun e w'=>e=bk (dr #[ao ar x.size,.nilIface])/\dG w' g s k (l++x.data.toList)/\cj g w w'/\bQ 5 g w w':=by
 obtain⟨cs,p,c,f,i⟩:=h;refine (ru w x p (by rw[c];exact Wj) lz (by omega)).mono ?_;rintro _ w' ⟨rfl,q⟩;exact⟨rfl,dG.wrote c f i q⟩
def Uh(g:Nat)(s:E7)(w:cd)(v:cq)(k0:Nat)(l:List UInt8)(q:qD)(e:pT)(w':cd):Prop:=
 (q.2.2=0/\Vg g s w v (k0+q.2.1) (l++un q.1) e w')\/(q.2.2≠0/\Jn g w (q.2.2:Nat) e w')
theorem nS(l:List UInt8):(bH l).size=l.length:=by simp[bH,ByteArray.size]
theorem bQ.of_below(h:cj w.heap.size w w'):bQ E g w w':=
 ⟨h.size,fun k o _ ho _=>(h.block k (fk.1 ho).1).trans ho⟩
theorem dG.below{l:List UInt8}(h:dG w g s k l)(o:cj w.heap.size w w'):dG w' g s k l:=by
 obtain⟨cs,⟨a,c,v,f,i⟩,j⟩:=h;exact⟨cs,⟨a.below o a.lt,c,v,f,i.below o lz⟩,j⟩
theorem Kg(w:cd)(g:Nat)(s:E7)(k:Nat)(l:List UInt8)(h:dG w g s (k+2) l)(hk:k+2<=s.size)(hs:s.size<=1048576)(hl:l.length<=9000000) :
  cJ bh 195 #[cx (aw ⟨g,0,aq⟩)] w (Uh g s w (dr #[]) k l (aU ((bs s).drop (k+2)))):=by
 have h4:=IL w g s (k+2) l h hk hs;have Aq:g<=w.heap.size:=ph h.lt;obtain⟨r,hr⟩:=exq ((bs s).drop (k+2));rw[<-hr] at h4 ⊢
 by_cases hu:(aQ r).2=0
 .obtain⟨Ak,Ar⟩:=kF hu
  obtain⟨n,hn⟩:=exq ((aQ r).1);have Au:k+6<=s.size:=by rw[hr] at Ak;simp[ay] at Ak;omega
  rw[<-hn] at Ar
  have Ab:cJ bh 208 #[cx (aw ⟨g,0,aq⟩)] w (Vg g s w (ao ar (n:Int)) (k+2+4) l):=h4.mono fun e w' h=>by
   rcases h with ⟨_,h⟩|⟨h,_⟩
   .rwa [hn]
   .exact absurd hu h
  by_cases h1:56320<=n/\n<=57343
  .have O:Hid (aU r=aJ 3):=Hh (by unfold aU;rw[E6 (by simp[hu]),E4 (by rw[<-hn];exact h1)])
   clear h4 hu hn hr Ak;go_in;go_wp2_with fail;refine Ab.mono ?_;rintro _ w1 ⟨rfl,M,D,Z⟩;go_wp2_with fail;refine (jq 3 _).mono ?_;rintro _ w2 ⟨rfl,rfl⟩;go_wp2;exact⟨rfl,.inr ⟨by rw[O.out];simp[aJ],by rw[O.out];rfl,D⟩⟩
  .by_cases h2:n<55296\/57343<n
   .have O:Hid (aU r=(fQ n,6,0)):=Hh (by unfold aU;rw[E6 (by simp[hu]),E6 (by rw[<-hn];exact h1),E4 (by rw[<-hn];exact h2),<-hn])
    have hP:=fun W=>F7 n W (by rw[dF];omega);have Av:(bH (iH n)).size<=4:=by rw[nS,kI];exact (qE n).2
    clear h4 hu hn hr Ak;rcases h2 with h2|h2
    all_goals
     go_in;go_wp2_with fail;refine Ab.mono ?_;rintro _ w1 ⟨rfl,M,D,Z⟩;go_wp2_with fail;refine (hP _).mono ?_;rintro _ w2 ⟨rfl,A⟩;have Aa:=M.below A;have Aw:=A.size;have An:=M.lt;go_wp2_with fail;refine (VK w2 g s _ l _ Aa (by omega)).mono ?_;rintro _ w3 ⟨rfl,hR3,Y,hB3⟩;go_wp2;go_end0
     exact .inl ⟨by rw[O.out],by rw[O.out];exact⟨rfl,hR3,(D.trans (A.mono (by omega))).trans Y,(Z.trans (bQ.of_below A)).trans hB3⟩⟩
   .have Ag:Hid (aU r=jV n (r.drop 4)):=Hh (by unfold aU;rw[E6 (by simp[hu]),E6 (by rw[<-hn];exact h1),E6 (by rw[<-hn];exact h2),<-hn])
    have Af:r.drop 4=(bs s).drop (k+6):=by rw[hr,c4]
    have Am:55296<=n/\n<=56319:=by omega
    have b1:decide ((56320:Int)<=(n:Int))=false:=by simp;omega
    have b2:decide ((55296:Int)<=(n:Int))=true:=by simp;omega
    have b3:decide ((n:Int)<=56319)=true:=by simp;omega
    have Ap:=Hh Am;clear h4 hu hn Ak h1 h2 Ar;have HR:=Hh hr;clear hr Am
    cases hq:(bs s).drop (k+6) with
    |nil=>
     have O:Hid (aU r=aJ 2):=Hh (by rw[Ag.out,Af,hq];rfl);have hN:=fun W h=>nN W g s (k+2+4) l h (by omega) hq hs;clear hq Af;go_in;go_wp2_with fail;refine Ab.mono ?_;rintro _ w1 ⟨rfl,M,D,Z⟩;go_wp2_with fail;refine (hN _ M).mono ?_;rintro _ w2 ⟨rfl,A⟩;go_wp2;exact⟨rfl,.inr ⟨by rw[O.out];simp[aJ],by rw[O.out];rfl,D.trans A⟩⟩
    |cons c t=>
     have hN:=fun W h=>ma W g s (k+2+4) l h hq hs;have hc:c<256:=gJ c (dT (by rw[hq];simp))
     by_cases hc92:c=92
     .subst hc92
      obtain⟨hd,As⟩:=iX hq;rw[ay] at As;have Ac:r.drop 4=92::t:=by rw[Af,hq]
      cases ht:t with
      |nil=>
       have O:Hid (aU r=aJ 2):=Hh (by rw[Ag.out,Ac,ht];rfl);have Ai:=fun W h=>nN W g s (k+2+4+1) l h (by omega) (by rw[<-ht];exact hd) hs;clear hq Af Ac ht hd;go_in;go_wp2_with fail;refine Ab.mono ?_;rintro _ w1 ⟨rfl,M,D,Z⟩;go_wp2_with fail;refine (hN _ M).mono ?_;rintro _ w2 ⟨rfl,Aa,A,hB2⟩;go_wp2_with fail;refine (Ai _ Aa).mono ?_;rintro _ w3 ⟨rfl,Y⟩;go_wp2;exact⟨rfl,.inr ⟨by rw[O.out];simp[aJ],by rw[O.out];rfl,(D.trans A).trans Y⟩⟩
      |cons d u=>
       subst ht;have Ai:=fun W h=>ma W g s (k+2+4+1) l h hd hs;have A1:d<256:=gJ d (dT (by rw[hd];simp));obtain⟨he,At⟩:=iX hd;rw[ay] at At
       by_cases hd117:d=117
       .subst hd117
        have hF:=fun W h=>IL W g s (k+2+4+1+1) l h (by omega) hs;rw[show (bs s).drop (k+2+4+1+1)=u from he] at hF;clear hq Af he hd
        by_cases hm:(aQ u).2=0
        .obtain⟨A2,Ao⟩:=kF hm
         obtain⟨m,Ah⟩:=exq ((aQ u).1)
         have Al:∀W,dG W g s (k+2+4+1+1) l->cJ bh 208 #[cx (aw ⟨g,0,aq⟩)] W (Vg g s W (ao ar (m:Int)) (k+2+4+1+1+4) l):=fun W h=>(hF W h).mono fun e w' h=>by
          rcases h with ⟨_,h⟩|⟨h,_⟩
          .rwa [Ah]
          .exact absurd hm h
         rw[<-Ah] at Ao;clear hF
         by_cases T:m<56320\/57343<m
         .have O:Hid (aU r=aJ 3):=Hh (by rw[Ag.out,Ac];simp only[jV];rw[E6 (by simp),E6 (by simp),E6 (by simp[hm]),E4 (by rw[<-Ah];exact T)])
          clear Ac hm Ah;have Ad:=Hh T;clear T Ao
          .go_in
           go_wp2_with fail;refine Ab.mono ?_;rintro _ w1 ⟨rfl,M,D,Z⟩;go_wp2_with fail;refine (hN _ M).mono ?_;rintro _ w2 ⟨rfl,Aa,A,hB2⟩;go_wp2_with fail;refine (Ai _ Aa).mono ?_;rintro _ w3 ⟨rfl,hR3,Y,hB3⟩;go_wp2_with fail;refine (Al _ hR3).mono ?_;rintro _ w4 ⟨rfl,hR4,hb4,hB4⟩
           have Aj:(decide ((m:Int)<56320)=true)\/(decide ((m:Int)<56320)=false/\decide ((57343:Int)<(m:Int))=true):=by
            rcases Ad.out with T|T
            .exact .inl (by simp;omega)
            .exact .inr ⟨by simp;omega,by simp;omega⟩
           rcases Aj with T|⟨T,hlow3⟩
           all_goals
            go_wp2_with fail;refine (jq 3 _).mono ?_;rintro _ w5 ⟨rfl,rfl⟩;go_wp2;exact⟨rfl,.inr ⟨by rw[O.out];simp[aJ],by rw[O.out];rfl,((D.trans A).trans Y).trans hb4⟩⟩
         .obtain⟨x,hx⟩:=exq (65536+(n-55296)*1024+(m-56320))
          have O:Hid (aU r=(fQ x,12,0)):=Hh (by rw[Ag.out,Ac];simp only[jV];rw[E6 (by simp),E6 (by simp),E6 (by simp[hm]),E6 (by rw[<-Ah];exact T),hx,Ah]);have hP:=fun W=>F7 x W (by have:=Ap.out;rw[dF];omega);have Av:(bH (iH x)).size<=4:=by rw[nS,kI];exact (qE x).2
          have Ae:56320<=m/\m<=57343:=by omega
          have Ad:=Hh Ae;have Am:=Ap.out;have E1:=Jh (show (0:Int)<=(n:Int)-55296/\(n:Int)-55296<=1023 by omega) (cE (show (0:Int)<=(m:Int)-56320/\(m:Int)-56320<=1023 by omega) (show (65536:Int)+1024*((n:Int)-55296)+((m:Int)-56320)=(x:Int) by omega));clear Ac hm Ah hx T Ae Ao Am;go_in;go_wp2_with fail;refine Ab.mono ?_;rintro _ w1 ⟨rfl,M,D,Z⟩;go_wp2_with fail;refine (hN _ M).mono ?_;rintro _ w20 ⟨rfl,hR20,hb20,hB20⟩;go_wp2_with fail;refine (Ai _ hR20).mono ?_;rintro _ w30 ⟨rfl,hR30,hb30,hB30⟩;go_wp2_with fail;refine (Al _ hR30).mono ?_;rintro _ w40 ⟨rfl,hR40,hb40,hB40⟩;have Az:decide ((m:Int)<56320)=false:=by have:=Ad.out;simp;omega
          have A0:decide ((57343:Int)<(m:Int))=false:=by have:=Ad.out;simp;omega
          obtain⟨e1,e2,A3⟩:=E1.out;go_wp2_with fail;refine (hP _).mono ?_;rintro _ w2 ⟨rfl,A⟩;have Aa:=hR40.below A;have Aw:=A.size;have An:=hR40.lt;go_wp2_with fail;refine (VK w2 g s _ l _ Aa (by omega)).mono ?_;rintro _ w3 ⟨rfl,hR3,Y,hB3⟩;go_wp2;go_end0
          exact .inl ⟨by rw[O.out],by rw[O.out];exact⟨rfl,hR3,((((D.trans hb20).trans hb30).trans hb40).trans (A.mono (by omega))).trans Y,((((Z.trans hB20).trans hB30).trans hB40).trans (bQ.of_below A)).trans hB3⟩⟩
        .have O:Hid (aU r=aJ (aQ u).2):=Hh (by rw[Ag.out,Ac];simp only[jV];rw[E6 (by simp),E6 (by simp),E4 (by simpa using hm)])
         have Al:∀W,dG W g s (k+2+4+1+1) l->cJ bh 208 #[cx (aw ⟨g,0,aq⟩)] W (Jn g W ((aQ u).2:Nat)):=fun W h=>(hF W h).mono fun e w' h=>by
          rcases h with ⟨h,_⟩|⟨_,h⟩
          .exact absurd h hm
          .exact h
         clear hF Ac;go_in;go_wp2_with fail;refine Ab.mono ?_;rintro _ w1 ⟨rfl,M,D,Z⟩;go_wp2_with fail;refine (hN _ M).mono ?_;rintro _ w2 ⟨rfl,Aa,A,hB2⟩;go_wp2_with fail;refine (Ai _ Aa).mono ?_;rintro _ w3 ⟨rfl,hR3,Y,hB3⟩;go_wp2_with fail;refine (Al _ hR3).mono ?_;rintro _ w4 ⟨rfl,hb4⟩;go_wp2;exact⟨rfl,.inr ⟨by rw[O.out];exact hm,by rw[O.out];rfl,((D.trans A).trans Y).trans hb4⟩⟩
       .have O:Hid (aU r=aJ 3):=Hh (by rw[Ag.out,Ac];simp only[jV];rw[E6 (by simp),E4 (by simpa using hd117)])
        have Ay:((d:Int) != 117)=true:=by rw[bne_iff_ne];omega
        clear hq Af Ac hd he hd117;go_in;go_wp2_with fail;refine Ab.mono ?_;rintro _ w1 ⟨rfl,M,D,Z⟩;go_wp2_with fail;refine (hN _ M).mono ?_;rintro _ w2 ⟨rfl,Aa,A,hB2⟩;go_wp2_with fail;refine (Ai _ Aa).mono ?_;rintro _ w3 ⟨rfl,hR3,Y,hB3⟩;go_wp2_with fail;refine (jq 3 _).mono ?_;rintro _ w4 ⟨rfl,rfl⟩;go_wp2;exact⟨rfl,.inr ⟨by rw[O.out];simp[aJ],by rw[O.out];rfl,(D.trans A).trans Y⟩⟩
     .have O:Hid (aU r=aJ 3):=Hh (by rw[Ag.out,Af,hq];simp only[jV];rw[E4 (by simpa using hc92)])
      have Ax:((c:Int) != 92)=true:=by rw[bne_iff_ne];omega
      clear hq Af hc92;go_in;go_wp2_with fail;refine Ab.mono ?_;rintro _ w1 ⟨rfl,M,D,Z⟩;go_wp2_with fail;refine (hN _ M).mono ?_;rintro _ w2 ⟨rfl,Aa,A,hB2⟩;go_wp2_with fail;refine (jq 3 _).mono ?_;rintro _ w3 ⟨rfl,rfl⟩;go_wp2;exact⟨rfl,.inr ⟨by rw[O.out];simp[aJ],by rw[O.out];rfl,D.trans A⟩⟩
 .have Ab:cJ bh 208 #[cx (aw ⟨g,0,aq⟩)] w (Jn g w ((aQ r).2:Nat)):=h4.mono fun e w' h=>by
   rcases h with ⟨h,_⟩|⟨_,h⟩
   .exact absurd h hu
   .exact h
  have O:Hid (aU r=aJ (aQ r).2):=Hh (by unfold aU;rw[E4 (by simpa using hu)]);clear h4;have HR:=Hh hr;clear hr;go_in;go_wp2_with fail;refine Ab.mono ?_;rintro _ w1 ⟨rfl,D⟩;go_wp2;exact⟨rfl,.inr ⟨by rw[O.out];exact hu,by rw[O.out];rfl,D⟩⟩
theorem KG(w:cd)(g:Nat)(s:E7)(k:Nat)(l:List UInt8)(h:dG w g s (k+1) l)(hk:k+1<=s.size)(hs:s.size<=1048576)(hl:l.length<=9000000) :
  cJ bh 169 #[cx (aw ⟨g,0,aq⟩)] w (Uh g s w (dr #[]) k l (ou ((bs s).drop (k+1)))):=by
 obtain⟨r,V⟩:=exq ((bs s).drop (k+1));rw[<-V]
 cases hq:r with
 |nil=>
  have O:=fun W h=>nN W g s (k+1) l h hk (by rw[<-V];exact hq) hs;have D:Hid (ou r=aJ 2):=Hh (by rw[hq];rfl);rw[<-hq];have HR:=Hh V;clear hq V;go_in;go_wp2_with fail;refine (O _ h).mono ?_;rintro _ K ⟨rfl,f⟩;go_wp2;exact⟨rfl,.inr ⟨by rw[D.out];simp[aJ],by rw[D.out];rfl,f⟩⟩
 |cons c t=>
  rw[<-hq];have Aa:(bs s).drop (k+1)=c::t:=by rw[<-V];exact hq
  have O:=fun W h=>ma W g s (k+1) l h Aa hs;have hc:c<256:=gJ c (dT (by rw[Aa];simp));have HR:=Hh V;clear V
  by_cases P:c=34
  .subst P
   have D:Hid (ou r=([34],2,0)):=Hh (by rw[hq];rfl);clear hq Aa;go_in;go_wp2_with fail;refine (O _ h).mono ?_;rintro _ K ⟨rfl,v,f,j⟩;go_wp2_with fail;refine (Su K g s _ l 34 _ (by first|rfl|decide) (by omega) v (by omega)).mono ?_;rintro _ T ⟨rfl,A,i,x⟩;go_wp2;go_end0
   exact .inl ⟨by rw[D.out],by rw[D.out];exact⟨rfl,A,f.trans i,j.trans x⟩⟩
  by_cases S:c=92
  .subst S
   have D:Hid (ou r=([92],2,0)):=Hh (by rw[hq];rfl);clear hq Aa;go_in;go_wp2_with fail;refine (O _ h).mono ?_;rintro _ K ⟨rfl,v,f,j⟩;go_wp2_with fail;refine (Su K g s _ l 92 _ (by first|rfl|decide) (by omega) v (by omega)).mono ?_;rintro _ T ⟨rfl,A,i,x⟩;go_wp2;go_end0
   exact .inl ⟨by rw[D.out],by rw[D.out];exact⟨rfl,A,f.trans i,j.trans x⟩⟩
  by_cases Q:c=47
  .subst Q
   have D:Hid (ou r=([47],2,0)):=Hh (by rw[hq];rfl);clear hq Aa;go_in;go_wp2_with fail;refine (O _ h).mono ?_;rintro _ K ⟨rfl,v,f,j⟩;go_wp2_with fail;refine (Su K g s _ l 47 _ (by first|rfl|decide) (by omega) v (by omega)).mono ?_;rintro _ T ⟨rfl,A,i,x⟩;go_wp2;go_end0
   exact .inl ⟨by rw[D.out],by rw[D.out];exact⟨rfl,A,f.trans i,j.trans x⟩⟩
  by_cases M:c=98
  .subst M
   have D:Hid (ou r=([8],2,0)):=Hh (by rw[hq];rfl);clear hq Aa;go_in;go_wp2_with fail;refine (O _ h).mono ?_;rintro _ K ⟨rfl,v,f,j⟩;go_wp2_with fail;refine (Su K g s _ l 8 _ (by first|rfl|decide) (by omega) v (by omega)).mono ?_;rintro _ T ⟨rfl,A,i,x⟩;go_wp2;go_end0
   exact .inl ⟨by rw[D.out],by rw[D.out];exact⟨rfl,A,f.trans i,j.trans x⟩⟩
  by_cases E:c=102
  .subst E
   have D:Hid (ou r=([12],2,0)):=Hh (by rw[hq];rfl);clear hq Aa;go_in;go_wp2_with fail;refine (O _ h).mono ?_;rintro _ K ⟨rfl,v,f,j⟩;go_wp2_with fail;refine (Su K g s _ l 12 _ (by first|rfl|decide) (by omega) v (by omega)).mono ?_;rintro _ T ⟨rfl,A,i,x⟩;go_wp2;go_end0
   exact .inl ⟨by rw[D.out],by rw[D.out];exact⟨rfl,A,f.trans i,j.trans x⟩⟩
  by_cases F:c=110
  .subst F
   have D:Hid (ou r=([10],2,0)):=Hh (by rw[hq];rfl);clear hq Aa;go_in;go_wp2_with fail;refine (O _ h).mono ?_;rintro _ K ⟨rfl,v,f,j⟩;go_wp2_with fail;refine (Su K g s _ l 10 _ (by first|rfl|decide) (by omega) v (by omega)).mono ?_;rintro _ T ⟨rfl,A,i,x⟩;go_wp2;go_end0
   exact .inl ⟨by rw[D.out],by rw[D.out];exact⟨rfl,A,f.trans i,j.trans x⟩⟩
  by_cases H:c=114
  .subst H
   have D:Hid (ou r=([13],2,0)):=Hh (by rw[hq];rfl);clear hq Aa;go_in;go_wp2_with fail;refine (O _ h).mono ?_;rintro _ K ⟨rfl,v,f,j⟩;go_wp2_with fail;refine (Su K g s _ l 13 _ (by first|rfl|decide) (by omega) v (by omega)).mono ?_;rintro _ T ⟨rfl,A,i,x⟩;go_wp2;go_end0
   exact .inl ⟨by rw[D.out],by rw[D.out];exact⟨rfl,A,f.trans i,j.trans x⟩⟩
  by_cases I:c=116
  .subst I
   have D:Hid (ou r=([9],2,0)):=Hh (by rw[hq];rfl);clear hq Aa;go_in;go_wp2_with fail;refine (O _ h).mono ?_;rintro _ K ⟨rfl,v,f,j⟩;go_wp2_with fail;refine (Su K g s _ l 9 _ (by first|rfl|decide) (by omega) v (by omega)).mono ?_;rintro _ T ⟨rfl,A,i,x⟩;go_wp2;go_end0
   exact .inl ⟨by rw[D.out],by rw[D.out];exact⟨rfl,A,f.trans i,j.trans x⟩⟩
  have Ac:Cb c=aq:=by
   unfold Cb;rw[E6 (by omega),E6 M,E6 E,E6 F,E6 H,E6 I]
  by_cases L:c=117
  .subst L
   obtain⟨Ad,Ae⟩:=iX Aa;rw[ay] at Ae;have Ab:=fun W h=>Kg W g s k l h (by omega) hs hl;rw[show (bs s).drop (k+2)=t from Ad] at Ab;have D:Hid (ou r=aU t):=Hh (by rw[hq];rfl);clear hq Aa Ac Ad P S Q M E F H I;go_in;go_wp2_with fail;refine (O _ h).mono ?_;rintro _ K ⟨rfl,v,f,j⟩;go_wp2_with fail;refine (Ab _ v).mono ?_;rintro e T (⟨Y,rfl,A,i,x⟩|⟨Y,rfl,i⟩)
   .have Z:=Hh Y
    clear Y;go_wp2;go_end0
    exact .inl ⟨by rw[D.out];exact Z.out,by rw[D.out];exact⟨rfl,A,f.trans i,j.trans x⟩⟩
   .have Z:=Hh Y
    clear Y;go_wp2;exact⟨rfl,.inr ⟨by rw[D.out];exact Z.out,by rw[D.out];exact⟨rfl,f.trans i⟩⟩⟩
  .have D:Hid (ou r=aJ 3):=Hh (by rw[hq];simp only[ou,Ac,E6 L])
   have b1:((c:Int)==34)=false:=by rw[Fc];omega
   have b2:((c:Int)==92)=false:=by rw[Fc];omega
   have b3:((c:Int)==47)=false:=by rw[Fc];omega
   have b4:((c:Int)==98)=false:=by rw[Fc];omega
   have b5:((c:Int)==102)=false:=by rw[Fc];omega
   have b6:((c:Int)==110)=false:=by rw[Fc];omega
   have b7:((c:Int)==114)=false:=by rw[Fc];omega
   have b8:((c:Int)==116)=false:=by rw[Fc];omega
   have b9:((c:Int)==117)=false:=by rw[Fc];omega
   clear hq Aa Ac P S Q M E F H I L;go_in;go_wp2_with fail;refine (O _ h).mono ?_;rintro _ K ⟨rfl,v,f,j⟩;go_wp2_with fail;refine (jq 3 _).mono ?_;rintro _ T ⟨rfl,rfl⟩;go_wp2;exact⟨rfl,.inr ⟨by rw[D.out];simp[aJ],by rw[D.out];rfl,f⟩⟩
def yC(n:Nat):Int:=if n=0 then 0 else if n=1 then 192 else if n=2 then 224 else 240
def vU:List Nat->Int->Int
 |[],c=>c
 |b::r,c=>vU r (c*64+b-128)
def jI:List Nat->Int
 |[]=>0
 |a::r=>vU r (a-yC r.length)
theorem Ec(h:lN c=true):jI (fQ c)=c:=by
 rw[dF] at h;unfold fQ
 by_cases b:c<128
 .simp[b,jI,vU,yC]
 by_cases f:c<2048
 .rw[E6 b,E4 f]
  show (((192+c / 64:Nat):Int)-192)*64+((128+c % 64:Nat):Int)-128=c;omega
 by_cases i:c<65536
 .rw[E6 b,E6 f,E4 i]
  show ((((224+c / 4096:Nat):Int)-224)*64+((128+c / 64 % 64:Nat):Int)-128)*64+((128+c % 64:Nat):Int)-128=c;omega
 .rw[E6 b,E6 f,E6 i]
  show (((((240+c / 262144:Nat):Int)-240)*64+((128+c / 4096 % 64:Nat):Int)-128)*64+((128+c / 64 % 64:Nat):Int)-128)*64+((128+c % 64:Nat):Int)-128=c;omega
theorem Ov{l:List Nat}(A:∀x∈l,x<256)(B:1<=n)(C:n<=l.length):((aG l).2=n)↔(mM (jI (l.take n))=true/\fQ (jI (l.take n)).toNat=l.take n):=by
 constructor
 .intro h
  obtain⟨c,m,f⟩:∃c m,aG l=(c,m):=⟨_,_,rfl⟩;rw[f] at h;simp only at h;subst h;obtain⟨b,g2,g3,q⟩:=jU A f (by omega);have j:jI (l.take m)=c:=by rw[<-g3];exact Ec b
  rw[j,gz];exact⟨b,by simpa using g3⟩
 .rintro⟨b,g2⟩
  obtain⟨c,i⟩:∃c:Nat,jI (l.take n)=c:=by
   refine⟨(jI (l.take n)).toNat,?_⟩;unfold mM at b;simp at b
   omega
  rw[i] at b g2;rw[gz] at b;simp only[eL] at g2;have k:tu c=n:=by rw[<-rX,g2];simp;omega
  have:=wU b (l.drop n);rw[g2,el] at this;rw[this,k]
theorem QW{l:List Nat}(g:∀x∈l,x<256)(i:1<=n)(h:(aG l).2=n):jI (l.take n)=(aG l).1:=by
 obtain⟨c,m,b⟩:∃c m,aG l=(c,m):=⟨_,_,rfl⟩;rw[b] at h ⊢;simp only at h ⊢;subst h;obtain⟨d,g2,g3,f⟩:=jU g b (by omega);rw[<-g3];exact Ec d
def wI(c:Int):List UInt8:=if mM c then iH c.toNat else []
theorem NG(c:Int)(w:cd)(h:mM c=false) :
  cJ bh 136 #[ao ar c] w fun e w'=>e=bk (al (bH []))/\w=w':=by
 unfold mM at h
 by_cases b:c<0
 .clear h
  go_in;go_wp2;go_ret;exact⟨rfl,rfl⟩
 .by_cases f:1114111<c
  .have i:decide (c<0)=false:=by simp;omega
   have j:decide (1114111<c)=true:=by simp;omega
   clear h b f;go_in;go_wp2;go_ret;exact⟨rfl,rfl⟩
  .have i:decide (c<0)=false:=by simp;omega
   have j:decide (1114111<c)=false:=by simp;omega
   have k:decide (55296<=c)=true:=by simp at h;simp;omega
   have o:decide (c<=57343)=true:=by simp at h;simp;omega
   clear h b f;go_in;go_wp2;go_ret;exact⟨rfl,rfl⟩
theorem PR(c:Nat)(w:cd)(h:lN c=true) :
  cJ bh 136 #[ao ar c] w fun e w'=>e=bk (al (bH (iH c)))/\cj w.heap.size w w':=by
 rw[dF] at h;have B:decide ((c:Int)<0)=false:=by rw[decide_eq_false_iff_not];omega
 have C:decide (1114111<(c:Int))=false:=by simp;omega
 have q:decide (55296<=(c:Int))=false\/decide (55296<=(c:Int))=true/\decide ((c:Int)<=57343)=false:=by
  rcases h.2 with h|h
  .exact .inl (by simp;omega)
  .exact .inr ⟨by simp;omega,by simp;omega⟩
 by_cases i:c<128
 .have f:iH c=[ep c]:=by simp[iH,fQ,i]
  have Aa:=kM w [ep c] #[ao .u8 c] 1 (iH c) f (by simp[ny];omega) rfl;have e1:decide ((c:Int)<128)=true:=by simp;omega
  have v:c<=127:=by omega
  clear f h i;rcases q with j|⟨j,u⟩
  all_goals
   go_in;go_wp2;go_ret;exact⟨rfl,(ba _ _).alloc lz _⟩
 have e1:decide ((c:Int)<128)=false:=by simp;omega
 by_cases k:c<2048
 .have f:iH c=[ep (192+c / 64),ep (128+c % 64)]:=by simp[iH,fQ,i,k]
  have Aa:=kM w [ep (192+c / 64),ep (128+c % 64)] #[ao .u8 (192+(c:Int) / 64),ao .u8 (128+(c:Int) % 64)] 2 (iH c) f (by simp[ny];omega) rfl;have x:decide ((c:Int)<2048)=true:=by simp;omega
  have v:c / 64<=31:=by omega
  clear f h i k;rcases q with j|⟨j,u⟩
  all_goals
   go_in;go_wp2;go_ret;exact⟨rfl,(ba _ _).alloc lz _⟩
 have x:decide ((c:Int)<2048)=false:=by simp;omega
 by_cases o:c<65536
 .have f:iH c=[ep (224+c / 4096),ep (128+c / 64 % 64),ep (128+c % 64)]:=by simp[iH,fQ,i,k,o]
  have Aa:=kM w [ep (224+c / 4096),ep (128+c / 64 % 64),ep (128+c % 64)] #[ao .u8 (224+(c:Int) / 4096),ao .u8 (128+(c:Int) / 64 % 64),ao .u8 (128+(c:Int) % 64)] 3 (iH c) f (by simp[ny];omega) rfl;have A:decide ((c:Int)<65536)=true:=by simp;omega
  have v:c / 4096<=15:=by omega
  clear f h i k o;rcases q with j|⟨j,u⟩
  all_goals
   go_in;go_wp2;go_ret;exact⟨rfl,(ba _ _).alloc lz _⟩
 .have A:decide ((c:Int)<65536)=false:=by simp;omega
  have f:iH c=[ep (240+c / 262144),ep (128+c / 4096 % 64),ep (128+c / 64 % 64),ep (128+c % 64)]:=by simp[iH,fQ,i,k,o]
  have Aa:=kM w [ep (240+c / 262144),ep (128+c / 4096 % 64),ep (128+c / 64 % 64),ep (128+c % 64)] #[ao .u8 (240+(c:Int) / 262144),ao .u8 (128+(c:Int) / 4096 % 64),ao .u8 (128+(c:Int) / 64 % 64),ao .u8 (128+(c:Int) % 64)] 4 (iH c) f (by simp[ny];omega) rfl;have v:c / 262144<=4:=by omega
  clear f h i k o;rcases q with j|⟨j,u⟩
  all_goals
   go_in;go_wp2;go_ret;exact⟨rfl,(ba _ _).alloc lz _⟩
theorem A8(c:Int)(w:cd) :
  cJ bh 136 #[ao ar c] w fun e w'=>e=bk (al (bH (wI c)))/\cj w.heap.size w w':=by
 unfold wI
 cases h:mM c with
 |false=>exact (NG c w h).mono fun e w' ⟨h1,h2⟩=>⟨by rw[h1];rfl,by rw[<-h2];exact ba _ _⟩
 |true=>
  obtain⟨n,rfl⟩:∃n:Nat,c=n:=⟨c.toNat,by unfold mM at h;simp at h;omega⟩;rw[gz] at h
  simpa using PR n w h
theorem Ow(s:E7)(l:List Nat)(w:cd)(B:bs s=l)(q:1<=l.length)(u:l.length<=4) :
  cJ bh 135 #[al s] w fun e w'=>e=bk (ao ar (jI l))/\cj w.heap.size w w':=by
 have Ac:s.size=l.length:=by rw[<-ay,B]
 have Aa:∀j (hj:j<l.length),∃h':j<s.size,(s[j]'h').toNat=l[j]:=fun j hj=>by
  have:=Eo (s:=s) (i:=0) (l:=l) (by simpa using B) hj
  simpa using this
 have Ab:∀x∈l,x<256:=by rw[<-B];exact gJ
 clear B;rcases l with _|⟨a,_|⟨b,_|⟨c,_|⟨d,_|⟨f,r⟩⟩⟩⟩⟩
 .simp at q
 .obtain⟨D,k⟩:=Aa 0 (by simp)
  simp only[eg] at k;have v:=Ab a (by simp);simp only[bc,cY] at Ac;clear Aa Ab q u;go_in;go_wp2_with fail;go_quiet (fail)
  go_wp2_with fail;refine mb 1 ?_;rw[fN];go_wp2;go_ret;refine⟨fC (by simp[jI,vU,yC]),?_⟩;exact ((ba _ _).alloc lz _).trans (dz _ _ _)
 .obtain⟨D,k⟩:=Aa 0 (by simp)
  obtain⟨F,e1⟩:=Aa 1 (by simp);simp only[eg,lE] at k e1;have v:=Ab a (by simp);have E:=Ab b (by simp);simp only[bc,cY] at Ac;clear Aa Ab q u;go_in;go_wp2_with fail;go_quiet (fail)
  go_wp2_with fail;refine mb 2 ?_;rw[fN];go_wp2_with fail;rw[fN];go_wp2;go_ret;refine⟨fC (by simp[jI,vU,yC]),?_⟩;exact ((ba _ _).alloc lz _).trans (dz _ _ _)
 .obtain⟨D,k⟩:=Aa 0 (by simp)
  obtain⟨F,e1⟩:=Aa 1 (by simp);obtain⟨K,A⟩:=Aa 2 (by simp);simp only[eg,lE] at k e1 A;have v:=Ab a (by simp);have E:=Ab b (by simp);have G:=Ab c (by simp);simp only[bc,cY] at Ac;clear Aa Ab q u;go_in;go_wp2_with fail;go_quiet (fail)
  go_wp2_with fail;refine mb 3 ?_;rw[fN];go_wp2_with fail;rw[fN];go_wp2_with fail;rw[fN];go_wp2;go_ret;refine⟨fC (by simp[jI,vU,yC]),?_⟩;exact ((ba _ _).alloc lz _).trans (dz _ _ _)
 .obtain⟨D,k⟩:=Aa 0 (by simp)
  obtain⟨F,e1⟩:=Aa 1 (by simp);obtain⟨K,A⟩:=Aa 2 (by simp);obtain⟨M,H⟩:=Aa 3 (by simp);simp only[eg,lE] at k e1 A H;have v:=Ab a (by simp);have E:=Ab b (by simp);have G:=Ab c (by simp);have L:=Ab d (by simp);simp only[bc,cY] at Ac;clear Aa Ab q u;go_in;go_wp2_with fail;go_quiet (fail)
  go_wp2_with fail;refine mb 4 ?_;rw[fN];go_wp2_with fail;rw[fN];go_wp2_with fail;rw[fN];go_wp2_with fail;rw[fN];go_wp2;go_ret;refine⟨fC (by simp[jI,vU,yC]),?_⟩;exact ((ba _ _).alloc lz _).trans (dz _ _ _)
 .simp at u
theorem KS(h:bs a=bs b):a=b:=by
 have c:a.data.toList=b.data.toList:=by
  unfold bs at h;exact (List.map_inj_right (fun _ _=>nf.1)).1 h
 exact ByteArray.ext (Array.toList_inj.1 c)
theorem Af:(a.toList==b.toList)=true↔a=b:=by
 constructor
 .intro h
  have c:=beq_iff_eq.1 h;rw[oY,oY] at c;exact ByteArray.ext (Array.toList_inj.1 c)
 .rintro rfl;simp
theorem vW(s:E7)(i j:Nat):bs (s.extract i j)=((bs s).take j).drop i:=by
 unfold bs;rw[ByteArray.data_extract,Array.toList_extract,List.extract_eq_drop_take',<-rj,<-rp]
theorem Co(l:List UInt8):bs (bH l)=l.map UInt8.toNat:=by simp[bs,bH]
theorem Sw(h:c<=1114111):∀x∈fQ c,x<256:=by
 intro x b;unfold fQ at b;split at b
 .simp at b;omega
 split at b
 .simp at b;omega
 split at b
 .simp at b;omega
 .simp at b;omega
theorem Mt(h:lN c=true):bs (bH (iH c))=fQ c:=by
 rw[dF] at h;have b:=Sw h.1;rw[Co];unfold iH;rw[List.map_map]
 conv=>rhs;rw[<-List.map_id (fQ c)]
 apply List.map_congr_left
 intro x f;have:=b x f;simp[yb]
 omega
theorem Kz{i:Nat}(j:1<=k)(q:i+k<=s.size) :
  (bH (wI (jI (((bs s).drop i).take k)))=s.extract i (i+k))↔(aG ((bs s).drop i)).2=k:=by
 have f:∀x∈(bs s).drop i,x<256:=fun x hx=>gJ x (dT hx);have Aa:k<=((bs s).drop i).length:=by simp[ay];omega
 have Ab:bs (s.extract i (i+k))=((bs s).drop i).take k:=by
  rw[vW,gO];congr 1;omega
 rw[Ov f j Aa];generalize jI (((bs s).drop i).take k)=g;constructor
 .intro h
  have c:=congrArg bs h;rw[Ab] at c;unfold wI at c
  cases hg:mM g with
  |false=>
   rw[hg] at c;have:=congrArg fh c;simp[Co,ay] at this
   omega
  |true=>
   obtain⟨n,rfl⟩:∃n:Nat,g=n:=⟨g.toNat,by unfold mM at hg;simp at hg;omega⟩;rw[hg] at c;rw[gz] at hg;simp only[if_true,eL] at c ⊢;rw[Mt hg] at c;exact⟨trivial,c⟩
 .rintro⟨hg,c⟩
  apply KS
  rw[Ab,<-c];unfold wI;rw[hg];obtain⟨n,rfl⟩:∃n:Nat,g=n:=⟨g.toNat,by unfold mM at hg;simp at hg;omega⟩;rw[gz] at hg;simp only[if_true,eL];exact Mt hg
theorem F8(s:E7)(i:Nat)(w:cd)(hs:s.size<=1048576)(hi:i<=s.size) :
  cJ bh 105 #[al s,ao ar i] w fun e w'=>e=bk (dr #[ao ar (aG ((bs s).drop i)).1,ao ar (aG ((bs s).drop i)).2])/\cj w.heap.size w w':=by
 have Ad:∀x∈(bs s).drop i,x<256:=fun x hx=>gJ x (dT hx);have Ac:=lw _ Ad;simp only[bm,ay] at Ac;have Ae:=Hh Ac;have Al:=Hh Ad;clear Ac Ad;go_in;go_wp2;go_loopw [6] (fun n wr=>∃k:Nat,n=ao ar k/\1<=k/\k<=5/\(∀m,1<=m->m<k->(aG ((bs s).drop i)).2≠m)/\cj w.heap.size w wr) (fun n _=>6-(cR n).toNat)
 .exact⟨1,rfl,by omega,by omega,fun m h1 h2=>by omega,ba _ _⟩
 obtain⟨k,rfl,h1,V,Ai,F⟩:=hrel;have M:=Hh Ai;clear Ai
 by_cases R:k=5
 .subst R
  have A:(aG ((bs s).drop i)).2=0:=by
   have h2:=Ae.out.2;have O:=M.out;rcases Nat.lt_or_ge (aG ((bs s).drop i)).2 1 with h|h
   .omega
   .exact absurd rfl (O _ h (by omega))
  have B:=DN (l:=(bs s).drop i) (c:=(aG ((bs s).drop i)).1) (n:=(aG ((bs s).drop i)).2) rfl A;have K:=Hh A;have L:=Hh B;clear A B;go_wp2;go_ret2
  rw[K.out,L.out];exact⟨rfl,F⟩
 by_cases P:s.size<i+k
 .have A:(aG ((bs s).drop i)).2=0:=by
   have h2:=Ae.out.1;have O:=M.out;rcases Nat.lt_or_ge (aG ((bs s).drop i)).2 1 with h|h
   .omega
   .exact absurd rfl (O _ h (by omega))
  have B:=DN (l:=(bs s).drop i) (c:=(aG ((bs s).drop i)).1) (n:=(aG ((bs s).drop i)).2) rfl A;have K:=Hh A;have L:=Hh B;have Ap:k<=4:=by omega
  clear A B;go_wp2;go_ret2
  rw[K.out,L.out];exact⟨rfl,F⟩
 have Ap:k<=4:=by omega
 have Ao:i+k<=s.size:=by omega
 clear R P V;have Z:=F.size
 have Ag:bs (s.extract i (i+k))=((bs s).drop i).take k:=by
  rw[vW,gO];congr 1;omega
 have Q:=Ow (s.extract i (i+k)) (((bs s).drop i).take k) wr Ag (by simp[ay];omega) (by simp;omega);have Aj:=Hh (Kz h1 Ao);have S:=Hh (fun h=>QW Al.out h1 (n:=k) h);clear Ag;go_wp2_with fail;refine Q.mono ?_;clear Q;rintro e w2 ⟨rfl,v⟩;have Aa:=F.trans (v.mono Z);have Ak:=Aa.size;clear v;generalize jI (((bs s).drop i).take k)=g at *;go_wp2_with fail;refine eD w2 (by kernel_rfl) (by kernel_rfl) (ba _ _) ?_;repeat (go_big_quiet_step ((go_at_call 136;exact bG.call _ (A8 g _))))
 by_cases u:(aG ((bs s).drop i)).2=k
 .have E:((bH (wI g)).toList==(s.extract i (i+k)).toList)=true:=Af.2 (Aj.out.2 u)
  have Ah:=S.out u;have U:=Hh u;have T:=Hh Ah;rw[E];refine wpQuiet_nil ?_;rintro _ ⟨x,rfl⟩;have Ab:=Aa.trans (x.below.mono Ak);clear u Ah E;go_wp2;go_ret2
  rw[U.out];exact⟨by rw[T.out];rfl,Ab⟩
 .have E:((bH (wI g)).toList==(s.extract i (i+k)).toList)=false:=by
   rw[Bool.eq_false_iff];exact fun h=>u (Aj.out.1 (Af.1 h))
  have Am:Hid (∀m,1<=m->m<k+1->(aG ((bs s).drop i)).2≠m):=by
   refine Hh (fun m m1 m2=>?_)
   by_cases X:m=k
   .subst X;exact u
   .exact M.out m m1 (by omega)
  rw[E];refine wpQuiet_nil ?_;rintro _ ⟨x,rfl⟩;have Ab:=Aa.trans (x.below.mono Ak);clear u E;go_wp2;go_roundw
  .exact⟨k+1,by go_num,by omega,by omega,Am.out,Ab⟩
  simp[cR];omega
def Bi(p:Nat×Nat):List cq:=[ao ar (p.1:Int),ao ar (p.2:Int)]
def sW(base:Nat)(w:cd)(v:cq)(l:List (Nat×Nat)):Prop:=w.ownsRow base 147 2 v l.length (l.flatMap Bi)
theorem sW.nil:sW base w (an aq 0 0) []:=World.ownsRow_nil _ _ _ _
theorem sW.alloc{l:List (Nat×Nat)}(h:sW base w v l)(o:Obj):sW base (w.alloc o) v l:=World.ownsRow.alloc h o
theorem sW.below{l:List (Nat×Nat)}(h:sW base w v l)(q:cj w.heap.size w w'):sW base w' v l:=by
 obtain⟨o,c⟩:=h;refine⟨o,?_⟩;rcases c with c|⟨g,cap,a,rfl,i,j,r⟩
 .exact .inl c
 .refine .inr ⟨g,cap,a,rfl,i,?_,r⟩
  rw[q.block g (fk.1 j).1];exact j
theorem sW.len{l:List (Nat×Nat)}(h:sW base w v l):∃a cap,v=an a l.length cap:=by
 obtain⟨i,c⟩:=h;rcases c with ⟨rfl,f⟩|⟨g,cap,b,rfl,_⟩
 .exact⟨aq,0,by rw[f]⟩
 .exact⟨_,cap,rfl⟩
theorem Tryz.infoP:(Tryz.prog.info? 147).map (fun i=>(i.zero,i.size,i.bytes))=aw (aw (.agg #[ao ar 0,ao ar 0]),2,16):=by kernel_rfl
section
variable {w:cd} {ops:Array Oper} {rest:List Oper} {o:Oper} {a:Act} {Q:Exit->Act->cd->Prop}
theorem u6(F:Region.wanted o (yielded ops a.tmps)=true)(s x:Operand)(I:o.op=.call { callee:=.builtin .append,args:=#[s,x],argTypes:=#[120,120] })(base:Nat)(l:List (Nat×Nat))(p:Nat×Nat)(A:sW base w (a.eval s) l)(g:Nat)(J:a.eval x=an (aw ⟨g,0,aq⟩) 1 1)(C:w.cell? ⟨g,0,aq⟩=aw (ao ar (p.1:Int)))(D:w.cell? ⟨g,1,aq⟩=aw (ao ar (p.2:Int)))(L:l.length<=1048576)(q:base<=w.heap.size)(M:cd)(H:cj base M w)(G:∀v' w',sW base w' v' (l++[p])->cj base M w'->wpList bh ops Q rest (a.put o.dst v') w'):wpList bh ops Q (o::rest) a w:=by
 refine iB F fun K hK'=>?_;obtain⟨i,Aa,Ab,Ac,Ad⟩:=info_parts Tryz.infoP;refine wp_append_own w s x 120 I base 147 i _ 2 16 Tryz.underlying120 Aa Ab Ac Ad rfl (by decide) (a.eval s) l.length (l.flatMap Bi) rfl A ⟨g,0,aq⟩ 1 1 (Bi p) J rfl ?_ ?_ (by unfold cV;omega) (by omega) q ?_
 .intro j u f
  rw[iS]
  match j with
  |0=>simp[Bi] at f;subst f;simpa using C
  |1=>simp[Bi] at f;subst f;simpa using D
  |j+2=>simp[Bi] at f
 .intro u f
  simp[Bi] at f
  rcases f with rfl|rfl<;>rfl
 .intro v' w' v E _
  refine hK' _ _ (G v' w' ?_ (H.trans (jo E q (fun k hk=>(cy A k hk).1))));unfold sW
  simpa using v
end
open Go.RowKit Go.Tab Go.Shelf
attribute [local go_sem] Oper.semAt_some
theorem Ab(s:E7)(w:cd) :
  cJ bh 175 #[al s] w fun e w'=>e=bk (.func (.func 199) #[] #[cx (aw ⟨w.heap.size,0,aq⟩)])/\w'=w.alloc (aE #[al s] 9):=by
 go_in;go_wp2;go_ret;exact⟨rfl,rfl⟩
def dV(g:Nat)(A B:cd):Prop:=A.heap.size<=B.heap.size/\B.heap[0]?=A.heap[0]?/\B.heap[g]?=A.heap[g]?
theorem dV.refl(g:Nat)(A:cd):dV g A A:=⟨cA _,rfl,rfl⟩
theorem dV.trans{B C:cd}(h:dV g A B)(h2:dV g B C):dV g A C:=⟨Nat.le_trans h.1 h2.1,h2.2.1.trans h.2.1,h2.2.2.trans h.2.2⟩
theorem dV.tab{B:cd}(h:dV g A B)(hT:Tab A):Tab B:=fun j hj=>(cd.cell?_of_block h.2.1).trans (hT j hj)
theorem dV.box{B:cd}(h:dV g A B)(hc:A.cell? ⟨g,0,aq⟩=aw v):B.cell? ⟨g,0,aq⟩=aw v:=(cd.cell?_of_block h.2.2).trans hc
theorem Pf(n:Nat)(hn:2<=n)(l0 Z:Nat)(s:E7)(hs:s.size<=1048576)(J Jx:List (Nat×Nat)->cd->Prop)(L:∀pre x W,J pre W->pre.length<(scan (bs s) 0).1.length->YieldAt Fence.wide (n-1) bh l0 #[ao ar (x.1:Nat),ao ar (x.2:Nat)] W fun e W'=>
   (e=bk (cG true)/\J (pre++[x]) W'/\dV Z W W')\/(e=bk (cG false)/\Jx (pre++[x]) W'))(W:cd)(S:W.cell? ⟨Z,0,aq⟩=aw (al s))(hT:Tab W)(h0:J [] W) :
  CallsIn Fence.wide n bh 199 #[.func (.yield l0) #[] #[],cx (aw ⟨Z,0,aq⟩)] W fun e W'=>(∃v,e=bk v)/\
   ((∃ys,ys=(scan (bs s) 0).1/\J ys W')\/(∃pre,pre <+: (scan (bs s) 0).1/\Jx pre W')):=by
 refine callsIn_of_wp E0 rfl trivial ?_ rfl;simp only[Tryz.ntmps199,uv,bc,cY,DE,DG,sL,sR,ux,tf,cM,cf]
 gi_wp2
 gi_loopw [3] (fun i wr=>∃(k:Nat) (pre:List (Nat×Nat)),i=ao ar k/\k<=s.size/\oI (bs s) k pre/\J pre wr/\dV Z W wr)
  (fun i wr=>s.size-(cR i).toNat)
 .exact⟨0,[],rfl,ck _,oI.zero _,h0,dV.refl _ _⟩
 obtain⟨k,pre,rfl,hk,Q,H,M⟩:=hrel;have D:=Hh Q;have Ai:=M.box S;have Ae:=M.tab hT;clear Q
 by_cases h:k<s.size
 .obtain⟨c,m,E⟩:∃c m,aG ((bs s).drop k)=(c,m):=⟨_,_,rfl⟩
  have Ac:=(lw ((bs s).drop k) (fun x hx=>gJ x (dT hx))).1;have C:=yG s k wr Ae (by omega);unfold iW at C;rw[E] at C Ac;simp only[bm,ay] at Ac;have P:=Hh E;have A:=Hh C;clear E C
  by_cases O:m=0
  .subst O
   have q:=Hh (D.out.bad (by rw[ay];exact h) (by rw[P.out]));clear L
   gi_wp2
   refine⟨trivial,fun _=>by omega,?_⟩;refine (lf.2 A.out).mono ?_;rintro _ X ⟨rfl,rfl⟩;clear A
   gi_wp2
   refine⟨fun _ h=>(by cases h),?_⟩
   gi_wp2
   refine bj (lO rfl _ _ _) rfl ?_;exact⟨⟨_,rfl⟩,.inl ⟨pre,by rw[q.out],H⟩⟩
  .have q:=Hh (D.out.good (by rw[ay];exact h) P.out O)
   have Ah:((m:Int)==0)=false:=by rw[Fc];omega
   have Aj:1<=m:=by omega
   have Af:pre.length<(scan (bs s) 0).1.length:=by rw[q.out];simp
   obtain⟨fn,Ag,Aa,Ad,hy,U⟩:=L pre (k,c) wr H Af;have Ab:Hid (pre++[(k,c)] <+: (scan (bs s) 0).1):=Hh ⟨(scan ((bs s).drop (k+m)) (k+m)).1,by rw[q.out]⟩;clear O L
   gi_wp2
   refine⟨trivial,fun _=>by omega,?_⟩;refine (lf.2 A.out).mono ?_;rintro _ X ⟨rfl,rfl⟩;clear A
   gi_wp2
   refine⟨fun _=>by omega,U.mono ?_⟩;rintro e W3 (⟨rfl,K,N⟩|⟨rfl,u⟩)
   .gi_wp2
    refine⟨⟨k+m,pre++[(k,c)],by go_num,by omega,q.out,K,M.trans N⟩,?_⟩;simp[cR];omega
   .gi_wp2
    refine bj (lO rfl _ _ _) rfl ?_;exact⟨⟨_,rfl⟩,.inr ⟨_,Ab.out,u⟩⟩
 .have q:=Hh (D.out.done (by rw[ay];omega))
  clear L
  gi_wp2
  refine bodyPost_end (lO rfl _ _ _) rfl ?_;exact⟨⟨_,rfl⟩,.inl ⟨pre,by rw[q.out],H⟩⟩
attribute [local go_sem] Oper.semAt_some
theorem qM(l:List Nat):aG (l.take 4)=aG l:=by
 match l with
 |[]=>rfl
 |[_]=>rfl
 |[_,_]=>rfl
 |[_,_,_]=>rfl
 |[_,_,_,_]=>rfl
 |a::b::c::d::e::r=>rfl
def V9(g:Nat)(s:E7)(w:cd)(v:cq)(k':Nat)(l':List UInt8)(e:pT)(w':cd):Prop:=
 e=bk v/\dG w' g s k' l'/\cj g w w'
def VE(g:Nat)(s:E7)(w:cd)(k:Nat)(l:List UInt8)(L:List Nat)(e:pT)(w':cd):Prop:=
 ((aG L).2≠0/\V9 g s w (dr #[]) (k+(aG L).2) (l++un (L.take (aG L).2)) e w')\/((aG L).2=0/\Jn g w 7 e w')
theorem Ca(s:E7)(a b:Nat):bs (s.extract a b)=((bs s).drop a).take (b-a):=by
 simp[bs,rp,rj,gO]
def qc(c:Nat):List UInt8:=if lN c then iH c else []
theorem G9(c:Nat):(qc c).length<=4:=by
 unfold qc;split
 .rw[kI];exact (qE c).2
 .simp
theorem Jl(c:Nat)(w:cd):cJ bh 196 #[ao ar c] w fun e w'=>e=bk (dr #[al (bH (qc c)),cG (lN c)])/\cj w.heap.size w w':=by
 unfold qc
 cases h:lN c with
 |true=>
  refine (F7 c w h).mono ?_;rintro _ w' ⟨rfl,a⟩;exact⟨by simp,a⟩
 |false=>
  refine (RJ (c:Int) w (by rw[gz];exact h)).mono ?_;rintro _ w' ⟨rfl,rfl⟩;exact⟨rfl,ba _ _⟩
theorem dG.kept{l:List UInt8}(h:dG w g s k l)(C:w.grownBy w' row)(D:∀r,row=aw r->∃o:Obj,w.heap[r]?=aw o/\o.isCells=false):dG w' g s k l:=by
 obtain⟨cs,⟨q,x,v,z,u⟩,A⟩:=h
 have Aa:v.ownBlock=aq\/v.ownBlock≠row:=by
  cases hv:v.ownBlock with
  |none=>exact .inl rfl
  |some b=>
   refine .inr fun e=>?_;obtain⟨o,f,i⟩:=D _ e.symm;obtain⟨Ab,fr,B⟩:=vK u b hv;rw[B] at f;cases f;cases i
 refine⟨cs,⟨q.kept C ?_,x,v,z,u.kept C Aa⟩,A⟩;intro e;obtain⟨o,f,i⟩:=D _ e.symm;rw[show w.heap[g]?=_ from q] at f;cases f;cases i
theorem xu(h:bQ E g w w')(hg:aa w g cs t):KeepsFrom B w w':=
 ⟨h.1,fun k o _ hk ho=>h.2 k o (by rintro rfl;rw[show w.heap[k]?=_ from hg] at hk;cases hk;cases ho) hk (fun cs' fr e=>by subst e;cases ho)⟩
def V4(w:cd)(g:Nat)(s:E7)(k:Nat)(l:List UInt8)(pre:List (Nat×Nat))(W:cd):Prop:=
 (pre=[]/\dG W g s k l/\aa W w.heap.size #[cx (aw ⟨g,0,aq⟩)] 174)/\cj g w W
def V3(w:cd)(g:Nat)(s:E7)(k:Nat)(l:List UInt8)(c:Code)(pre:List (Nat×Nat))(W:cd):Prop:=
 (c=.ret/\∃x:Nat×Nat,pre=[x]/\dG W g s (k+(qc x.2).length) (l++qc x.2))/\cj g w W
theorem MH(w:cd)(g:Nat)(s:E7)(k:Nat)(l:List UInt8)(L:Nat)(hg:g<=w.heap.size)(hL:g<=L):OwnFrom L (V4 w g s k l):=
 OwnFrom.and (Own.from (fun pre A B row hs hg' hr=>⟨hs.1,hs.2.1.kept hg' hr,hs.2.2.kept hg' (fun e'=>by
  obtain⟨o,ho,hc⟩:=hr _ e'.symm
  rw[show A.heap[w.heap.size]?=_ from hs.2.2] at ho;cases ho;cases hc)⟩) _) (DH hg hL)
theorem MG(w:cd)(g:Nat)(s:E7)(k:Nat)(l:List UInt8)(L:Nat)(hg:g<=w.heap.size)(hL:g<=L)(c:Code):OwnFrom L (V3 w g s k l c):=
 OwnFrom.and (Own.from (fun pre A B row hs hg' hr=>by
  obtain⟨h1,x,h2,h3⟩:=hs
  exact⟨h1,x,h2,h3.kept hg' hr⟩) _) (DH hg hL)
theorem dV.put(g:Nat)(w:cd)(h0:0<w.heap.size)(hg:g<w.heap.size)(W:cd)(l:Nat)(o o':Obj)(hl:w.heap.size<=l)(_:W.heap[l]?=aw o)(_:o.isCells=false)(_:o.isWalk=false):dV g W (W.putObj l o'):=
 ⟨(grownBy_putObj' W l o').size,tP (by omega),tP (by omega)⟩
theorem vw(n:Nat)(hn:2<=n)(Bn:Nat)(s:E7)(hs:s.size<=1048576)(w:cd)(hBn:Bn<w.heap.size)(hc:w.cell? ⟨Bn,0,aq⟩=aw (al s))(hT:Tab w) :
  SeqStopsK Fence.wide n bh 199 #[cx (aw ⟨Bn,0,aq⟩)] (fun x:Nat×Nat=>#[ao ar (x.1:Nat),ao ar (x.2:Nat)]) (dV Bn) (fun ys=>ys=(scan (bs s) 0).1) (fun pre=>pre <+: (scan (bs s) 0).1) (scan (bs s) 0).1.length w:=fun l0 J Jx W hW _ _ hY h0=>
 Pf n hn l0 Bn s hs J Jx hY W ((hW.cell (p:=⟨Bn,0,aq⟩) hBn).trans hc) (hT.below hW hT.pos) h0
theorem JM(w:cd)(g:Nat)(s:E7)(k:Nat)(l:List UInt8)(h:dG w g s k l)(hk:k<s.size)(hs:s.size<=1048576)(hl:l.length<=9000000)(hT:Tab w) :
  cJ bh 171 #[cx (aw ⟨g,0,aq⟩)] w (VE g s w k l ((bs s).drop k)):=by
 refine (lf (n:=9)).1 ?_;have A1:=h.below ((ba _ w).alloc lz (aE #[cx (aw ⟨g,0,aq⟩)] 174));have AM:=h.lt;obtain⟨cs,hb,h5,h6,h7⟩:=id A1;have c0:=hb.cells.cell 0 _ h6;have c1:=hb.cells.cell 1 _ h7;have c9:=(aa.new w #[cx (aw ⟨g,0,aq⟩)] 174).cell 0 _ rfl;clear hb h5 h6 h7
 by_cases hk4:k+4<=s.size
 .have Am:min ((k:Int)+4) (s.size:Int)=(k:Int)+4:=by omega
  obtain⟨R,hR⟩:∃R,R=s.extract k ((k:Int)+4).toNat:=⟨_,rfl⟩;refine wv Tryz.func171 rfl trivial ?_ rfl;simp only[Tryz.ntmps171,uv,bc,cY,DE,DG,sL,sR,ux,tf,cM,cf];have AG:=Hh hR;have AJ:s.extract k ((k:Int)+4).toNat=R:=hR.symm
  gi_wp2
  have Ag:bs R=((bs s).drop k).take 4:=by rw[hR,Ca];congr 1;omega
  have Ad:bs R≠[]:=by rw[Ag];intro h0;have:=congrArg fh h0;simp[ay] at this;omega
  clear hR
  gi_quiet (fail)
  have Ac:∃w0,w0=(w.alloc (aE #[cx (aw ⟨g,0,aq⟩)] 174)).drewN nq:=⟨_,rfl⟩;obtain⟨w0,Ac⟩:=Ac;rw[<-Ac];have Aq:dG w0 g s k l:=by rw[Ac];exact A1.drewN _
  have Aj:aa w0 w.heap.size #[cx (aw ⟨g,0,aq⟩)] 174:=by rw[Ac];exact (aa.new w _ _).drewN _
  have Ar:cj w.heap.size w w0:=by rw[Ac];exact Below.drewN' ((ba _ w).alloc lz _) _
  have Af:w0.heap.size=w.heap.size+1:=by rw[Ac];simp
  have HA:=Hh (Ab R w0);have HZ:=Hh Af;clear c0 c1 c9 Ac Am Af
  gi_wp2
  refine⟨trivial,(lf.2 HA.out).mono ?_⟩;rintro e w1 ⟨rfl,hw1⟩;clear HA;have Af:=HZ.out;have AK:w1.heap.size=w.heap.size+2:=by rw[hw1];simp[Af]
  have Aa:cj w0.heap.size w0 w1:=by rw[hw1];exact (ba _ _).alloc lz _
  have A7:w1.cell? ⟨w.heap.size+1,0,aq⟩=aw (al R):=by
   have h:=fL (w:=w0) #[al R] 9 0;rw[Af] at h;rw[hw1];exact h
  have A2:=Aq.below Aa;have Ay:=Aj.below Aa Aj.lt;have As:cj w.heap.size w w1:=Ar.trans (Aa.mono (by omega));have A5:=hT.below As hT.pos;have AF:=hT.pos;rw[Af];clear hw1 Aa Aq Aj Ar Af;have AB:Sem.run bh (binOp .neq 206 (cq.func (Fn.func 199) #[] #[DM (aw { block:=w.heap.size+1,off:=0 })]) cq.nilFunc) w1=.ok (cG true) w1:=by rfl
  gi_wp2
  have Au:g<=w1.heap.size:=by omega
  refine wx rfl (by omega) (gf:=199) (lb:=#[cx (aw ⟨w.heap.size+1,0,aq⟩)]) rfl trivial (enters_of E0 (by kernel_rfl) rfl)
   (vw 8 (by omega) (w.heap.size+1) R (by rw[<-ay,Ag];simp;omega) w1 (by omega) A7 A5) dV.trans (dV.put (w.heap.size+1) w1 (by omega) (by omega)) (ba _ _) (fun _=>rfl)
   (V4 w g s k l) (V3 w g s k l) (MH w g s k l _ (by omega) Au) (MG w g s k l _ (by omega) Au)
   ⟨⟨rfl,A2,Ay⟩,As.mono (by omega)⟩
   (fun x=>{ tmps:=#[cx (aw ⟨g,0,aq⟩),cx (aw ⟨w.heap.size,0,aq⟩),al R,fa,ao ar (x.2:Nat),fa,fa,cx (aw ⟨g,0,aq⟩),cx (aw ⟨g,0,aq⟩),cx (aw ⟨g,0,aq⟩),al s,cx (aw ⟨g,0,aq⟩),cx (aw ⟨g,0,aq⟩),cx (aw ⟨g,1,aq⟩),ao ar (k:Int),cx (aw ⟨g,0,aq⟩),cx (aw ⟨g,0,aq⟩),cx (aw ⟨g,1,aq⟩),ao ar (k:Int),ao ar ((k:Int)+4),cx (aw ⟨g,0,aq⟩),cx (aw ⟨g,0,aq⟩),cx (aw ⟨g,0,aq⟩),al s,ao ar (s.size:Int),ao ar ((k:Int)+4),al R,al R,.func (.func 199) #[] #[cx (aw ⟨w.heap.size+1,0,aq⟩)],ao ar (x.1:Nat),ao ar (x.2:Nat),fa,fa,fa,fa,fa,fa,fa,fa,fa,fa,fa,fa,fa,fa,fa,fa,fa,fa,fa,fa],defers:=[] }) ?assign ?body ?done ?stop
  case assign=>
   intro l x W K hK
   gi_wp2
   exact hK
  case body=>
   rintro l0 pre x W ⟨⟨rfl,P,hCW⟩,hbW⟩ -;have AA:=P.lt;have A0:=Jl x.2 W;have At:=G9 x.2;have Ai:(bH (qc x.2)).size=(qc x.2).length:=nS _;generalize hpx:qc x.2=px at *;have Av:=Hh hpx;have An:=Hh Ai;clear hpx Ai;have AH:=hCW.cell 0 _ rfl
   gi_wp2
   refine⟨trivial,(v8 l0 (lf.2 A0)).mono ?_⟩;rintro e w3 ⟨rfl,X⟩;have AL:=X.size;have A3:=P.below X;have Ap:=hCW.below X hCW.lt;have A8:=Ap.cell 0 _ rfl;have A6:=VK w3 g s k l (bH px) A3 (by rw[An.out];omega)
   gi_wp2
   refine⟨trivial,(v8 l0 (lf.2 A6)).mono ?_⟩;rintro e w4 ⟨rfl,hR4,hb4,hB4⟩;obtain⟨AD,Ae,Aw,Ax,Ao⟩:=id hR4;have AC:=Ae.cells.cell 1 _ Ao;have AE:=Ae.cells.frozen 1;have Az:=hB4.cells Ap (by omega) (by decide);have A9:=Az.cell 0 _ rfl;clear Ae Aw Ax Ao;have A4:=hR4.moved (k+px.length);obtain⟨cw,Al,-⟩:=id P;have Ah:=xu (B:=w1.heap.size) (((bQ.of_below (E:=5) (g:=g) X).trans hB4).setCell 1 (ao ar ((k+px.length:Nat):Int))) Al.cells;have Ak:=((hbW.trans (X.mono (by omega))).trans hb4).setCell (p:=⟨g,1,aq⟩) lz (ao ar ((k+px.length:Nat):Int));have AI:=An.out
   gi_wp2
   exact⟨Ah,⟨rfl,x,rfl,by rw[Av.out];exact A4⟩,Ak⟩
  case done=>
   rintro D ys W hD hys ⟨⟨rfl,P,hCW⟩,hbW⟩ hK
   have h0:(aG ((bs s).drop k)).2=0:=by
    rw[<-qM,<-Ag];exact eE fun hn=>by rw[gY Ad,E6 hn] at hys;cases hys
   gi_wp2
   refine⟨trivial,(lf.2 (jq 7 W)).mono ?_⟩;rintro e w3 ⟨rfl,rfl⟩
   gi_wp2
   refine⟨by simp,.inl ⟨_,_,rfl,pH hK,?_⟩⟩;exact .inr ⟨h0,rfl,hbW.trans ((DS (w:=w) lz W D _ _ (by omega) hK rfl rfl).mono (by omega))⟩
  case stop=>
   rintro D c pre W hD O ⟨⟨rfl,x,rfl,P⟩,hbW⟩ hK
   have hx:(aG ((bs s).drop k)).2≠0/\qc x.2=un (((bs s).drop k).take (aG ((bs s).drop k)).2)/\(qc x.2).length=(aG ((bs s).drop k)).2:=by
    rw[<-qM,<-Ag];have hn:(aG (bs R)).2≠0:=fun hn=>by rw[kY Ad hn] at O;simp at O
    rw[gY Ad,E6 hn] at O;obtain⟨t,ht⟩:=O;simp only[cf,cM,fY] at ht;obtain⟨rfl,-⟩:=ht;obtain⟨q1,q2,q3,q4⟩:=jU (l:=bs R) (c:=(aG (bs R)).1) (n:=(aG (bs R)).2) gJ (by rfl) hn;have e1:qc (aG (bs R)).1=iH (aG (bs R)).1:=by unfold qc;rw[E4 q1]
    refine⟨hn,?_,?_⟩
    .rw[e1]
     show un (fQ _)=_;rw[q3,Ag,mz,nh (by rw[<-Ag];exact (lw _ gJ).2)]
    .rw[e1,kI,q2]
   gi_wp2
   refine⟨by simp,.inl ⟨_,_,rfl,pH hK,?_⟩⟩;refine⟨_,lO rfl _ _ _,.inl ⟨hx.1,rfl,?_,?_⟩⟩
   .have:=P.kept (grownBy_putObj' W D (.deferred aq)) (fun r e=>by cases e;exact⟨_,hK,rfl⟩)
    rw[hx.2.2,hx.2.1] at this;exact this
   .exact hbW.trans ((DS (w:=w) lz W D _ _ (by omega) hK rfl rfl).mono (by omega))
 .have Am:min ((k:Int)+4) (s.size:Int)=(s.size:Int):=by omega
  obtain⟨R,hR⟩:=exq (s.extract k s.size);refine wv Tryz.func171 rfl trivial ?_ rfl;simp only[Tryz.ntmps171,uv,bc,cY,DE,DG,sL,sR,ux,tf,cM,cf];have AG:=Hh hR;have AJ:s.extract k s.size=R:=hR.symm
  gi_wp2
  have Ag:bs R=((bs s).drop k).take 4:=by rw[hR,Ca];rw[eS (by simp[ay]),eS (by simp[ay];omega)]
  have Ad:bs R≠[]:=by rw[Ag];intro h0;have:=congrArg fh h0;simp[ay] at this;omega
  clear hR
  gi_quiet (fail)
  have Ac:∃w0,w0=(w.alloc (aE #[cx (aw ⟨g,0,aq⟩)] 174)).drewN nq:=⟨_,rfl⟩;obtain⟨w0,Ac⟩:=Ac;rw[<-Ac];have Aq:dG w0 g s k l:=by rw[Ac];exact A1.drewN _
  have Aj:aa w0 w.heap.size #[cx (aw ⟨g,0,aq⟩)] 174:=by rw[Ac];exact (aa.new w _ _).drewN _
  have Ar:cj w.heap.size w w0:=by rw[Ac];exact Below.drewN' ((ba _ w).alloc lz _) _
  have Af:w0.heap.size=w.heap.size+1:=by rw[Ac];simp
  have HA:=Hh (Ab R w0);have HZ:=Hh Af;clear c0 c1 c9 Ac Am Af
  gi_wp2
  refine⟨trivial,(lf.2 HA.out).mono ?_⟩;rintro e w1 ⟨rfl,hw1⟩;clear HA;have Af:=HZ.out;have AK:w1.heap.size=w.heap.size+2:=by rw[hw1];simp[Af]
  have Aa:cj w0.heap.size w0 w1:=by rw[hw1];exact (ba _ _).alloc lz _
  have A7:w1.cell? ⟨w.heap.size+1,0,aq⟩=aw (al R):=by
   have h:=fL (w:=w0) #[al R] 9 0;rw[Af] at h;rw[hw1];exact h
  have A2:=Aq.below Aa;have Ay:=Aj.below Aa Aj.lt;have As:cj w.heap.size w w1:=Ar.trans (Aa.mono (by omega));have A5:=hT.below As hT.pos;have AF:=hT.pos;rw[Af];clear hw1 Aa Aq Aj Ar Af;have AB:Sem.run bh (binOp .neq 206 (cq.func (Fn.func 199) #[] #[DM (aw { block:=w.heap.size+1,off:=0 })]) cq.nilFunc) w1=.ok (cG true) w1:=by rfl
  gi_wp2
  have Au:g<=w1.heap.size:=by omega
  refine wx rfl (by omega) (gf:=199) (lb:=#[cx (aw ⟨w.heap.size+1,0,aq⟩)]) rfl trivial (enters_of E0 (by kernel_rfl) rfl)
   (vw 8 (by omega) (w.heap.size+1) R (by rw[<-ay,Ag];simp;omega) w1 (by omega) A7 A5) dV.trans (dV.put (w.heap.size+1) w1 (by omega) (by omega)) (ba _ _) (fun _=>rfl)
   (V4 w g s k l) (V3 w g s k l) (MH w g s k l _ (by omega) Au) (MG w g s k l _ (by omega) Au)
   ⟨⟨rfl,A2,Ay⟩,As.mono (by omega)⟩
   (fun x=>{ tmps:=#[cx (aw ⟨g,0,aq⟩),cx (aw ⟨w.heap.size,0,aq⟩),al R,fa,ao ar (x.2:Nat),fa,fa,cx (aw ⟨g,0,aq⟩),cx (aw ⟨g,0,aq⟩),cx (aw ⟨g,0,aq⟩),al s,cx (aw ⟨g,0,aq⟩),cx (aw ⟨g,0,aq⟩),cx (aw ⟨g,1,aq⟩),ao ar (k:Int),cx (aw ⟨g,0,aq⟩),cx (aw ⟨g,0,aq⟩),cx (aw ⟨g,1,aq⟩),ao ar (k:Int),ao ar ((k:Int)+4),cx (aw ⟨g,0,aq⟩),cx (aw ⟨g,0,aq⟩),cx (aw ⟨g,0,aq⟩),al s,ao ar (s.size:Int),ao ar ((s.size:Int)),al R,al R,.func (.func 199) #[] #[cx (aw ⟨w.heap.size+1,0,aq⟩)],ao ar (x.1:Nat),ao ar (x.2:Nat),fa,fa,fa,fa,fa,fa,fa,fa,fa,fa,fa,fa,fa,fa,fa,fa,fa,fa,fa,fa],defers:=[] }) ?assign ?body ?done ?stop
  case assign=>
   intro l x W K hK
   gi_wp2
   exact hK
  case body=>
   rintro l0 pre x W ⟨⟨rfl,P,hCW⟩,hbW⟩ -;have AA:=P.lt;have A0:=Jl x.2 W;have At:=G9 x.2;have Ai:(bH (qc x.2)).size=(qc x.2).length:=nS _;generalize hpx:qc x.2=px at *;have Av:=Hh hpx;have An:=Hh Ai;clear hpx Ai;have AH:=hCW.cell 0 _ rfl
   gi_wp2
   refine⟨trivial,(v8 l0 (lf.2 A0)).mono ?_⟩;rintro e w3 ⟨rfl,X⟩;have AL:=X.size;have A3:=P.below X;have Ap:=hCW.below X hCW.lt;have A8:=Ap.cell 0 _ rfl;have A6:=VK w3 g s k l (bH px) A3 (by rw[An.out];omega)
   gi_wp2
   refine⟨trivial,(v8 l0 (lf.2 A6)).mono ?_⟩;rintro e w4 ⟨rfl,hR4,hb4,hB4⟩;obtain⟨AD,Ae,Aw,Ax,Ao⟩:=id hR4;have AC:=Ae.cells.cell 1 _ Ao;have AE:=Ae.cells.frozen 1;have Az:=hB4.cells Ap (by omega) (by decide);have A9:=Az.cell 0 _ rfl;clear Ae Aw Ax Ao;have A4:=hR4.moved (k+px.length);obtain⟨cw,Al,-⟩:=id P;have Ah:=xu (B:=w1.heap.size) (((bQ.of_below (E:=5) (g:=g) X).trans hB4).setCell 1 (ao ar ((k+px.length:Nat):Int))) Al.cells;have Ak:=((hbW.trans (X.mono (by omega))).trans hb4).setCell (p:=⟨g,1,aq⟩) lz (ao ar ((k+px.length:Nat):Int));have AI:=An.out
   gi_wp2
   exact⟨Ah,⟨rfl,x,rfl,by rw[Av.out];exact A4⟩,Ak⟩
  case done=>
   rintro D ys W hD hys ⟨⟨rfl,P,hCW⟩,hbW⟩ hK
   have h0:(aG ((bs s).drop k)).2=0:=by
    rw[<-qM,<-Ag];exact eE fun hn=>by rw[gY Ad,E6 hn] at hys;cases hys
   gi_wp2
   refine⟨trivial,(lf.2 (jq 7 W)).mono ?_⟩;rintro e w3 ⟨rfl,rfl⟩
   gi_wp2
   refine⟨by simp,.inl ⟨_,_,rfl,pH hK,?_⟩⟩;exact .inr ⟨h0,rfl,hbW.trans ((DS (w:=w) lz W D _ _ (by omega) hK rfl rfl).mono (by omega))⟩
  case stop=>
   rintro D c pre W hD O ⟨⟨rfl,x,rfl,P⟩,hbW⟩ hK
   have hx:(aG ((bs s).drop k)).2≠0/\qc x.2=un (((bs s).drop k).take (aG ((bs s).drop k)).2)/\(qc x.2).length=(aG ((bs s).drop k)).2:=by
    rw[<-qM,<-Ag];have hn:(aG (bs R)).2≠0:=fun hn=>by rw[kY Ad hn] at O;simp at O
    rw[gY Ad,E6 hn] at O;obtain⟨t,ht⟩:=O;simp only[cf,cM,fY] at ht;obtain⟨rfl,-⟩:=ht;obtain⟨q1,q2,q3,q4⟩:=jU (l:=bs R) (c:=(aG (bs R)).1) (n:=(aG (bs R)).2) gJ (by rfl) hn;have e1:qc (aG (bs R)).1=iH (aG (bs R)).1:=by unfold qc;rw[E4 q1]
    refine⟨hn,?_,?_⟩
    .rw[e1]
     show un (fQ _)=_;rw[q3,Ag,mz,nh (by rw[<-Ag];exact (lw _ gJ).2)]
    .rw[e1,kI,q2]
   gi_wp2
   refine⟨by simp,.inl ⟨_,_,rfl,pH hK,?_⟩⟩;refine⟨_,lO rfl _ _ _,.inl ⟨hx.1,rfl,?_,?_⟩⟩
   .have:=P.kept (grownBy_putObj' W D (.deferred aq)) (fun r e=>by cases e;exact⟨_,hK,rfl⟩)
    rw[hx.2.2,hx.2.1] at this;exact this
   .exact hbW.trans ((DS (w:=w) lz W D _ _ (by omega) hK rfl rfl).mono (by omega))
attribute [local go_sem] Oper.semAt_some
def pG(x:Nat×Nat):Bool:=decide (x.2<32)&&x.2 != 9
def xS:Option (Nat×Int)->cq
 |none=>dr #[ao ar 0,ao ar 0]
 |some x=>dr #[ao ar (x.1:Nat),ao ar x.2]
def Wo(w:cd)(pre:List (Nat×Nat))(W:cd):Prop:=
 ((∀x∈pre,pG x=false)/\aa W w.heap.size #[ao ar 0] 3/\aa W (w.heap.size+1) #[ao ar 0] 23)/\cj w.heap.size w W
def Wn(w:cd)(c:Code)(pre:List (Nat×Nat))(W:cd):Prop:=
 (c=.ret/\∃d x,pre=d++[x]/\(∀x∈d,pG x=false)/\pG x=true/\aa W w.heap.size #[ao ar (x.1:Nat)] 3/\aa W (w.heap.size+1) #[ao ar 3] 23)/\cj w.heap.size w W
theorem uy{B:cd}(h:aa A g cs t)(hg:A.grownBy B row)(hr:∀r,row=aw r->∃o:Obj,A.heap[r]?=aw o/\o.isCells=false):aa B g cs t:=
 h.kept hg (fun e'=>by
  obtain⟨o,ho,hc⟩:=hr _ e'.symm
  rw[show A.heap[g]?=_ from h] at ho;cases ho;cases hc)
theorem TP(w:cd)(L:Nat)(hL:w.heap.size<=L):OwnFrom L (Wo w):=
 OwnFrom.and (Own.from (fun pre A B row hs hg' hr=>⟨hs.1,uy hs.2.1 hg' hr,uy hs.2.2 hg' hr⟩) _) (DH lz hL)
theorem TN(w:cd)(L:Nat)(hL:w.heap.size<=L)(c:Code):OwnFrom L (Wn w c):=
 OwnFrom.and (Own.from (fun pre A B row hs hg' hr=>by
  obtain⟨h1,d,x,h2,h3,h4,h5,h6⟩:=hs
  exact⟨h1,d,x,h2,h3,h4,uy h5 hg' hr,uy h6 hg' hr⟩) _) (DH lz hL)
theorem zX(h:∀x∈(scan (nb l) 0).1,pG x=false):CO l=match (scan (nb l) 0).2 with
  |some a=>aw (a,7)
  |none=>aq:=by
 unfold CO
 have:(scan (nb l) 0).1.find? (fun x=>decide (x.2<32)&&x.2 != 9)=aq:=by
  rw[yd];intro x c;have:=h x c;unfold pG at this;rw[this];simp
 rw[this];rfl
theorem Gg{d:List (Nat×Nat)}{x:Nat×Nat}(h:d++[x] <+: (scan (nb l) 0).1)(k:∀x∈d,pG x=false)(a:pG x=true):CO l=aw (x.1,3):=by
 unfold CO
 have:(scan (nb l) 0).1.find? (fun x=>decide (x.2<32)&&x.2 != 9)=aw x:=by
  obtain⟨t,i⟩:=h;rw[<-i,ef,List.find?_append,List.find?_append]
  have f:d.find? (fun x=>decide (x.2<32)&&x.2 != 9)=aq:=by
   rw[yd];intro y j;have:=k y j;unfold pG at this;rw[this];simp
  rw[f];unfold pG at a;simp only[List.find?_cons,a];rfl
 rw[this]
theorem yF{pre:List (Nat×Nat)}{x:Nat×Nat}(h:∀x∈pre,pG x=false)(b:pG x=false):∀y∈pre++[x],pG y=false:=by
 intro y a;rcases cX.1 a with a|a
 .exact h y a
 .simp at a;subst a;exact b
theorem aa.putObj{D:Nat}{o o':Obj}(h:aa W g cs t)(b:W.heap[D]?=aw o)(c:o.isCells=false):aa (W.putObj D o') g cs t:=by
 have Aa:g≠D:=by
  rintro rfl;rw[show W.heap[g]?=_ from h] at b;cases b;cases c
 exact (tP Aa).trans h
theorem Ol{a b:Nat}{u:cq}(ha:a<B)(hb:b<B):KeepsFrom B W ((W.setCell ⟨a,0,aq⟩ u).setCell ⟨b,0,aq⟩ v):=
 ⟨by simp[World.setCell],fun k o hk ho _=>(ds _ _ _ _ (by show k≠b;omega)).trans ((ds _ _ _ _ (by show k≠a;omega)).trans ho)⟩
theorem u7(s:E7)(w:cd)(hs:s.size<=1048576)(hT:Tab w) :
  cJ bh 148 #[al s] w fun e w'=>e=bk (xS (CO s.data.toList))/\cj w.heap.size w w':=by
 refine (lf (n:=9)).1 ?_;refine wv Tryz.func148 rfl trivial ?_ rfl;simp only[Tryz.ntmps148,uv,bc,cY,DE,DG,sL,sR,ux,tf,cM,cf];have HA:=Hh (Ab s ((w.alloc (aE #[ao ar 0] 3)).alloc (aE #[ao ar 0] 23)))
 gi_wp2
 refine⟨trivial,(lf.2 HA.out).mono ?_⟩;rintro e M ⟨rfl,L⟩
 have Ai:cj (w.heap.size+2) ((w.alloc (aE #[ao ar 0] 3)).alloc (aE #[ao ar 0] 23)) M:=by
  rw[L];exact (ba _ _).alloc (by simp) _
 have hz:M.heap.size=w.heap.size+3:=by rw[L];simp
 have Ap:M.cell? ⟨w.heap.size+2,0,aq⟩=aw (al s):=by
  have h:=fL (w:=(w.alloc (aE #[ao ar 0] 3)).alloc (aE #[ao ar 0] 23)) #[al s] 9 0;simp only[cF] at h;rw[L];exact h
 have c2:aa M w.heap.size #[ao ar 0] 3:=((aa.new w _ _).alloc _).below Ai (by omega)
 have c3:aa M (w.heap.size+1) #[ao ar 0] 23:=by
  have h:=(aa.new (w.alloc (aE #[ao ar 0] 3)) #[ao ar 0] 23).below Ai (by simp)
  simpa using h
 have Aj:cj w.heap.size w M:=(((ba _ w).alloc lz _).alloc (by simp) _).trans (Ai.mono (by omega));have An:=hT.below Aj hT.pos;have Aq:=hT.pos;clear HA L;simp only[cF]
 gi_wp2
 have Am:w.heap.size<=M.heap.size:=by omega
 refine wx rfl (by omega) (gf:=199) (lb:=#[cx (aw ⟨w.heap.size+2,0,aq⟩)]) rfl trivial (enters_of E0 (by kernel_rfl) rfl)
  (vw 8 (by omega) (w.heap.size+2) s (by omega) M (by omega) Ap An) dV.trans (dV.put (w.heap.size+2) M (by omega) (by omega)) (ba _ _) (fun _=>rfl)
  (Wo w) (Wn w) (TP _ _ Am) (TN _ _ Am)
  ⟨⟨by simp,c2,c3⟩,Aj⟩
  (fun x=>{ tmps:=#[al s,fa,cx (aw ⟨w.heap.size,0,aq⟩),cx (aw ⟨w.heap.size+1,0,aq⟩),ao ar (x.1:Nat),ao ar (x.2:Nat),fa,al s,.func (.func 199) #[] #[cx (aw ⟨w.heap.size+2,0,aq⟩)],ao ar (x.1:Nat),ao ar (x.2:Nat),fa,fa,fa,fa,fa,fa,fa,fa,fa,fa,fa,fa],defers:=[] }) ?assign ?body ?done ?stop
 case assign=>
  intro l x W K H
  gi_wp2
  exact H
 case body=>
  rintro l0 pre x W ⟨⟨u,v,C⟩,E⟩ hlt;have Ak:=v.lt;have Al:=C.lt
  by_cases hx:x.2<32/\x.2≠9
  .have d1:decide ((x.2:Int)<32)=true:=by rw[decide_eq_true_eq];omega
   have d2:((x.2:Int) != 9)=true:=by rw[bne_iff_ne];omega
   have Ah:pG x=true:=by simp[pG,hx.1,hx.2]
   have Z:=Hh Ah;have Y:=Hh u;clear hx u Ah;obtain⟨Aa,Ac⟩:=v.n1 rfl;obtain⟨Ad,Ae⟩:=C.n1 rfl
   gi_wp2
   exact⟨Ol (by omega) (by omega),⟨rfl,pre,x,rfl,Y.out,Z.out,(v.setI 0 _).setOther _ _ (by show w.heap.size+1≠w.heap.size;omega),(C.setOther _ _ (by show w.heap.size≠w.heap.size+1;omega)).setI 0 _⟩,(E.setCell lz _).setCell (by show w.heap.size<=w.heap.size+1;omega) _⟩
  .have Ah:pG x=false:=by
    simp only[pG,Bool.and_eq_false_iff,decide_eq_false_iff_not,bne_eq_false_iff_eq];omega
   have Z:=Hh Ah;have Y:=Hh u;have hr:32<=x.2\/x.2=9:=by omega
   clear hx u Ah;rcases hr with hr|hr
   .have d1:decide ((x.2:Int)<32)=false:=by rw[decide_eq_false_iff_not];omega
    gi_wp2
    exact⟨KeepsFrom.refl _ _,dV.refl _ _,⟨yF Y.out Z.out,v,C⟩,E⟩
   .have d1:decide ((x.2:Int)<32)=true:=by rw[decide_eq_true_eq];omega
    have d2:((x.2:Int) != 9)=false:=by rw[bne_eq_false_iff_eq];omega
    gi_wp2
    exact⟨KeepsFrom.refl _ _,dV.refl _ _,⟨yF Y.out Z.out,v,C⟩,E⟩
 case done=>
  rintro D ys W hD rfl ⟨⟨u,v,C⟩,E⟩ H;have Ao:=hT.below E hT.pos;have Ag:=TT s W Ao (by omega);have J:=zX (l:=s.data.toList) u;have Ak:=v.lt;have Al:=C.lt;rw[show nb s.data.toList=bs s from rfl] at J
  cases ho:(scan (bs s) 0).2 with
  |none=>
   rw[ho] at Ag J;have HW:=Hh J;clear J u ho;simp only[U0] at Ag;obtain⟨Aa,Ac⟩:=v.n1 rfl;obtain⟨Ad,Ae⟩:=C.n1 rfl
   gi_wp2
   refine⟨trivial,(lf.2 Ag).mono ?_⟩;rintro e w3 ⟨rfl,rfl⟩
   gi_wp2
   have Af:((W.setCell ⟨w.heap.size,0,aq⟩ (ao ar 0)).setCell ⟨w.heap.size+1,0,aq⟩ (ao ar 0)).heap[D]?=aw (Obj.deferred (aw [])):=(ds _ _ _ _ (by show D≠w.heap.size+1;omega)).trans ((ds _ _ _ _ (by show D≠w.heap.size;omega)).trans H);refine⟨by simp,.inl ⟨_,_,rfl,pH Af,?_⟩⟩;have Q:=(((v.setI 0 (ao ar 0)).setOther ⟨w.heap.size+1,0,aq⟩ (ao ar 0) (by show w.heap.size+1≠w.heap.size;omega)).putObj (o':=.deferred aq) Af rfl).cell 0 _ rfl;have R:=(((C.setOther ⟨w.heap.size,0,aq⟩ (ao ar 0) (by show w.heap.size≠w.heap.size+1;omega)).setI 0 (ao ar 0)).putObj (o':=.deferred aq) Af rfl).cell 0 _ rfl;refine⟨xS aq,by simp[cD,Tryz.results148,go_sem,xS,Q,R],by rw[HW.out],?_⟩;exact ((E.setCell (p:=⟨w.heap.size,0,aq⟩) lz _).setCell (p:=⟨w.heap.size+1,0,aq⟩) (by show w.heap.size<=w.heap.size+1;omega) _).trans (DS (w:=w) lz _ D _ _ (by omega) Af rfl rfl)
  |some a=>
   rw[ho] at Ag J;have HW:=Hh J;clear J u ho;simp only[U0] at Ag;obtain⟨Aa,Ac⟩:=v.n1 rfl;obtain⟨Ad,Ae⟩:=C.n1 rfl
   gi_wp2
   refine⟨trivial,(lf.2 Ag).mono ?_⟩;rintro e w3 ⟨rfl,rfl⟩
   gi_wp2
   have Af:((W.setCell ⟨w.heap.size,0,aq⟩ (ao ar (a:Int))).setCell ⟨w.heap.size+1,0,aq⟩ (ao ar 7)).heap[D]?=aw (Obj.deferred (aw [])):=(ds _ _ _ _ (by show D≠w.heap.size+1;omega)).trans ((ds _ _ _ _ (by show D≠w.heap.size;omega)).trans H);refine⟨by simp,.inl ⟨_,_,rfl,pH Af,?_⟩⟩;have Q:=(((v.setI 0 (ao ar (a:Int))).setOther ⟨w.heap.size+1,0,aq⟩ (ao ar 7) (by show w.heap.size+1≠w.heap.size;omega)).putObj (o':=.deferred aq) Af rfl).cell 0 _ rfl;have R:=(((C.setOther ⟨w.heap.size,0,aq⟩ (ao ar (a:Int)) (by show w.heap.size≠w.heap.size+1;omega)).setI 0 (ao ar 7)).putObj (o':=.deferred aq) Af rfl).cell 0 _ rfl;refine⟨xS (aw (a,7)),by simp[cD,Tryz.results148,go_sem,xS,Q,R],by rw[HW.out],?_⟩;exact ((E.setCell (p:=⟨w.heap.size,0,aq⟩) lz _).setCell (p:=⟨w.heap.size+1,0,aq⟩) (by show w.heap.size<=w.heap.size+1;omega) _).trans (DS (w:=w) lz _ D _ _ (by omega) Af rfl rfl)
 case stop=>
  rintro D c pre W hD U ⟨⟨rfl,d,x,rfl,h1,h2,v,C⟩,E⟩ H;have J:=Gg (l:=s.data.toList) U h1 h2;have Ak:=v.lt;have Al:=C.lt;obtain⟨Aa,Ac⟩:=v.n1 rfl;obtain⟨Ad,Ae⟩:=C.n1 rfl
  gi_wp2
  refine⟨by simp,.inl ⟨_,_,rfl,pH H,?_⟩⟩;have Q:=(v.putObj (o':=.deferred aq) H rfl).cell 0 _ rfl;have R:=(C.putObj (o':=.deferred aq) H rfl).cell 0 _ rfl;refine⟨xS (aw (x.1,3)),by simp[cD,Tryz.results148,go_sem,xS,Q,R],by rw[J],?_⟩;exact E.trans (DS (w:=w) lz W D _ _ (by omega) H rfl rfl)
def VF(g:Nat)(s:E7)(w:cd)(k:Nat)(l:List UInt8)(L:List Nat)(e:pT)(w':cd):Prop:=
 (L.head?=aw 34/\V9 g s w (cG false) (k+1) l e w')\/
 (L.head?≠aw 34/\(ax L).2.2=0/\V9 g s w (cG true) (k+(ax L).2.1) (l++un (ax L).1) e w')\/
 (L.head?≠aw 34/\(ax L).2.2≠0/\Jn g w ((ax L).2.2:Nat) e w')
theorem PZ(w:cd)(g:Nat)(s:E7)(k:Nat)(l:List UInt8)(h:dG w g s k l)(hk:k<=s.size)(hs:s.size<=1048576)(hl:l.length<=9000000)(hT:Tab w)(hg:0<g) :
  cJ bh 146 #[cx (aw ⟨g,0,aq⟩)] w (VF g s w k l ((bs s).drop k)):=by
 cases hq:(bs s).drop k with
 |nil=>
  have V:=fun W h=>nN W g s k l h hk hq (by omega);clear hq;go_in;go_wp2_with fail;refine (V _ h).mono ?_;rintro _ w1 ⟨rfl,i⟩;go_wp2;exact⟨rfl,.inr (.inr ⟨by simp,by simp[ax,aJ],rfl,i⟩)⟩
 |cons c r=>
  have V:=fun W h=>ma W g s k l h hq (by omega);have hc:c<256:=gJ c (dT (by rw[hq];simp));obtain⟨Ab,Af⟩:=iX hq;rw[ay] at Af
  by_cases A:c=34
  .subst A
   clear hq Ab;go_in;go_wp2_with fail;refine (V _ h).mono ?_;rintro _ w1 ⟨rfl,j,i,R⟩;go_wp2;go_ret;exact .inl ⟨rfl,rfl,j,i⟩
  have Aa:(c::r).head?≠aw 34:=by simpa using A
  have Ag:((c:Int)==34)=false:=by rw[Fc];omega
  by_cases D:c=92
  .subst D
   have hE:=fun W h=>KG W g s k l h (by omega) (by omega) hl;rw[Ab] at hE;have v:Hid (ax (92::r)=ou r):=Hh (by simp[ax]);clear hq Ab Aa A;go_in;go_wp2_with fail;refine (V _ h).mono ?_;rintro _ w1 ⟨rfl,j,i,R⟩;go_wp2_with fail;refine (hE _ j).mono ?_;rintro e w2 (⟨I,rfl,L,P,hB2⟩|⟨I,rfl,P⟩)
   .have Q:=Hh I
    clear I;go_wp2;go_ret;exact .inr (.inl ⟨by simp,by rw[v.out];exact Q.out,by rw[v.out];exact⟨rfl,L,i.trans P⟩⟩)
   .have Q:=Hh I
    clear I;go_wp2;exact⟨rfl,.inr (.inr ⟨by simp,by rw[v.out];exact Q.out,by rw[v.out];exact⟨rfl,i.trans P⟩⟩)⟩
  have Ah:((c:Int)==92)=false:=by rw[Fc];omega
  by_cases K:c<32
  .have v:Hid (ax (c::r)=aJ 3):=Hh (by simp[ax,K])
   have HH:=Hh Aa;clear hq Ab Aa A D;go_in;go_wp2_with fail;refine (V _ h).mono ?_;rintro _ w1 ⟨rfl,j,i,R⟩;go_wp2_with fail;refine (jq 3 _).mono ?_;rintro _ w2 ⟨rfl,rfl⟩;go_wp2;exact⟨rfl,.inr (.inr ⟨HH.out,by rw[v.out];simp[aJ],by rw[v.out];exact⟨rfl,i⟩⟩)⟩
  by_cases U:c<128
  .have v:Hid (ax (c::r)=([c],1,0)):=Hh (by
    simp only[ax];rw[E6 K,E6 D]
    simp[aG,U])
   have HH:=Hh Aa;clear hq Ab Aa A D;have Ac:32<=c:=by omega
   clear K;go_in;go_wp2_with fail;refine (V _ h).mono ?_;rintro _ w1 ⟨rfl,j,i,R⟩;go_wp2_with fail;refine (Su w1 g s _ l c _ rfl (by omega) j (by omega)).mono ?_;rintro _ w2 ⟨rfl,L,P,hB2⟩;go_wp2;go_ret;exact .inr (.inl ⟨HH.out,by rw[v.out],by rw[v.out];exact⟨rfl,L,i.trans P⟩⟩)
  .have v:Hid (ax (c::r)=if (aG (c::r)).2=0 then aJ 7 else ((c::r).take (aG (c::r)).2,(aG (c::r)).2,0)):=Hh (by
    simp only[ax]
    rw[E6 K,E6 D])
   have hS:=fun W h hT=>JM W g s k l h (by omega) hs hl hT;rw[hq] at hS;generalize hcr:c::r=cr at *;have HH:=Hh Aa;clear hq Ab Aa A D hcr;have Ac:128<=c:=by omega
   clear K U;go_in;go_wp2_with fail;refine (V _ h).mono ?_;rintro _ w1 ⟨rfl,j,i,R⟩;have L:=j.moved k;have Ae:=hT.below (i.trans (sO g (ao ar (k:Int)))) hg;obtain⟨cs,Ad,h5,h6,h7⟩:=id j;have c1:=Ad.cells.cell 1 _ h7;have f1:=Ad.cells.frozen 1;clear Ad h5 h6 h7;go_wp2_with fail;refine (hS _ L Ae).mono ?_;rintro e w2 (⟨I,rfl,hR3,Y⟩|⟨I,rfl,Y⟩)
   .have Q:=Hh I
    clear I;go_wp2;go_ret;exact .inr (.inl ⟨HH.out,by rw[v.out,E6 Q.out],by rw[v.out,E6 Q.out];exact⟨rfl,hR3,(i.trans (sO g _)).trans Y⟩⟩)
   .have Q:=Hh I
    clear I;go_wp2;exact⟨rfl,.inr (.inr ⟨HH.out,by rw[v.out,E4 Q.out];simp[aJ],by rw[v.out,E4 Q.out];exact⟨rfl,(i.trans (sO g _)).trans Y⟩⟩)⟩
theorem Tryz.asFail(v:cq)(w:cd):(Instr.typeAssert (.iface 172 v) 20 172 true).run bh w=.ok (dr #[v,cG true]) w:=by kernel_rfl
theorem nk(A B C:Nat)(v0 v1 v2:cq)(n:Int)(older:List PanicEntry)(w:cd)(E:aa w A #[v0] 9)(F:aa w B #[v1] 3)(G:aa w C #[v2] 23)(J:A<B)(K:B<C) :
  CallsD bh 143 #[cx (aw ⟨A,0,aq⟩),cx (aw ⟨B,0,aq⟩),cx (aw ⟨C,0,aq⟩)] (.panicking ({ v:=BZ n,recovered:=false }::older)) w fun e u' w'=>
   e=bk (dr #[])/\u'=.panicking ({ v:=BZ n,recovered:=true }::older)/\aa w' A #[al ⟨#[]⟩] 9/\aa w' B #[ao ar 0] 3/\aa w' C #[ao ar n] 23/\cj A w w':=by
 refine callsD_of_wpS Tryz.func143 rfl fun c₀ cs hu=>?_;apply wpS_seq
 apply wpS_region
 simp[wpOpsS,go_sem,recoverD,hu,Tryz.ntmps143,Exit.thenS]
 refine wpS_of_wp ?_;rw[show (#[DM (aw ⟨A,0,aq⟩),cx (aw ⟨B,0,aq⟩),cx (aw ⟨C,0,aq⟩)]++((Array.replicate 16 fa).setIfInBounds 3 (BZ n)).setIfInBounds 0 (BZ n))=#[DM (aw ⟨A,0,aq⟩),cx (aw ⟨B,0,aq⟩),cx (aw ⟨C,0,aq⟩),BZ n,fa,fa,BZ n,fa,fa,fa,fa,fa,fa,fa,fa,fa,fa,fa,fa] from rfl];have Ab:=Tryz.asFail;have M:=aa.new w #[ao ar n] 172;have Ao:=M.cell 0 _ rfl;have k0:=(E.alloc (aE #[ao ar n] 172));have k1:=(F.alloc (aE #[ao ar n] 172));have k2:=(G.alloc (aE #[ao ar n] 172));obtain⟨Ac,Ad⟩:=k0.n1 rfl;obtain⟨Ae,Af⟩:=k1.n1 rfl;obtain⟨Ag,Ah⟩:=k2.n1 rfl;have Ai:¬A=B:=by omega
 have Ak:¬B=A:=by omega
 have Aj:¬A=C:=by omega
 have Am:¬C=A:=by omega
 have Al:¬B=C:=by omega
 have I:¬C=B:=by omega
 have H:=E.lt;have N:=F.lt;have O:=G.lt;clear E F G;go_wp2;have U:¬w.heap.size=A:=by omega
 have V:¬w.heap.size=B:=by omega
 have W:¬w.heap.size=C:=by omega
 have Y:¬A=w.heap.size:=by omega
 have y1:¬B=w.heap.size:=by omega
 have y2:¬C=w.heap.size:=by omega
 have L:cj A w (w.alloc (aE #[ao ar n] 172)):=(ba A w).alloc (ph H) _;have Aa:=Hh (show A<=B/\A<=C by omega);clear H N O J K;generalize w.alloc (aE #[ao ar n] 172)=T at *;generalize w.heap.size=X at *;go_region
 have P:=((k0.set 0 (by simp) (al ⟨#[]⟩)).setOther ⟨B,0,aq⟩ (ao ar 0) (by simpa using Ak)).setOther ⟨C,0,aq⟩ (ao ar n) (by simpa using Am);have Q:=((k1.setOther ⟨A,0,aq⟩ (al ⟨#[]⟩) (by simpa using Ai)).set 0 (by simp) (ao ar 0)).setOther ⟨C,0,aq⟩ (ao ar n) (by simpa using I);have R:=((k2.setOther ⟨A,0,aq⟩ (al ⟨#[]⟩) (by simpa using Aj)).setOther ⟨B,0,aq⟩ (ao ar 0) (by simpa using Al)).set 0 (by simp) (ao ar n);clear k0 k1 k2 Ac Ad Ae Af Ag Ah Ab;cases c₀
 exact⟨rfl,_,rfl,_,lO rfl _ _ _,rfl,rfl,P,Q,R,(((L.setCell (p:=⟨A,0,aq⟩) lz _).setCell (p:=⟨B,0,aq⟩) Aa.out.1 _).setCell (p:=⟨C,0,aq⟩) Aa.out.2 _).drew⟩
theorem KR(p q r:cq)(w:cd) :
  CallsD bh 143 #[p,q,r] .returning w fun e u' w'=>e=bk (dr #[])/\u'=.returning/\w'=w:=by
 refine callsD_of_wpS Tryz.func143 rfl fun c₀ cs hu=>?_;apply wpS_seq
 apply wpS_region
 simp[wpOpsS,go_sem,recoverD,hu,Tryz.ntmps143,Exit.thenS]
 refine wpS_of_wp ?_;rw[show (#[p,q,r]++((Array.replicate 16 fa).setIfInBounds 3 ye).setIfInBounds 0 ye)=#[p,q,r,ye,fa,fa,ye,fa,fa,fa,fa,fa,fa,fa,fa,fa,fa,fa,fa] from rfl];go_wp2;cases c₀
 simp_all [bodyPostS,cD,Tryz.results143]
def Pz(q:qD):cq:=dr #[al (bH (un q.1)),ao ar (q.2.1:Int),ao ar (q.2.2:Int)]
def SX(w:cd):cd:=((w.alloc (aE #[al ⟨#[]⟩] 9)).alloc (aE #[ao ar 0] 3)).alloc (aE #[ao ar 0] 23)
def O3(w:cd)(s:E7):cd:=(SX w).alloc (aE #[al s,ao ar 0,cx aq,an aq 0 0] 176)
theorem Qt(w:cd):(SX w).heap.size=w.heap.size+3:=by simp[SX]
theorem NW(w:cd)(s:E7):cj w.heap.size w (O3 w s):=by
 unfold O3 SX;exact ((((ba _ w).alloc lz _).alloc (by simp) _).alloc (by simp;omega) _).alloc (by simp;omega) _
theorem SS(w:cd)(s:E7):aa (O3 w s) w.heap.size #[al ⟨#[]⟩] 9/\aa (O3 w s) (w.heap.size+1) #[ao ar 0] 3/\aa (O3 w s) (w.heap.size+2) #[ao ar 0] 23:=by
 unfold O3 SX;have h:=aa.new w #[al ⟨#[]⟩] 9;have b:=aa.new (w.alloc (aE #[al ⟨#[]⟩] 9)) #[ao ar 0] 3;have f:=aa.new ((w.alloc (aE #[al ⟨#[]⟩] 9)).alloc (aE #[ao ar 0] 3)) #[ao ar 0] 23;simp only[cF] at b f;exact⟨((h.alloc _).alloc _).alloc _,(b.alloc _).alloc _,f.alloc _⟩
theorem SQ(w:cd)(s:E7):dG (O3 w s) (w.heap.size+3) s 0 []:=by
 have h:=aa.new (SX w) #[al s,ao ar 0,cx aq,an aq 0 0] 176;rw[Qt] at h;exact⟨_,⟨h,.inl rfl,_,rfl,aI.nil⟩,rfl,rfl,rfl⟩
def atOf(w:cd)(g:Nat):Nat:=match w.cell? ⟨g,1,aq⟩ with
 |some (ao _ n)=>n.toNat
 |_=>0
theorem dG.atOf{l:List UInt8}(h:dG w g s k l):YtgmpmolfcaihfaaGreatDoor.atOf w g=k:=by
 obtain⟨cs,a,_,_,b⟩:=h;unfold YtgmpmolfcaihfaaGreatDoor.atOf;rw[a.cells.cell 1 _ b];simp
theorem Dr(l:List Nat):(un l).length=l.length:=by simp[un]
theorem DJ(s:E7)(w:cd)(hs:s.size<=1048576)(hT:Tab w) :
    cJ bh 117 #[al s] w fun e w'=>e=bk (Pz (aW (bs s)))/\cj w.heap.size w w':=by
  have A8:∀(fn:Fn) (first cap:Array cq) (w:cd),(Instr.makeFunc fn first cap).run bh w=.ok (.func fn first cap) w:=fun _ _ _ _=>rfl;have Ag:=hT.pos;have hR:=SQ w s;obtain⟨x0,x1,x2⟩:=SS w s;have hB:=NW w s;have At:=hT.below hB Ag
  cases hq:bs s with
  |nil=>
    have hN:=nN (O3 w s) _ s 0 [] hR (ck _) (by simpa using hq) (by omega);have HC:Hid (aW (bs s)=aJ 2):=Hh (by rw[hq];rfl);rw[<-hq];unfold O3 SX at hN;clear hq;go_enter_defers Tryz.func117,Tryz.ntmps117
    go_wp2_with fail;refine hN.mono ?_;rintro _ w1 ⟨rfl,F⟩;have K:=x0.below F (by omega);have L:=x1.below F (by omega);have I:=x2.below F (by omega);go_wp2;refine leaves_cons (f:=143) (args:=#[cx (aw ⟨w.heap.size,0,aq⟩),cx (aw ⟨w.heap.size+1,0,aq⟩),cx (aw ⟨w.heap.size+2,0,aq⟩)]) (by simp) (by simp[go_sem]) ?_;refine (nk w.heap.size (w.heap.size+1) (w.heap.size+2) _ _ _ _ [] _ K L I (by omega) (by omega)).mono ?_;rintro e u' w'' ⟨rfl,rfl,U,Y,r2,H⟩;have q0:=U.cell 0 _ rfl;have q1:=Y.cell 0 _ rfl;have q2:=r2.cell 0 _ rfl;clear U Y r2;simp[Leaves,settle,cD,wa,go_sem,q0,q1,q2]
    exact⟨by rw[HC.out];rfl,(hB.trans (F.mono (by omega))).trans H⟩
  |cons c r=>
    have hN:=ma (O3 w s) _ s 0 [] hR (by simpa using hq) (by omega);have hc:c<256:=gJ c (by rw[hq];simp);have Ay:r.length+1=s.size:=by rw[<-ay,hq];rfl
    by_cases M:c=34
    . subst M
      have HQ:Hid (aW (bs s)=ig [] 1 (bT ((bs s).drop 1))):=Hh (by rw[hq];rfl);rw[<-hq];unfold O3 SX at hN;clear hq;go_enter_defers Tryz.func117,Tryz.ntmps117
      go_wp2_with fail;refine hN.mono ?_;clear hN;rintro e w1 ⟨rfl,hR1,F,hB1⟩;have K:=x0.below F (by omega);have L:=x1.below F (by omega);have I:=x2.below F (by omega);have Ac:=hB.trans (F.mono (by omega));clear x0 x1 x2 hB1 F hB hR At;go_wp2;go_loopw [] (fun wr=>∃(k:Nat) (pre:List Nat),dG wr (w.heap.size+3) s k (un pre)/\k<=s.size/\pre.length<=4*k/\ig pre k (bT ((bs s).drop k))=aW (bs s)/\aa wr w.heap.size #[al ⟨#[]⟩] 9/\aa wr (w.heap.size+1) #[ao ar 0] 3/\aa wr (w.heap.size+2) #[ao ar 0] 23/\cj w.heap.size w wr) (fun wr=>s.size-atOf wr (w.heap.size+3))
      .exact⟨1,[],hR1,by omega,by simp,HQ.out.symm,K,L,I,Ac⟩
      clear hR1 K L I Ac HQ;obtain⟨k,pre,hR,hk,A9,hj,x0,x1,x2,hb⟩:=hrel;have HJ:=Hh hj;have Ah:atOf wr (w.heap.size+3)=k:=hR.atOf;have As:=hT.below hb Ag;have hP:=PZ wr _ s k (un pre) hR hk hs (by rw[Dr];omega) As (by omega);clear hj;have Aa:yP ((bs s).drop k):=fun x hx=>gJ x (dT hx);go_wp2_with fail;refine hP.mono ?_;clear hP;rintro e w2 (⟨hh,rfl,hR2,D⟩|⟨hh,he,rfl,hR2,D⟩|⟨hh,he,rfl,D⟩)
      . have HC:Hid (aW (bs s)=(pre,k+1,0)):=Hh (by rw[<-HJ.out,D8 Aa hh])
        have K:=x0.below D (by omega);have L:=x1.below D (by omega);have I:=x2.below D (by omega);have Ad:=hb.trans (D.mono (by omega));clear hh Aa x0 x1 x2 hb D HJ hR Ah;obtain⟨cs,H,h5,h6,h7⟩:=hR2;have Af:=H.cells.lt;have Aw:=H.cells;have Ae:w2.drew.cell? ⟨w.heap.size+1+1+1,1,aq⟩=aw (ao ar ((k+1:Nat):Int)):=H.cells.cell 1 _ h7;have Ap:(un pre).length<=1000000000:=by rw[Dr];omega
        have Aj:=wm w2.drew (h:=(show Lc 176 (w.heap.size+3) w2.drew (w.heap.size+3) 2 cs (un pre) from ⟨H.cells.drew,H.addr,by obtain⟨v,e1,e2⟩:=H.buf;exact⟨v,e1,e2.drew⟩⟩)) (ph Af) Ap;obtain⟨S,hS⟩:∃S:E7,S=⟨(un pre).toArray⟩:=⟨_,rfl⟩;rw[<-hS] at Aj;have HS:=Hh hS;clear hS H Ap h5 h6;go_wp2_with fail
        go_region_held3 (fun w'=>w'.cell? ⟨w.heap.size+1+1+1,1,aq⟩=aw (ao ar ((k+1:Nat):Int))) (first|exact Ae|exact hc6|exact hc7|exact hc8|exact hc9) (first
          | (go_at_call 13;refine Aj.mono ?_;rintro _ w6 ⟨rfl,hb6,O⟩
             have AA:=I.lt;have z0:aa w6 w.heap.size _ _:=O _ _ K.lt K (fun _ _ h=>by cases h);have z1:aa w6 (w.heap.size+1) _ _:=O _ _ L.lt L (fun _ _ h=>by cases h);have z2:aa w6 (w.heap.size+1+1) _ _:=O _ _ I.lt I (fun _ _ h=>by cases h);have zg:aa w6 (w.heap.size+1+1+1) cs 176:=O _ _ Af Aw (fun _ _ h=>by cases h);have hc6:=zg.cell 1 _ h7;have Al:=zg.setOther ⟨w.heap.size,0,aq⟩ (al S) (by simp;omega);have Am:=Al.setOther ⟨w.heap.size+1,0,aq⟩ (ao ar ((k+1:Nat):Int)) (by simp);have Aq:=Am.setOther ⟨w.heap.size+1+1,0,aq⟩ (ao ar 0) (by simp);have hc7:=Al.cell 1 _ h7;have hc8:=Am.cell 1 _ h7;have hc9:=Aq.cell 1 _ h7;obtain⟨Az,A0⟩:=z0.n1 rfl;obtain⟨A1,A2⟩:=z1.n1 rfl;have A3:=z2.cell 0 _ rfl
             have A4:=z2.frozen 0))
        have U:=((z0.set 0 (by simp) (al S)).setOther ⟨w.heap.size+1,0,aq⟩ (ao ar ((k+1:Nat):Int)) (by simp)).setOther ⟨w.heap.size+1+1,0,aq⟩ (ao ar 0) (by simp;omega);have Y:=((z1.setOther ⟨w.heap.size,0,aq⟩ (al S) (by simp)).set 0 (by simp) (ao ar ((k+1:Nat):Int))).setOther ⟨w.heap.size+1+1,0,aq⟩ (ao ar 0) (by simp);have r2:=((z2.setOther ⟨w.heap.size,0,aq⟩ (al S) (by simp;omega)).setOther ⟨w.heap.size+1,0,aq⟩ (ao ar ((k+1:Nat):Int)) (by simp)).set 0 (by simp) (ao ar 0);have Au:cj w.heap.size w w6:=Ad.drew.trans (hb6.mono (by omega));have Ao:=((Au.setCell (p:=⟨w.heap.size,0,aq⟩) lz (al S)).setCell (p:=⟨w.heap.size+1,0,aq⟩) (by simp) (ao ar ((k+1:Nat):Int))).setCell (p:=⟨w.heap.size+1+1,0,aq⟩) (by simp;omega) (ao ar 0);have q0:=U.cell 0 _ rfl;have q1:=Y.cell 0 _ rfl;have q2:=r2.cell 0 _ rfl;clear U Y r2 z0 z1 z2 zg Al Am Aq Az A0 A1 A2 A3 A4 Ae hc6 hc7 hc8 hc9 O Aj;go_wp2;refine leaves_cons (f:=143) (args:=#[cx (aw ⟨w.heap.size,0,aq⟩),cx (aw ⟨w.heap.size+1,0,aq⟩),cx (aw ⟨w.heap.size+1+1,0,aq⟩)]) (by simp) (by simp[go_sem]) ?_;refine (KR _ _ _ _).mono ?_;rintro e u' w'' ⟨rfl,rfl,rfl⟩;simp only[se,Int.natCast_one] at q0 q1 q2 Ao;simp[Leaves,settle,cD,wa,go_sem,q0,q1,q2]
        exact⟨by rw[HC.out,HS.out];rfl,Ao⟩
      . obtain⟨c,A6,Ae,A7,Av⟩:=lu Aa he
        have HN:Hid (ig (pre++(ax ((bs s).drop k)).1) (k+(ax ((bs s).drop k)).2.1) (bT ((bs s).drop (k+(ax ((bs s).drop k)).2.1)))=aW (bs s)):=Hh (by rw[<-HJ.out,BN Aa hh he,c4])
        have Ak:(pre++(ax ((bs s).drop k)).1).length<=4*(k+(ax ((bs s).drop k)).2.1):=by
          rw[cm,Ae,rX];have:=(qE c).2;omega
        have Ax:k+(ax ((bs s).drop k)).2.1<=s.size:=by rw[bm,ay] at Av;omega
        have An:dG w2 (w.heap.size+3) s (k+(ax ((bs s).drop k)).2.1) (un (pre++(ax ((bs s).drop k)).1)):=by rw[MV];exact hR2
        have Ab:atOf w2 (w.heap.size+3)=k+(ax ((bs s).drop k)).2.1:=An.atOf;have K:=x0.below D (by omega);have L:=x1.below D (by omega);have I:=x2.below D (by omega);have Ad:=hb.trans (D.mono (by omega));generalize (ax ((bs s).drop k)).2.1=z at *;generalize (ax ((bs s).drop k)).1=zo at *;have Ar:=Hh Ah;have Ai:=Hh Ab;clear Ah Ab hh he Ae;go_wp2;go_roundw
        .exact⟨k+z,pre++zo,An,Ax,Ak,HN.out,K,L,I,Ad⟩
        rw[Ar.out,Ai.out];omega
      . have HC:Hid (aW (bs s)=aJ (ax ((bs s).drop k)).2.2):=Hh (by rw[<-HJ.out,D9 Aa hh he])
        have K:=x0.below D (by omega);have L:=x1.below D (by omega);have I:=x2.below D (by omega);have Ad:=hb.trans (D.mono (by omega));clear hh Aa x0 x1 x2 hb D HJ hR he Ah;generalize (ax ((bs s).drop k)).2.2=z at *;go_wp2;refine leaves_cons (f:=143) (args:=#[cx (aw ⟨w.heap.size,0,aq⟩),cx (aw ⟨w.heap.size+1,0,aq⟩),cx (aw ⟨w.heap.size+2,0,aq⟩)]) (by simp) (by simp[go_sem]) ?_;refine (nk w.heap.size (w.heap.size+1) (w.heap.size+2) _ _ _ _ [] _ K L I (by omega) (by omega)).mono ?_;rintro e u' w'' ⟨rfl,rfl,U,Y,r2,H⟩;have q0:=U.cell 0 _ rfl;have q1:=Y.cell 0 _ rfl;have q2:=r2.cell 0 _ rfl;clear U Y r2;simp[Leaves,settle,cD,wa,go_sem,q0,q1,q2]
        exact⟨by rw[HC.out];rfl,Ad.trans H⟩
    . have HC:Hid (aW (bs s)=aJ 3):=Hh (by rw[hq];simp only[aW];rw[E4 M])
      have A5:((c:Int) != 34)=true:=by rw[bne_iff_ne];omega
      rw[<-hq];unfold O3 SX at hN;clear hq M;go_enter_defers Tryz.func117,Tryz.ntmps117
      go_wp2_with fail;refine hN.mono ?_;rintro _ w1 ⟨rfl,hR1,F,hB1⟩;have K:=x0.below F (by omega);have L:=x1.below F (by omega);have I:=x2.below F (by omega);go_wp2_with fail;refine (jq 3 _).mono ?_;rintro _ w2 ⟨rfl,rfl⟩;go_wp2;refine leaves_cons (f:=143) (args:=#[cx (aw ⟨w.heap.size,0,aq⟩),cx (aw ⟨w.heap.size+1,0,aq⟩),cx (aw ⟨w.heap.size+2,0,aq⟩)]) (by simp) (by simp[go_sem]) ?_;refine (nk w.heap.size (w.heap.size+1) (w.heap.size+2) _ _ _ _ [] _ K L I (by omega) (by omega)).mono ?_;rintro e u' w'' ⟨rfl,rfl,U,Y,r2,H⟩;have q0:=U.cell 0 _ rfl;have q1:=Y.cell 0 _ rfl;have q2:=r2.cell 0 _ rfl;clear U Y r2;simp[Leaves,settle,cD,wa,go_sem,q0,q1,q2]
      exact⟨by rw[HC.out];rfl,(hB.trans (F.mono (by omega))).trans H⟩
def Bh(l:List Nat):List Nat×Nat:=if (aW l).2.2≠0 then ([],(aW l).2.2) else if (aW l).2.1<l.length then ([],14) else ((aW l).1,0)
def Bf(q:List Nat×Nat):cq:=dr #[al (bH (un q.1)),ao ar (q.2:Int)]
theorem Ez(s:E7)(w:cd)(x:s.size<=1048576)(v:Tab w) :
  cJ bh 122 #[al s] w fun e w'=>e=bk (Bf (Bh (bs s)))/\cj w.heap.size w w':=by
 have i:=DJ s w x v;unfold Pz at i;unfold Bf Bh;rw[ay];generalize aW (bs s)=q at *;obtain⟨o,z,e⟩:=q;simp only at i ⊢
 by_cases j:e=0
 .subst j
  simp only[ne_eq,not_true_eq_false,if_false]
  by_cases k:z<s.size
  .rw[E4 k]
   go_in;go_wp2_with fail;refine i.mono ?_;rintro _ u ⟨rfl,c⟩;go_wp2;go_ret2
   exact⟨rfl,c⟩
  .rw[E6 k]
   have Ab:s.size<=z:=by omega
   clear k;go_in;go_wp2_with fail;refine i.mono ?_;rintro _ u ⟨rfl,c⟩;go_wp2;go_ret2
   exact⟨rfl,c⟩
 .rw[E4 j]
  have Aa:((e:Int) != 0)=true:=by rw[bne_iff_ne];omega
  clear j;go_in;go_wp2_with fail;refine i.mono ?_;rintro _ u ⟨rfl,c⟩;go_wp2;go_ret2
  exact⟨rfl,c⟩
theorem y9{ch:Bs}:∀{l:Bs},(∀x∈l,ch.contains x=false)->me l ch = -1
 |[],_=>rfl
 | b::l,h=>by
  rw[me,h b (pN ..),y9 (fun x hx=>h x (fi _ hx))];rfl
theorem yE{ch:Bs}{m:UInt8}{t:Bs}(c:ch.contains m=true):∀{l:Bs},(∀x∈l,ch.contains x=false)->me (l++m::t) ch=l.length
 |[],_=>by rw[cM,me,E4 c];rfl
 | b::l,h=>by
  rw[cf,me,h b (pN ..),yE c (fun x hx=>h x (fi _ hx))];have:(((l.length:Nat):Int)==-1)=false:=by rw[Fc];omega
  rw[this];simp
theorem Eb{c:UInt8}:∀{l:Bs},(∀x∈l,x≠c)->gA l c = -1
 |[],_=>rfl
 | b::l,h=>by
  have h1:(b==c)=false:=by rw[Fc];exact h b (pN ..)
  rw[gA,h1,Eb (fun x hx=>h x (fi _ hx))];rfl
theorem L9{c:UInt8}{t:Bs}:∀{l:Bs},(∀x∈l,x≠c)->gA (l++c::t) c=l.length
 |[],_=>by rw[cM,gA,E4 (by simp)];rfl
 | b::l,h=>by
  have h1:(b==c)=false:=by rw[Fc];exact h b (pN ..)
  rw[cf,gA,h1,L9 (fun x hx=>h x (fi _ hx))];have:(((l.length:Nat):Int)==-1)=false:=by rw[Fc];omega
  rw[this];simp
def aH(ip fr:Bs):Bs:=ip++(if fr=[] then [] else 46::fr)
section
variable {l:Bs} {neg:Bool} {ip fr mk sg pw:Bs}
theorem bI.eq'(h:bI l neg ip fr mk sg pw):l=(if neg then [45] else [])++(aH ip fr++(mk++(sg++pw))):=by
 rw[aH,ef];exact h.eq
theorem bI.front_mem(h:bI l neg ip fr mk sg pw){x:UInt8}(a:x∈aH ip fr):dg x=true\/x=46:=by
 rw[aH,cX] at a;rcases a with a|a
 .exact .inl (jt.1 h.dip x a)
 .by_cases b:fr=[]
  .rw[E4 b] at a;simp at a
  .rw[E6 b] at a
   rcases cL.1 a with rfl|a
   .exact .inr rfl
   .exact .inl (jt.1 h.dfr x a)
theorem bI.front_any(h:bI l neg ip fr mk sg pw):∀x∈aH ip fr,([101,69]:Bs).contains x=false:=by
 intro x c
 have b:x≠101/\x≠69:=by
  rcases h.front_mem c with a|rfl
  .exact⟨uU a (by decide),uU a (by decide)⟩
  .decide
 simp[b.1,b.2]
theorem bI.cut(h:bI l neg ip fr mk sg pw):po l [45]=neg/\ue l [45]=aH ip fr++(mk++(sg++pw)):=by
 have a:=h.eq'
 have u:neg=false->po l [45]=false:=by
  intro v;subst v;rw[a];have hi:=h.ip0;have q:=h.dip;rw[aH]
  cases ip with
  |nil=>exact absurd rfl hi
  |cons c p=>
   have j:=sS q (c:=c) rfl;show ([45]:Bs).isPrefixOf (c::_)=false;have:((45:UInt8)==c)=false:=by rw[Fc];exact (uU j (by decide)).symm
   simp[qk,this]
 cases neg with
 |true=>
  have:po l [45]=true:=by rw[a];rfl
  exact⟨this,by rw[ue,E4 this,a];rfl⟩
 |false=>
  have:=u rfl;exact⟨this,by rw[ue,this,a];rfl⟩
theorem bI.mark_none(h:bI l neg ip fr mk sg pw)(c:mk=[]):me (aH ip fr++(mk++(sg++pw))) [101,69] = -1/\aH ip fr++(mk++(sg++pw))=aH ip fr/\qJ sg pw=0:=by
 rcases h.exp with ⟨rfl,rfl,rfl⟩|⟨a,_,_⟩
 .simp only[List.append_nil]
  exact⟨y9 h.front_any,trivial,rfl⟩
 .subst c;simp at a
theorem bI.mark_some(h:bI l neg ip fr mk sg pw)(i:mk≠[]):me (aH ip fr++(mk++(sg++pw))) [101,69]=(aH ip fr).length/\(∃m,mk=[m])/\(sg=[]\/sg=[43]\/sg=[45])/\pw≠[]:=by
 rcases h.exp with ⟨rfl,_,_⟩|⟨a,f,c⟩
 .exact absurd rfl i
 .rcases a with rfl|rfl
  .exact⟨yE rfl h.front_any,⟨_,rfl⟩,f,c⟩
  .exact⟨yE rfl h.front_any,⟨_,rfl⟩,f,c⟩
theorem bI.point_none(h:bI l neg ip fr mk sg pw)(a:fr=[]):gA (aH ip fr) 46 = -1/\aH ip fr=ip++fr:=by
 subst a;have:aH ip []=ip:=by simp[aH]
 rw[this];exact⟨Eb (fun x hx=>uU (jt.1 h.dip x hx) (by decide)),by simp⟩
theorem bI.point_some(h:bI l neg ip fr mk sg pw)(a:fr≠[]):gA (aH ip fr) 46=ip.length/\aH ip fr=ip++46::fr:=by
 have:aH ip fr=ip++46::fr:=by rw[aH,E6 a]
 rw[this];exact⟨L9 (fun x hx=>uU (jt.1 h.dip x hx) (by decide)),rfl⟩
theorem bI.len(h:bI l neg ip fr mk sg pw):ip.length+fr.length<=l.length/\(aH ip fr++(mk++(sg++pw))).length<=l.length/\(aH ip fr).length<=l.length/\(fr≠[]->(aH ip fr).length=ip.length+fr.length+1):=by
 have i:=congrArg fh h.eq'
 have c:(aH ip fr).length=ip.length+(if fr=[] then 0 else fr.length+1):=by
  rw[aH,cm];split<;>simp
 rw[cm] at i;have j:(aH ip fr++(mk++(sg++pw))).length=(aH ip fr).length+(mk++(sg++pw)).length:=by rw[cm]
 refine⟨?_,by omega,by omega,fun h3=>?_⟩
 .by_cases b:fr=[]
  .subst b;simp at c ⊢;omega
  .rw[E6 b] at c;omega
 .rw[c,E6 h3];omega
theorem bI.ascii(h:bI l neg ip fr mk sg pw):∀x∈aH ip fr++(mk++(sg++pw)),x.toNat<128:=by
 have Aa:∀{a:Bs},a.all dg=true->∀x∈a,x.toNat<128:=fun ha x hx=>by have:=uV (jt.1 ha x hx);omega
 intro x hx;rcases cX.1 hx with hx|hx
 .rcases h.front_mem hx with f|rfl
  .have:=uV f;omega
  .decide
 .rcases cX.1 hx with hx|hx
  .rcases h.exp with ⟨rfl,rfl,rfl⟩|⟨b,c,j⟩
   .simp at hx
   .rcases b with rfl|rfl<;>(simp at hx;subst hx;decide)
  .rcases cX.1 hx with hx|hx
   .rcases h.exp with ⟨rfl,rfl,rfl⟩|⟨b,c,j⟩
    .simp at hx
    .rcases c with rfl|rfl|rfl
     .simp at hx
     .simp at hx;subst hx;decide
     .simp at hx;subst hx;decide
   .exact Aa h.dpw x hx
end
open Go.RowKit Go.Tab
def zA(w:cd):Prop:=∀j:Nat,j<63->w.cell? ⟨3,j,aq⟩=aw (ao ar (aY.getD j 9:Nat))
theorem zA.below(h:zA w)(hb:cj B w w')(hB:3<B):zA w':=fun j hj=>(hb.cell hB).trans (h j hj)
theorem zA.pos(h:zA w):3<w.heap.size:=lj w _ (h 0 (by decide))
theorem gu{c:UInt8}{n:UInt8}(h:c≠n){m:Int}(b:(n.toNat:Int)=m):((c.toNat:Int)==m)=false:=by
 rw[Fc,<-b];exact fun e=>h (nf.1 (by omega))
theorem JJ(c:UInt8)(w:cd):cJ bh 162 #[ao .u8 c.toNat] w fun e w'=>e=bk (ao ar (jk c:Nat))/\w=w':=by
 unfold jk
 by_cases i:c=45
 .subst i
  go_in;go_wp2;go_ret;exact⟨rfl,rfl⟩
 have A:=gu i (m:=45) rfl
 by_cases j:c=43
 .subst j
  go_in;go_wp2;go_ret;exact⟨rfl,rfl⟩
 have B:=gu j (m:=43) rfl
 by_cases o:c=48
 .subst o
  go_in;go_wp2;go_ret;exact⟨rfl,rfl⟩
 have C:=gu o (m:=48) rfl;rw[E6 i,E6 j,E6 o]
 by_cases b:49<=c.toNat/\c.toNat<=57
 .rw[E4 b]
  go_in;go_wp2;go_ret;exact⟨rfl,rfl⟩
 rw[E6 b];have f:c.toNat<49\/(49<=c.toNat/\57<c.toNat):=by omega
 clear b
 by_cases q:c=46
 .subst q
  clear f;go_in;go_wp2;go_ret;exact⟨rfl,rfl⟩
 have D:=gu q (m:=46) rfl;rw[E6 q]
 by_cases v:c=101
 .subst v
  clear f;go_in;go_wp2;go_ret;exact⟨rfl,rfl⟩
 by_cases x:c=69
 .subst x
  clear f;go_in;go_wp2;go_ret;exact⟨rfl,rfl⟩
 have E:=gu v (m:=101) rfl;have F:=gu x (m:=69) rfl;rw[E6 (by simp[v,x])];clear i j o q v x;rcases f with b|⟨b,G⟩
 all_goals
  go_in;go_wp2;go_ret;exact⟨rfl,rfl⟩
theorem MR(st:Nat)(w:cd)(h:dO st=true):cJ bh 163 #[ao ar st] w fun e w'=>e=bk (cG true)/\w=w':=by
 have b:st=2\/st=3\/st=5\/st=8:=by simpa [dO] using h
 clear h;rcases b with rfl|rfl|rfl|rfl
 all_goals
  go_in;go_wp2;go_ret;exact⟨rfl,rfl⟩
theorem Pb(st:Nat)(w:cd)(h:dO st=false)(j:st<9):cJ bh 163 #[ao ar st] w fun e w'=>e=bk (cG false)/\w=w':=by
 have c:st=0\/st=1\/st=4\/st=6\/st=7:=by
  have i:¬(st=2\/st=3\/st=5\/st=8):=by
   intro f;have:dO st=true:=by simpa [dO] using f
   rw[h] at this;cases this
  omega
 clear h j;rcases c with rfl|rfl|rfl|rfl|rfl
 all_goals
  go_in;go_wp2;go_ret;exact⟨rfl,rfl⟩
theorem Ps:∀st:Fin 9,∀sg:Fin 7,bJ st.val sg.val<=9:=by decide
theorem Pv(c:UInt8):jk c<7:=by cases uN c<;>omega
theorem fI(h:k<s.size):s.data.toList.drop k=s[k]'h::s.data.toList.drop (k+1):=by
 rw[cg (by simpa using h)];rfl
theorem CF(s:E7)(w:cd)(hT:zA w)(hs:s.size<=cV) :
  cJ bh 141 #[al s] w fun e w'=>e=bk (ao ar (dB s.data.toList:Nat))/\∃n,w'=w.drewN n:=by
 unfold cV at hs;go_in;go_wp2;go_loopw [3,4,8] (fun g t i wr=>∃k st L:Nat,k<=s.size/\i=ao ar k/\t=ao ar st/\g=ao ar L/\st<9/\qB st k L (s.data.toList.drop k)=dB s.data.toList/\∃n,wr=w.drewN n) (fun _ _ i _=>s.size-(cR i).toNat)
 .exact⟨0,0,0,ck _,rfl,rfl,rfl,by decide,OM _,0,rfl⟩
 obtain⟨k,st,L,hk,rfl,rfl,rfl,Ae,Q,n,rfl⟩:=hrel;have K:=Hh Q;clear Q
 by_cases C:k<s.size
 .have Ac:=Pv (s[k]'C)
  have H:=JJ (s[k]'C);have hi:(st:Int)<9:=by omega
  have X:((jk (s[k]'C):Nat):Int)<7:=by omega
  have S:w.cell? ⟨3,st*7+jk (s[k]'C),aq⟩=aw (ao ar (bJ st (jk (s[k]'C)):Nat)):=by rw[Nat.mul_comm];exact hT _ (by omega)
  have x:=K.out;rw[fI C,iY] at x;have Ab:=Ps ⟨st,Ae⟩ ⟨_,Ac⟩;simp only at Ab;generalize jk (s[k]'C)=Z at H S x Ab Ac X;generalize bJ st Z=u at S x Ab;go_wp2_with fail
  by_cases G:u=9
  .rw[E4 G] at x
   have D:=Hh x;have V:((u:Int)==9)=true:=by rw[beq_iff_eq];omega
   clear x G Ab;go_quiet (exact (H _).mono fun _ _ h=>⟨h.1,_,h.2.symm⟩)
   go_wp2;go_ret;exact⟨by rw[<-D.out];rfl,_,rfl⟩
  .rw[E6 G] at x
   have V:((u:Int)==9)=false:=by rw[Fc];omega
   have Aa:u<9:=by omega
   clear G Ab
   by_cases E:dO u=true
   .rw[E4 E] at x
    have D:=Hh x;have P:=fun W=>MR u W E;clear x E;go_quiet (exact (H _).mono fun _ _ h=>⟨h.1,_,h.2.symm⟩)
    go_wp2_with ((with_reducible refine (P _).mono ?_);rintro _ _ ⟨rfl,rfl⟩)
    go_roundw
    .exact⟨k+1,u,k+1,by omega,by go_num,rfl,by go_num,Aa,D.out,_,rfl⟩
    simp[cR];omega
   .have Ad:dO u=false:=by simpa using E
    rw[E6 E] at x;have D:=Hh x;have P:=fun W=>Pb u W Ad Aa;clear x E Ad;go_quiet (exact (H _).mono fun _ _ h=>⟨h.1,_,h.2.symm⟩)
    go_wp2_with ((with_reducible refine (P _).mono ?_);rintro _ _ ⟨rfl,rfl⟩)
    go_roundw
    .exact⟨k+1,u,L,by omega,by go_num,rfl,rfl,Aa,D.out,_,rfl⟩
    simp[cR];omega
 .obtain rfl:k=s.size:=by omega
  have U:s.data.toList.drop s.size=[]:=by
   rw[List.drop_eq_nil_iff];exact cA _
  have x:=K.out;rw[U] at x;have D:=Hh (show L=dB s.data.toList from x);clear x K U;go_wp2;go_ret;exact⟨by rw[<-D.out];rfl,_,rfl⟩
theorem qw:∀(l:Bs) (n:Nat),n<=1099511627776->l.foldl lL n<=1099511627776
 |[],_,h=>h
 | c::l,n,_=>by
  rw[List.foldl_cons];exact qw l _ (Nat.min_le_right _ _)
theorem oq{α β:Type}(f:α->β->α)(a:α)(l:List β)(h:k<l.length):(l.take (k+1)).foldl f a=f ((l.take k).foldl f a) l[k]:=by
 rw[List.take_add_one,br h,List.foldl_append];rfl
theorem SK(b:Bs)(n:Nat)(h:b.foldl lL 0<=n)(c:n<=1099511627776:=by omega):jj (cq.int ar (wrap64 (-((b.foldl lL 0:Nat):Int))))=jj (cq.int ar (qJ [45] b)):=by
 rw[qJ,Uo,E4 rfl]
 congr 2
 unfold wrap64;omega
theorem Hd(S:E7)(Y u:Bs)(w:cd)(C:S.data.toList=Y++u)(T:Y=[]\/Y=[43]\/Y=[45])(B:u.all dg=true)(H:u≠[])(X:S.size<=1048576) :
  cJ bh 165 #[al S] w fun e w'=>e=bk (ao ar (qJ Y u))/\w=w':=by
 have Ah:=Hh B;have P:0<u.length:=ey.2 H;have Ae:=ak S;rw[C,cm] at Ae;rcases T with rfl|rfl|rfl
 .have Ac:Hid (S.size=u.length):=Hh (by simpa using Ae)
  have Aa:0<S.size:=by rw[Ac.out];exact P
  have Aj:∀k (h1:k<S.size) (h2:k<u.length),S[k]'h1=u[k]:=fun k h1 h2=>by
   rw[jW];have:=congrArg (fun l=>l[k]?) C;simp only[cM] at this;rw[br h2,br (by rw[<-ak];exact h1)] at this;exact dt this
  have D:=Hh Aj;clear Aj;have h1:=D.out 0 Aa P;have h2:=uV (jt.1 B u[0] (cH _));have M:(((S[0]'Aa).toNat:Int)==45)=false:=by rw[h1,Fc];omega
  have N:(((S[0]'Aa).toNat:Int)==43)=false:=by rw[h1,Fc];omega
  clear h1 h2 B H Ae C;go_in;go_wp2;go_loop [4,19] (fun n i=>∃k:Nat,k<=S.size/\i=ao ar k/\n=ao ar ((u.take k).foldl lL 0:Nat)) (fun _ i=>S.size-(cR i).toNat)
  .exact⟨0,ck _,rfl,rfl⟩
  obtain⟨k,O,rfl,rfl⟩:=hrel
  by_cases v:k<S.size
  .have Ad:k<u.length:=by rw[<-Ac.out];exact v
   have E:=qw (u.take k) 0 (by omega);have x:=Hh (oq lL 0 u Ad);have G:S[k]'v=u[k]:=D.out k v Ad;have B:=uV (jt.1 Ah.out u[k] (cH _));have A:Hid (lL ((u.take k).foldl lL 0) u[k]=(u.take (k+1)).foldl lL 0):=Hh x.out.symm;clear x;generalize (u.take k).foldl lL 0=m at E A ⊢;generalize u[k]=c at G B A;clear Ad;go_wp2;go_round
   .exact⟨k+1,by omega,by go_num,by rw[<-A.out];congr 1;unfold lL;omega⟩
   simp[cR];omega
  .obtain rfl:k=S.size:=by omega
   have x:Hid (u.take S.size=u):=Hh (by rw[Ac.out];exact eR);go_wp2;go_ret;refine⟨?_,rfl⟩;rw[x.out];rfl
 .have Aa:0<S.size:=by rw[Ae];simp;omega
  have Ab:S[0]'Aa=43:=by
   rw[jW];have:=congrArg (fun l=>l[0]?) C;rw[fc] at this;simp only[fs] at this;rw[br (by rw[<-ak];exact Aa)] at this;exact dt this
  obtain⟨R,I⟩:∃R,S.extract 1 S.size=R:=⟨_,rfl⟩
  have Af:R.data.toList=u:=by
   rw[<-I,fU,ak,eR,C];rfl
  have Ac:Hid (R.size=u.length):=Hh (by rw[ak,Af]);have Al:R.size<=1048576:=by rw[Ac.out];simp at Ae;omega
  have Ag:S.size=R.size+1:=by rw[Ac.out,Ae];simp;omega
  have D:Hid (∀k (h1:k<R.size) (h2:k<u.length),R[k]'h1=u[k]):=Hh (fun k h1 h2=>by
   subst Af;rfl)
  have Q:=Hh Ag;have Ak:1<=S.size:=by omega
  have M:(((S[0]'Aa).toNat:Int)==45)=decide (43=45):=by rw[Ab];rfl
  have N:(((S[0]'Aa).toNat:Int)==43)=decide (43=43):=by rw[Ab];rfl
  have Ai:S.size-1=R.size:=by omega
  clear B H Ae C Ab Af Ag;go_in;go_wp2;go_loop [4,19] (fun n i=>∃k:Nat,k<=R.size/\i=ao ar k/\n=ao ar ((u.take k).foldl lL 0:Nat)) (fun _ i=>R.size-(cR i).toNat)
  .exact⟨0,ck _,rfl,rfl⟩
  obtain⟨k,O,rfl,rfl⟩:=hrel
  by_cases v:k<R.size
  .have Ad:k<u.length:=by rw[<-Ac.out];exact v
   have E:=qw (u.take k) 0 (by omega);have x:=Hh (oq lL 0 u Ad);have G:R[k]'v=u[k]:=D.out k v Ad;have B:=uV (jt.1 Ah.out u[k] (cH _));have A:Hid (lL ((u.take k).foldl lL 0) u[k]=(u.take (k+1)).foldl lL 0):=Hh x.out.symm;clear x;generalize (u.take k).foldl lL 0=m at E A ⊢;generalize u[k]=c at G B A;clear Ad;go_wp2;go_round
   .exact⟨k+1,by omega,by go_num,by rw[<-A.out];congr 1;unfold lL;omega⟩
   simp[cR];omega
  .obtain rfl:k=R.size:=by omega
   have x:Hid (u.take R.size=u):=Hh (by rw[Ac.out];exact eR);go_wp2;go_ret;refine⟨?_,rfl⟩;rw[x.out];rfl
 .have Aa:0<S.size:=by rw[Ae];simp;omega
  have Ab:S[0]'Aa=45:=by
   rw[jW];have:=congrArg (fun l=>l[0]?) C;rw[fc] at this;simp only[fs] at this;rw[br (by rw[<-ak];exact Aa)] at this;exact dt this
  obtain⟨R,I⟩:∃R,S.extract 1 S.size=R:=⟨_,rfl⟩
  have Af:R.data.toList=u:=by
   rw[<-I,fU,ak,eR,C];rfl
  have Ac:Hid (R.size=u.length):=Hh (by rw[ak,Af]);have Al:R.size<=1048576:=by rw[Ac.out];simp at Ae;omega
  have Ag:S.size=R.size+1:=by rw[Ac.out,Ae];simp;omega
  have D:Hid (∀k (h1:k<R.size) (h2:k<u.length),R[k]'h1=u[k]):=Hh (fun k h1 h2=>by
   subst Af;rfl)
  have Q:=Hh Ag;have Ak:1<=S.size:=by omega
  have M:(((S[0]'Aa).toNat:Int)==45)=decide (45=45):=by rw[Ab];rfl
  have N:(((S[0]'Aa).toNat:Int)==43)=decide (45=43):=by rw[Ab];rfl
  have Ai:S.size-1=R.size:=by omega
  clear B H Ae C Ab Af Ag;go_in;go_wp2;go_loop [4,19] (fun n i=>∃k:Nat,k<=R.size/\i=ao ar k/\n=ao ar ((u.take k).foldl lL 0:Nat)) (fun _ i=>R.size-(cR i).toNat)
  .exact⟨0,ck _,rfl,rfl⟩
  obtain⟨k,O,rfl,rfl⟩:=hrel
  by_cases v:k<R.size
  .have Ad:k<u.length:=by rw[<-Ac.out];exact v
   have E:=qw (u.take k) 0 (by omega);have x:=Hh (oq lL 0 u Ad);have G:R[k]'v=u[k]:=D.out k v Ad;have B:=uV (jt.1 Ah.out u[k] (cH _));have A:Hid (lL ((u.take k).foldl lL 0) u[k]=(u.take (k+1)).foldl lL 0):=Hh x.out.symm;clear x;generalize (u.take k).foldl lL 0=m at E A ⊢;generalize u[k]=c at G B A;clear Ad;go_wp2;go_round
   .exact⟨k+1,by omega,by go_num,by rw[<-A.out];congr 1;unfold lL;omega⟩
   simp[cR];omega
  .obtain rfl:k=R.size:=by omega
   have x:Hid (u.take R.size=u):=Hh (by rw[Ac.out];exact eR);go_wp2;go_ret;refine⟨?_,rfl⟩;rw[x.out];exact SK _ _ (qw u 0 (by omega))
theorem OD(s:E7)(w:cd)(j:s.size<=1048576):cJ bh 168 #[al s] w fun e w'=>e=bk (al s)/\cj w.heap.size w w':=by
 have c:=fun W=>Go.Proofs.Tryz.stringslite_Clone s W (by omega);go_in;go_wp2_with fail;refine (c _).mono ?_;rintro _ i ⟨rfl,f⟩;go_wp2;go_ret;exact⟨rfl,f⟩
def eQ(r:(Bool×Bs×Int)×Int):cq:=dr #[.agg #[cG r.1.1,al (au r.1.2.1),ao ar r.1.2.2],ao ar r.2]
theorem OW(s:E7)(w:cd)(i:zA w)(C:s.size<=1048576)(h:s.data.toList=[]\/dB s.data.toList≠s.size) :
  cJ bh 142 #[al s] w fun e w'=>e=bk (eQ ((false,[],0),3))/\cj w.heap.size w w':=by
 by_cases b:s.size=0
 .have q:s=⟨#[]⟩:=KJ b
  subst q;clear h b C;go_in;go_wp2;refine bj (v:=eQ ((false,[],0),3)) (by simp[cD,tm,go_sem,eQ,au]) rfl ⟨rfl,?_⟩
  (with_reducible repeat' first|refine ea ?_ ?_ _|refine ej ?_ ?_ _|refine ed ?_|refine ag ?_ _|assumption|exact ba _ _|(simp only[cF,World.size_setCell,World.size_drew];first|done|omega)|omega)
 .have Aa:=vM b
  have x:((dB s.data.toList:Int) != (s.size:Int))=true:=by
   rcases h with h|h
   .rw[ak,h] at b;exact absurd rfl b
   .rw[bne_iff_ne];omega
  have f:=CF s (w.alloc (aE #[cG false,al ⟨#[]⟩,ao ar 0] 136)) (fun j hj=>by rw[kc _ _ _ i.pos];exact i j hj) (by unfold cV;omega);clear h b;go_in;go_wp2_with fail;refine f.mono ?_;rintro _ D ⟨rfl,n,rfl⟩;go_wp2;refine bj (v:=eQ ((false,[],0),3)) (by simp[cD,tm,go_sem,eQ,au]) rfl ⟨rfl,?_⟩
  (with_reducible repeat' first|refine ea ?_ ?_ _|refine ej ?_ ?_ _|refine ed ?_|refine ag ?_ _|assumption|exact ba _ _|(simp only[cF,World.size_setCell,World.size_drew];first|done|omega)|omega)
theorem Hf(c b:Bs) : -1099511627776<=qJ c b/\qJ c b<=1099511627776:=by
 have:=qw b 0 (by omega);unfold qJ Uo;split<;>omega
theorem Sd(l:Bs)(k:Nat)(h:k<(au l).size):(au l)[k]'h=l[k]'(by rw[<-bi];exact h):=rfl
theorem Ao(l:Bs)(a b:Nat):(au l).extract a b=au ((l.take b).drop a):=jA (by rw[fU,aV,aV])
theorem IA(l:Bs)(v:Int)(W:cd)(q:l.length<=1048576)(f:∀x∈l,x.toNat<128)(k:me l [101,69]=v) :
  cJ bh 138 #[al (au l),al ⟨#[101,69]⟩] W fun e w'=>e=bk (ao ar v)/\cj W.heap.size W w':=by
 subst k;refine Go.Proofs.Tryz.strings_IndexAny_laid (au l) ⟨#[101,69]⟩ W (by rw[bi];omega) (by decide) (fun j b hb=>f b (mv hb)) (fun j b hb=>?_);have c:b∈([101,69]:Bs):=mv hb;simp at c
 rcases c with rfl|rfl<;>decide
theorem K8(s:E7)(neg:Bool)(ip fr mk sg pw:Bs)(w:cd)(hT:zA w)(hs:s.size<=1048576)(h:bI s.data.toList neg ip fr mk sg pw) :
  cJ bh 142 #[al s] w fun e w'=>e=bk (eQ (iJ neg ip fr (qJ sg pw)))/\cj w.heap.size w w':=by
 have Bt:s.toList.isEmpty=false:=vM (by rw[ak];exact qR h.scan.2)
 have hn:((dB s.data.toList:Int) != (s.size:Int))=false:=by
  rw[h.scan.1,ak];exact bne_self_eq_false _
 have hS:=CF s (w.alloc (aE #[cG false,al ⟨#[]⟩,ao ar 0] 136)) (fun j hj=>by rw[kc _ _ _ hT.pos];exact hT j hj) (by unfold cV;omega);have Au:=h.len;have hC:∀W,cJ bh 164 #[al s,al ⟨#[45]⟩] W fun e w'=>e=bk (dr #[al (au (aH ip fr++(mk++(sg++pw)))),cG neg])/\W=w':=fun W=>(Go.Proofs.Tryz.strings_CutPrefix s ⟨#[45]⟩ W).mono fun e w' ⟨h1,h2⟩=>⟨by rw[h1];show jj (dr #[al ⟨(ue s.data.toList [45]).toArray⟩,cG (po s.data.toList [45])])=_;rw[h.cut.1,h.cut.2];rfl,h2.symm⟩;obtain⟨p,hp⟩:∃p,qJ sg pw=p:=⟨_,rfl⟩;have Bh:=Hf sg pw;rw[hp] at Bh;have hP:=Hh hp;have As:=Ad (ip++fr);have A7:(iT ip fr).length<=(jQ ip fr).length:=Gp _;rw[cm] at As;change (jQ ip fr).length<=_ at As;rw[<-ak] at Au;obtain⟨l1,l2,l3,l4⟩:=Au;have At:∀W,cJ bh 166 #[al (au (ip++fr)),al ⟨#[48]⟩] W fun e w'=>e=bk (al (au (jQ ip fr)))/\W=w':=fun W=>(Go.Proofs.Tryz.strings_TrimLeft_one (au (ip++fr)) 48 (by decide) W).mono fun _ _ h=>⟨h.1,h.2.symm⟩;have Al:∀W,cJ bh 147 #[al (au (jQ ip fr)),al ⟨#[48]⟩] W fun e w'=>e=bk (al (au (iT ip fr)))/\W=w':=fun W=>(Go.Proofs.Tryz.strings_TrimRight_one (au (jQ ip fr)) 48 (by decide) W (by rw[bi];omega)).mono fun _ _ h=>⟨h.1,h.2.symm⟩
 have A8:=fun W v (hv:me (aH ip fr++(mk++(sg++pw))) [101,69]=v)=>IA (aH ip fr++(mk++(sg++pw))) v W (by omega) h.ascii hv
 by_cases hm:mk=[]
 focus
  obtain⟨m1,m2,m3⟩:=h.mark_none hm;have hI:=fun W=>A8 W _ m1;rw[hp] at m3;rw[m2] at hC hI;clear A8 m1 m2
  by_cases hf:fr=[]
  focus
   obtain⟨p1,p2⟩:=h.point_none hf;have hB:∀W,cJ bh 79 #[al (au (aH ip fr)),ao .u8 46] W fun e w'=>e=bk (ao ar (-1))/\W=w':=fun W=>(Go.Proofs.Tryz.strings_IndexByte (au (aH ip fr)) 46 W).mono fun e w' ⟨h1,h2⟩=>⟨by rw[h1];show jj (ao ar (gA (aH ip fr) 46))=_;rw[p1],h2.symm⟩;rw[p2] at hB hC hI;have Bc:fr.length=0:=by rw[hf];rfl
   have Ak:(au (jQ ip fr)).size=(jQ ip fr).length:=bi _;have Aj:(au (iT ip fr)).size=(iT ip fr).length:=bi _;clear h hm hf p1 p2 hp l4;generalize au (ip++fr)=G at *;generalize hD:au (jQ ip fr)=D at At Al Ak;generalize hCe:au (iT ip fr)=C at Al Aj;have HC:=Hh hCe;have SD:=Hh Ak;have SC:=Hh Aj;have A9:C.size<=D.size:=by omega
   have AA:D.size<=1048576:=by omega
   clear hD hCe Ak Aj As A7;obtain⟨E,hE⟩:∃E:Int,E=(D.size:Int)-(C.size:Int):=⟨_,rfl⟩;have Ai:∀n,aa ((w.alloc (aE #[cG false,al ⟨#[]⟩,ao ar 0] 136)).drewN n) w.heap.size #[cG false,al ⟨#[]⟩,ao ar 0] 136:=fun n=>(aa.new w _ _).drewN n;have Ah:∀n,cj w.heap.size w ((w.alloc (aE #[cG false,al ⟨#[]⟩,ao ar 0] 136)).drewN n):=fun n=>ag ((ba _ w).alloc lz _) n;go_in;go_wp2_with fail;refine hS.mono ?_;clear hS;rintro _ w1 ⟨rfl,n,rfl⟩;go_wp2_with fail;refine (hC _).mono ?_;rintro _ _ ⟨rfl,rfl⟩;go_wp2_with fail;refine (hI _).mono ?_;rintro _ w4 ⟨rfl,hb⟩;have hx:=(Ai n).below hb (Ai n).lt;have hb:=(Ah n).trans (hb.mono (Ah n).size);clear Ai Ah;obtain⟨Aa,Ae,Ab,Af,Ac,Ag⟩:=hx.n3 rfl;go_wp2_with fail;refine (hB _).mono ?_;rintro _ _ ⟨rfl,rfl⟩
  rotate_left
  focus
   obtain⟨p1,p2⟩:=h.point_some hf;have hB:∀W,cJ bh 79 #[al (au (aH ip fr)),ao .u8 46] W fun e w'=>e=bk (ao ar (ip.length:Nat))/\W=w':=fun W=>(Go.Proofs.Tryz.strings_IndexByte (au (aH ip fr)) 46 W).mono fun e w' ⟨h1,h2⟩=>⟨by rw[h1];show jj (ao ar (gA (aH ip fr) 46))=_;rw[p1],h2.symm⟩;have AD:=l4 hf;have AE:(au (aH ip fr)).size=(aH ip fr).length:=bi _
   have Bj:(au (aH ip fr)).extract 0 ip.length++(au (aH ip fr)).extract (ip.length+1) (au (aH ip fr)).size=au (ip++fr):=by
    refine jA ?_;rw[Cw,fU,fU,bi,aV,eR,p2,aV];have e1:(ip++46::fr).drop (ip.length+1)=fr:=by rw[<-c4,gR];rfl
    rw[e1,fl];simp
   generalize au (aH ip fr)=F at *;have AX:ip.length<=F.size:=by omega
   have AY:ip.length+1<=F.size:=by omega
   have AZ:F.size<=1048576:=by omega
   have AB:Hid (F.size=ip.length+fr.length+1):=Hh (by omega);clear AD AE;have Ak:(au (jQ ip fr)).size=(jQ ip fr).length:=bi _;have Aj:(au (iT ip fr)).size=(iT ip fr).length:=bi _;clear h hm hf p1 p2 hp l4;generalize au (ip++fr)=G at *;generalize hD:au (jQ ip fr)=D at At Al Ak;generalize hCe:au (iT ip fr)=C at Al Aj;have HC:=Hh hCe;have SD:=Hh Ak;have SC:=Hh Aj;have A9:C.size<=D.size:=by omega
   have AA:D.size<=1048576:=by omega
   clear hD hCe Ak Aj As A7;obtain⟨E,hE⟩:∃E:Int,E = -((F.size:Int)-(ip.length:Int)-1)+((D.size:Int)-(C.size:Int)):=⟨_,rfl⟩;have Bq:Hid (F.size=ip.length+fr.length+1):=AB;have Ai:∀n,aa ((w.alloc (aE #[cG false,al ⟨#[]⟩,ao ar 0] 136)).drewN n) w.heap.size #[cG false,al ⟨#[]⟩,ao ar 0] 136:=fun n=>(aa.new w _ _).drewN n;have Ah:∀n,cj w.heap.size w ((w.alloc (aE #[cG false,al ⟨#[]⟩,ao ar 0] 136)).drewN n):=fun n=>ag ((ba _ w).alloc lz _) n;go_in;go_wp2_with fail;refine hS.mono ?_;clear hS;rintro _ w1 ⟨rfl,n,rfl⟩;go_wp2_with fail;refine (hC _).mono ?_;rintro _ _ ⟨rfl,rfl⟩;go_wp2_with fail;refine (hI _).mono ?_;rintro _ w1 ⟨rfl,hb⟩;have hx:=(Ai n).below hb (Ai n).lt;have hb:=(Ah n).trans (hb.mono (Ah n).size);clear Ai Ah;obtain⟨Aa,Ae,Ab,Af,Ac,Ag⟩:=hx.n3 rfl;go_wp2_with fail;refine (hB _).mono ?_;rintro _ _ ⟨rfl,rfl⟩;go_wp2_with fail;go_region
   have Ar:=hx.drew;have Aq:cj w.heap.size w w1.drew:=ed hb;clear hx hb Aa Ab Ac Ae Af Ag;generalize w1.drew=w4 at Ar Aq ⊢;have hx:=Ar;have hb:=Aq;clear Ar Aq;obtain⟨Aa,Ae,Ab,Af,Ac,Ag⟩:=hx.n3 rfl
 rotate_left 2
 focus
  obtain⟨m1,⟨m,Bf⟩,m3,m4⟩:=h.mark_some hm;subst Bf;have hI:=fun W=>A8 W _ m1;have AF:(au (aH ip fr++([m]++(sg++pw)))).size=(aH ip fr++([m]++(sg++pw))).length:=bi _
  have AI:∀W,cJ bh 165 #[al (au (sg++pw))] W fun e w'=>e=bk (ao ar p)/\W=w':=fun W=>by
   rw[<-hp];refine Hd _ sg pw W rfl m3 h.dpw m4 ?_;rw[bi];simp only[cm] at l2 ⊢;omega
  have Bi:(au (aH ip fr++([m]++(sg++pw)))).extract ((aH ip fr).length+1) (au (aH ip fr++([m]++(sg++pw)))).size=au (sg++pw):=by
   rw[AF,Ao,eR,<-c4,gR];rfl
  have AK:(au (aH ip fr++([m]++(sg++pw)))).extract 0 (aH ip fr).length=au (aH ip fr):=by
   rw[Ao,fl];rfl
  have Be:(aH ip fr).length+1<=(au (aH ip fr++([m]++(sg++pw)))).size:=by rw[AF];simp
  have Bd:(aH ip fr).length<=(au (aH ip fr++([m]++(sg++pw)))).size:=by omega
  have Br:(au (aH ip fr++([m]++(sg++pw)))).size<=1048576:=by omega
  generalize au (aH ip fr++([m]++(sg++pw)))=T at *;generalize au (sg++pw)=P at *;obtain⟨q,hq⟩:∃q,(aH ip fr).length=q:=⟨_,rfl⟩;rw[hq] at hI Bi AK Be Bd;clear A8 m1 m3 m4 AF l2
  by_cases hf:fr=[]
  focus
   obtain⟨p1,p2⟩:=h.point_none hf;have hB:∀W,cJ bh 79 #[al (au (aH ip fr)),ao .u8 46] W fun e w'=>e=bk (ao ar (-1))/\W=w':=fun W=>(Go.Proofs.Tryz.strings_IndexByte (au (aH ip fr)) 46 W).mono fun e w' ⟨h1,h2⟩=>⟨by rw[h1];show jj (ao ar (gA (aH ip fr) 46))=_;rw[p1],h2.symm⟩;rw[p2] at hB AK;have Bc:fr.length=0:=by rw[hf];rfl
   clear hq l3;have Ak:(au (jQ ip fr)).size=(jQ ip fr).length:=bi _;have Aj:(au (iT ip fr)).size=(iT ip fr).length:=bi _;clear h hm hf p1 p2 hp l4;generalize au (ip++fr)=G at *;generalize hD:au (jQ ip fr)=D at At Al Ak;generalize hCe:au (iT ip fr)=C at Al Aj;have HC:=Hh hCe;have SD:=Hh Ak;have SC:=Hh Aj;have A9:C.size<=D.size:=by omega
   have AA:D.size<=1048576:=by omega
   clear hD hCe Ak Aj As A7;obtain⟨E,hE⟩:∃E:Int,E=p+((D.size:Int)-(C.size:Int)):=⟨_,rfl⟩;have Ai:∀n,aa ((w.alloc (aE #[cG false,al ⟨#[]⟩,ao ar 0] 136)).drewN n) w.heap.size #[cG false,al ⟨#[]⟩,ao ar 0] 136:=fun n=>(aa.new w _ _).drewN n;have Ah:∀n,cj w.heap.size w ((w.alloc (aE #[cG false,al ⟨#[]⟩,ao ar 0] 136)).drewN n):=fun n=>ag ((ba _ w).alloc lz _) n;go_in;go_wp2_with fail;refine hS.mono ?_;clear hS;rintro _ w1 ⟨rfl,n,rfl⟩;go_wp2_with fail;refine (hC _).mono ?_;rintro _ _ ⟨rfl,rfl⟩;go_wp2_with fail;refine (hI _).mono ?_;rintro _ w4 ⟨rfl,hb⟩;have hx:=(Ai n).below hb (Ai n).lt;have hb:=(Ah n).trans (hb.mono (Ah n).size);clear Ai Ah;obtain⟨Aa,Ae,Ab,Af,Ac,Ag⟩:=hx.n3 rfl;go_wp2_with fail;refine (AI _).mono ?_;rintro _ _ ⟨rfl,rfl⟩;go_wp2_with fail;refine (hB _).mono ?_;rintro _ _ ⟨rfl,rfl⟩
  rotate_left
  focus
   obtain⟨p1,p2⟩:=h.point_some hf;have hB:∀W,cJ bh 79 #[al (au (aH ip fr)),ao .u8 46] W fun e w'=>e=bk (ao ar (ip.length:Nat))/\W=w':=fun W=>(Go.Proofs.Tryz.strings_IndexByte (au (aH ip fr)) 46 W).mono fun e w' ⟨h1,h2⟩=>⟨by rw[h1];show jj (ao ar (gA (aH ip fr) 46))=_;rw[p1],h2.symm⟩;have AD:=l4 hf;clear hq;have AE:(au (aH ip fr)).size=(aH ip fr).length:=bi _
   have Bj:(au (aH ip fr)).extract 0 ip.length++(au (aH ip fr)).extract (ip.length+1) (au (aH ip fr)).size=au (ip++fr):=by
    refine jA ?_;rw[Cw,fU,fU,bi,aV,eR,p2,aV];have e1:(ip++46::fr).drop (ip.length+1)=fr:=by rw[<-c4,gR];rfl
    rw[e1,fl];simp
   generalize au (aH ip fr)=F at *;have AX:ip.length<=F.size:=by omega
   have AY:ip.length+1<=F.size:=by omega
   have AZ:F.size<=1048576:=by omega
   have AB:Hid (F.size=ip.length+fr.length+1):=Hh (by omega);clear AD AE;have Ak:(au (jQ ip fr)).size=(jQ ip fr).length:=bi _;have Aj:(au (iT ip fr)).size=(iT ip fr).length:=bi _;clear h hm hf p1 p2 hp l4;generalize au (ip++fr)=G at *;generalize hD:au (jQ ip fr)=D at At Al Ak;generalize hCe:au (iT ip fr)=C at Al Aj;have HC:=Hh hCe;have SD:=Hh Ak;have SC:=Hh Aj;have A9:C.size<=D.size:=by omega
   have AA:D.size<=1048576:=by omega
   clear hD hCe Ak Aj As A7;obtain⟨E,hE⟩:∃E:Int,E=p-((F.size:Int)-(ip.length:Int)-1)+((D.size:Int)-(C.size:Int)):=⟨_,rfl⟩;have Ai:∀n,aa ((w.alloc (aE #[cG false,al ⟨#[]⟩,ao ar 0] 136)).drewN n) w.heap.size #[cG false,al ⟨#[]⟩,ao ar 0] 136:=fun n=>(aa.new w _ _).drewN n;have Ah:∀n,cj w.heap.size w ((w.alloc (aE #[cG false,al ⟨#[]⟩,ao ar 0] 136)).drewN n):=fun n=>ag ((ba _ w).alloc lz _) n;go_in;go_wp2_with fail;refine hS.mono ?_;clear hS;rintro _ w1 ⟨rfl,n,rfl⟩;go_wp2_with fail;refine (hC _).mono ?_;rintro _ _ ⟨rfl,rfl⟩;go_wp2_with fail;refine (hI _).mono ?_;rintro _ w1 ⟨rfl,hb⟩;have hx:=(Ai n).below hb (Ai n).lt;have hb:=(Ah n).trans (hb.mono (Ah n).size);clear Ai Ah;obtain⟨Aa,Ae,Ab,Af,Ac,Ag⟩:=hx.n3 rfl;go_wp2_with fail;refine (AI _).mono ?_;rintro _ _ ⟨rfl,rfl⟩;go_wp2_with fail;refine (hB _).mono ?_;rintro _ _ ⟨rfl,rfl⟩;go_wp2_with fail;go_region
   have Ar:=hx.drew;have Aq:cj w.heap.size w w1.drew:=ed hb;clear hx hb Aa Ab Ac Ae Af Ag;generalize w1.drew=w4 at Ar Aq ⊢;have hx:=Ar;have hb:=Aq;clear Ar Aq;obtain⟨Aa,Ae,Ab,Af,Ac,Ag⟩:=hx.n3 rfl
 all_goals
  go_wp2_with fail;refine (At _).mono ?_;rintro _ _ ⟨rfl,rfl⟩;go_wp2_with fail;refine (Al _).mono ?_;rintro _ _ ⟨rfl,rfl⟩
  by_cases hz:C.size=0
  .have AV:=KJ hz
   have hV:=Hh (show iJ neg ip fr (qJ sg pw)=((false,[],0),0) by
    rw[iJ,E4 (List.eq_nil_of_length_eq_zero (by have:=SC.out;omega))])
   clear hz;subst AV;go_wp2;refine bj (v:=eQ ((false,[],0),0)) (by simp[cD,tm,go_sem,eQ,au,Aa,Ab,Ac]) rfl ⟨by rw[hV.out],?_⟩
   (with_reducible repeat' first|refine ea ?_ ?_ _|refine ej ?_ ?_ _|refine ed ?_|refine ag ?_ _|assumption|exact ba _ _|(simp only[cF,World.size_setCell,World.size_drew];first|done|omega)|omega)
  .have Bn:=vM hz
   have hR:=fun W=>E9 neg C E W (by omega)
   have hV:=Hh (show iJ neg ip fr (qJ sg pw)=if rC neg C E then ((neg,iT ip fr,E),0) else ((false,[],0),4) by
    have Bb:iT ip fr≠[]:=fun e=>hz (by rw[SC.out,e];rfl);have AW:Gm ip fr (qJ sg pw)=E:=by have:=SC.out;have:=SD.out;have:=hP.out;(try have:=AB.out);unfold Gm;omega
    rw[iJ,E6 Bb,AW,show (⟨(iT ip fr).toArray⟩:E7)=C from HC.out])
   have Bp:=Hh hE;have Bo:=hE.symm;clear hz hE;go_wp2_with fail;refine (hR _).mono ?_;clear hR;rintro _ w2 ⟨rfl,hb2⟩;have AG:=(hx.alloc (aE #[cG neg,al C,ao ar E] 136)).below hb2 (hx.alloc _).lt;have AH:=(aa.new w4 #[cG neg,al C,ao ar E] 136).below hb2 (aa.new _ _ _).lt;have AJ:=(hb.alloc hb.size (aE #[cG neg,al C,ao ar E] 136)).trans (hb2.mono (by simp only[cF];have:=hb.size;omega));have Bv:=hb.size;have Bg:w.heap.size≠w4.heap.size:=fun e=>by have:=hx.lt;omega
   clear hb2 Aa Ab Ac Ae Af Ag;obtain⟨Am,Av,An,Aw,Ap,Ax⟩:=AG.n3 rfl;obtain⟨A1,A4,A2,A5,A3,A6⟩:=AH.n3 rfl
   by_cases hr:rC neg C E=true
   .have AC:=Hh (show iJ neg ip fr (qJ sg pw)=((neg,iT ip fr,E),0) by rw[hV.out,E4 hr])
    have AU:=fun W=>OD C W (by omega);clear hV;go_wp2_with fail;refine (AU _).mono ?_;rintro _ w3 ⟨rfl,hb4⟩;have Bl:=AG.below hb4 AG.lt;have Bm:=AH.below hb4 AH.lt;have Ba:=AJ.trans (hb4.mono AJ.size);have Bk:=Ba.size;clear hb4 Am An Ap Av Aw Ax A1 A2 A3 A4 A5 A6;obtain⟨Ay,AL,Az,AM,A0,AN⟩:=Bl.n3 rfl;obtain⟨AO,AR,AP,AS,AQ,AT⟩:=Bm.n3 rfl;go_wp2;have hCe:=HC.out;refine bj (v:=eQ ((neg,iT ip fr,E),0)) (by simp[cD,tm,go_sem,eQ,hCe,Ay,Az,A0]) rfl ⟨by rw[AC.out],?_⟩
    (with_reducible repeat' first|refine ea ?_ ?_ _|refine ej ?_ ?_ _|refine ed ?_|refine ag ?_ _|assumption|exact ba _ _|(simp only[cF,World.size_setCell,World.size_drew];first|done|omega)|omega)
   .have AC:=Hh (show iJ neg ip fr (qJ sg pw)=((false,[],0),4) by rw[hV.out,E6 hr])
    have Bu:rC neg C E=false:=by simpa using hr
    clear hV hr;go_wp2;refine bj (v:=eQ ((false,[],0),4)) (by simp[cD,tm,go_sem,eQ,au,Am,An,Ap]) rfl ⟨by rw[AC.out],?_⟩
    (with_reducible repeat' first|refine ea ?_ ?_ _|refine ej ?_ ?_ _|refine ed ?_|refine ag ?_ _|assumption|exact ba _ _|(simp only[cF,World.size_setCell,World.size_drew];first|done|omega)|omega)
structure jF(w:cd):Prop where
 utf:Tab w
 steps:zA w
 dbl:∀j:Nat,j<6->w.cell? ⟨1,j,aq⟩=aw (al (au (mq.getD j [])))
 mlen:∃m,w.cell? ⟨2,0,aq⟩=aw (ao ar m)
theorem jF.below(h:jF w)(hb:cj w.heap.size w w'):jF w':=
 ⟨h.utf.below hb h.utf.pos,h.steps.below hb h.steps.pos,fun j hj=>(hb.cell (p:=⟨1,j,aq⟩) (lj w _ (h.dbl j hj))).trans (h.dbl j hj),by
  obtain⟨m,hm⟩:=h.mlen
  exact⟨m,(hb.cell (p:=⟨2,0,aq⟩) (lj w _ hm)).trans hm⟩⟩
theorem UH(l:List UInt8)(c:UInt8):decide (0<=gA l c)=l.contains c:=by
 induction l with
 |nil=>rfl
 |cons b l ih=>
  unfold gA;rw[List.contains_cons]
  by_cases h:b=c
  .subst h;simp
  .have i:(b==c)=false:=by simpa using h
   have j:(c==b)=false:=by simpa using fun e:c=b=>h e.symm
   rw[i,j,Bool.false_or,<-ih];have:=Lib.indexByte_ge l c;simp only[fm,if_false]
   by_cases f:gA l c = -1
   .rw[E4 (by simpa using f),f]
   .rw[E6 (by simpa using f)]
    congr 1
    apply propext
    constructor<;>intro h<;>omega
theorem R6(c:UInt8):((c.toNat:Int)).toNat.toUInt8=c:=by simp
theorem FD(s:E7)(c:UInt8)(w:cd):cJ bh 79 #[al s,ao .u8 c.toNat] w fun e w'=>(∃i:Int,e=bk (ao ar i)/\decide (0<=i)=s.data.toList.contains c)/\w'=w:=
 (Tryz.strings_IndexByte s c.toNat w).mono fun e w' ⟨h1,h2⟩=>⟨⟨_,h1,by rw[R6];exact UH _ _⟩,h2⟩
theorem Pt(s:E7)(w:cd)(Q:jF w)(h0:0<s.size)(hs:s.size<=cV) :
  cJ bh 120 #[al s] w fun e w'=>e=bk (ao ar (CU s.data.toList:Nat))/\w=w':=by
 unfold cV at hs;have t0:=Q.dbl 0 (by decide);have t1:=Q.dbl 1 (by decide);have t2:=Q.dbl 2 (by decide);have t3:=Q.dbl 3 (by decide);have t4:=Q.dbl 4 (by decide);have t5:=Q.dbl 5 (by decide);simp only[mq,List.getD_cons_zero,List.getD_cons_succ,au] at t0 t1 t2 t3 t4 t5;have L:=fun p W=>Tryz.strings_HasPrefix s p W
 have hz:s.data.toList=s[0]::s.data.toList.tail:=by
  have:=fI (s:=s) (k:=0) h0;rw[dd] at this;rw[this];simp
 have Ad:CU s.data.toList=if [[61,61].isPrefixOf s.data.toList,[33,61].isPrefixOf s.data.toList,[60,61].isPrefixOf s.data.toList,[62,61].isPrefixOf s.data.toList,[38,38].isPrefixOf s.data.toList,[124,124].isPrefixOf s.data.toList].any id then 2 else if qa.contains s[0] then 1 else 0:=by
  unfold CU;rw[hz];rfl
 have O:=fun W=>FD ⟨#[61,60,62,43,45,42,47,37,33,63,58,44,46,40,41,91,93,123,125]⟩ s[0] W;have Ac:(⟨#[61,60,62,43,45,42,47,37,33,63,58,44,46,40,41,91,93,123,125]⟩:E7).data.toList.contains s[0]=qa.contains s[0]:=rfl;rw[Ac] at O;clear Ac;rw[Ad];have X:=L ⟨#[61,61]⟩;have e1:=L ⟨#[33,61]⟩;have Y:=L ⟨#[60,61]⟩;have e3:=L ⟨#[62,61]⟩;have e4:=L ⟨#[38,38]⟩;have e5:=L ⟨#[124,124]⟩;simp only[po] at X e1 Y e3 e4 e5;clear Ad hz L;generalize [61,61].isPrefixOf s.data.toList=V at *;generalize [33,61].isPrefixOf s.data.toList=N at *;generalize [60,61].isPrefixOf s.data.toList=M at *;generalize [62,61].isPrefixOf s.data.toList=K at *;generalize [38,38].isPrefixOf s.data.toList=J at *;generalize [124,124].isPrefixOf s.data.toList=G at *;obtain⟨B,hB⟩:∃B,[V,N,M,K,J,G].any id=B:=⟨_,rfl⟩;rw[hB];obtain⟨R,hR⟩:=exq ((if B=true then 2 else if qa.contains s[0]=true then 1 else 0));rw[<-hR];have H:=Hh hR;clear hR;have v:=Hh O;have A:=Jh X (cE e1 (cE Y (cE e3 (cE e4 e5))));have Ab:Hid (([V,N,M,K,J,G].drop 0).any id=B):=Hh hB;clear O X e1 Y e3 e4 e5 hB;go_in;go_wp2;go_loop [4,6] (fun _ i=>∃k:Nat,k<=6/\i=ao ar (k:Int)/\([V,N,M,K,J,G].drop k).any id=B) (fun _ i=>6-(cR i).toNat)
 .exact⟨0,by omega,rfl,Ab.out⟩
 clear Ab t0 t1 t2 t3 t4 t5;obtain⟨k,hk,rfl,j⟩:=hrel;have Ae:k=0\/k=1\/k=2\/k=3\/k=4\/k=5\/k=6:=by omega
 rcases Ae with rfl|rfl|rfl|rfl|rfl|rfl|rfl
 .have e:=A.out.1
  have S:=gZ (P:=bh) w 181 9 6 #[al ⟨#[61,61]⟩,al ⟨#[33,61]⟩,al ⟨#[60,61]⟩,al ⟨#[62,61]⟩,al ⟨#[38,38]⟩,al ⟨#[124,124]⟩] ar 0 0 _ n6 (by kernel_rfl) (by kernel_rfl) rfl (by decide) rfl
  cases V with
  |true=>
   have Aa:Hid (B=true):=Hh (by rw[<-j];simp);clear j A v;go_wp2_with fail;refine (e _).mono ?_;rintro _ _ ⟨rfl,rfl⟩;go_wp2;go_ret;exact⟨fC (by rw[H.out,Aa.out];rfl),rfl⟩
  |false=>
   have Aa:Hid (([N,M,K,J,G]:List Bool).any id=B):=Hh (by rw[<-j];simp);clear j v;go_wp2_with fail;refine (e _).mono ?_;rintro _ _ ⟨rfl,rfl⟩;go_wp2;go_round
   .exact⟨1,by omega,by go_num,Aa.out⟩
   simp[cR]
 .have e:=A.out.2.1
  have S:=gZ (P:=bh) w 181 9 6 #[al ⟨#[61,61]⟩,al ⟨#[33,61]⟩,al ⟨#[60,61]⟩,al ⟨#[62,61]⟩,al ⟨#[38,38]⟩,al ⟨#[124,124]⟩] ar 1 1 _ n6 (by kernel_rfl) (by kernel_rfl) rfl (by decide) rfl
  cases N with
  |true=>
   have Aa:Hid (B=true):=Hh (by rw[<-j];simp);clear j A v;go_wp2_with fail;refine (e _).mono ?_;rintro _ _ ⟨rfl,rfl⟩;go_wp2;go_ret;exact⟨fC (by rw[H.out,Aa.out];rfl),rfl⟩
  |false=>
   have Aa:Hid (([M,K,J,G]:List Bool).any id=B):=Hh (by rw[<-j];simp);clear j v;go_wp2_with fail;refine (e _).mono ?_;rintro _ _ ⟨rfl,rfl⟩;go_wp2;go_round
   .exact⟨2,by omega,by go_num,Aa.out⟩
   simp[cR]
 .have e:=A.out.2.2.1
  have S:=gZ (P:=bh) w 181 9 6 #[al ⟨#[61,61]⟩,al ⟨#[33,61]⟩,al ⟨#[60,61]⟩,al ⟨#[62,61]⟩,al ⟨#[38,38]⟩,al ⟨#[124,124]⟩] ar 2 2 _ n6 (by kernel_rfl) (by kernel_rfl) rfl (by decide) rfl
  cases M with
  |true=>
   have Aa:Hid (B=true):=Hh (by rw[<-j];simp);clear j A v;go_wp2_with fail;refine (e _).mono ?_;rintro _ _ ⟨rfl,rfl⟩;go_wp2;go_ret;exact⟨fC (by rw[H.out,Aa.out];rfl),rfl⟩
  |false=>
   have Aa:Hid (([K,J,G]:List Bool).any id=B):=Hh (by rw[<-j];simp);clear j v;go_wp2_with fail;refine (e _).mono ?_;rintro _ _ ⟨rfl,rfl⟩;go_wp2;go_round
   .exact⟨3,by omega,by go_num,Aa.out⟩
   simp[cR]
 .have e:=A.out.2.2.2.1
  have S:=gZ (P:=bh) w 181 9 6 #[al ⟨#[61,61]⟩,al ⟨#[33,61]⟩,al ⟨#[60,61]⟩,al ⟨#[62,61]⟩,al ⟨#[38,38]⟩,al ⟨#[124,124]⟩] ar 3 3 _ n6 (by kernel_rfl) (by kernel_rfl) rfl (by decide) rfl
  cases K with
  |true=>
   have Aa:Hid (B=true):=Hh (by rw[<-j];simp);clear j A v;go_wp2_with fail;refine (e _).mono ?_;rintro _ _ ⟨rfl,rfl⟩;go_wp2;go_ret;exact⟨fC (by rw[H.out,Aa.out];rfl),rfl⟩
  |false=>
   have Aa:Hid (([J,G]:List Bool).any id=B):=Hh (by rw[<-j];simp);clear j v;go_wp2_with fail;refine (e _).mono ?_;rintro _ _ ⟨rfl,rfl⟩;go_wp2;go_round
   .exact⟨4,by omega,by go_num,Aa.out⟩
   simp[cR]
 .have e:=A.out.2.2.2.2.1
  have S:=gZ (P:=bh) w 181 9 6 #[al ⟨#[61,61]⟩,al ⟨#[33,61]⟩,al ⟨#[60,61]⟩,al ⟨#[62,61]⟩,al ⟨#[38,38]⟩,al ⟨#[124,124]⟩] ar 4 4 _ n6 (by kernel_rfl) (by kernel_rfl) rfl (by decide) rfl
  cases J with
  |true=>
   have Aa:Hid (B=true):=Hh (by rw[<-j];simp);clear j A v;go_wp2_with fail;refine (e _).mono ?_;rintro _ _ ⟨rfl,rfl⟩;go_wp2;go_ret;exact⟨fC (by rw[H.out,Aa.out];rfl),rfl⟩
  |false=>
   have Aa:Hid (([G]:List Bool).any id=B):=Hh (by rw[<-j];simp);clear j v;go_wp2_with fail;refine (e _).mono ?_;rintro _ _ ⟨rfl,rfl⟩;go_wp2;go_round
   .exact⟨5,by omega,by go_num,Aa.out⟩
   simp[cR]
 .have e:=A.out.2.2.2.2.2
  have S:=gZ (P:=bh) w 181 9 6 #[al ⟨#[61,61]⟩,al ⟨#[33,61]⟩,al ⟨#[60,61]⟩,al ⟨#[62,61]⟩,al ⟨#[38,38]⟩,al ⟨#[124,124]⟩] ar 5 5 _ n6 (by kernel_rfl) (by kernel_rfl) rfl (by decide) rfl
  cases G with
  |true=>
   have Aa:Hid (B=true):=Hh (by rw[<-j];simp);clear j A v;go_wp2_with fail;refine (e _).mono ?_;rintro _ _ ⟨rfl,rfl⟩;go_wp2;go_ret;exact⟨fC (by rw[H.out,Aa.out];rfl),rfl⟩
  |false=>
   have Aa:Hid (([]:List Bool).any id=B):=Hh (by rw[<-j];simp);clear j v;go_wp2_with fail;refine (e _).mono ?_;rintro _ _ ⟨rfl,rfl⟩;go_wp2;go_round
   .exact⟨6,by omega,by go_num,Aa.out⟩
   simp[cR]
 .have Aa:Hid (B=false):=Hh j.symm
  have O:=v.out;clear j A v;generalize qa.contains s[0]=q at *;go_wp2_with fail;refine (O _).mono ?_;rintro _ _ ⟨⟨i,rfl,hi⟩,rfl⟩
  cases q with
  |true=>
   go_wp2;go_ret;exact⟨fC (by rw[H.out,Aa.out];rfl),rfl⟩
  |false=>
   go_wp2;go_ret;exact⟨fC (by rw[H.out,Aa.out];rfl),rfl⟩
theorem K9(s:E7)(w:cd)(i:zA w)(j:s.size<=1048576) :
  cJ bh 142 #[al s] w fun e w'=>e=bk (eQ (decR s.data.toList))/\cj w.heap.size w w':=by
 by_cases h:dB s.data.toList=s.data.toList.length/\s.data.toList≠[]
 .obtain⟨Aa,o,fr,mk,u,q,c⟩:=uR _ h.1 h.2
  rw[c.decR];exact K8 s Aa o fr mk u q w i j c
 .have f:s.data.toList=[]\/dB s.data.toList≠s.size:=by
   rw[ak]
   by_cases b:s.data.toList=[]
   .exact .inl b
   .exact .inr (fun e=>h ⟨e,b⟩)
  rw[show decR s.data.toList=((false,[],0),3) by unfold decR;rw[E6 h]];exact OW s w i j f
def Bw:LR->cq
 |.tok k n=>dr #[ao ar (k:Nat),ao ar (n:Nat),ao ar 0,ao ar 0]
 |.bad o e=>dr #[ao ar 0,ao ar 0,ao ar (o:Nat),ao ar e]
theorem qx(s:E7)(k:Nat):(s.extract 0 k).data.toList=s.data.toList.take k:=by rw[fU,dd]
theorem mR(h:k<=s.size):(s.extract 0 k).size=k:=by rw[ak,qx,c8,<-ak];omega
theorem I6(s:E7)(w:cd)(D:jF w)(G:s.size<=1048576) :
  cJ bh 116 #[al s] w fun e w'=>e=bk (Bw (nA s.data.toList))/\cj w.heap.size w w':=by
 have u:=CF s w D.steps (by unfold cV;omega);have Ab:=rR s.data.toList;rw[<-ak] at Ab;have i:=fun W h=>K9 (s.extract 0 (dB s.data.toList)) W h (by rw[mR Ab];omega);rw[qx] at i;unfold nA OC;generalize dB s.data.toList=k at *;obtain⟨⟨⟨b,d,x⟩,z⟩,q⟩:∃r,decR (s.data.toList.take k)=r:=⟨_,rfl⟩;rw[q] at i ⊢;simp only[eQ] at i;clear q;generalize s.data.toList.take k=tk at *
 by_cases j:z=0
 .subst j
  rw[E4 rfl];simp only[Bw];go_in;go_wp2_with fail;refine u.mono ?_;rintro _ _ ⟨rfl,n,rfl⟩;have Aa:zA (w.drewN n):=D.steps;go_wp2_with fail;refine (i _ Aa).mono ?_;rintro _ E ⟨rfl,f⟩;go_wp2;refine bj (v:=dr #[ao ar 2,ao ar (k:Nat),ao ar 0,ao ar 0]) (by simp[cD,Tryz.results116,go_sem]) rfl ⟨rfl,((dz w.heap.size w n).trans f).alloc f.size _⟩
 .have Ac:(z != 0)=true:=by simpa using j
  rw[E6 j];simp only[Bw];clear j;go_in;go_wp2_with fail;refine u.mono ?_;rintro _ _ ⟨rfl,n,rfl⟩;have Aa:zA (w.drewN n):=D.steps;go_wp2_with fail;refine (i _ Aa).mono ?_;rintro _ E ⟨rfl,f⟩;go_wp2;refine bj (v:=dr #[ao ar 0,ao ar 0,ao ar 0,ao ar z]) (by simp[cD,Tryz.results116,go_sem]) rfl ⟨rfl,((dz w.heap.size w n).trans f).alloc f.size _⟩
theorem y8:∀l:Bs,(gA l 10 = -1/\cO l=l.length)\/gA l 10=(cO l:Nat)
 |[]=>.inl ⟨rfl,rfl⟩
 | c::l=>by
  unfold gA cO
  by_cases h:c=10
  .subst h;right;rfl
  .rw[E6 (by simpa using h),E6 h]
   rcases y8 l with ⟨h1,h2⟩|h1
   .left;rw[h1];exact⟨rfl,by rw[h2];simp⟩
   .right;rw[h1,E6 (by simp)];rfl
theorem nP(h:CO l=aq):gp l k=.tok k l.length:=by unfold gp;rw[h]
theorem mg{x:Nat×Int}(h:CO l=aw x):gp l k=.bad x.1 x.2:=by unfold gp;rw[h]
theorem zC{x:Nat×Int}(h:CO l=aw x):(x.2 != 0)=true:=by
 unfold CO at h;split at h
 .cases h;rfl
 .split at h
  .cases h;rfl
  .cases h
theorem xL:∀(j:Nat) b,(⟨#[32,9,13]⟩:E7).data.toList[j]?=aw b->b.toNat<128:=by
 intro j b h;have c:b∈([32,9,13]:List UInt8):=mv h;simp at c
 rcases c with rfl|rfl|rfl<;>decide
theorem JS(s:E7)(w:cd)(J:jF w)(Y:s.size<=1048576) :
  cJ bh 118 #[al s] w fun e w'=>e=bk (Bw (gp (iy s.data.toList) 6))/\cj w.heap.size w w':=by
 have D:=fun W=>Tryz.strings_IndexByte s 10 W;rw[show ((10:Int).toNat.toUInt8)=10 from rfl] at D;have Ae:=sw s.data.toList;rw[<-ak] at Ae;rcases y8 s.data.toList with ⟨G,U⟩|G
 .rw[G] at D
  have Ab:=fun W=>yi Tryz.lays162 (by kernel_rfl) s ⟨#[32,9,13]⟩ W (by omega) (by decide) xL
  have H:iu s.data.toList (⟨#[32,9,13]⟩:E7).data.toList=iy s.data.toList:=by
   unfold iy;rw[U,eR];rfl
  rw[H] at Ab;clear H G U Ae;have E:=u7 (au (iy s.data.toList));have Af:=wL s.data.toList;rw[aV] at E;have Ac:(au (iy s.data.toList)).size=(iy s.data.toList).length:=bi _;rw[<-ak] at Af;change ∀W,cJ bh 147 #[al s,al ⟨#[32,9,13]⟩] W fun e w'=>e=bk (al (au (iy s.data.toList)))/\cj W.heap.size W w' at Ab;generalize hrs:iy s.data.toList=rs at *;generalize hS:au rs=S at *;clear hrs hS;have Aa:=fun w h=>E w (by omega) h;clear E
  cases hw:CO rs with
  |none=>
   rw[nP hw];rw[hw] at Aa;simp only[Bw,xS] at Aa ⊢;have Ad:=Hh Ac;clear Ac;go_in;go_wp2_with fail;refine (D _).mono ?_;rintro _ _ ⟨rfl,rfl⟩;go_wp2_with fail;refine (Ab _).mono ?_;rintro _ K ⟨rfl,j⟩;go_wp2_with fail;refine (Aa _ (J.below j).utf).mono ?_;rintro _ M ⟨rfl,A⟩;go_wp2;refine bj (v:=dr #[ao ar 6,ao ar (rs.length:Nat),ao ar 0,ao ar 0]) (by simp[cD,wb,go_sem,Ad.out]) rfl ⟨rfl,j.trans (A.mono j.size)⟩
  |some x=>
   rw[mg hw];rw[hw] at Aa;have Ag:=zC hw;obtain⟨N,Q⟩:=x;simp only[Bw,xS] at Aa Ag ⊢;go_in;go_wp2_with fail;refine (D _).mono ?_;rintro _ _ ⟨rfl,rfl⟩;go_wp2_with fail;refine (Ab _).mono ?_;rintro _ K ⟨rfl,j⟩;go_wp2_with fail;refine (Aa _ (J.below j).utf).mono ?_;rintro _ M ⟨rfl,A⟩;go_wp2;refine bj (v:=dr #[ao ar 0,ao ar 0,ao ar (N:Nat),ao ar Q]) (by simp[cD,wb,go_sem]) rfl ⟨rfl,j.trans (A.mono j.size)⟩
 .rw[G] at D
  have Ab:=fun W=>yi Tryz.lays162 (by kernel_rfl) (s.extract 0 (cO s.data.toList)) ⟨#[32,9,13]⟩ W (by rw[mR Ae];omega) (by decide) xL
  have H:iu (s.extract 0 (cO s.data.toList)).data.toList (⟨#[32,9,13]⟩:E7).data.toList=iy s.data.toList:=by
   unfold iy;rw[qx];rfl
  rw[H] at Ab;clear H G;generalize cO s.data.toList=X at *;have E:=u7 (au (iy s.data.toList));have Af:=wL s.data.toList;rw[aV] at E;have Ac:(au (iy s.data.toList)).size=(iy s.data.toList).length:=bi _;rw[<-ak] at Af;change ∀W,cJ bh 147 #[al (s.extract 0 X),al ⟨#[32,9,13]⟩] W fun e w'=>e=bk (al (au (iy s.data.toList)))/\cj W.heap.size W w' at Ab;generalize hrs:iy s.data.toList=rs at *;generalize hS:au rs=S at *;clear hrs hS;have Aa:=fun w h=>E w (by omega) h;clear E
  cases hw:CO rs with
  |none=>
   rw[nP hw];rw[hw] at Aa;simp only[Bw,xS] at Aa ⊢;have Ad:=Hh Ac;clear Ac;go_in;go_wp2_with fail;refine (D _).mono ?_;rintro _ _ ⟨rfl,rfl⟩;go_wp2_with fail;refine (Ab _).mono ?_;rintro _ K ⟨rfl,j⟩;go_wp2_with fail;refine (Aa _ (J.below j).utf).mono ?_;rintro _ M ⟨rfl,A⟩;go_wp2;refine bj (v:=dr #[ao ar 6,ao ar (rs.length:Nat),ao ar 0,ao ar 0]) (by simp[cD,wb,go_sem,Ad.out]) rfl ⟨rfl,j.trans (A.mono j.size)⟩
  |some x=>
   rw[mg hw];rw[hw] at Aa;have Ag:=zC hw;obtain⟨N,Q⟩:=x;simp only[Bw,xS] at Aa Ag ⊢;go_in;go_wp2_with fail;refine (D _).mono ?_;rintro _ _ ⟨rfl,rfl⟩;go_wp2_with fail;refine (Ab _).mono ?_;rintro _ K ⟨rfl,j⟩;go_wp2_with fail;refine (Aa _ (J.below j).utf).mono ?_;rintro _ M ⟨rfl,A⟩;go_wp2;refine bj (v:=dr #[ao ar 0,ao ar 0,ao ar (N:Nat),ao ar Q]) (by simp[cD,wb,go_sem]) rfl ⟨rfl,j.trans (A.mono j.size)⟩
theorem Ce:∀l:Bs,(DQ l [42,47] = -1/\gP l=aq)\/∃n:Nat,DQ l [42,47]=n/\gP l=aw n
 |[]=>.inl ⟨rfl,rfl⟩
 | c::l=>by
  unfold DQ gP
  have hp:([42,47]:Bs).isPrefixOf (c::l)=decide (c=42/\l.head?=aw 47):=by
   cases l with
   |nil=>simp[qk]
   |cons d l=>
    simp only[qk,nj,du,ot]
    by_cases i:c=42
    .by_cases j:d=47
     .subst i j;rfl
     .subst i
      have:(47==d)=false:=by simpa using fun e:(47:UInt8)=d=>j e.symm
      simp[this,j]
    .have:(42==c)=false:=by simpa using fun e:(42:UInt8)=c=>i e.symm
     simp[this,i]
  rw[hp]
  by_cases h:c=42/\l.head?=aw 47
  .rw[E4 (by simpa using h),E4 h]
   exact .inr ⟨0,rfl,rfl⟩
  .rw[E6 (by simpa using h),E6 h]
   rcases Ce l with ⟨i,j⟩|⟨n,i,j⟩
   .left;rw[i,j];exact⟨by simp,rfl⟩
   .right;rw[i,j];exact⟨n+1,by rw[E6 (by simp)];rfl,rfl⟩
theorem xC(s:E7)(k:Nat):(s.extract k s.size).data.toList=s.data.toList.drop k:=by rw[fU,ak,eR]
theorem OO(s:E7)(w:cd)(K:jF w)(V:s.size<=1048576)(U:2<=s.size) :
  cJ bh 119 #[al s] w fun e w'=>e=bk (Bw (eT s.data.toList))/\cj w.heap.size w w':=by
 obtain⟨m,J⟩:=K.mlen;have j:=Tryz.strings_Index (s.extract 2 s.size) ⟨#[42,47]⟩ m w (by rw[gx];omega) J;rw[xC] at j;unfold eT;rcases Ce (s.data.toList.drop 2) with ⟨H,E⟩|⟨n,H,E⟩
 .rw[E]
  simp only[Bw];change cJ _ _ _ _ fun e w'=>e=bk (ao ar (DQ (s.data.toList.drop 2) [42,47]))/\w'=w at j;rw[H] at j;clear H E J;go_in;go_wp2_with fail;refine j.mono ?_;rintro _ _ ⟨rfl,rfl⟩;go_wp2;refine bj (v:=dr #[ao ar 0,ao ar 0,ao ar 0,ao ar 2]) (by simp[cD,we,go_sem]) rfl ⟨rfl,ba _ _⟩
 .have Ac:=oZ _ _ E
  rw[bm,<-ak] at Ac;rw[E];simp only;change cJ _ _ _ _ fun e w'=>e=bk (ao ar (DQ (s.data.toList.drop 2) [42,47]))/\w'=w at j;rw[H] at j;have G:=fun W=>FD (s.extract 0 (n+2)) 10 W;rw[qx] at G;have u:=fun W h=>u7 (s.extract 0 (n+4)) W (by rw[mR (by omega)];omega) h;rw[qx] at u;have Ab:(s.extract 0 (n+4)).size=n+4:=mR (by omega);have Aa:(s.data.toList.take (n+4)).length=n+4:=by rw[c8,<-ak];omega
  have Q:s.extract 0 (n+2)=s.extract 0 (n+2):=rfl;clear H E J
  cases hc:(s.data.toList.take (n+2)).contains 10 with
  |true=>
   rw[hc] at G;rw[E4 rfl];simp only[Bw];clear hc u Ab Aa;go_in;go_wp2_with fail;refine j.mono ?_;rintro _ _ ⟨rfl,rfl⟩;go_wp2_with fail;refine (G _).mono ?_;rintro _ _ ⟨⟨i,rfl,hi⟩,rfl⟩;go_wp2;refine bj (v:=dr #[ao ar 0,ao ar 0,ao ar 0,ao ar 2]) (by simp[cD,we,go_sem]) rfl ⟨rfl,ba _ _⟩
  |false=>
   rw[hc] at G;rw[E6 (by simp)];clear hc;generalize s.data.toList.take (n+4)=rs at *
   cases hw:CO rs with
   |none=>
    rw[nP hw,Aa];rw[hw] at u;simp only[Bw,xS] at u ⊢;clear hw Aa;go_in;go_wp2_with fail;refine j.mono ?_;rintro _ _ ⟨rfl,rfl⟩;go_wp2_with fail;refine (G _).mono ?_;rintro _ _ ⟨⟨i,rfl,hi⟩,rfl⟩;go_wp2_with fail;refine (u _ K.utf).mono ?_;rintro _ L ⟨rfl,A⟩;go_wp2;refine bj (v:=dr #[ao ar 7,ao ar ((n+4:Nat):Int),ao ar 0,ao ar 0]) (by simp[cD,we,go_sem,Ab]) rfl ⟨rfl,A⟩
   |some x=>
    rw[mg hw];rw[hw] at u;have Ad:=zC hw;obtain⟨M,N⟩:=x;simp only[Bw,xS] at u Ad ⊢;clear hw Aa;go_in;go_wp2_with fail;refine j.mono ?_;rintro _ _ ⟨rfl,rfl⟩;go_wp2_with fail;refine (G _).mono ?_;rintro _ _ ⟨⟨i,rfl,hi⟩,rfl⟩;go_wp2_with fail;refine (u _ K.utf).mono ?_;rintro _ L ⟨rfl,A⟩;go_wp2;refine bj (v:=dr #[ao ar 0,ao ar 0,ao ar (M:Nat),ao ar N]) (by simp[cD,we,go_sem]) rfl ⟨rfl,A⟩
theorem C8(a b c:UInt8)(l:Bs):([a,b]:Bs).isPrefixOf (c::l)=decide (c=a/\l.head?=aw b):=by
 cases l with
 |nil=>simp[qk]
 |cons d l=>
  simp only[qk,nj,du,ot]
  by_cases i:c=a
  .by_cases j:d=b
   .subst i j;simp
   .subst i
    have:(b==d)=false:=by simpa using fun e:b=d=>j e.symm
    simp[this,j]
  .have:(a==c)=false:=by simpa using fun e:a=c=>i e.symm
   simp[this,i]
theorem wX(r:LR):∃a b c d:Int,Bw r=dr #[ao ar a,ao ar b,ao ar c,ao ar d]:=by
 cases r<;>exact⟨_,_,_,_,rfl⟩
theorem Ql(s:E7)(w:cd)(hT:jF w)(hs:s.size<=1048576)(h0:0<s.size) :
  cJ bh 80 #[al s] w fun e w'=>e=bk (Bw (dY s.data.toList))/\cj w.heap.size w w':=by
 obtain⟨c,hc⟩:∃c,s[0]'h0=c:=⟨_,rfl⟩;have Am:(s[0]'h0).toNat=c.toNat:=by rw[hc]
 obtain⟨r,hr⟩:∃r,s.data.toList=c::r:=⟨_,by have:=fI (s:=s) (k:=0) h0;rw[dd,hc] at this;exact this⟩;have Ab:=BK c;have Aa:=El c;have Ag:=fun W=>Oq s W (by unfold cV;omega) h0;rw[hr] at Ag;simp only[List.drop_succ_cons,dd] at Ag;have Af:=fun W h=>I6 s W h hs;have hQ:=fun W h=>DJ s W hs h;have Z:=fun W h=>JS s W h hs;have Ac:=fun W=>Tryz.strings_HasPrefix s ⟨#[47,47]⟩ W;have Ad:=fun W=>Tryz.strings_HasPrefix s ⟨#[47,42]⟩ W;have V:=fun W h h2=>OO s W h hs h2;have Ae:=fun W h=>Pt s W h h0 (by unfold cV;omega);have e1:po s.data.toList (⟨#[47,47]⟩:E7).data.toList=decide (c=47/\r.head?=aw 47):=by rw[hr];exact C8 47 47 c r
 have e2:po s.data.toList (⟨#[47,42]⟩:E7).data.toList=decide (c=47/\r.head?=aw 42):=by rw[hr];exact C8 47 42 c r
 rw[e1] at Ac;rw[e2] at Ad
 have h2:r.head?=aw 42->2<=s.size:=by
  intro h;rw[ak,hr]
  cases r with
  |nil=>cases h
  |cons d r=>simp
 rw[hr] at Af Z V Ae ⊢;have Ai:bs s=nb (c::r):=by rw[<-hr];rfl
 rw[Ai] at hQ;clear e1 e2 hr hc Ai;rw[dY]
 cases hl:lC c with
 |true=>
  rw[hl] at Ab;simp only[if_true,Bw];clear Aa Af hQ Z Ac Ad V Ae hl h2;generalize uF r=q at *;go_in;go_wp2_with fail;refine (Ab _).mono ?_;rintro _ _ ⟨rfl,rfl⟩;go_wp2_with fail;refine (Ag _).mono ?_;rintro _ _ ⟨rfl,rfl⟩;go_wp2;refine bj (v:=dr #[ao ar 1,ao ar ((1+q:Nat):Int),ao ar 0,ao ar 0]) (by simp[cD,mN,go_sem]) rfl ⟨rfl,ba _ _⟩
 |false=>
 rw[hl] at Ab
 cases hd:dg c with
 |true=>
  rw[hd] at Aa;simp only[if_true,fm,if_false];clear hQ Z Ac Ad V Ae hl h2 Ag hd;obtain⟨x1,x2,x3,x4,P⟩:=wX (nA (c::r));rw[P] at Af ⊢;clear P;go_in;go_wp2_with fail;refine (Ab _).mono ?_;rintro _ _ ⟨rfl,rfl⟩;go_wp2_with fail;refine (Aa _).mono ?_;rintro _ _ ⟨rfl,rfl⟩;go_wp2_with fail;refine (Af _ hT).mono ?_;rintro _ w1 ⟨rfl,D⟩;go_wp2;refine bj (v:=dr #[ao ar x1,ao ar x2,ao ar x3,ao ar x4]) (by simp[cD,mN,go_sem]) rfl ⟨rfl,D⟩
 |false=>
 rw[hd] at Aa;simp only[fm,if_false]
 by_cases M:c=34
 .have Ak:((c.toNat:Int)==34)=true:=by subst M;rfl
  rw[E4 M];unfold oG;clear Z Ac Ad V Ae hl h2 Ag hd Af M;generalize aW (nb (c::r))=q at *;obtain⟨qs,qn,qe⟩:=q;simp only[Pz] at hQ ⊢
  by_cases he:qe=0
  .subst he
   rw[E4 rfl];simp only[Bw];go_in;go_wp2_with fail;refine (Ab _).mono ?_;rintro _ _ ⟨rfl,rfl⟩;go_wp2_with fail;refine (Aa _).mono ?_;rintro _ _ ⟨rfl,rfl⟩;go_wp2_with fail;refine (hQ _ hT.utf).mono ?_;rintro _ w1 ⟨rfl,D⟩;go_wp2;refine bj (v:=dr #[ao ar 3,ao ar (qn:Nat),ao ar 0,ao ar 0]) (by simp[cD,mN,go_sem]) rfl ⟨rfl,D⟩
  .have An:((qe:Int) != 0)=true:=by rw[bne_iff_ne];omega
   rw[E6 (by omega)];simp only[Bw];clear he;go_in;go_wp2_with fail;refine (Ab _).mono ?_;rintro _ _ ⟨rfl,rfl⟩;go_wp2_with fail;refine (Aa _).mono ?_;rintro _ _ ⟨rfl,rfl⟩;go_wp2_with fail;refine (hQ _ hT.utf).mono ?_;rintro _ w1 ⟨rfl,D⟩;go_wp2;refine bj (v:=dr #[ao ar 0,ao ar 0,ao ar 0,ao ar (qe:Nat)]) (by simp[cD,mN,go_sem]) rfl ⟨rfl,D⟩
 rw[E6 M];have Ak:=gu M (m:=34) rfl;clear M hQ Af Ag
 by_cases L:c=10
 .have Aj:((c.toNat:Int)==10)=true:=by subst L;rfl
  rw[E4 L];clear Z Ac Ad V Ae hl h2 hd L;simp only[Bw];go_in;go_wp2_with fail;refine (Ab _).mono ?_;rintro _ _ ⟨rfl,rfl⟩;go_wp2_with fail;refine (Aa _).mono ?_;rintro _ _ ⟨rfl,rfl⟩;go_wp2;refine bj (v:=dr #[ao ar 5,ao ar 1,ao ar 0,ao ar 0]) (by simp[cD,mN,go_sem]) rfl ⟨rfl,ba _ _⟩
 rw[E6 L];have Aj:=gu L (m:=10) rfl;clear L
 by_cases E:c=35
 .have Al:((c.toNat:Int)==35)=true:=by subst E;rfl
  rw[E4 (.inl E)];clear Ac Ad V Ae hl h2 hd E;obtain⟨x1,x2,x3,x4,P⟩:=wX (gp (iy (c::r)) 6);rw[P] at Z ⊢;clear P;go_in;go_wp2_with fail;refine (Ab _).mono ?_;rintro _ _ ⟨rfl,rfl⟩;go_wp2_with fail;refine (Aa _).mono ?_;rintro _ _ ⟨rfl,rfl⟩;go_wp2_with fail;refine (Z _ hT).mono ?_;rintro _ w1 ⟨rfl,D⟩;go_wp2;refine bj (v:=dr #[ao ar x1,ao ar x2,ao ar x3,ao ar x4]) (by simp[cD,mN,go_sem]) rfl ⟨rfl,D⟩
 have Al:=gu E (m:=35) rfl
 by_cases N:c=47/\r.head?=aw 47
 .rw[E4 (.inr N)]
  rw[decide_eq_true N] at Ac;clear Ad V Ae hl h2 hd E N;obtain⟨x1,x2,x3,x4,P⟩:=wX (gp (iy (c::r)) 6);rw[P] at Z ⊢;clear P;go_in;go_wp2_with fail;refine (Ab _).mono ?_;rintro _ _ ⟨rfl,rfl⟩;go_wp2_with fail;refine (Aa _).mono ?_;rintro _ _ ⟨rfl,rfl⟩;go_wp2_with fail;refine (Ac _).mono ?_;rintro _ _ ⟨rfl,rfl⟩;go_wp2_with fail;refine (Z _ hT).mono ?_;rintro _ w1 ⟨rfl,D⟩;go_wp2;refine bj (v:=dr #[ao ar x1,ao ar x2,ao ar x3,ao ar x4]) (by simp[cD,mN,go_sem]) rfl ⟨rfl,D⟩
 rw[E6 (by rintro (h|h);(· exact E h);(· exact N h))];rw[decide_eq_false N] at Ac;clear E N Z
 by_cases H:c=47/\r.head?=aw 42
 .rw[E4 H]
  rw[decide_eq_true H] at Ad;have Ah:=fun W h=>V W h (h2 H.2);clear V Ae hl h2 hd H;obtain⟨x1,x2,x3,x4,P⟩:=wX (eT (c::r));rw[P] at Ah ⊢;clear P;go_in;go_wp2_with fail;refine (Ab _).mono ?_;rintro _ _ ⟨rfl,rfl⟩;go_wp2_with fail;refine (Aa _).mono ?_;rintro _ _ ⟨rfl,rfl⟩;go_wp2_with fail;refine (Ac _).mono ?_;rintro _ _ ⟨rfl,rfl⟩;go_wp2_with fail;refine (Ad _).mono ?_;rintro _ _ ⟨rfl,rfl⟩;go_wp2_with fail;refine (Ah _ hT).mono ?_;rintro _ w1 ⟨rfl,D⟩;go_wp2;refine bj (v:=dr #[ao ar x1,ao ar x2,ao ar x3,ao ar x4]) (by simp[cD,mN,go_sem]) rfl ⟨rfl,D⟩
 rw[E6 H];rw[decide_eq_false H] at Ad;clear H V h2 hl hd;generalize CU (c::r)=n at *
 by_cases hn:n=0
 .subst hn
  rw[E4 rfl];simp only[Bw];go_in;go_wp2_with fail;refine (Ab _).mono ?_;rintro _ _ ⟨rfl,rfl⟩;go_wp2_with fail;refine (Aa _).mono ?_;rintro _ _ ⟨rfl,rfl⟩;go_wp2_with fail;refine (Ac _).mono ?_;rintro _ _ ⟨rfl,rfl⟩;go_wp2_with fail;refine (Ad _).mono ?_;rintro _ _ ⟨rfl,rfl⟩;go_wp2_with fail;refine (Ae _ hT).mono ?_;rintro _ _ ⟨rfl,rfl⟩;go_wp2;refine bj (v:=dr #[ao ar 0,ao ar 0,ao ar 0,ao ar 3]) (by simp[cD,mN,go_sem]) rfl ⟨rfl,ba _ _⟩
 .rw[E6 hn]
  have Ao:0<n:=by omega
  simp only[Bw];clear hn;go_in;go_wp2_with fail;refine (Ab _).mono ?_;rintro _ _ ⟨rfl,rfl⟩;go_wp2_with fail;refine (Aa _).mono ?_;rintro _ _ ⟨rfl,rfl⟩;go_wp2_with fail;refine (Ac _).mono ?_;rintro _ _ ⟨rfl,rfl⟩;go_wp2_with fail;refine (Ad _).mono ?_;rintro _ _ ⟨rfl,rfl⟩;go_wp2_with fail;refine (Ae _ hT).mono ?_;rintro _ _ ⟨rfl,rfl⟩;go_wp2;refine bj (v:=dr #[ao ar 4,ao ar (n:Nat),ao ar 0,ao ar 0]) (by simp[cD,mN,go_sem]) rfl ⟨rfl,ba _ _⟩
theorem nZ(h:dY l=.bad o e):e≠0:=by
 have f:∀(q:Bs) k,gp q k=.bad o e->e≠0:=by
  intro q k b
  cases hw:CO q with
  |none=>rw[nP hw] at b;cases b
  |some x=>
   rw[mg hw] at b;cases b
   simpa using zC hw
 cases l with
 |nil=>cases h;decide
 |cons c r=>
  rw[dY] at h;split at h
  .cases h
  split at h
  .unfold nA at h
   split at h
   .cases h
   .next i=>cases h;exact i
  split at h
  .unfold oG at h
   split at h
   .cases h
   .next i=>cases h;omega
  split at h
  .cases h
  split at h
  .exact f _ _ h
  split at h
  .unfold eT at h
   split at h
   .cases h;decide
   .split at h
    .cases h;decide
    .exact f _ _ h
  split at h
  .cases h;decide
  .cases h
theorem Gx:∀(m:Nat) (l:List Nat) (a:Nat),l.length<=m->(∀x∈l,x<256)->∀x∈(scan l a).1,x.1<a+l.length
 | m,l,a,hm,hl,x,hx=>by
  by_cases h0:l=[]
  .subst h0;simp[nU] at hx
  have hp:=ey.2 h0
  by_cases hn:(aG l).2=0
  .rw[kY h0 hn] at hx;simp at hx
  .have hle:=(lw l hl).1
   cases m with
   |zero=>omega
   |succ m=>
    rw[gY h0,E6 hn] at hx;rcases cL.1 hx with rfl|hx
    .simp only;omega
    .have:=Gx m (l.drop (aG l).2) (a+(aG l).2) (by simp;omega) (fun x hx=>hl x (dT hx)) x hx
     simp at this;omega
theorem RZ{x:Nat×Int}(h:CO l=aw x):x.1<l.length:=by
 unfold CO at h;split at h
 .next y f=>
  cases h
  have:=Gx _ (nb l) 0 lz (gN l) y (List.mem_of_find?_eq_some f);rw[kr] at this;simpa using this
 .split at h
  .next a c=>
   cases h
   have:=Lr _ (nb l) 0 a lz (gN l) c;rw[kr] at this;simpa using this
  .cases h
theorem Hw(h:dY l=.bad o e):o<=l.length:=by
 have f:∀(q:Bs) k,q.length<=l.length->gp q k=.bad o e->o<=l.length:=by
  intro q k i b
  cases hw:CO q with
  |none=>rw[nP hw] at b;cases b
  |some x=>
   rw[mg hw] at b;cases b
   have:=RZ hw;omega
 cases l with
 |nil=>cases h;exact ck _
 |cons c r=>
  rw[dY] at h;split at h
  .cases h
  split at h
  .unfold nA at h
   split at h
   .cases h
   .cases h;exact ck _
  split at h
  .unfold oG at h
   split at h
   .cases h
   .cases h;exact ck _
  split at h
  .cases h
  split at h
  .exact f _ _ (wL _) h
  split at h
  .unfold eT at h
   split at h
   .cases h;exact ck _
   .split at h
    .cases h;exact ck _
    .exact f _ _ (by rw[c8];omega) h
  split at h
  .cases h;exact ck _
  .cases h
theorem QM(t:ae)(g:Nat)(v:cq)(l:List ae)(W:cd)(A:aa W g #[v] 55)(u:aS (g+1) W v l)(F:l.length<=1048576) :
  cJ bh 51 #[fo t,cx (aw ⟨g,0,aq⟩)] W fun e w'=>e=bk (cG true)/\∃v',aa w' g #[v'] 55/\aS (g+1) w' v' (l++[t])/\cj g W w':=by
 obtain⟨G,H,rfl⟩:=u.len;have Af:=A.lt;obtain⟨Aa,Ab⟩:=A.n1 rfl;go_in;go_wp2_with (with_reducible first|refine aL ?_)
 refine Stop.out ?_;refine kT rfl _ _ rfl (g+1) l t (by exact (u.alloc _).alloc _) (W.heap.size+1) rfl (by simp[fL]) (by simp) (by simp) F (by simp;omega) W (by (with_reducible repeat' first|refine ea ?_ ?_ _|refine ej ?_ ?_ _|refine ed ?_|refine ag ?_ _|assumption|exact ba _ _|(simp only[cF,World.size_setCell,World.size_drew];first|done|omega)|omega)) ?_;intro v' w' i j B;obtain⟨D,E,rfl⟩:=i.len;have x:=A.below j (Nat.lt_succ_self g);have Ac:=x.lt;clear Aa Ab B;obtain⟨Ad,Ae⟩:=x.n1 rfl;have C:=Jh i (cE j x);clear i j u A;go_wp2;go_ret;obtain⟨i,j,x⟩:=C.out;exact⟨rfl,an D (l++[t]).length E,by simpa using x.setI 0 _,i.moved (fun k hk=>ds w' ⟨g,0,aq⟩ _ _ (by show k≠g;have:=(cy i k hk).1;omega)),(j.mono (Nat.le_succ g)).setCell lz _⟩
def dW(l:Bs)(k:Nat)(pre:List ae):Prop:=aC l 0=(pre++(aC (l.drop k) k).1,(aC (l.drop k) k).2)
theorem dW.zero(l:Bs):dW l 0 []:=by unfold dW;simp
theorem xE(h:k<l.length):l.drop k=l[k]::l.drop (k+1):=cg h
theorem dW.blank(h:dW l k pre)(c:k<l.length)(a:aN l[k]=true):dW l (k+1) pre:=by
 unfold dW at h ⊢;rw[h,xE c,bV a]
theorem dW.bad(h:dW l k pre)(f:k<l.length)(c:aN l[k]=false)(a:dY (l.drop k)=.bad o e):aC l 0=(pre,((k+o:Nat):Int),e):=by
 unfold dW at h;rw[xE f] at a h;rw[h,fw c a];simp
theorem dW.tok(h:dW l k pre)(c:k<l.length)(f:aN l[k]=false){kd sz:Nat}(g:dY (l.drop k)=.tok kd sz) :
  dW l (k+sz) (pre++[⟨(kd:Nat),au ((l.drop k).take sz),(k:Nat)⟩]):=by
 unfold dW at h ⊢;have Aa:=g;rw[xE c] at Aa;rw[h,xE c,dE f Aa,<-xE c,c4];simp
theorem dW.done(h:dW l k pre)(a:k=l.length):aC l 0=(pre,-1,0):=by
 unfold dW at h;rw[h,a,List.drop_length,dM];simp
theorem dW.len(h:dW l k pre):pre.length<=l.length:=by
 have b:=oh l.length l 0 lz;unfold dW at h;rw[h] at b;simp at b;omega
def Pe(x:List ae×Int×Int):cq:=if x.2.2=0 then dr #[ao ar 0,ao ar 0] else dr #[ao ar x.2.1,ao ar x.2.2]
theorem MU(s:E7)(P w:cd)(T:cj P.heap.size P w)(Q:jF P)(hs:s.size<=1048576)(hc0:aa w P.heap.size #[an aq 0 0] 55) :
  cJ bh 50 #[al s,.func (.func 51) #[] #[cx (aw ⟨P.heap.size,0,aq⟩)]] w fun e w'=>e=bk (Pe (aC s.data.toList 0))/\
   ∃v,aa w' P.heap.size #[v] 55/\aS (P.heap.size+1) w' v (aC s.data.toList 0).1/\cj P.heap.size P w':=by
 have Ac:=Jh hc0 T;clear hc0 T;go_in;go_wp2_with fail;go_step3
 go_wp2_with fail;go_step3
 go_wp2;go_loopw [4,5,6,7,8,9,10] (fun a e p _ _ _ _ wr=>∃(k:Nat) (pre:List ae) (v:cq),a=ao ar 0/\e=ao ar 0/\p=ao ar (k:Int)/\k<=s.size/\dW s.data.toList k pre/\aa wr P.heap.size #[v] 55/\aS (P.heap.size+1) wr v pre/\cj P.heap.size P wr) (fun _ _ p _ _ _ _ _=>s.size-(cR p).toNat)
 .exact⟨0,[],_,rfl,rfl,rfl,ck _,dW.zero _,Ac.out.1,aS.nil,Ac.out.2⟩
 clear Ac;obtain⟨k,pre,v,rfl,rfl,rfl,hk,O,L,Ab,E⟩:=hrel
 by_cases x:k<s.size
 .have K:=FD ⟨#[32,9,13]⟩ (s[k]'x)
  rw[show (⟨#[32,9,13]⟩:E7).data.toList.contains (s[k]'x)=aN (s[k]'x) from rfl] at K;have Af:k<s.data.toList.length:=by rw[<-ak];exact x
  have Aj:=O.len;rw[<-ak] at Aj;have J:=Hh O;clear O
  cases hb1:aN (s[k]'x) with
  |true=>
   rw[hb1] at K;have Ah:=Hh (J.out.blank Af hb1);clear J hb1;go_wp2_with fail;refine (K _).mono ?_;rintro _ _ ⟨⟨i,rfl,hi⟩,rfl⟩;go_wp2;go_roundw
   .exact⟨k+1,pre,v,rfl,rfl,by go_num,by omega,Ah.out,L,Ab,E⟩
   simp[cR];omega
  |false=>
   rw[hb1] at K;have G:=fun W h=>Ql (s.extract k s.size) W h (by rw[gx];omega) (by rw[gx];omega);rw[xC] at G;have An:=Hh hb1
   cases ho:dY (s.data.toList.drop k) with
   |bad o e=>
    have I:=Hh (J.out.bad Af hb1 ho);have Ao:(e != 0)=true:=by simpa using nZ ho
    have Ag:=Hh (nZ ho);have Al:=Hw ho;rw[bm,<-ak] at Al;rw[ho] at G;simp only[Bw] at G;clear J hb1 ho;go_wp2_with fail;refine (K _).mono ?_;rintro _ _ ⟨⟨i,rfl,hi⟩,rfl⟩;go_wp2_with fail;refine (G _ (Q.below E)).mono ?_;rintro _ w2 ⟨rfl,q⟩;have Ad:=E.trans (q.mono E.size);have Ae:=L.below q L.lt;have Aa:=Ab.below q lz;go_wp2;rw[Exit.noGoto_ret];refine bj (v:=dr #[ao ar ((k:Int)+o),ao ar e]) (by simp[cD,Tryz.results50,go_sem]) rfl ?_;rw[I.out];unfold Pe;simp only;rw[E6 Ag.out];exact⟨by simp,v,Ae,Aa,Ad⟩
   |tok kd sz=>
    have I:=Hh (J.out.tok Af hb1 ho);have Ai:au ((s.data.toList.drop k).take sz)=s.extract k (k+sz):=jA (by rw[fU,aV,gO];congr 1;omega);have Am:=dC ho;rw[bm,<-ak] at Am;rw[ho] at G;simp only[Bw] at G;clear J hb1 ho;go_wp2_with fail;refine (K _).mono ?_;rintro _ _ ⟨⟨i,rfl,hi⟩,rfl⟩;go_wp2_with fail;refine (G _ (Q.below E)).mono ?_;rintro _ w2 ⟨rfl,q⟩;have Ad:=E.trans (q.mono E.size);have Ae:=L.below q L.lt;have Aa:=Ab.below q lz;go_wp2_with fail;rw[Ai] at I;refine (QM ⟨(kd:Nat),s.extract k (k+sz),(k:Nat)⟩ P.heap.size v pre w2 Ae Aa (by omega)).mono ?_;rintro _ w3 ⟨rfl,v3,hc3,H,X⟩;have Ak:=Ad.trans X;go_wp2;go_roundw
    .exact⟨k+sz,_,v3,rfl,rfl,by go_num,by omega,I.out,hc3,H,Ak⟩
    simp[cR];omega
 .obtain rfl:k=s.size:=by omega
  have I:=Hh (O.done (ak s));clear O;go_wp2;rw[Exit.noGoto_ret];refine bj (v:=dr #[ao ar 0,ao ar 0]) (by simp[cD,Tryz.results50,go_sem]) rfl ?_;rw[I.out];exact⟨rfl,v,L,Ab,E⟩
def mK(l:Bs):List ae×Int×Int:=if (aC l 0).2.2=0 then ((aC l 0).1,-1,0) else ([],(aC l 0).2)
theorem xh(s:E7)(w:cd)(L:jF w)(M:s.size<=1048576) :
  cJ bh 23 #[al s] w fun e w'=>∃v,e=bk (dr #[v,ao ar (mK s.data.toList).2.1,ao ar (mK s.data.toList).2.2])/\aS w.heap.size w' v (mK s.data.toList).1/\cj w.heap.size w w':=by
 have j:=MU s w (w.alloc (aE #[an aq 0 0] 55)) ((ba _ w).alloc lz _) L M (aa.new w _ _);unfold Pe at j;unfold mK;obtain⟨⟨l,p,z⟩,D⟩:∃x,aC s.data.toList 0=x:=⟨_,rfl⟩;rw[D] at j ⊢;clear D;simp only at j ⊢
 by_cases u:z=0
 .subst u
  rw[E4 rfl] at j;rw[E4 rfl];go_in;go_wp2_with fail;refine j.mono ?_;rintro _ J ⟨rfl,v,i,f,q⟩;obtain⟨E,G,rfl⟩:=f.len;have H:=i.lt;obtain⟨Ab,Ac⟩:=i.n1 rfl;have A:=Jh i (cE f q);clear i f q j;go_wp2;obtain⟨i,f,q⟩:=A.out;have Aa:=(i.setI 0 (an E l.length G)).cell 0 _ rfl;refine bj (v:=dr #[an E l.length G,ao ar (-1),ao ar 0]) (by simp[cD,Tryz.results23,go_sem,Aa]) rfl ?_;exact⟨_,rfl,(f.moved (fun k hk=>ds _ _ _ _ (by show k≠w.heap.size;have:=(cy f k hk).1;omega))).base_le (Nat.le_succ _),q.setCell lz _⟩
 .rw[E6 u] at j
  rw[E6 u];have Ad:(z != 0)=true:=by simpa using u
  go_in;go_wp2_with fail;refine j.mono ?_;rintro _ J ⟨rfl,v,i,f,q⟩;have H:=i.lt;obtain⟨Ab,Ac⟩:=i.n1 rfl;have A:=Jh i q;clear i f q j;go_wp2;obtain⟨i,q⟩:=A.out;have Aa:=(i.setI 0 (an aq 0 0)).cell 0 _ rfl;refine bj (v:=dr #[an aq 0 0,ao ar p,ao ar z]) (by simp[cD,Tryz.results23,go_sem,Aa]) rfl ?_;exact⟨_,rfl,aS.nil,q.setCell lz _⟩
theorem uj{s:Bs}(h:bN s=0):∀l:Bs,bN (l++s)=bN l
 |[]=>h
 |c::l=>by simp only[cf,bN,uj h l]
theorem xy{s:Bs}(h:uF s=0):∀l:Bs,uF (l++s)=uF l
 |[]=>h
 |c::l=>by simp only[cf,uF,xy h l]
structure nJ(s:Bs):Prop where
 d:bN s=0
 f:dm s=0
 p:jl s=0
 g:oN s=0
theorem KE{s:Bs}(h:nJ s):∀l:Bs,dm (l++s)=dm l
 |[]=>h.f
 |c::l=>by simp only[cf,dm,uj h.d l]
theorem Pw{s:Bs}(h:nJ s):∀l:Bs,oN (l++s)=oN l
 |[]=>h.g
 |c::l=>by simp only[cf,oN]
theorem Ur:∀l:Bs,oN l<=l.length
 |[]=>cA _
 |c::l=>by rw[oN];split<;>simp
theorem NK{s:Bs}(h:nJ s):∀l:Bs,jl (l++s)=jl l
 |[]=>h.p
 | c::l=>by
  simp only[cf,jl,Pw h l];rw[eo (Ur l),uj h.d]
theorem Oo{s:Bs}(h:nJ s):∀l:Bs,fH (l++s)=fH l
 | []=>by
  simp only[cM]
  cases s with
  |nil=>rfl
  |cons c s=>
   have:=h.d;show fH (c::s)=0;simp only[fH];split
   .next hc=>subst hc;rw[bN,E4 (by decide)] at this;omega
   .exact this
 | c::l=>by
  simp only[cf,fH];rw[<-cf,uj h.d]
theorem IK:∀l:Bs,dm l<=l.length
 |[]=>cA _
 |c::l=>by rw[dm];have:=mE l;split<;>simp;omega
theorem L6:∀l:Bs,fH l<=l.length
 |[]=>cA _
 | c::l=>by
  rw[fH];split
  .simp
  .exact mE _
theorem JF{s:Bs}(h:nJ s)(l:Bs):gX (l++s)=gX l:=by
 unfold gX;rw[KE h,eo (IK l),NK h]
theorem Qp:∀l:Bs,nC l<=l.length
 |[]=>cA _
 |c::l=>by rw[nC];split<;>simp
theorem Au{s:Bs}(h:nJ s)(f:l≠[]):dB (l++s)=dB l:=by
 have b:nC (l++s)=nC l:=by cases l with|nil=>exact absurd rfl f|cons c l=>rfl
 unfold dB;have hi:=L6 (l.drop (nC l));rw[bm] at hi;have Aa:=Qp l;rw[b,eo Aa,Oo h,eo (by omega),JF h]
theorem IX:∀(l s:Bs) (n:Nat),gP l=aw n->gP (l++s)=aw n
 |[],_,_,h=>by cases h
 | c::l,s,n,h=>by
  cases l with
  |nil=>
   rw[gP] at h;simp[gP] at h
  |cons d l=>
   rw[cf,gP];rw[gP] at h;have hh:((d::l)++s).head?=(d::l).head?:=rfl;rw[hh];split at h
   .next hc=>rw[E4 hc];exact h
   .next hc=>
    rw[E6 hc];obtain⟨m,hm,rfl⟩:=Option.map_eq_some_iff.1 h;rw[IX (d::l) s m hm];rfl
theorem zG{c:UInt8}{r s:Bs}(h:r≠[]\/(s.head?≠aw 61/\s.head?≠aw 38/\s.head?≠aw 124)):CU (c::(r++s))=CU (c::r):=by
 have Aa:mq.any (fun d=>d.isPrefixOf (c::(r++s)))=mq.any (fun d=>d.isPrefixOf (c::r)):=by
  simp only[mq,List.any_cons,List.any_nil,C8]
  cases r with
  |cons d r=>rfl
  |nil=>
   rcases h with h|⟨b,g,i⟩
   .exact absurd rfl h
   .simp[b,g,i]
 simp only[CU,Aa]
theorem vN(a b:Bs):nb (a++b)=nb a++nb b:=by unfold nb;rw[List.map_append]
theorem PW{s:Bs}(h:oG l=.tok k n):oG (l++s)=.tok k n:=by
 unfold oG at h ⊢;split at h
 .next f=>
  have Aa:=kg (gN l) f
  have i:=qH (l:=nb l) (m:=(nb l).drop (aW (nb l)).2.1++nb s) (gN l) (fun x hx=>by
   rcases cX.1 hx with hx|hx
   .exact gN l x (dT hx)
   .exact gN s x hx) f
  rw[<-ef,el,<-vN] at i;rw[i,E4 f];exact h
 .cases h
theorem Ic{s:Bs}(h:nA l=.tok k n)(a:l≠[])(b:nJ s):nA (l++s)=.tok k n:=by
 unfold nA at h ⊢;rw[Au b a,eW (rR l)];exact h
theorem Io(b:Bs):∀l:Bs,cO (l++10::b)=cO l
 |[]=>by simp[cO]
 |c::l=>by simp only[cf,cO,Io b l]
theorem ET(l b:Bs):iy (l++10::b)=iy l:=by
 unfold iy;rw[Io,eW (sw l)]
theorem Cv{s:Bs}(h:eT l=.tok k n)(b:2<=l.length):eT (l++s)=.tok k n:=by
 unfold eT at h ⊢;rw[eo b]
 cases he:gP (l.drop 2) with
 |none=>rw[he] at h;cases h
 |some m=>
  rw[he] at h;have Aa:=oZ _ _ he;rw[bm] at Aa;rw[IX _ s m he];simp only at h ⊢;rw[eW (by omega),eW (by omega)];exact h
theorem EJ(b:Bs):nJ (10::b):=⟨by simp[bN,show dg 10=false from rfl],by simp[dm],by simp[jl],by simp[oN]⟩
theorem SH(h:dY l=.tok k n)(b:Bs):dY (l++10::b)=.tok k n:=by
 cases l with
 |nil=>cases h
 |cons c r=>
  rw[cf];rw[dY] at h ⊢;split at h
  .next j=>rw[E4 j,xy (by simp[uF,show Ky 10=false from rfl])];exact h
  next j=>
  rw[E6 j];split at h
  .next o=>rw[E4 o,<-cf];exact Ic h (by simp) (EJ b)
  next o=>
  rw[E6 o];split at h
  .next u=>rw[E4 u,<-cf];exact PW h
  next u=>
  rw[E6 u];split at h
  .next f=>rw[E4 f];exact h
  next f=>
  rw[E6 f]
  have A:∀x:UInt8,x≠10->(((r++10::b).head?=aw x)↔(r.head?=aw x)):=fun x hx=>by
   cases r with
   |nil=>simp;exact fun e=>hx e.symm
   |cons d r=>simp
  simp only[A 47 (by decide),A 42 (by decide)];split at h
  .next z=>rw[E4 z,<-cf,ET];exact h
  next z=>
  rw[E6 z];split at h
  .next i=>
   rw[E4 i,<-cf];exact Cv h (by cases r with|nil=>simp at i|cons d r=>simp)
  next i=>
  rw[E6 i,zG (.inr (by simp))];exact h
theorem Kr:∀(k:Nat) (a:Bs) (p:Nat) (b:Bs),a.length<=k->(aC a p).2.2=0->
  aC (a++10::b) p=((aC a p).1++⟨5,au [10],((p+a.length:Nat):Int)⟩::(aC b (p+a.length+1)).1,(aC b (p+a.length+1)).2)
 | k,[],p,b,_,_=>by
  have ho:dY (10::b)=.tok 5 1:=by simp[dY,show lC 10=false from rfl,show dg 10=false from rfl]
  rw[cM,dE rfl ho,dM];simp
 |0,c::r,p,b,hk,_=>by simp at hk
 | k+1,c::r,p,b,hk,h=>by
  simp only[bc] at hk;rw[cf]
  cases hb:aN c with
  |true=>
   rw[bV hb] at h ⊢;rw[bV hb,Kr k r (p+1) b (by omega) h];simp only[bc];rw[show p+1+r.length=p+(r.length+1) by omega]
  |false=>
   cases ho:dY (c::r) with
   |bad o e=>rw[fw hb ho] at h;exact absurd h (nZ ho)
   |tok kd sz=>
    have i:=dC ho;rw[bc] at i;rw[dE hb ho] at h ⊢;have f:=SH ho b;rw[cf] at f;rw[dE hb f,<-cf,eW (by simp;omega),eo (by simp;omega)];have j:=Kr k ((c::r).drop sz) (p+sz) b (by rw[bm,bc];omega) h;rw[j,bm,bc];simp only[cf];rw[show p+sz+(r.length+1-sz)=p+(r.length+1) by omega]
end Go.Proofs.YtgmpmolfcaihfaaGreatDoor
