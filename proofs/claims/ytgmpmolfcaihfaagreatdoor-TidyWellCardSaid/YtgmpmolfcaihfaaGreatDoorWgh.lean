/- Laws that TidyWell rests on; conditions: those that each names. -/
import Derived.Test.YtgmpmolfcaihfaaGreatDoorWgg
set_option linter.unusedSimpArgs false
set_option linter.unusedVariables false
set_option maxRecDepth 100000
set_option maxHeartbeats 20000000
open And renaming intro→cE
open Bool renaming and_eq_false_iff→vd,and_eq_true→cP,eq_false_iff→so,or_eq_false_iff→oE,or_eq_true→gd,or_false→my
open ByteArray renaming size_extract→gx
open Go renaming Calls→cJ,World→cd,bodyPost_ret→bj,results→cD,rounds_succ→fN,wp_loop_rounds→mb
open Go.Ending renaming returned→bk,returned→jj
open Go.IntKind renaming i64→ar
open Go.IntWalk renaming i64_in→cU
open Go.Lib renaming trimLeftB→jN,trimRightB→oy,trimRightS→iu
open Go.Obj renaming cells→aE
open Go.Proofs.Tryz renaming prog→bh,results100→wt,results133→gC,results152→mm,results62→kj,results99→u4
open Go.RowKit renaming Below→cj,intOf→cR
open Go.RowKit.Below renaming alloc→ej,drew→ed,refl→ba,setCell→ea
open Go.Value renaming agg→ew,bool→cG,int→ao,slice→an,string→al
open Go.World renaming cell?_alloc_new→fL,size_alloc→cF
open Int renaming cast_ofNat_Int→zj,natCast_add→se,toNat_natCast→eL
open List renaming all_cons→ri,dropWhile_cons→rK,drop_drop→c4,drop_length→ei,drop_take→gO,drop_zero→dd,foldl_append→sx,foldl_cons→oT,getElem?_eq_getElem→br,getElem_append_right→lP,isPrefixOf_iff_prefix→ly,length_append→cm,length_cons→bc,length_drop→bm,length_nil→cY,length_take→c8,mem_of_mem_drop→dT,nil_append→cM,prefix_iff_eq_take→EF,reverse_append→o4,singleton_append→fc,take_add_one→sr,take_length→eR
open Nat renaming add_sub_cancel'→pd,le_refl→cA,le_trans→dy,sub_self→j9,zero_add→df,zero_le→ck
open Option renaming none→aq,some→aw
open Option.some renaming inj→dt
namespace Go.Proofs.YtgmpmolfcaihfaaGreatDoor
open Go.RowKit Go.Tab
variable{s:E7}{a:Int}{l:List ae}{k n:Nat}{c:UInt8}
def lq(t:ae):Bool:=t.kind != 5&&(t.kind != 6&&t.kind != 7)
theorem Gu(l:List ae)(k:Nat)(h:k<l.length):(l.take (k+1)).filter lq=(l.take k).filter lq++(if lq l[k] then [l[k]] else []):=by
 rw[JE l k h,List.filter_append]
 congr 1
 simp only[List.filter_cons,List.filter_nil]
theorem A9(v:Value)(l:List ae)(w:cd)(h:aP w v l)(hs:l.length<=1000000) :
  cJ bh 67 #[v] w fun e w'=>∃v',e=bk v'/\aS w.heap.size w' v' (l.filter lq)/\cj w.heap.size w w':=by
 obtain⟨a,Ad,rfl,Ae,Ac,Af⟩:=h.len;unfold maxLen at Ac;have U:=Hh h;clear h;go_in;go_wp2;go_loopw [3,4] (fun o i wr=>∃k:Nat,k<=l.length/\i=ao ar (k:Int)/\aS w.heap.size wr o ((l.take k).filter lq)/\cj w.heap.size w wr) (fun _ i _=>l.length-(cR i).toNat)
 .exact⟨0,ck _,rfl,by simpa using aS.nil,ba _ _⟩
 obtain⟨k,hk,rfl,Aa,A⟩:=hrel;obtain⟨va,vc,rfl⟩:=Aa.len
 by_cases E:k<l.length
 .obtain⟨Z,Ah,rfl,Ag,q0,V,W⟩:=aP.get (U.out.below A lz) E
  have C:=Hh (Gu l k E);have Ab:((l.take k).filter lq).length<=1000000:=dy (List.length_filter_le _ _) (by rw[c8];omega);have R:=Hh Ab;generalize l[k]=t at *;obtain⟨tk,H,G⟩:=t;simp only at q0 V W C
  by_cases K:tk=5
  .subst K
   have B:lq ⟨5,H,G⟩=false:=rfl;have I:((5:Int) != 5)=false:=by decide
   have x:=Jh Aa A;clear Aa A;go_wp2;go_roundw
   .exact⟨k+1,by omega,by go_num,by rw[C.out,B];simpa using x.out.1,x.out.2⟩
   simp[cR];omega
  by_cases M:tk=6
  .subst M
   have B:lq ⟨6,H,G⟩=false:=rfl;have I:((6:Int) != 5)=true:=by decide
   have J:((6:Int) != 6)=false:=by decide
   have x:=Jh Aa A;clear Aa A;go_wp2;go_roundw
   .exact⟨k+1,by omega,by go_num,by rw[C.out,B];simpa using x.out.1,x.out.2⟩
   simp[cR];omega
  by_cases N:tk=7
  .subst N
   have B:lq ⟨7,H,G⟩=false:=rfl;have I:((7:Int) != 5)=true:=by decide
   have J:((7:Int) != 6)=true:=by decide
   have Q:((7:Int) != 7)=false:=by decide
   have x:=Jh Aa A;clear Aa A;go_wp2;go_roundw
   .exact⟨k+1,by omega,by go_num,by rw[C.out,B];simpa using x.out.1,x.out.2⟩
   simp[cR];omega
  have I:(tk != 5)=true:=by simpa using K
  have J:(tk != 6)=true:=by simpa using M
  have Q:(tk != 7)=true:=by simpa using N
  have B:lq ⟨tk,H,G⟩=true:=by simp only[lq,I,J,Q];rfl
  clear K M N;go_wp2_with (with_reducible first|refine aL ?_)
  refine Stop.out ?_;refine kT rfl _ _ rfl w.heap.size ((l.take k).filter lq) ⟨tk,H,G⟩ (by exact Aa.alloc _) wr.heap.size rfl (by simp[fL]) (by simp[fL]) (by simp[fL]) (by have:=R.out;omega) (by have:=A.size;simp;omega) w (A.alloc A.size _) ?_;intro v' w' j D O;obtain⟨Y,c2,rfl⟩:=j.len;have x:=Jh j D;clear j D O Aa A;go_wp2;go_roundw
  .exact⟨k+1,by omega,by go_num,by rw[C.out,B];simpa using x.out.1,x.out.2⟩
  simp[cR];omega
 .obtain rfl:k=l.length:=by omega
  rw[eR] at Aa ⊢;have x:=Jh Aa A;clear Aa A;go_wp2;go_ret;exact⟨_,rfl,x.out.1,x.out.2⟩
section
variable {w:cd} {ops:Array Oper} {rest:List Oper} {o:Oper} {a:Act} {Q:Exit->Act->cd->Prop}
end
theorem KQ(w:cd)(a b:Value)(t:TypeId):(w.alloc (aE #[a,b] t)).cell? ⟨w.heap.size,0,aq⟩=aw a/\(w.alloc (aE #[a,b] t)).cell? ⟨w.heap.size,1,aq⟩=aw b:=by
 constructor<;>rw[fL]<;>rfl
theorem PT(s:E7)(w:cd)(hs:s.size<=1048576) :
  cJ bh 71 #[al s] w fun e w'=>∃v,e=bk v/\sW w.heap.size w' v (scan (bs s) 0).1/\cj w.heap.size w w':=by
 go_in;go_wp2;go_loopw [3,4] (fun v i wr=>∃(k:Nat) (pre:List (Nat×Nat)),i=ao ar k/\k<=s.size/\pre.length<=k/\oI (bs s) k pre/\sW w.heap.size wr v pre/\cj w.heap.size w wr) (fun _ i _=>s.size-(cR i).toNat)
 .exact⟨0,[],rfl,ck _,cA _,oI.zero _,sW.nil,ba _ _⟩
 obtain⟨k,pre,rfl,X,Ah,P,K,B⟩:=hrel;have C:=Hh P;have S:=B.size;clear P
 by_cases h:k<s.size
 .obtain⟨c,n,D⟩:∃c n,aG ((bs s).drop k)=(c,n):=⟨_,_,rfl⟩
  have Ac:=(lw ((bs s).drop k) (fun x hx=>gJ x (dT hx))).1;have A:=F8 s k wr hs X;rw[D] at A Ac;simp only[bm,ay] at Ac;have N:=Hh D;clear D
  by_cases H:n=0
  .subst H
   have u:=Hh (C.out.bad (by rw[ay];exact h) (by rw[N.out]));go_wp2_with fail;refine A.mono ?_;clear A;rintro e M ⟨rfl,j⟩;have Aa:=B.trans (j.mono S);have Ab:=K.below j;go_wp2;go_ret;rw[u.out];exact⟨_,rfl,Ab,Aa⟩
  .have u:=Hh (C.out.good (by rw[ay];exact h) N.out H)
   have Af:((n:Int)==0)=false:=by rw[Fc];omega
   have Ag:1<=n:=by omega
   clear H;go_wp2_with fail;refine A.mono ?_;clear A;rintro e M ⟨rfl,j⟩;have Aa:=B.trans (j.mono S);have Ae:=Aa.size;have Ab:=K.below j;obtain⟨O,c1⟩:=KQ M (ao ar (k:Int)) (ao ar (c:Int)) 147;go_wp2_with (with_reducible first|refine aL ?_|refine l8 ?_|refine j6 ?_|refine xZ ?_);refine Stop.out ?_
   refine Go.Proofs.YtgmpmolfcaihfaaGreatDoor.u6 rfl _ _ rfl w.heap.size pre (k,c) (by exact Ab.alloc _) M.heap.size rfl (by exact O) (by exact c1) (by omega) (by simp;omega) w (by exact Aa.alloc Ae _) ?_;intro v3 Y q E;obtain⟨U,V,rfl⟩:=q.len;have Ad:sW w.heap.size Y (an U (pre.length+1) V) (pre++[(k,c)]):=by simpa using q
   clear O c1 q;go_wp2;go_roundw
   .exact⟨k+n,_,by go_num,by omega,by simp;omega,u.out,Ad,E⟩
   simp[cR];omega
 .have u:=Hh (C.out.done (by rw[ay];omega))
  go_wp2;go_ret;rw[u.out];exact⟨_,rfl,K,B⟩
open Go.RowKit Go.Tab
def F9(l:List ae):Prop:=∀t∈l,t.kind≠5
theorem Hg(h:F9 l):l.filter lq=dX l:=by
 unfold dX;refine List.filter_congr fun t ht=>?_;have a:=h t ht;unfold lq dD
 by_cases b:t.kind=6<;>by_cases c:t.kind=7<;>simp[a,b,c]
theorem yt(w:cd)(lv:Value)(l:List ae)(h:aP w lv l)(hl:l.length<=1000000) :
  cJ bh 46 #[lv] w fun e w'=>e=bk (ao ar (rA (gK l)))/\cj w.heap.size w w':=by
 obtain⟨a,c,rfl,h1,h2,-⟩:=h.len;unfold maxLen at h2;have HT:=Hh h;clear h;go_in;go_wp2;go_loopw [3,4] (fun nn i wr=>∃(k m:Nat),k<=l.length/\i=ao ar (k:Int)/\nn=ao ar (m:Int)/\m<=1/\Hid (ng (l.drop k) k (1-m)=ng l 0 1)/\cj w.heap.size w wr) (fun _ i _=>l.length-(cR i).toNat)
 .exact⟨0,0,ck _,rfl,rfl,by omega,Hh rfl,ba _ _⟩
 obtain⟨k,m,hk,rfl,rfl,hm,F,I⟩:=hrel;have J:=Hh I
 by_cases j:k<l.length
 .obtain⟨b,Ac,rfl,Ab,hq⟩:=gD (HT.out.below I lz) j
  obtain⟨q0,q1,q2⟩:=hq wr (ba _ _);have hX:=fP wr l[k];have u:=tN l[k] wr;have H:=fun W=>dL l[k] Gc W;have H1:=Hh (fun hc n=>zM (n:=n) j hc);have H2:=Hh (fun hc=>zL j hc);have H3:=Hh (fun hc n=>wP (n:=n) j hc);have H4:=Hh (fun h=>Mi (l:=l) (k:=k) h j);generalize l[k]=t at *;obtain⟨U,tx,Y⟩:=t;simp only[fo] at u H q0 q1 q2;generalize dD ⟨U,tx,Y⟩=cb at *;generalize bZ ⟨U,tx,Y⟩ Gc=sb at *;have G:=Hh (J.out.trans (hX.mono J.out.size));have Aa:=Hh (G.out.alloc G.out.size (kV ⟨U,tx,Y⟩));clear hX I hq
  cases cb with
  |true=>
   go_wp2_with fail;refine u.mono ?_;rintro _ _ ⟨rfl,rfl⟩;clear u H;go_wp2;go_roundw
   .exact⟨k+1,m,j,by go_num,rfl,hm,Hh (by rw[<-F.out,H1.out (by trivial)]),G.out⟩
   simp[cR]<;>omega
  |false=>
   go_wp2_with fail;refine u.mono ?_;rintro _ _ ⟨rfl,rfl⟩;clear u
   by_cases R:m=1
   .subst R
    have Q:Hid (gK l=if sb then aw k else aq):=Hh (H4.out (by rw[<-F.out];exact H2.out (by trivial)));go_wp2_with fail;refine (H _).mono ?_;rintro _ _ ⟨rfl,rfl⟩;clear H;cases sb
    all_goals
     go_wp2;go_ret;rw[Q.out];exact⟨rfl,Aa.out⟩
   .obtain rfl:m=0:=by omega
    go_wp2;go_roundw
    .exact⟨k+1,1,j,by go_num,by go_num,by omega,Hh (by rw[<-F.out,H3.out (by trivial)]),G.out⟩
    simp[cR]<;>omega
 .obtain rfl:k=l.length:=by omega
  have hE:=wO (l:=l) (n:=1-m) lz;have Q:Hid (gK l=aq):=Hh (IV (by rw[<-F.out,hE]));clear hE I;go_wp2;go_ret;rw[Q.out];exact⟨rfl,J.out⟩
theorem J5(w:cd)(s:E7)(k:s.size<=1048576):cJ bh 48 #[al s] w fun e w'=>e=bk (ao ar ((scan (bs s) 0).1.length:Nat))/\cj w.heap.size w w':=by
 have f:=PT s w k;generalize (scan (bs s) 0).1=L at *;go_in;go_wp2_with fail;refine f.mono ?_;clear f;rintro _ q ⟨v,rfl,i,b⟩;obtain⟨a,c,rfl⟩:=r9 i;have j:=Hh b;clear i b;go_wp2;go_ret;exact⟨rfl,j.out⟩
theorem aS.one(base:Nat)(w:cd)(t:ae)(f:base<=w.heap.size):aS base (w.alloc (aE #[ao ar t.kind,al t.text,ao ar t.pos] 62)) (an (aw ⟨w.heap.size,0,Option.none⟩) 1 1) [t]:=by
 have h:=cd.ownsRow_lit (base:=base) (e:=62) (size:=3) w #[ao ar t.kind,al t.text,ao ar t.pos] 1 f (by decide) (by simp);unfold aS
 simpa [lM] using h
def Ey(w:cd)(l:List ae)(a e:Int)(r:Ending)(w':cd):Prop:=∃v,r=bk (ew #[v,ao ar a,ao ar e])/\aS w.heap.size w' v l/\cj w.heap.size w w'
theorem jw(c:UInt8)(w:cd):cJ bh 97 #[ao .u8 c.toNat] w fun e w'=>e=bk (cG (lC c))/\w=w':=by
 have k:lC c=(decide (65<=c.toNat/\c.toNat<=90) || (decide (97<=c.toNat/\c.toNat<=122) || decide (c.toNat=95))):=rfl;generalize lC c=b at k;generalize c.toNat=n at k
 have u:((n<65\/(n<97/\65<=n/\90<n/\n<95)\/(n<97/\65<=n/\90<n/\n=96)\/(97<=n/\122<n))/\b=false)\/(((n<97/\65<=n/\n<=90)\/(97<=n/\n<=122)\/(n<97/\65<=n/\90<n/\n=95))/\b=true):=by
  cases b with
  |false=>
   have h:=k.symm;simp only[oE,decide_eq_false_iff_not] at h
   left
   exact⟨by omega,rfl⟩
  |true=>
   have h:=k.symm;simp only[gd,decide_eq_true_eq] at h
   right
   exact⟨by omega,rfl⟩
 clear k;rcases u with ⟨(h|⟨i,j,o,v⟩|⟨i,j,o,rfl⟩|⟨i,j⟩),rfl⟩|⟨(⟨i,j,o⟩|⟨i,j⟩|⟨i,j,o,rfl⟩),rfl⟩
 all_goals
  go_in;go_wp2;go_ret;first
  |exact⟨rfl,rfl⟩
  |exact⟨jT (by simp only[ne_eq,oE,gd,cP,vd,decide_eq_false_iff_not,decide_eq_true_eq,Fc,beq_iff_eq];omega),rfl⟩
theorem yQ(c:UInt8)(w:cd):cJ bh 39 #[ao .u8 c.toNat] w fun e w'=>e=bk (cG (aN c))/\w=w':=by
 by_cases a:c=32
 .subst a
  go_in;go_wp2;go_ret;exact⟨rfl,rfl⟩
 by_cases f:c=9
 .subst f
  go_in;go_wp2;go_ret;exact⟨rfl,rfl⟩
 by_cases h:c=13
 .subst h
  go_in;go_wp2;go_ret;exact⟨rfl,rfl⟩
 have i:aN c=false:=by simp[aN,gm,a,f,h]
 rw[i];have j:=gu a (m:=32) rfl;have k:=gu f (m:=9) rfl;have o:=gu h (m:=13) rfl;clear a f h i;go_in;go_wp2;go_ret;exact⟨rfl,rfl⟩
theorem Tv{w:E7}(h:k+w.size<=s.size):(s.extract k (k+w.size)=w)↔w.data.toList.isPrefixOf (s.data.toList.drop k)=true:=by
 rw[ly]
 have e1:(s.extract k (k+w.size)).data.toList=(s.data.toList.drop k).take w.data.toList.length:=by
  rw[fU,gO,<-ak];congr 1;omega
 constructor
 .intro b
  rw[b] at e1;rw[EF];exact e1
 .intro c
  apply jA
  rw[e1];exact (EF.1 c).symm
theorem vR(s:E7)(k:Nat)(p:E7)(w:cd)(B:s.size<=1048576)(A:k<=s.size)(u:p.size<=1000) :
  cJ bh 101 #[al s,ao ar (k:Nat),al p] w fun e w'=>e=bk (cG (p.data.toList.isPrefixOf (s.data.toList.drop k)))/\w=w':=by
 by_cases h:k+p.size<=s.size
 .have c:=Tv h
  generalize p.data.toList.isPrefixOf (s.data.toList.drop k)=b at c;have Aa:s.extract k (k+p.size)=s.extract k (k+p.size):=rfl;have i:=Hh c;clear c
  cases b with
  |true=>
   have q:=i.out.2 rfl;go_in;go_wp2;go_ret;exact⟨rfl,rfl⟩
  |false=>
   have q:=Am (fun e=>by have:=i.out.1 e;cases this);go_in;go_wp2;go_ret;exact⟨rfl,rfl⟩
 .have j:p.data.toList.isPrefixOf (s.data.toList.drop k)=false:=by
   rw[<-Bool.not_eq_true];intro u;have:=(ly.1 u).length_le;rw[bm,<-ak,<-ak] at this;omega
  rw[j];clear j;go_in;go_wp2;go_ret;exact⟨rfl,rfl⟩
theorem Km(l:Bs)(k:Nat)(h:k<l.length):cO (l.drop k)=if l[k]=10 then 0 else cO (l.drop (k+1))+1:=by
 rw[List.drop_eq_getElem_cons h,cO]
theorem Mj(s:E7)(k:Nat)(w:cd)(F:s.size<=1048576)(E:k<=s.size) :
  cJ bh 102 #[al s,ao ar (k:Nat)] w fun e w'=>e=bk (ao ar ((k+cO (s.data.toList.drop k):Nat):Int))/\w=w':=by
 obtain⟨q,x⟩:∃q,k+cO (s.data.toList.drop k)=q:=⟨_,rfl⟩;rw[x];have A:=Hh x;clear x;go_in;go_wp2;go_loop [1] (fun i=>∃j:Nat,i=ao ar (j:Int)/\j<=s.size/\j+cO (s.data.toList.drop j)=q) (fun i=>s.size-(cR i).toNat)
 .exact⟨k,rfl,E,A.out⟩
 clear A;obtain⟨j,rfl,D,o⟩:=hrel
 by_cases c:j<s.size
 .have Aa:=Km s.data.toList j (by rw[<-ak];exact c)
  rw[Aa,<-jW c] at o;clear Aa
  by_cases b:s[j]'c=10
  .have d:(((s[j]'c).toNat:Int) != 10)=false:=by rw[b];rfl
   rw[E4 b] at o;have v:=Hh o;clear o b;go_wp2;go_ret;exact⟨fC (by have:=v.out;omega),rfl⟩
  .have d:(((s[j]'c).toNat:Int) != 10)=true:=by
    have:=gu b (m:=10) rfl;rw[Fc] at this;rw[bne_iff_ne];exact this
   rw[E6 b] at o;have v:=Hh o;clear o b;go_wp2;go_round
   .exact⟨j+1,by go_num,by omega,by have:=v.out;omega⟩
   simp[cR];omega
 .obtain rfl:j=s.size:=by omega
  have B:cO (s.data.toList.drop s.size)=0:=by rw[ak,ei];rfl
  rw[B] at o;have v:=Hh o;clear o B;go_wp2;go_ret;exact⟨fC (by have:=v.out;omega),rfl⟩
theorem nL(s:E7)(k n:Nat)(i:Int)(w:cd)(o:s.size<=1048576)(j:k+n<=s.size) :
  cJ bh 96 #[al s,ao ar (k:Nat),ao ar i,ao ar (n:Nat)] w (Ey w [⟨i,s.extract k (k+n),(k:Nat)⟩] 0 0):=by
 go_in;go_wp2;have h:=(aa.new w #[an (aw ⟨w.heap.size+1,0,aq⟩) 1 1,ao ar 0,ao ar 0] 81).alloc (aE #[ao ar i,al (s.extract k (k+n)),ao ar (k:Nat)] 62);obtain⟨Ab,Ae,Ac,Af,Ad,Ag⟩:=h.n3 rfl;have Aa:=aS.one w.heap.size (w.alloc (aE #[an (aw ⟨w.heap.size+1,0,aq⟩) 1 1,ao ar 0,ao ar 0] 81)) ⟨i,s.extract k (k+n),(k:Nat)⟩ (by simp);rw[cF] at Aa;refine bj (v:=ew #[an (aw ⟨w.heap.size+1,0,aq⟩) 1 1,ao ar 0,ao ar 0]) (by simp[cD,Tryz.results96,go_sem,Ab,Ac,Ad]) rfl ?_;exact⟨_,rfl,Aa,((ba _ w).alloc lz _).alloc (by simp) _⟩
def Bz(s:E7)(k:Nat):LR->List ae×Int×Int
 |.tok kd n=>([⟨(kd:Nat),s.extract k (k+n),(k:Nat)⟩],0,0)
 |.bad o e=>([],((k+o:Nat):Int),e)
theorem UX(s:E7)(a b:Nat):bs (s.extract a b)=nb ((s.data.toList.take b).drop a):=by
 unfold bs nb;rw[fU]
theorem SN(l:Bs)(k:Nat):nb (l.drop k)=(nb l).drop k:=by unfold nb;rw[List.map_drop]
theorem ze(s:E7)(k stop kd:Nat)(w:cd)(hs:s.size<=1048576)(hk:k<=stop)(hst:stop<=s.size) :
  cJ bh 103 #[al s,ao ar (k:Nat),ao ar (stop:Nat),ao ar (kd:Nat)] w
   (Ey w (Bz s k (gp ((s.data.toList.take stop).drop k) kd)).1 (Bz s k (gp ((s.data.toList.take stop).drop k) kd)).2.1 (Bz s k (gp ((s.data.toList.take stop).drop k) kd)).2.2):=by
 obtain⟨L,hL⟩:∃L,(s.data.toList.take stop).drop k=L:=⟨_,rfl⟩;have Aq:L.length=stop-k:=by rw[<-hL,bm,c8,<-ak];omega
 have Ab:∀(j:Nat) W,j<=L.length->cJ bh 105 #[al (s.extract 0 stop),ao ar ((k+j:Nat):Int)] W fun e w'=>e=bk (.tuple #[ao ar (aG ((nb L).drop j)).1,ao ar (aG ((nb L).drop j)).2])/\cj W.heap.size W w':=fun j W hj=>by
  have h:=F8 (s.extract 0 stop) (k+j) W (by rw[mR hst];omega) (by rw[mR hst];omega);rw[UX,dd] at h;rw[<-hL,SN,c4];exact h
 rw[hL];clear hL;go_in;go_wp2;go_loopw [9,10,11] (fun i _ _ wr=>∃(j:Nat) (pre:List (Nat×Nat)),i=ao ar ((k+j:Nat):Int)/\j<=L.length/\oI (nb L) j pre/\(∀x∈pre,pG x=false)/\cj w.heap.size w wr/\aa wr w.heap.size #[an aq 0 0,ao ar 0,ao ar 0] 81) (fun i _ _ _=>stop-(cR i).toNat)
 .exact⟨0,[],rfl,ck _,oI.zero _,by simp,(ba _ w).alloc lz _,aa.new w _ _⟩
 obtain⟨j,pre,rfl,hj,hR,hg,C,H⟩:=hrel;have Ak:=H.lt
 by_cases h:j<L.length
 .have A0:k+j<stop:=by omega
  have T:=fun W=>Ab j W hj;obtain⟨c,n,h1⟩:∃c n,aG ((nb L).drop j)=(c,n):=⟨_,_,rfl⟩;rw[h1] at T;have As:=(lw ((nb L).drop j) ((gN L).drop j)).1;rw[h1] at As;simp only[bm,kr] at As;have HR:=Hh hR;have HG:=Hh hg;have H1:=Hh h1;clear hR hg h1 Ab
  by_cases hn:n=0
  .subst hn
   have J:CO L=aw (j,7):=by
    have Q:=HR.out.bad (by rw[kr];exact h) (by rw[H1.out]);rw[zX (by rw[Q];exact HG.out),Q]
   have M:=Hh J;clear J;go_wp2_with fail;refine (T _).mono ?_;rintro _ w2 ⟨rfl,A⟩;have Aa:=H.below A Ak;have Ao:=Aa.lt;have K:=Hh (C.trans (A.mono C.size));clear C A H;obtain⟨Ad,Ag,Ae,Ah,Af,Ai⟩:=Aa.n3 rfl;go_wp2;have U:=((Aa.setI 0 (an aq 0 0)).setI 1 (ao ar ((k:Int)+j))).setI 2 (ao ar 7);obtain⟨E,V,Y⟩:=U.m3 rfl;refine bj (v:=ew #[an aq 0 0,ao ar ((k:Int)+j),ao ar 7]) (by simp[cD,Tryz.results103,go_sem,E,V,Y]) rfl ?_;rw[mg M.out];exact⟨_,by simp[Bz],aS.nil,aZ _ _ lz [an aq 0 0,ao ar ((k:Int)+j),ao ar 7] 0 _ _ K.out⟩
  .have Ar:=HR.out.good (by rw[kr];exact h) H1.out hn
   have A1:((n:Int)==0)=false:=by rw[Fc];omega
   have Al:=Hh Ar;clear Ar
   by_cases E:c<32/\c≠9
   .have d1:decide ((c:Int)<32)=true:=by rw[decide_eq_true_eq];omega
    have d2:((c:Int) != 9)=true:=by rw[bne_iff_ne];omega
    have Ac:pG (j,c)=true:=by simp[pG,E.1,E.2]
    have J:CO L=aw (j,3):=Gg (x:=(j,c)) ⟨(scan ((nb L).drop (j+n)) (j+n)).1,by have:=Al.out;unfold oI at this;rw[this]⟩ HG.out Ac;clear E Ac;have M:=Hh J;clear J;go_wp2_with fail;refine (T _).mono ?_;rintro _ w2 ⟨rfl,A⟩;have Aa:=H.below A Ak;have Ao:=Aa.lt;have K:=Hh (C.trans (A.mono C.size));clear C A H;obtain⟨Ad,Ag,Ae,Ah,Af,Ai⟩:=Aa.n3 rfl;go_wp2;have U:=((Aa.setI 0 (an aq 0 0)).setI 1 (ao ar ((k:Int)+j))).setI 2 (ao ar 3);obtain⟨E,V,Y⟩:=U.m3 rfl;refine bj (v:=ew #[an aq 0 0,ao ar ((k:Int)+j),ao ar 3]) (by simp[cD,Tryz.results103,go_sem,E,V,Y]) rfl ?_;rw[mg M.out];exact⟨_,by simp[Bz],aS.nil,aZ _ _ lz [an aq 0 0,ao ar ((k:Int)+j),ao ar 3] 0 _ _ K.out⟩
   .have Ac:pG (j,c)=false:=by
     simp only[pG,vd,decide_eq_false_iff_not,bne_eq_false_iff_eq];omega
    have Ap:=Hh (yF HG.out Ac);have hr:32<=c\/c=9:=by omega
    have A2:1<=n:=by omega
    clear E Ac hn;rcases hr with hr|hr
    .have d1:decide ((c:Int)<32)=false:=by rw[decide_eq_false_iff_not];omega
     go_wp2_with fail;refine (T _).mono ?_;rintro _ w2 ⟨rfl,A⟩;have Aa:=H.below A Ak;have Am:=C.trans (A.mono C.size);go_wp2;go_roundw
     .exact⟨j+n,_,by go_num,by omega,Al.out,Ap.out,Am,Aa⟩
     simp[cR];omega
    .have d1:decide ((c:Int)<32)=true:=by rw[decide_eq_true_eq];omega
     have d2:((c:Int) != 9)=false:=by rw[bne_eq_false_iff_eq];omega
     go_wp2_with fail;refine (T _).mono ?_;rintro _ w2 ⟨rfl,A⟩;have Aa:=H.below A Ak;have Am:=C.trans (A.mono C.size);go_wp2;go_roundw
     .exact⟨j+n,_,by go_num,by omega,Al.out,Ap.out,Am,Aa⟩
     simp[cR];omega
 .obtain rfl:j=L.length:=by omega
  have J:CO L=aq:=by
   have Q:=hR.done (by rw[kr]);rw[zX (by rw[Q];exact hg),Q]
  have An:k+L.length=stop:=by omega
  have M:=Hh J;have Az:=Hh Aq;clear J hR hg Ab h Aq;rw[An];have Aa:=H;have K:=Hh C;clear C;obtain⟨At,Aw,Au,Ax,Av,Ay⟩:=H.n3 rfl;go_wp2;have U:=(((Aa.setI 0 (an (aw ⟨wr.heap.size,0,aq⟩) 1 1)).setI 1 (ao ar 0)).setI 2 (ao ar 0)).alloc (aE #[ao ar (kd:Nat),al (s.extract k stop),ao ar (k:Nat)] 62);obtain⟨E,V,Y⟩:=U.m3 rfl;refine bj (v:=ew #[an (aw ⟨wr.heap.size,0,aq⟩) 1 1,ao ar 0,ao ar 0]) (by simp[cD,Tryz.results103,go_sem,E,V,Y]) rfl ?_;rw[nP M.out];have Aj:=aS.one w.heap.size (aj wr w.heap.size 0 [an (aw ⟨wr.heap.size,0,aq⟩) 1 1,ao ar 0,ao ar 0]) ⟨(kd:Nat),s.extract k (k+L.length),(k:Nat)⟩ (by rw[aD];exact K.out.size);rw[aD,An] at Aj;exact⟨_,rfl,by simp only[Bz];rw[An];exact Aj,(aZ _ _ lz [an (aw ⟨wr.heap.size,0,aq⟩) 1 1,ao ar 0,ao ar 0] 0 _ _ K.out).alloc (by rw[aD];exact K.out.size) _⟩
def CR(x:Bs×Int×Bool)(c:UInt8):Bs×Int×Bool:=
 if c=46 then (x.1,x.2.1,true) else (if x.1≠[]\/c≠48 then x.1++[c] else x.1,if x.2.2 then x.2.1-1 else x.2.1,x.2.2)
theorem JA(a:Bs)(c:UInt8):jN (a++[c]) 48=if jN a 48≠[]\/c≠48 then jN a 48++[c] else jN a 48:=by
 unfold jN
 induction a with
 |nil=>
  by_cases h:c=48
  .subst h;rfl
  .simp[h,List.dropWhile]
 |cons x a ih=>
  by_cases h:x=48
  .subst h
   simpa [rK] using ih
  .simp[rK,h]
theorem vE(p:Bool):∀(b a:Bs) (e:Int),b.all dg=true->b.foldl CR (jN a 48,e,p)=(jN (a++b) 48,if p then e-b.length else e,p)
 |[],a,e,_=>by simp
 | c::b,a,e,h=>by
  rw[ri,cP] at h;have hc:c≠46:=uU h.1 (by decide)
  have h1:CR (jN a 48,e,p) c=(jN (a++[c]) 48,if p then e-1 else e,p):=by
   rw[CR,E6 hc,JA]
  rw[oT,h1,vE p b (a++[c]) _ h.2,List.append_assoc,fc,bc];cases p
  .rfl
  .simp only[if_true]
   congr 2
   omega
section
variable {l:Bs} {neg:Bool} {ip fr mk sg pw:Bs}
theorem bI.gather(h:bI l neg ip fr mk sg pw):∃p,(aH ip fr).foldl CR ([],0,false)=(jQ ip fr,-(fr.length:Int),p):=by
 have c:(([]:Bs),(0:Int),false)=(jN [] 48,(0:Int),false):=rfl;rw[aH,sx,c,vE false ip [] 0 h.dip,cM]
 by_cases a:fr=[]
 .subst a
  exact⟨false,by simp[jQ]⟩
 .rw[E6 a,oT]
  have i:CR (jN ip 48,if false then (0:Int)-ip.length else 0,false) 46=(jN ip 48,0,true):=rfl;rw[i,vE true fr ip 0 h.dfr];exact⟨true,by simp[jQ]⟩
end
def Ll(x:Nat×Bool)(c:UInt8):Nat×Bool:=(if dg c then uI x.1 c else x.1,x.2 || decide (c=45))
theorem qF:∀(b:Bs) (n:Nat) (p:Bool),b.all dg=true->b.foldl Ll (n,p)=(b.foldl uI n,p)
 |[],_,_,_=>rfl
 | c::b,n,p,h=>by
  rw[ri,cP] at h;have hc:decide (c=45)=false:=decide_eq_false (uU h.1 (by decide));rw[oT,oT,Ll,E4 h.1,hc,my,qF b _ p h.2]
theorem EW(f b:Bs)(c:f=[]\/f=[43]\/f=[45])(a:b.all dg=true):(f++b).foldl Ll (0,false)=(b.foldl uI 0,decide (f=[45])):=by
 rcases c with rfl|rfl|rfl
 .exact qF b 0 false a
 .rw[sx];exact qF b 0 false a
 .rw[sx];exact qF b 0 true a
theorem Ac(a:Bs)(c:UInt8):oy (a++[c]) 48=if c=48 then oy a 48 else a++[c]:=by
 unfold oy;rw[o4,List.reverse_cons,List.reverse_nil,cM,fc,rK]
 by_cases h:c=48
 .subst h;simp
 .simp[h]
open Go.RowKit Go.Tab
theorem GR(s:E7)(k:Nat)(w:cd)(h:k<s.size)(b:48<=(s[k]'h).toNat/\(s[k]'h).toNat<=57) :
  cJ bh 130 #[al s,ao ar k] w fun r w'=>r=bk (cG true)/\w=w':=by
 go_in;go_wp2;go_ret;refine⟨?_,rfl⟩;show jj (cG (decide _))=_;rw[decide_eq_true (by omega)]
theorem LC(s:E7)(k:Nat)(w:cd)(h:k<s.size)(c:¬(48<=(s[k]'h).toNat/\(s[k]'h).toNat<=57)) :
  cJ bh 130 #[al s,ao ar k] w fun r w'=>r=bk (cG false)/\w=w':=by
 have Aa:(s[k]'h).toNat<48\/(48<=(s[k]'h).toNat/\57<(s[k]'h).toNat):=by omega
 clear c;rcases Aa with b|b
 all_goals
  go_in;go_wp2;go_ret;refine⟨?_,rfl⟩;first|rfl|(show jj (cG (decide _))=_;rw[decide_eq_false (by omega)])
theorem CX(neg:Bool)(d:E7)(e:Int)(w:cd)(Y:d.size<=1048576) :
  cJ bh 132 #[ew #[cG neg,al d,ao ar e]] w fun r w'=>r=bk (cG (rC neg d e))/\cj w.heap.size w w':=by
 have Al:=aa.new w #[cG neg,al d,ao ar e] 136;have Ab:cj w.heap.size w (w.alloc (aE #[cG neg,al d,ao ar e] 136)):=(ba _ w).alloc lz _
 by_cases K:d.size=0
 .have x:=Hh (Bq (neg:=neg) (e:=e) K)
  cases neg
  all_goals
   go_in;go_wp2;go_ret;refine⟨?_,Ab⟩;rw[x.out];first|rfl|(congr 2;by_cases P:e=0<;>simp[P])
 .by_cases D:1000<d.size\/e < -10000\/10000<e
  .have x:=Hh (vL (neg:=neg) K D)
   have Ak:1000<d.size\/(d.size<=1000/\e < -10000)\/(d.size<=1000/\-10000<=e/\10000<e):=by omega
   clear D;have q0:((d.size:Int)==0)=false:=by rw[Fc];omega
   have U:decide ((1000:Int)<(d.size:Int))=decide (1000<d.size):=by congr 1;apply propext;omega
   have V:decide (e < -10000)=decide (e < -10000):=rfl;rcases Ak with D|⟨D,M⟩|⟨D,M,S⟩
   all_goals
    go_in;go_wp2;go_ret;refine⟨?_,Ab⟩;rw[x.out];try rfl
  .have O:=Hh D
   have M:d.size<=1000/\-10000<=e/\e<=10000:=by omega
   clear D;have I:0<d.size:=by omega
   go_in;go_wp2;go_loop [3] (fun i=>∃k:Nat,k<=d.size/\i=ao ar (k:Int)/\∀j (hj:j<d.size),j<k->48<=(d[j]'hj).toNat/\(d[j]'hj).toNat<=57) (fun i=>d.size-(cR i).toNat)
   .exact⟨0,ck _,rfl,fun j _ h=>by omega⟩
   obtain⟨k,T,rfl,Aa⟩:=hrel;have E:=Hh Aa;clear Aa;obtain⟨Ac,Af,Ad,Ag,Ae,Ah⟩:=Al.n3 rfl
   by_cases v:k<d.size
   .by_cases u:48<=(d[k]'v).toNat/\(d[k]'v).toNat<=57
    .have Aj:Hid (∀j (hj:j<d.size),j<k+1->48<=(d[j]'hj).toNat/\(d[j]'hj).toNat<=57):=Hh (fun j hj h=>by
      by_cases H:j=k
      .subst H;exact u
      .exact E.out j hj (by omega))
     clear E;have G:=fun W=>GR d k W v u;go_wp2_with fail;refine (G _).mono ?_;rintro _ Q ⟨rfl,rfl⟩;go_wp2;go_round
     .exact⟨k+1,by omega,by go_num,Aj.out⟩
     simp[cR];omega
    .have x:=Hh (Ib (neg:=neg) (e:=e) v u)
     have G:=fun W=>LC d k W v u;clear u;go_wp2_with fail;refine (G _).mono ?_;rintro _ Q ⟨rfl,rfl⟩;go_wp2;go_ret;refine⟨?_,Ab⟩;rw[x.out];try rfl
   .obtain rfl:k=d.size:=by omega
    have x:=Hh (Ia (neg:=neg) I O.out (fun j hj=>E.out j hj hj))
    by_cases J:(d[0]'I).toNat=48
    .go_wp2
     go_ret;refine⟨?_,Ab⟩;rw[x.out];simp[J]
    .go_wp2
     go_ret;refine⟨?_,Ab⟩;rw[x.out];have Ai:¬(((d[0]'I).toNat:Int)=48):=by omega
     by_cases N:(d[d.size-1]'(by omega)).toNat=48
     .simp[J,Ai,N,bne]
     .have Am:¬(((d[d.size-1]'(by omega)).toNat:Int)=48):=by omega
      simp[J,Ai,N,Am,bne]
def mU(s:E7)(k:Nat):Bool:=decide (bN (s.data.toList.drop k)≠0)
theorem lH(h:¬k<s.size):s.data.toList.drop k=[]:=by
 rw[List.drop_eq_nil_iff,<-ak];omega
theorem ul(h:k<s.size):bN (s.data.toList.drop k)=if dg (s[k]'h) then bN (s.data.toList.drop (k+1))+1 else 0:=by
 rw[fI h,bN]
theorem Rf:dg c=true↔48<=c.toNat/\c.toNat<=57:=by simp[dg,Mo]
theorem rW(s:E7)(k:Nat)(w:cd)(c:k<=4611686018427387904) :
  cJ bh 130 #[al s,ao ar k] w fun r w'=>r=bk (cG (mU s k))/\w=w':=by
 by_cases h:k<s.size
 .by_cases a:48<=(s[k]'h).toNat/\(s[k]'h).toNat<=57
  .have:mU s k=true:=by
    rw[mU,ul h,E4 (Rf.2 a)];simp
   rw[this];exact GR s k w h a
  .have:mU s k=false:=by
    rw[mU,ul h,E6 (fun e=>a (Rf.1 e))];rfl
   rw[this];exact LC s k w h a
 .have b:=Hh (show mU s k=false by rw[mU,lH h];rfl)
  go_in;go_wp2;go_ret;exact⟨by rw[b.out];rfl,rfl⟩
theorem AB(s:E7)(i:Nat)(w:cd)(D:s.size<=1048576)(hi:i<=s.size) :
  cJ bh 131 #[al s,ao ar i] w fun r w'=>r=bk (ao ar (i+bN (s.data.toList.drop i):Nat))/\w=w':=by
 obtain⟨z,j⟩:∃z,i+bN (s.data.toList.drop i)=z:=⟨_,rfl⟩;rw[j];have v:=Hh j;clear j;go_in;go_wp2;go_loop [1] (fun x=>∃k:Nat,k<=s.size/\x=ao ar k/\k+bN (s.data.toList.drop k)=z) (fun x=>s.size-(cR x).toNat)
 .exact⟨i,hi,rfl,v.out⟩
 obtain⟨k,C,rfl,u⟩:=hrel;have o:=Hh u;clear u;have b:=fun W=>rW s k W (by omega)
 cases hd:mU s k with
 |true=>
  have Aa:k<s.size:=by
   false_or_by_contra
   rename_i h;rw[mU,lH h] at hd;cases hd
  have c:=Hh (show k+1+bN (s.data.toList.drop (k+1))=z by
   have:=o.out;rw[ul Aa] at this;split at this
   .omega
   .next e=>rw[mU,ul Aa,E6 e] at hd;cases hd)
  rw[hd] at b;clear hd;go_wp2_with ((with_reducible refine (b _).mono ?_);rintro _ _ ⟨rfl,rfl⟩)
  go_round
  .exact⟨k+1,by omega,by go_num,c.out⟩
  simp[cR];omega
 |false=>
  have c:=Hh (show k=z by
   have:=o.out;have A:bN (s.data.toList.drop k)=0:=by simpa [mU] using hd
   omega)
  rw[hd] at b;clear hd;go_wp2_with ((with_reducible refine (b _).mono ?_);rintro _ _ ⟨rfl,rfl⟩)
  go_ret;exact⟨by rw[<-c.out];rfl,rfl⟩
theorem Ea(l:Bs):fH l=0↔bN l=0:=by
 cases l with
 |nil=>exact Iff.rfl
 |cons c l=>
  rw[fH];split
  .next h=>subst h;simp[bN,show dg 48=true from rfl]
  .exact Iff.rfl
theorem yo(s:E7)(w:cd)(hs:s.size<=1048576) :
  cJ bh 98 #[al s] w fun e w'=>e=bk (ao ar (dB s.data.toList:Nat))/\w=w':=by
 obtain⟨O,Aj⟩:∃O,nC s.data.toList=O:=⟨_,rfl⟩;have An:O<=s.size:=by rw[<-Aj,ak];exact Qp _
 have Ai:=fun W=>rW s O W (by omega)
 have Ax:O=0\/O=1:=by
  rw[<-Aj]
  cases s.data.toList with
  |nil=>exact .inl rfl
  |cons c l=>rw[nC];split<;>simp
 obtain⟨P,Ao⟩:∃P,O+fH (s.data.toList.drop O)=P:=⟨_,rfl⟩
 have Ay:P<=s.size:=by
  have:=L6 (s.data.toList.drop O);rw[bm,<-ak] at this;omega
 obtain⟨A,Al⟩:∃A,P+dm (s.data.toList.drop P)=A:=⟨_,rfl⟩
 have Az:A<=s.size:=by
  have:=IK (s.data.toList.drop P);rw[bm,<-ak] at this;omega
 have Av:mU s O=true->∃h:O<s.size,dg (s[O]'h)=true:=by
  intro Q
  by_cases h:O<s.size
  .refine⟨h,?_⟩
   rw[mU,ul h] at Q;split at Q
   .assumption
   .cases Q
  .rw[mU,lH h] at Q;cases Q
 have Aa:mU s O=true->dB s.data.toList=A+jl (s.data.toList.drop A):=by
  intro Q
  have hn:fH (s.data.toList.drop O)≠0:=by
   rw[Ne,Ea]
   simpa [mU] using Q
  rw[dB,Aj,E6 hn,Ao,gX,c4,Al,<-Al];omega
 obtain⟨bM,At⟩:∃b,decide (O=1)=b:=⟨_,rfl⟩;have Ae:=Hh At;clear At;have Ag:=Hh Aj;have Ap:=Hh Ao;have Am:=Hh Al;have Aq:=Hh Av;have Ah:=Hh Aa;clear Aj Ao Al Av Aa;go_in;go_upto_region 2 with fail
 go_cut [12] (fun x wc=>x=cG bM/\w=wc)
 case first=>
  by_cases L:0<s.size
  .by_cases G:s[0]'L=45
   .have Z:(((s[0]'L).toNat:Int)==45)=true:=by rw[G];rfl
    have J:Hid (O=1):=Hh (by rw[<-Ag.out,<-dd (l:=s.data.toList),fI L,G];rfl);clear G;go_wp2;go_meet
    case rel=>exact⟨by rw[<-Ae.out,decide_eq_true J.out],rfl⟩
   .have Z:(((s[0]'L).toNat:Int)==45)=false:=gu G rfl
    have J:Hid (O=0):=Hh (by rw[<-Ag.out,<-dd (l:=s.data.toList),fI L,nC,E6 G]);clear G;go_wp2;go_meet
    case rel=>exact⟨by rw[<-Ae.out,J.out];rfl,rfl⟩
  .have J:Hid (O=0):=Hh (by rw[<-Ag.out,<-dd (l:=s.data.toList),lH L,nC])
   go_wp2;go_meet
   case rel=>exact⟨by rw[<-Ae.out,J.out];rfl,rfl⟩
 obtain⟨rfl,rfl⟩:=hcut;go_upto_if 12 with fail
 go_cut [3] (fun x wc=>x=ao ar O/\w=wc)
 case first=>
  cases bM with
  |false=>
   have H:=Hh (show O=0 by have:=of_decide_eq_false Ae.out;omega);go_wp2;go_meet
   case rel=>exact⟨by rw[H.out];rfl,rfl⟩
  |true=>
   have H:=Hh (of_decide_eq_true Ae.out);go_wp2;go_meet
   case rel=>exact⟨by rw[H.out];rfl,rfl⟩
 obtain⟨rfl,rfl⟩:=hcut
 cases Q:mU s O with
 |false=>
  have Y:=Hh (show dB s.data.toList=0 by
   rw[dB,Ag.out,E4];rw[Ea]
   simpa [mU] using Q)
  rw[Q] at Ai;clear Q;go_wp2_with ((with_reducible refine (Ai _).mono ?_);rintro _ _ ⟨rfl,rfl⟩)
  go_ret;exact⟨by rw[Y.out];rfl,rfl⟩
 |true=>
  have HF:=Hh (Ah.out Q);obtain⟨Ak,Aw⟩:=Aq.out Q
  have Ac:Hid (P=if s[O]'Ak=48 then O+1 else O+bN (s.data.toList.drop O)):=Hh (by
   rw[<-Ap.out,fI Ak,fH]
   split<;>rfl)
  rw[Q] at Ai;clear Q Aw Aq Ah;go_upto_if 20 with ((with_reducible refine (Ai _).mono ?_);rintro _ _ ⟨rfl,rfl⟩)
  go_cut [3] (fun x wc=>x=ao ar P/\w=wc)
  case first=>
   by_cases V:s[O]'Ak=48
   .have Z:(((s[O]'Ak).toNat:Int)==48)=true:=by rw[V];rfl
    have J:Hid (P=O+1):=Hh (by rw[Ac.out,E4 V]);clear V;go_wp2;go_meet
    case rel=>exact⟨by rw[J.out];rfl,rfl⟩
   .have Z:(((s[O]'Ak).toNat:Int)==48)=false:=gu V rfl
    have J:Hid (P=O+bN (s.data.toList.drop O)):=Hh (by rw[Ac.out,E6 V]);have hR:=fun W=>AB s O W hs An;rw[<-J.out] at hR;clear V;go_wp2_with ((with_reducible refine (hR _).mono ?_);rintro _ _ ⟨rfl,rfl⟩)
    go_meet
    case rel=>exact⟨rfl,rfl⟩
  obtain⟨rfl,rfl⟩:=hcut;clear Ai Ac;obtain⟨bF,As⟩:∃b,decide (dm (s.data.toList.drop P)≠0)=b:=⟨_,rfl⟩;have Ad:=Hh As;clear As;go_upto_region 9 with fail
  go_cut [41] (fun x wc=>x=cG bF/\w=wc)
  case first=>
   by_cases L:P<s.size
   .by_cases G:s[P]'L=46
    .have Z:(((s[P]'L).toNat:Int)==46)=true:=by rw[G];rfl
     have hD:∀W,cJ bh 130 #[al s,ao ar ((P:Int)+1)] W fun r w'=>r=bk (cG (mU s (P+1)))/\W=w':=fun W=>rW s (P+1) W (by omega)
     have J:mU s (P+1)=bF:=by
      rw[<-Ad.out,fI L,dm,G,mU]
      by_cases Y:bN (s.data.toList.drop (P+1))=0
      .rw[E6 (by simp[Y])];simp[Y]
      .rw[E4 ⟨rfl,Y⟩];simp[Y]
     rw[J] at hD;clear G J;go_wp2_with ((with_reducible refine (hD _).mono ?_);rintro _ _ ⟨rfl,rfl⟩)
     go_meet
     case rel=>exact⟨rfl,rfl⟩
    .have Z:(((s[P]'L).toNat:Int)==46)=false:=gu G rfl
     have J:Hid (bF=false):=Hh (by rw[<-Ad.out,fI L,dm,E6 (fun e=>G e.1)];rfl);clear G;go_wp2;go_meet
     case rel=>exact⟨by rw[J.out],rfl⟩
   .have J:Hid (bF=false):=Hh (by rw[<-Ad.out,lH L];rfl)
    go_wp2;go_meet
    case rel=>exact⟨by rw[J.out],rfl⟩
  obtain⟨rfl,rfl⟩:=hcut;go_upto_if 41 with fail
  go_cut [3] (fun x wc=>x=ao ar A/\w=wc)
  case first=>
   cases bF with
   |false=>
    have H:=Hh (show A=P by have G:=of_decide_eq_false Ad.out;have:=Am.out;omega);go_wp2;go_meet
    case rel=>exact⟨by rw[H.out],rfl⟩
   |true=>
    have G:=of_decide_eq_true Ad.out
    have L:P<s.size:=by
     false_or_by_contra
     rename_i h;rw[lH h] at G;exact G rfl
    have hR:∀W,cJ bh 131 #[al s,ao ar ((P:Int)+1)] W fun r w'=>r=bk (ao ar (P+1+bN (s.data.toList.drop (P+1)):Nat))/\W=w':=fun W=>AB s (P+1) W hs (by omega)
    have J:P+1+bN (s.data.toList.drop (P+1))=A:=by
     rw[<-Am.out];rw[fI L,dm] at G ⊢;split at G
     .next T=>rw[E4 T];omega
     .exact absurd rfl G
    rw[J] at hR;clear G J;go_wp2_with ((with_reducible refine (hR _).mono ?_);rintro _ _ ⟨rfl,rfl⟩)
    go_meet
    case rel=>exact⟨rfl,rfl⟩
  obtain⟨rfl,rfl⟩:=hcut;clear Ad Ae Ag Ap Am;obtain⟨bE,Ar⟩:∃b:Bool,(∃h:A<s.size,s[A]'h=101\/s[A]'h=69)↔b=true:=⟨decide (∃h:A<s.size,s[A]'h=101\/s[A]'h=69),by simp⟩;have Ab:=Hh Ar;clear Ar;go_upto_region 11 with fail
  go_cut [61] (fun x wc=>x=cG bE/\w=wc)
  case first=>
   by_cases L:A<s.size
   .by_cases G:s[A]'L=101
    .have Z:(((s[A]'L).toNat:Int)==101)=true:=by rw[G];rfl
     have J:Hid (bE=true):=Hh (Ab.out.1 ⟨L,.inl G⟩);clear G;go_wp2;go_meet
     case rel=>exact⟨by rw[J.out],rfl⟩
    .have Z:(((s[A]'L).toNat:Int)==101)=false:=gu G rfl
     by_cases T:s[A]'L=69
     .have d2:(((s[A]'L).toNat:Int)==69)=true:=by rw[T];rfl
      have J:Hid (bE=true):=Hh (Ab.out.1 ⟨L,.inr T⟩);clear G T;go_wp2;go_meet
      case rel=>exact⟨by rw[J.out],rfl⟩
     .have d2:(((s[A]'L).toNat:Int)==69)=false:=gu T rfl
      have J:Hid (bE=false):=Hh (by
       rw[so];intro e;obtain⟨_,h|h⟩:=Ab.out.2 e
       .exact G h
       .exact T h)
      clear G T;go_wp2;go_meet
      case rel=>exact⟨by rw[J.out],rfl⟩
   .have J:Hid (bE=false):=Hh (by
     rw[so];intro e;obtain⟨h,_⟩:=Ab.out.2 e
     exact L h)
    go_wp2;go_meet
    case rel=>exact⟨by rw[J.out],rfl⟩
  obtain⟨rfl,rfl⟩:=hcut
  cases bE with
  |false=>
   have Y:=Hh (show dB s.data.toList=A by
    rw[HF.out]
    by_cases L:A<s.size
    .have hn:¬(s[A]'L=101\/s[A]'L=69):=fun e=>by have:=Ab.out.1 ⟨L,e⟩;cases this
     rw[fI L,jl,E6 (fun e=>hn e.1)];rfl
    .rw[lH L];rfl)
   go_wp2;go_ret;exact⟨by rw[Y.out];rfl,rfl⟩
  |true=>
   obtain⟨L,hm⟩:=Ab.out.2 rfl;obtain⟨k,hk⟩:∃k,A+1+oN (s.data.toList.drop (A+1))=k:=⟨_,rfl⟩
   have A0:oN (s.data.toList.drop (A+1))<=1:=by
    cases s.data.toList.drop (A+1) with
    |nil=>exact ck _
    |cons c t=>rw[oN];split<;>omega
   have A4:A<=k/\k<=A+2:=by omega
   have Aa:=Hh (show dB s.data.toList=if bN (s.data.toList.drop k)=0 then A else k+bN (s.data.toList.drop k) by
    rw[HF.out,fI L,jl];simp only[hm,true_and];rw[c4,hk];split
    .next h=>(try rw[E6 h]);omega
    .next h=>first|rfl|(rw[E4 (by simpa using h)];rfl))
   have A1:k<=s.size:=by
    by_cases G:A+1<s.size
    .omega
    .rw[lH G] at hk
     simp only[oN] at hk;omega
   have HK:=Hh hk;clear hm hk A0 Ab HF;obtain⟨bS,Au⟩:∃b,decide (k=A+2)=b:=⟨_,rfl⟩;have Af:=Hh Au;clear Au;go_upto_region 13 with fail
   go_cut [79] (fun x wc=>x=cG bS/\w=wc)
   case first=>
    by_cases G:A+1<s.size
    .have A2:(A:Int)+1<(s.size:Int):=by omega
     have A3:0<=(A:Int)+1/\(A:Int)+1<(s.size:Int):=by omega
     by_cases T:s[A+1]'G=43
     .have Z:(((s[A+1]'G).toNat:Int)==43)=true:=by rw[T];rfl
      have J:Hid (bS=true):=Hh (by rw[<-Af.out,<-HK.out,fI G,oN,E4 (.inl T)];simp);clear T;go_wp2;go_meet
      case rel=>exact⟨by rw[J.out],rfl⟩
     .have Z:(((s[A+1]'G).toNat:Int)==43)=false:=gu T rfl
      by_cases h4:s[A+1]'G=45
      .have d2:(((s[A+1]'G).toNat:Int)==45)=true:=by rw[h4];rfl
       have J:Hid (bS=true):=Hh (by rw[<-Af.out,<-HK.out,fI G,oN,E4 (.inr h4)];simp);clear T h4;go_wp2;go_meet
       case rel=>exact⟨by rw[J.out],rfl⟩
      .have d2:(((s[A+1]'G).toNat:Int)==45)=false:=gu h4 rfl
       have J:Hid (bS=false):=Hh (by rw[<-Af.out,<-HK.out,fI G,oN,E6 (by simp[T,h4])];simp);clear T h4;go_wp2;go_meet
       case rel=>exact⟨by rw[J.out],rfl⟩
    .have J:Hid (bS=false):=Hh (by rw[<-Af.out,<-HK.out,lH G];simp[oN])
     go_wp2;go_meet
     case rel=>exact⟨by rw[J.out],rfl⟩
   obtain⟨rfl,rfl⟩:=hcut;go_upto_if 79 with fail
   go_cut [4] (fun x wc=>x=ao ar k/\w=wc)
   case first=>
    cases bS with
    |false=>
     have H:=Hh (show (A:Int)+1=(k:Int) by
      have G:=of_decide_eq_false Af.out;have:=HK.out
      omega)
     go_wp2;go_meet
     case rel=>exact⟨by first|rw[H.out]|(congr 1;exact H.out),rfl⟩
    |true=>
     have H:=Hh (show (A:Int)+1+1=(k:Int) by
      have G:=of_decide_eq_true Af.out
      omega)
     go_wp2;go_meet
     case rel=>exact⟨by first|rw[H.out]|(congr 1;have:=H.out;omega),rfl⟩
   obtain⟨rfl,rfl⟩:=hcut;have hD:=fun W=>rW s k W (by omega);have hR:=fun W=>AB s k W hs A1
   cases Q:mU s k with
   |false=>
    have Y:Hid (dB s.data.toList=A):=Hh (by rw[Aa.out,E4 (by simpa [mU] using Q)]);rw[Q] at hD;clear Q;go_wp2_with ((with_reducible refine (hD _).mono ?_);rintro _ _ ⟨rfl,rfl⟩)
    go_ret;exact⟨by rw[Y.out];rfl,rfl⟩
   |true=>
    have Y:Hid (dB s.data.toList=k+bN (s.data.toList.drop k)):=Hh (by rw[Aa.out,E6 (by simpa [mU] using Q)]);rw[Q] at hD;clear Q;go_wp2_with (first|((with_reducible refine (hD _).mono ?_);rintro _ _ ⟨rfl,rfl⟩)|((with_reducible refine (hR _).mono ?_);rintro _ _ ⟨rfl,rfl⟩))
    go_ret;exact⟨by rw[Y.out];rfl,rfl⟩
theorem JZ(s:E7)(w:cd)(j:s.size<=1048576)(h:s.data.toList=[]\/dB s.data.toList≠s.size) :
  cJ bh 99 #[al s] w fun e w'=>e=bk (eQ ((false,[],0),3))/\cj w.heap.size w w':=by
 by_cases b:s.size=0
 .have i:s=⟨#[]⟩:=KJ b
  subst i;clear h b j;go_in;go_wp2;refine bj (v:=eQ ((false,[],0),3)) (by simp[cD,u4,go_sem,eQ,au]) rfl ⟨rfl,?_⟩
  (with_reducible repeat' first|refine ea ?_ ?_ _|refine ej ?_ ?_ _|refine ed ?_|refine ag ?_ _|assumption|exact ba _ _|(simp only[cF,World.size_setCell,World.size_drew];first|done|omega)|omega)
 .have Aa:=vM b
  have A:((s.size:Int)==0)=false:=by rw[Fc];omega
  have x:((dB s.data.toList:Int) != (s.size:Int))=true:=by
   rcases h with h|h
   .rw[ak,h] at b;exact absurd rfl b
   .rw[bne_iff_ne];omega
  have f:=fun W=>yo s W j;clear h b;go_in;go_wp2_with fail;refine (f _).mono ?_;rintro _ _ ⟨rfl,rfl⟩;go_wp2;refine bj (v:=eQ ((false,[],0),3)) (by simp[cD,u4,go_sem,eQ,au]) rfl ⟨rfl,?_⟩
  (with_reducible repeat' first|refine ea ?_ ?_ _|refine ej ?_ ?_ _|refine ed ?_|refine ag ?_ _|assumption|exact ba _ _|(simp only[cF,World.size_setCell,World.size_drew];first|done|omega)|omega)
theorem IJ{m:UInt8}(h:dg c=true\/c=46)(a:dg m=false/\m≠46):c≠m:=by
 rcases h with h|rfl
 .exact uU h a.1
 .exact a.2.symm
theorem Pg{n:UInt8}(h:c≠n){m:Int}(a:(n.toNat:Int)=m):((c.toNat:Int) != m)=true:=by
 rw[bne,gu h a];rfl
theorem Cc(d:Bs):d=[]\/∃d' c,d=d'++[c]:=by
 rcases List.eq_nil_or_concat d with h|⟨d',c,h⟩
 .exact .inl h
 .exact .inr ⟨d',c,by rw[h,List.concat_eq_append]⟩
theorem GX(s:E7)(neg:Bool)(ip fr mk sg pw:Bs)(w:cd)(hs:s.size<=1048576)(h:bI s.data.toList neg ip fr mk sg pw) :
  cJ bh 99 #[al s] w fun e w'=>e=bk (eQ (iJ neg ip fr (zq sg pw)))/\cj w.heap.size w w':=by
 have BO:s.size≠0:=by rw[ak];exact qR h.scan.2
 have hz:((s.size:Int)==0)=false:=by rw[Fc];omega
 have Aw:0<s.size:=by omega
 have hn:((dB s.data.toList:Int) != (s.size:Int))=false:=by
  rw[h.scan.1,ak];exact bne_self_eq_false _
 have hS:=fun W=>yo s W hs;obtain⟨Aa,Ag⟩:∃Aa,(if neg then 1 else 0)=Aa:=⟨_,rfl⟩;have B1:Aa<=1:=by rw[<-Ag];split<;>omega
 obtain⟨F,hF⟩:∃F,aH ip fr=F:=⟨_,rfl⟩;obtain⟨R,hR⟩:∃R,sg++pw=R:=⟨_,rfl⟩;have AE:s.data.toList=(if neg then [45] else [])++(F++(mk++R)):=by rw[<-hF,<-hR];exact h.eq'
 have Bq:s.size=Aa+F.length+mk.length+R.length:=by
  rw[ak,AE,<-Ag];simp only[cm];split<;>simp<;>omega
 have AX:∀j (hj:Aa+j<s.size),s[Aa+j]'hj=(F++(mk++R))[j]'(by simp only[cm];omega):=by
  intro j hj;rw[jW]
  have h1:s.data.toList[Aa+j]?=(F++(mk++R))[j]?:=by
   rw[AE,<-Ag];cases neg
   .simp
   .simp[Nat.add_comm 1]
  rw[br (by rw[<-ak];exact hj),br (by simp only[cm];omega)] at h1;exact dt h1
 have Bn:(((s[0]'Aw).toNat:Int)==45)=neg:=by
  cases neg with
  |true=>
   have:s[0]'Aw=45:=by
    rw[jW];have h1:s.data.toList[0]?=aw 45:=by rw[AE];rfl
    rw[br (by rw[<-ak];exact Aw)] at h1;exact dt h1
   rw[this];rfl
  |false=>
   have BF:=h.ip0;have BB:=h.dip
   have h1:∃c,dg c=true/\s.data.toList[0]?=aw c:=by
    rw[AE,<-hF,aH]
    cases ip with
    |nil=>exact absurd rfl BF
    |cons c p=>exact⟨c,sS BB (c:=c) rfl,rfl⟩
   obtain⟨c,hc,h2⟩:=h1;rw[br (by rw[<-ak];exact Aw)] at h2;rw[jW,dt h2];exact gu (n:=45) (uU hc (by decide)) rfl
 have AF:∀i (hi:i<s.size) (h1:Aa<=i) (h2:i-Aa<F.length),s[i]'hi=F[i-Aa]:=by
  intro i hi h1 h2;have:=AX (i-Aa) (by omega);simp only[pd h1] at this;rw[this,List.getElem_append_left h2]
 have AG:∀i (hi:i<s.size) (h1:Aa+F.length+mk.length<=i) (h2:i-(Aa+F.length+mk.length)<R.length),s[i]'hi=R[i-(Aa+F.length+mk.length)]:=by
  intro i hi h1 h2;have:=AX (i-Aa) (by omega);simp only[pd (show Aa<=i by omega)] at this;rw[this,lP (by omega),lP (by omega)]
  congr 1
  omega
 have Bx:∀x∈F,dg x=true\/x=46:=fun x hx=>h.front_mem (by rw[hF];exact hx);obtain⟨pF,Bl⟩:=h.gather;rw[hF] at Bl
 have Bz:R.foldl Ll (0,false)=(pw.foldl uI 0,decide (sg=[45])):=by
  rw[<-hR];refine EW sg pw ?_ h.dpw;rcases h.exp with ⟨_,h2,_⟩|⟨_,h2,_⟩
  .exact .inl h2
  .exact h2
 have AD:(jQ ip fr).length<=1048576:=by
  have h1:=Ad (ip++fr);have h2:=h.len.1;rw[<-ak] at h2;rw[cm] at h1;unfold jQ;omega
 have BW:fr.length<=1048576:=by have h2:=h.len.1;rw[<-ak] at h2;omega
 have HF:=Hh AF;have HR:=Hh AG;have B3:=Hh Bx;have B5:=Hh Bl;have B6:=Hh Bz;have AA:=Hh Bq
 have BL:(mk=[]/\R=[])\/mk=[101]\/mk=[69]:=by
  rcases h.exp with ⟨h1,h2,h3⟩|⟨h1,_,_⟩
  .exact .inl ⟨h1,by rw[<-hR,h2,h3];rfl⟩
  .exact .inr h1
 have Af:∀m,mk=[m]->∃hi:Aa+F.length<s.size,s[Aa+F.length]'hi=m:=by
  intro m hm;have hi:Aa+F.length<s.size:=by rw[Bq,hm];simp;omega
  refine⟨hi,?_⟩;rw[AX F.length hi,lP lz];subst hm;simp
 obtain⟨q,hq⟩:∃q,Aa+F.length=q:=⟨_,rfl⟩;rw[hq] at Af;have Hq:=Hh hq;have BY:q<=s.size:=by omega
 have BN:Aa<=q:=by omega
 clear AE AX AF AG Bx Bl Bz hF hR BO Bq hq;rcases BL with ⟨rfl,hRn⟩|rfl|rfl
 all_goals
  first
   | (
    clear Af;have Ar:=Hh (show s.size=q by have:=AA.out;have:=Hq.out;rw[hRn] at *;simp at *;omega);have Bo:¬q<s.size:=by have:=Ar.out;omega
    have A3:Hid (∀k (hk:k<s.size) (h1:q+1<=k) (h2:k-(q+1)<R.length),s[k]'hk=R[k-(q+1)]):=Hh (fun k hk h1 h2=>by have:=Ar.out;omega);have Bf:Hid (∀k,k<s.size->q+1<=k->k-(q+1)<R.length):=Hh (fun k hk h1=>by have:=Ar.out;omega);have Be:Hid (∀k,¬k<s.size->q+1<=k->k<=q+1+R.length->k-(q+1)=R.length):=Hh (fun k _ _ h=>by rw[hRn] at h ⊢;simp at h ⊢;omega);have A2:R.length<=1048576:=by rw[hRn];simp
    clear HR AA hRn
    have Bp:=True.intro)
   | (
    obtain⟨Bb,AC⟩:=Af _ rfl;clear Af;have Ar:=Hh (show s.size=q+1+R.length by have:=AA.out;have:=Hq.out;simp at *;omega)
    have A3:Hid (∀k (hk:k<s.size) (h1:q+1<=k) (h2:k-(q+1)<R.length),s[k]'hk=R[k-(q+1)]):=Hh (fun k hk h1 h2=>by
     have e:=Hq.out;subst e
     exact HR.out k hk h1 h2)
    have Bf:Hid (∀k,k<s.size->q+1<=k->k-(q+1)<R.length):=Hh (fun k hk h1=>by have:=Ar.out;omega);have Be:Hid (∀k,¬k<s.size->q+1<=k->k<=q+1+R.length->k-(q+1)=R.length):=Hh (fun k h1 h2 h3=>by have:=Ar.out;omega);have A2:R.length<=1048576:=by have:=Ar.out;omega
    clear HR AA;have Bo:(((s[q]'Bb).toNat:Int) != 101)=false:=by rw[AC];rfl
    clear AC
    have Bp:=True.intro)
   | (
    obtain⟨Bb,AC⟩:=Af _ rfl;clear Af;have Ar:=Hh (show s.size=q+1+R.length by have:=AA.out;have:=Hq.out;simp at *;omega)
    have A3:Hid (∀k (hk:k<s.size) (h1:q+1<=k) (h2:k-(q+1)<R.length),s[k]'hk=R[k-(q+1)]):=Hh (fun k hk h1 h2=>by
     have e:=Hq.out;subst e
     exact HR.out k hk h1 h2)
    have Bf:Hid (∀k,k<s.size->q+1<=k->k-(q+1)<R.length):=Hh (fun k hk h1=>by have:=Ar.out;omega);have Be:Hid (∀k,¬k<s.size->q+1<=k->k<=q+1+R.length->k-(q+1)=R.length):=Hh (fun k h1 h2 h3=>by have:=Ar.out;omega);have A2:R.length<=1048576:=by have:=Ar.out;omega
    clear HR AA;have Bo:(((s[q]'Bb).toNat:Int) != 101)=true:=by rw[AC];rfl
    have Bp:(((s[q]'Bb).toNat:Int) != 69)=false:=by rw[AC];rfl
    clear AC)
  go_in;go_wp2_with fail;refine (hS _).mono ?_;rintro _ _ ⟨rfl,rfl⟩;go_upto_if 23 with fail
  clear hS hz hn;go_cut [5] (fun x wc=>x=ao ar Aa/\aa wc w.heap.size #[cG false,al ⟨#[]⟩,ao ar 0] 136/\aa wc (w.heap.size+1) #[cG neg,al ⟨#[]⟩,ao ar 0] 136/\cj w.heap.size w wc)
  case first=>
   have By:=fun b:Bool=>(show cj w.heap.size w ((w.alloc (aE #[cG false,al ⟨#[]⟩,ao ar 0] 136)).alloc (aE #[cG b,al ⟨#[]⟩,ao ar 0] 136)) from ((ba _ w).alloc lz _).alloc (by simp) _);have AY:=fun b:Bool=>(aa.new w #[cG false,al ⟨#[]⟩,ao ar 0] 136).alloc (aE #[cG b,al ⟨#[]⟩,ao ar 0] 136);have Bi:=fun b:Bool=>aa.new (w.alloc (aE #[cG false,al ⟨#[]⟩,ao ar 0] 136)) #[cG b,al ⟨#[]⟩,ao ar 0] 136;rw[cF] at Bi
   cases neg with
   |false=>
    have A4:=Hh (show 0=Aa from Ag);clear Ag;go_wp2;go_meet
    case rel=>exact⟨by rw[<-A4.out];rfl,AY _,Bi _,By _⟩
   |true=>
    have A4:=Hh (show 1=Aa from Ag);clear Ag;go_wp2;go_meet
    case rel=>exact⟨by rw[<-A4.out];rfl,AY _,Bi _,By _⟩
  obtain⟨rfl,hx,hy,hb⟩:=hcut;clear Bn Ag;go_wp2;go_loopw [5,6] (fun x5 x6 wr=>∃(i:Nat) (d:Bs) (e:Int) (p:Bool),x5=ao ar i/\x6=cG p/\Aa<=i/\i<=q/\(F.take (i-Aa)).foldl CR ([],0,false)=(d,e,p)/\-(i:Int)<=e/\e<=0/\d.length<=i/\aa wr w.heap.size #[cG false,al ⟨#[]⟩,ao ar 0] 136/\aa wr (w.heap.size+1) #[cG neg,al (au d),ao ar e] 136/\cj w.heap.size w wr) (fun x5 _ _=>q-(cR x5).toNat)
  .exact⟨Aa,[],0,false,rfl,rfl,cA _,BN,by rw[j9];rfl,by omega,by omega,ck _,hx,hy,hb⟩
  clear hx hy hb;obtain⟨i,d,e,p,rfl,rfl,BD,BE,Ab,BC,Ba,AB,hx,hy,hb⟩:=hrel;have BG:i<=s.size:=by omega
  by_cases hlt:i<q
  .have Av:i<s.size:=by omega
   have B0:i-Aa<F.length:=by have:=Hq.out;omega
   obtain⟨c,AZ⟩:∃c,F[i-Aa]=c:=⟨_,rfl⟩;have Bc:s[i]'Av=c:=by rw[HF.out i Av BD B0,AZ]
   have Bk:=B3.out c (by rw[<-AZ];exact List.getElem_mem _);have n1:(((s[i]'Av).toNat:Int) != 101)=true:=by rw[Bc];exact Pg (n:=101) (IJ Bk (by decide)) rfl
   have n2:(((s[i]'Av).toNat:Int) != 69)=true:=by rw[Bc];exact Pg (n:=69) (IJ Bk (by decide)) rfl
   have hN:Hid ((F.take (i+1-Aa)).foldl CR ([],0,false)=CR (d,e,p) c):=Hh (by
    rw[show i+1-Aa=(i-Aa)+1 by omega,oq CR _ F B0,Ab,AZ])
   have Hc:=Hh Bc;obtain⟨D,hD⟩:∃D,au d=D:=⟨_,rfl⟩;have HD:=Hh hD;rw[hD] at hy;clear Ab AZ Bk Bc hD;obtain⟨Ai,Ak,Ah,Al,Aj,Am⟩:=hy.n3 rfl
   by_cases h46:c=46
   .have d1:(((s[i]'Av).toNat:Int)==46)=true:=by rw[Hc.out,h46];rfl
    have Ae:=Hh (show (F.take (i+1-Aa)).foldl CR ([],0,false)=(d,e,true) by rw[hN.out,CR,E4 h46]);clear hN h46;go_wp2;go_roundw
    .exact⟨i+1,d,e,true,by go_num,rfl,by omega,by omega,Ae.out,by omega,by omega,by omega,hx,by rw[HD.out];exact hy,hb⟩
    simp[cR];omega
   .have d1:(((s[i]'Av).toNat:Int)==46)=false:=by rw[Hc.out];exact gu h46 rfl
    by_cases hap:d≠[]\/c≠48
    .obtain⟨D2,A1⟩:∃D2,D++s.extract i (i+1)=D2:=⟨_,rfl⟩
     have A9:Hid (au (d++[c])=D2):=Hh (jA (by
      rw[<-A1,Cw,fU,<-HD.out,aV,aV]
      have e1:(s.data.toList.take (i+1)).drop i=[c]:=by
       rw[sr,br (by rw[<-ak];exact Av),List.drop_append_of_le_length (by rw[c8,<-ak];omega),List.drop_eq_nil_of_le (by rw[c8];omega),cM,<-Hc.out];rfl
      rw[e1]))
     have An:Hid ((F.take (i+1-Aa)).foldl CR ([],0,false)=(d++[c],if p then e-1 else e,p)):=Hh (by rw[hN.out,CR,E6 h46,E4 hap])
     have Ap:(0<D.size)\/(¬0<D.size/\(((s[i]'Av).toNat:Int) != 48)=true):=by
      by_cases hd:d=[]
      .rcases hap with h|h
       .exact absurd hd h
       .exact .inr ⟨by rw[<-HD.out,bi,hd];simp,by rw[Hc.out];exact Pg h rfl⟩
      .exact .inl (by rw[<-HD.out,bi];exact List.length_pos_iff.2 hd)
     have BR:D.size<=1048576:=by rw[<-HD.out,bi];omega
     have BZ:(s.extract i (i+1)).size<=1:=by rw[gx];omega
     clear hN h46 hap;rcases Ap with hz|⟨hz,d2⟩
     .cases p with
      |true=>
       have Ae:Hid ((F.take (i+1-Aa)).foldl CR ([],0,false)=(d++[c],e-1,true)):=Hh An.out;clear An;go_wp2_with fail
       (go_region;go_wp2_with fail)
       go_roundw
       .exact⟨i+1,d++[c],e-1,true,by go_num,rfl,by omega,by omega,Ae.out,by omega,by omega,by first|omega|(simp;omega),(hx.setOther _ _ (by simp)).setOther _ _ (by simp),by rw[A9.out];exact (hy.set 2 (by simp) _).set 1 (by simp) _,by (with_reducible repeat' first|refine ea ?_ ?_ _|refine ej ?_ ?_ _|refine ed ?_|refine ag ?_ _|assumption|exact ba _ _|(simp only[cF,World.size_setCell,World.size_drew];first|done|omega)|omega)⟩
       simp[cR];omega
      |false=>
       have Ae:Hid ((F.take (i+1-Aa)).foldl CR ([],0,false)=(d++[c],e,false)):=Hh An.out;clear An;go_wp2_with fail
       (go_region;go_wp2_with fail)
       go_roundw
       .exact⟨i+1,d++[c],e,false,by go_num,rfl,by omega,by omega,Ae.out,by omega,by omega,by first|omega|(simp;omega),hx.setOther _ _ (by simp),by rw[A9.out];exact hy.set 1 (by simp) _,by (with_reducible repeat' first|refine ea ?_ ?_ _|refine ej ?_ ?_ _|refine ed ?_|refine ag ?_ _|assumption|exact ba _ _|(simp only[cF,World.size_setCell,World.size_drew];first|done|omega)|omega)⟩
       simp[cR];omega
     .cases p with
      |true=>
       have Ae:Hid ((F.take (i+1-Aa)).foldl CR ([],0,false)=(d++[c],e-1,true)):=Hh An.out;clear An;go_wp2_with fail
       (go_region;go_wp2_with fail)
       go_roundw
       .exact⟨i+1,d++[c],e-1,true,by go_num,rfl,by omega,by omega,Ae.out,by omega,by omega,by first|omega|(simp;omega),(hx.setOther _ _ (by simp)).setOther _ _ (by simp),by rw[A9.out];exact (hy.set 2 (by simp) _).set 1 (by simp) _,by (with_reducible repeat' first|refine ea ?_ ?_ _|refine ej ?_ ?_ _|refine ed ?_|refine ag ?_ _|assumption|exact ba _ _|(simp only[cF,World.size_setCell,World.size_drew];first|done|omega)|omega)⟩
       simp[cR];omega
      |false=>
       have Ae:Hid ((F.take (i+1-Aa)).foldl CR ([],0,false)=(d++[c],e,false)):=Hh An.out;clear An;go_wp2_with fail
       (go_region;go_wp2_with fail)
       go_roundw
       .exact⟨i+1,d++[c],e,false,by go_num,rfl,by omega,by omega,Ae.out,by omega,by omega,by first|omega|(simp;omega),hx.setOther _ _ (by simp),by rw[A9.out];exact hy.set 1 (by simp) _,by (with_reducible repeat' first|refine ea ?_ ?_ _|refine ej ?_ ?_ _|refine ed ?_|refine ag ?_ _|assumption|exact ba _ _|(simp only[cF,World.size_setCell,World.size_drew];first|done|omega)|omega)⟩
       simp[cR];omega
    .have An:Hid ((F.take (i+1-Aa)).foldl CR ([],0,false)=(d,if p then e-1 else e,p)):=Hh (by rw[hN.out,CR,E6 h46,E6 hap])
     have Ap:d=[]/\c=48:=by
      refine⟨?_,?_⟩
      .by_cases hd:d=[]
       .exact hd
       .exact absurd (.inl hd) hap
      .by_cases hd:c=48
       .exact hd
       .exact absurd (.inr hd) hap
     have hz:¬0<D.size:=by rw[<-HD.out,bi,Ap.1];simp
     have d2:(((s[i]'Av).toNat:Int) != 48)=false:=by rw[Hc.out,Ap.2];rfl
     clear hN h46 hap Ap
     cases p with
     |true=>
      have Ae:Hid ((F.take (i+1-Aa)).foldl CR ([],0,false)=(d,e-1,true)):=Hh An.out;clear An;go_wp2_with fail
      skip
      go_roundw
      .exact⟨i+1,d,e-1,true,by go_num,rfl,by omega,by omega,Ae.out,by omega,by omega,by first|omega|(simp;omega),hx.setOther _ _ (by simp),by rw[HD.out];exact hy.set 2 (by simp) _,by (with_reducible repeat' first|refine ea ?_ ?_ _|refine ej ?_ ?_ _|refine ed ?_|refine ag ?_ _|assumption|exact ba _ _|(simp only[cF,World.size_setCell,World.size_drew];first|done|omega)|omega)⟩
      simp[cR];omega
     |false=>
      have Ae:Hid ((F.take (i+1-Aa)).foldl CR ([],0,false)=(d,e,false)):=Hh An.out;clear An;go_wp2_with fail
      skip
      go_roundw
      .exact⟨i+1,d,e,false,by go_num,rfl,by omega,by omega,Ae.out,by omega,by omega,by first|omega|(simp;omega),hx,by rw[HD.out];exact hy,by (with_reducible repeat' first|refine ea ?_ ?_ _|refine ej ?_ ?_ _|refine ed ?_|refine ag ?_ _|assumption|exact ba _ _|(simp only[cF,World.size_setCell,World.size_drew];first|done|omega)|omega)⟩
      simp[cR];omega
  .obtain rfl:i=q:=by omega
   have A5:Hid (d=jQ ip fr/\e = -(fr.length:Int)):=Hh (by
    have h1:=Ab;rw[show i-Aa=F.length by have:=Hq.out;omega,eR,B5.out] at h1
    exact⟨(congrArg (fun x=>x.1) h1).symm,(congrArg (fun x=>x.2.1) h1).symm⟩)
   clear Ab;clear hlt BE BG;go_wp2_with fail;clear Bo Bp;go_loop [5,7,8] (fun x5 x7 x8=>∃(k n:Nat) (p:Bool),x5=ao ar k/\x7=ao ar n/\x8=cG p/\i+1<=k/\k<=i+1+R.length/\(R.take (k-(i+1))).foldl Ll (0,false)=(n,p)/\n<10000000000) (fun x5 _ _=>i+1+R.length-(cR x5).toNat)
   .exact⟨i+1,0,false,by go_num,rfl,rfl,cA _,by omega,by rw[j9];rfl,by omega⟩
   obtain⟨k,n,p,rfl,rfl,rfl,Bm,BH,Ab,AJ⟩:=hrel;have hD:=fun W=>rW s k W (by omega)
   by_cases hks:k<s.size
   .have BX:=Bf.out k hks Bm
    obtain⟨c,Bj⟩:∃c,R[k-(i+1)]'(by omega)=c:=⟨_,rfl⟩;have Ax:s[k]'hks=c:=by rw[A3.out k hks Bm (by omega),Bj]
    have hN:Hid ((R.take (k+1-(i+1))).foldl Ll (0,false)=Ll (n,p) c):=Hh (by
     rw[show k+1-(i+1)=(k-(i+1))+1 by omega,oq Ll _ R (by omega),Ab,Bj])
    have AH:mU s k=dg c:=by
     rw[mU,ul hks,Ax];cases dg c<;>simp
    rw[AH] at hD;clear Ab Bj AH
    by_cases h45:c=45
    .have Ae:=Hh (show (R.take (k+1-(i+1))).foldl Ll (0,false)=(n,true) by rw[hN.out,Ll,h45];simp[show dg 45=false from rfl])
     rw[h45] at hD Ax;have A1:∀W,cJ bh 130 #[al s,ao ar k] W fun r w'=>r=bk (cG false)/\W=w':=hD;have d1:(((s[k]'hks).toNat:Int)==45)=true:=by rw[Ax];rfl
     clear hN h45 hD Ax;go_wp2_with ((with_reducible refine (A1 _).mono ?_);rintro _ _ ⟨rfl,rfl⟩)
     go_round
     .exact⟨k+1,n,true,by go_num,rfl,rfl,by omega,by omega,Ae.out,AJ⟩
     (simp[cR]<;>omega)
    .have d1:(((s[k]'hks).toNat:Int)==45)=false:=by rw[Ax];exact gu h45 rfl
     cases hdc:dg c with
     |false=>
      have Ae:=Hh (show (R.take (k+1-(i+1))).foldl Ll (0,false)=(n,p) by rw[hN.out,Ll,hdc];simp[h45]);rw[hdc] at hD;clear hN h45 Ax hdc;go_wp2_with ((with_reducible refine (hD _).mono ?_);rintro _ _ ⟨rfl,rfl⟩)
      go_round
      .exact⟨k+1,n,p,by go_num,rfl,rfl,by omega,by omega,Ae.out,AJ⟩
      simp[cR]<;>omega
     |true=>
      have BU:48<=(s[k]'hks).toNat/\(s[k]'hks).toNat<=57:=by rw[Ax];exact uV hdc
      have Ae:=Hh (show (R.take (k+1-(i+1))).foldl Ll (0,false)=(uI n c,p) by rw[hN.out,Ll,hdc];simp[h45]);rw[hdc] at hD;have Bv:=Hh Ax;clear hN h45 hdc Ax d1;have d1:¬((s[k]'hks).toNat:Int)=45:=by omega
      by_cases hn9:n<1000000000
      .have BM:n<=999999999:=by omega
       have hA:=Hh (show uI n c=n*10+(c.toNat-48) by rw[uI,E4 hn9]);have Bu:=Hh hn9;clear AJ hn9;go_upto_region 22 with fail
       go_upto_if 82 with fail
       go_upto_region 24 with fail
       go_upto_if 89 with ((with_reducible refine (hD _).mono ?_);rintro _ _ ⟨rfl,rfl⟩)
       rw[show decide ((n:Int)<1000000000)=true from decide_eq_true (by omega)];go_wp2;go_round
       .exact⟨k+1,uI n c,p,by go_num,by rw[hA.out,<-Bv.out];congr 1;have:=Bu.out;(try unfold wrap64);omega,rfl,by omega,by omega,Ae.out,by rw[hA.out,<-Bv.out];have:=Bu.out;omega⟩
       (simp[cR]<;>omega)
      .have BM:1000000000<=n:=by omega
       have hA:=Hh (show uI n c=n by rw[uI,E6 hn9]);have B4:=Hh AJ;clear hn9 AJ;go_upto_region 22 with fail
       go_upto_if 82 with fail
       go_upto_region 24 with fail
       go_upto_if 89 with ((with_reducible refine (hD _).mono ?_);rintro _ _ ⟨rfl,rfl⟩)
       rw[show decide ((n:Int)<1000000000)=false from decide_eq_false (by omega)];go_wp2;go_round
       .exact⟨k+1,uI n c,p,by go_num,by rw[hA.out],rfl,by omega,by omega,Ae.out,by rw[hA.out];exact B4.out⟩
       (simp[cR]<;>omega)
   .have BI:=Be.out k hks Bm BH
    have Aq:n=pw.foldl uI 0/\p=decide (sg=[45]):=by
     have h1:=Ab;rw[show k-(i+1)=R.length by omega,eR,B6.out] at h1;exact⟨(congrArg (fun x=>x.1) h1).symm,(congrArg (fun x=>x.2) h1).symm⟩
    have AV:zq sg pw=if p then -(n:Int) else n:=by
     rw[zq,Uo,Aq.1,Aq.2]
     by_cases h:sg=[45]<;>simp[h]
    obtain⟨P,hP⟩:∃P,zq sg pw=P:=⟨_,rfl⟩;have HP:=Hh hP;rw[hP] at AV;have Bd:=Hh AV;have BT : -10000000000<=P/\P<=10000000000:=by rw[AV];split<;>omega
    clear Ab Aq AV hP BI hD;go_upto_if 98 with fail
    go_cut [7] (fun x wc=>x=ao ar P/\wr=wc)
    case first=>
     cases p with
     |false=>
      go_wp2;go_meet
      case rel=>exact⟨by rw[Bd.out];rfl,rfl⟩
     |true=>
      go_wp2;go_meet
      case rel=>exact⟨by rw[Bd.out];simp,rfl⟩
    obtain⟨rfl,rfl⟩:=hcut;rw[A5.out.1,A5.out.2] at hy;clear A5 BC Ba AB Bd;obtain⟨Ai,Ak,Ah,Al,Aj,Am⟩:=hy.n3 rfl;go_wp2;go_loopw [] (fun wr2=>∃(d:Bs) (e:Int),oy d 48=iT ip fr/\e+d.length = -(fr.length:Int)+P+(jQ ip fr).length/\d.length<=(jQ ip fr).length/\aa wr2 w.heap.size #[cG false,al ⟨#[]⟩,ao ar 0] 136/\aa wr2 (w.heap.size+1) #[cG neg,al (au d),ao ar e] 136/\cj w.heap.size w wr2) (fun wr2=>match wr2.cell? ⟨w.heap.size+1,1,aq⟩ with|some v=>Lib.strSize v|none=>0)
    .exact⟨jQ ip fr,-(fr.length:Int)+P,rfl,rfl,cA _,hx.setOther _ _ (by simp),hy.set 2 (by simp) _,by (with_reducible repeat' first|refine ea ?_ ?_ _|refine ej ?_ ?_ _|refine ed ?_|refine ag ?_ _|assumption|exact ba _ _|(simp only[cF,World.size_setCell,World.size_drew];first|done|omega)|omega)⟩
    clear hx hy hb Ai Ah Aj Ak Al Am;obtain⟨d,e,ht,he,AB,hx,hy,hb⟩:=hrel;have AI:(au d).size=d.length:=bi d;have BV : -20000000000<=e/\e<=20000000000:=by omega
    rcases Cc d with hd0|⟨d',c,hd0⟩
    .subst hd0
     have hV:=Hh (show iJ neg ip fr (zq sg pw)=((false,[],0),0) by
      rw[iJ,E4 (show iT ip fr=[] from ht.symm)])
     have hy:aa wr (w.heap.size+1) #[cG neg,al ⟨#[]⟩,ao ar e] 136:=hy;have hz:((⟨#[]⟩:E7).size:Int)=0:=rfl;clear ht he AB AI;obtain⟨Ay,A6,Az,A7,A0,A8⟩:=hx.n3 rfl;obtain⟨Ai,Ak,Ah,Al,Aj,Am⟩:=hy.n3 rfl;go_wp2;refine bj (v:=eQ ((false,[],0),0)) (by simp[cD,u4,go_sem,eQ,au,Ay,Az,A0]) rfl ⟨by rw[hV.out],?_⟩
     (with_reducible repeat' first|refine ea ?_ ?_ _|refine ej ?_ ?_ _|refine ed ?_|refine ag ?_ _|assumption|exact ba _ _|(simp only[cF,World.size_setCell,World.size_drew];first|done|omega)|omega)
    .subst hd0
     obtain⟨D,hD⟩:∃D,au (d'++[c])=D:=⟨_,rfl⟩;rw[hD] at hy AI;have Bw:D.size=d'.length+1:=by rw[AI];simp
     have BQ:0<D.size:=by omega
     have B8:D.size<=1048576:=by omega
     have Bg:D.size-1<D.size:=by omega
     have BP:0<=(D.size:Int)-1/\(D.size:Int)-1<(D.size:Int):=by omega
     have AD:D[D.size-1]'Bg=c:=by
      subst hD;rw[Sd];simp[bi]
     by_cases h48:c=48
     .have d2:(((D[D.size-1]'Bg).toNat:Int)==48)=true:=by rw[AD,h48];rfl
      have AL:D.extract 0 (D.size-1)=au d':=by
       rw[<-hD,Ao,bi];simp
      have B2:oy d' 48=iT ip fr:=by rw[<-ht,Ac,E4 h48]
      have BJ:d'.length<=(jQ ip fr).length:=by simp at AB;omega
      have Ba:e+1+d'.length = -(fr.length:Int)+P+(jQ ip fr).length:=by rw[<-he];simp;omega
      have HT:=Hh B2;have HE:=Hh Ba;have BK:d'.length<D.size:=by omega
      clear ht he AB AI Bw AD h48 hD B2 Ba;obtain⟨D2,A1⟩:∃D2,au d'=D2:=⟨_,rfl⟩;have Br:=Hh (show D2.size=d'.length by rw[<-A1,bi]);have A9:=Hh A1;rw[A1] at AL;clear A1;obtain⟨Ai,Ak,Ah,Al,Aj,Am⟩:=hy.n3 rfl;go_wp2;go_roundw
      .exact⟨d',e+1,HT.out,HE.out,BJ,(hx.setOther _ _ (by simp)).setOther _ _ (by simp),by rw[A9.out];exact (hy.set 1 (by simp) _).set 2 (by simp) _,by (with_reducible repeat' first|refine ea ?_ ?_ _|refine ej ?_ ?_ _|refine ed ?_|refine ag ?_ _|assumption|exact ba _ _|(simp only[cF,World.size_setCell,World.size_drew];first|done|omega)|omega)⟩
      have m1:=((hy.set 1 (by simp) (al D2)).set 2 (by simp) (ao ar (e+1))).cell 1 _ rfl;rw[m1,Ah];show D2.size<D.size;rw[Br.out];exact BK
     .have d2:(((D[D.size-1]'Bg).toNat:Int)==48)=false:=by rw[AD];exact gu h48 rfl
      have AK:d'++[c]=iT ip fr:=by rw[<-ht,Ac,E6 h48]
      have BS:((D.size:Int)==0)=false:=by rw[Fc];omega
      have AW:=fun W=>CX neg D e W B8
      have hV:=Hh (show iJ neg ip fr (zq sg pw)=if rC neg D e then ((neg,iT ip fr,e),0) else ((false,[],0),4) by
       have AY:iT ip fr≠[]:=by rw[<-AK];simp
       have B9:Gm ip fr (zq sg pw)=e:=by
        have h1:=HP.out;have h2:(iT ip fr).length<=(jQ ip fr).length:=Gp _;rw[Gm,h1];rw[AK] at he;omega
       rw[iJ,E6 AY,B9,show (⟨(iT ip fr).toArray⟩:E7)=D by rw[<-AK];exact hD])
      have HC:=Hh (show au (iT ip fr)=D by rw[<-AK];exact hD);clear ht he AB AI Bw AD h48 hD AK;obtain⟨Ay,A6,Az,A7,A0,A8⟩:=hx.n3 rfl;obtain⟨Ai,Ak,Ah,Al,Aj,Am⟩:=hy.n3 rfl
      cases hr:rC neg D e with
      |true=>
       have Bh:=Hh (show iJ neg ip fr (zq sg pw)=((neg,iT ip fr,e),0) by rw[hV.out,E4 hr]);rw[hr] at AW;clear hV hr;go_wp2_with fail;refine (AW _).mono ?_;rintro _ w2 ⟨rfl,hb2⟩;have AL:=hx.below hb2 hx.lt;have Bt:=hy.below hb2 hy.lt;have BA:=hb.trans (hb2.mono hb.size);clear hb2 Ay Az A0 A6 A7 A8 Ai Ah Aj Ak Al Am;obtain⟨As,AM,At,AN,Au,AO⟩:=AL.n3 rfl;obtain⟨AP,AS,AQ,AT,AR,AU⟩:=Bt.n3 rfl;go_wp2;have B7:=HC.out;refine bj (v:=eQ ((neg,iT ip fr,e),0)) (by simp[cD,u4,go_sem,eQ,B7,As,At,Au]) rfl ⟨by rw[Bh.out],?_⟩
       (with_reducible repeat' first|refine ea ?_ ?_ _|refine ej ?_ ?_ _|refine ed ?_|refine ag ?_ _|assumption|exact ba _ _|(simp only[cF,World.size_setCell,World.size_drew];first|done|omega)|omega)
      |false=>
       have Bh:=Hh (show iJ neg ip fr (zq sg pw)=((false,[],0),4) by rw[hV.out,E6 (by rw[hr];decide)]);rw[hr] at AW;clear hV hr;go_wp2_with fail;refine (AW _).mono ?_;rintro _ w2 ⟨rfl,hb2⟩;have AL:=hx.below hb2 hx.lt;have Bt:=hy.below hb2 hy.lt;have BA:=hb.trans (hb2.mono hb.size);clear hb2 Ay Az A0 A6 A7 A8 Ai Ah Aj Ak Al Am;obtain⟨As,AM,At,AN,Au,AO⟩:=AL.n3 rfl;obtain⟨AP,AS,AQ,AT,AR,AU⟩:=Bt.n3 rfl;go_wp2;refine bj (v:=eQ ((false,[],0),4)) (by simp[cD,u4,go_sem,eQ,au,As,At,Au]) rfl ⟨by rw[Bh.out],?_⟩
       (with_reducible repeat' first|refine ea ?_ ?_ _|refine ej ?_ ?_ _|refine ed ?_|refine ag ?_ _|assumption|exact ba _ _|(simp only[cF,World.size_setCell,World.size_drew];first|done|omega)|omega)
theorem GY(s:E7)(w:cd)(q:s.size<=1048576) :
  cJ bh 99 #[al s] w fun e w'=>e=bk (eQ (decR s.data.toList))/\cj w.heap.size w w':=by
 by_cases h:dB s.data.toList=s.data.toList.length/\s.data.toList≠[]
 .obtain⟨Aa,i,fr,mk,o,j,c⟩:=uR _ h.1 h.2
  rw[c.decR];have b:=GX s Aa i fr mk o j w q c;rw[<-Hz Aa i fr o j c.dpw (by have:=c.len.1;rw[<-ak] at this;omega)] at b;exact b
 .have b:s.data.toList=[]\/dB s.data.toList≠s.size:=by
   rw[ak]
   by_cases f:s.data.toList=[]
   .exact .inl f
   .exact .inr (fun e=>h ⟨e,f⟩)
  rw[show decR s.data.toList=((false,[],0),3) by unfold decR;rw[E6 h]];exact JZ s w q b
theorem NC(c d:Nat)(w:cd)(j:c<256)(h:pu c=aw d):cJ bh 205 #[ao .u8 (c:Int)] w fun e w'=>e=bk (ao ar (d:Int))/\w=w':=by
 unfold pu at h
 by_cases b:48<=c/\c<=57
 .rw[E4 b] at h
  obtain rfl:d=c-48:=by cases h;rfl
  clear h;go_in;go_wp2;go_ret;exact⟨fC (by omega),rfl⟩
 rw[E6 b] at h
 by_cases f:97<=c/\c<=102
 .rw[E4 f] at h
  obtain rfl:d=c-87:=by cases h;rfl
  clear h b;go_in;go_wp2;go_ret;exact⟨fC (by omega),rfl⟩
 rw[E6 f] at h
 by_cases i:65<=c/\c<=70
 .rw[E4 i] at h
  obtain rfl:d=c-55:=by cases h;rfl
  clear h b f;go_in;go_wp2;go_ret;exact⟨fC (by omega),rfl⟩
 .rw[E6 i] at h;cases h
theorem ND(c:Nat)(w:cd)(k:c<256)(h:pu c=aq):cJ bh 205 #[ao .u8 (c:Int)] w fun e w'=>e=bk (ao ar (-1))/\w=w':=by
 have b:c<48\/(58<=c/\c<=64)\/(71<=c/\c<=96)\/103<=c:=by
  unfold pu at h
  by_cases f:48<=c/\c<=57
  .rw[E4 f] at h;cases h
  rw[E6 f] at h
  by_cases i:97<=c/\c<=102
  .rw[E4 i] at h;cases h
  rw[E6 i] at h
  by_cases j:65<=c/\c<=70
  .rw[E4 j] at h;cases h
  omega
 clear h;rcases b with b|b|b|b
 all_goals
  go_in;go_wp2;go_ret;exact⟨rfl,rfl⟩
theorem ES{b:Int}{q:Nat×Nat}(c:a=q.1)(f:b=q.2):jj (.tuple #[ao ar a,ao ar b])=bk (.tuple #[ao ar (q.1:Int),ao ar (q.2:Int)]):=by rw[c,f]
theorem o7{c:Nat}{r:List Nat}(h:(bs s).drop k=c::r):∃h':k<s.size,(s[k]'h').toNat=c:=by
 obtain⟨a,b⟩:=Eo h (j:=0) (by simp);exact⟨a,b⟩
theorem Dw(s:E7)(k:Nat)(w:cd)(T:k<=s.size)(V:s.size<=1048576) :
  cJ bh 184 #[al s,ao ar (k:Int)] w fun e w'=>e=bk (.tuple #[ao ar ((aQ ((bs s).drop k)).1:Int),ao ar ((aQ ((bs s).drop k)).2:Int)])/\w=w':=by
 go_in;go_wp2;go_loop [6,7] (fun n i=>∃(j m:Nat),j<=4/\n=ao ar m/\i=ao ar j/\m<16 ^ j/\k+j<=s.size/\ji (4-j) m ((bs s).drop (k+j))=aQ ((bs s).drop k)) (fun _ i=>4-(cR i).toNat)
 .exact⟨0,0,by omega,rfl,rfl,by simp,T,rfl⟩
 obtain⟨j,m,P,rfl,rfl,A,Ae,q⟩:=hrel
 by_cases F:j<4
 .obtain⟨Aj,Aa⟩:=Vs F A
  obtain⟨i,hi⟩:∃i,4-j=i+1:=⟨3-j,by omega⟩;rw[hi] at q
  cases hr:(bs s).drop (k+j) with
  |nil=>
   rw[hr,ji] at q;have v:=Hh q;have M:=iO Ae hr;have Ak:s.size<=k+j:=by omega
   clear q hr hi Aa A M;go_wp2;go_ret2
   exact⟨ES (by rw[<-v.out];rfl) (by rw[<-v.out];rfl),rfl⟩
  |cons c r=>
   obtain⟨Ac,Ad⟩:=iX hr;rw[ay] at Ad;have L:=Hh (show (bs s).drop (k+(j+1))=r from Ac);have G:c<256:=gJ c (dT (by rw[hr];simp));obtain⟨Ai,Ah⟩:=o7 hr;have Ag:(0:Int)<=(k:Int)+(j:Int)/\(k:Int)+(j:Int)<(s.size:Int):=by omega
   rw[hr] at q;simp only[ji] at q;clear Ac
   cases hx:pu c with
   |none=>
    rw[hx] at q;have v:=Hh q;have E:=fun W=>ND c W G hx;clear q hr Aa A hi hx;go_wp2_with fail;refine (E _).mono ?_;rintro _ N ⟨rfl,rfl⟩;go_wp2;go_ret2
    exact⟨ES (by rw[<-v.out];rfl) (by rw[<-v.out];rfl),rfl⟩
   |some d=>
    rw[hx] at q;have v:=Hh q;have E:=fun W=>NC c d W G hx
    have Ab:d<16:=by
     unfold pu at hx;repeat' (split at hx)
     all_goals first|(cases hx;omega)|cases hx
    have Af:=Hh (Aa d Ab);have K:=Hh hi;clear q hr Aa A hi hx;go_wp2_with fail;refine (E _).mono ?_;rintro _ N ⟨rfl,rfl⟩;go_wp2;go_round
    .exact⟨j+1,m*16+d,by omega,by go_num,by go_num,Af.out,by omega,by rw[show 4-(j+1)=i by have:=K.out;omega,L.out];exact v.out⟩
    simp[cR];omega
 .obtain rfl:j=4:=by omega
  simp only[j9,ji] at q;have v:=Hh q;clear q A;go_wp2;go_ret2
  exact⟨ES (by rw[<-v.out]) (by rw[<-v.out];rfl),rfl⟩
theorem Oi(h:k+6<n)(hn:n<=1048576):IntKind.i64.wrap ((k:Int)+6)=(k:Int)+6/\(0<=(k:Int)+6/\(k:Int)+6<(n:Int))/\((k:Int)+6).toNat=k+6:=
 ⟨cU _ (by omega),by omega,by omega⟩
theorem Te(h:k+6+1<n)(hn:n<=1048576):IntKind.i64.wrap ((k:Int)+6+1)=(k:Int)+6+1/\(0<=(k:Int)+6+1/\(k:Int)+6+1<(n:Int))/\((k:Int)+6+1).toNat=k+6+1:=
 ⟨cU _ (by omega),by omega,by omega⟩
def cK(q:qD):Value:=ew #[al (bH (un q.1)),ao ar (q.2.1:Int),ao ar (q.2.2:Int)]
theorem JY(s:E7)(k:Nat)(w:cd)(hk:k+2<=s.size)(hs:s.size<=1048576) :
  cJ bh 152 #[al s,ao ar (k:Int)] w fun e w'=>e=bk (cK (aU ((bs s).drop (k+2))))/\cj w.heap.size w w':=by
 have L:=fun W=>Dw s (k+2) W hk (by omega);obtain⟨r,hr⟩:=exq ((bs s).drop (k+2));rw[<-hr] at L ⊢;simp only[se,zj] at L
 by_cases hu:(aQ r).2=0
 .obtain⟨Aj,Ar⟩:=kF hu
  obtain⟨n,hn⟩:=exq ((aQ r).1);have At:k+6<=s.size:=by rw[hr] at Aj;simp[ay] at Aj;omega
  rw[<-hn] at Ar L;rw[hu] at L;simp only[zj] at L
  by_cases h1:56320<=n/\n<=57343
  .have N:Hid (aU r=aJ 3):=Hh (by unfold aU;rw[E6 (by simp[hu]),E4 (by rw[<-hn];exact h1)])
   have b1:decide ((56320:Int)<=(n:Int))=true:=by simp;omega
   have b2:decide ((n:Int)<=57343)=true:=by simp;omega
   clear hu hn hr Aj h1 Ar;go_in;go_wp2_with fail;refine (L _).mono ?_;rintro _ w1 ⟨rfl,rfl⟩;go_wp2;refine bj (v:=cK (aJ 3)) (by simp[cD,mm,go_sem,cK,aJ,un,bH]) rfl ⟨by rw[N.out],?_⟩
   (with_reducible repeat' first|refine ea ?_ ?_ _|refine ej ?_ ?_ _|refine ed ?_|refine ag ?_ _|assumption|exact ba _ _|(simp only[cF,World.size_setCell,World.size_drew];first|done|omega)|omega)
  .by_cases h2:n<55296\/57343<n
   .have N:Hid (aU r=(fQ n,6,0)):=Hh (by unfold aU;rw[E6 (by simp[hu]),E6 (by rw[<-hn];exact h1),E4 (by rw[<-hn];exact h2),<-hn])
    have Ai:mM (n:Int)=true:=by rw[gz,dF];omega
    have hP:=fun W=>A8 (n:Int) W;unfold wI at hP;rw[E4 Ai,eL] at hP
    have A1:(decide ((56320:Int)<=(n:Int))=false/\decide ((n:Int)<55296)=true)\/(decide ((56320:Int)<=(n:Int))=true/\decide ((n:Int)<=57343)=false/\decide ((n:Int)<55296)=false/\decide ((57343:Int)<(n:Int))=true):=by
     rcases h2 with h2|h2
     .exact .inl ⟨by simp;omega,by simp;omega⟩
     .exact .inr ⟨by simp;omega,by simp;omega,by simp;omega,by simp;omega⟩
    clear hu hn hr Aj h2 Ar Ai h1;obtain⟨S,hS⟩:=exq (bH (iH n));rw[<-hS] at hP;have HS:=Hh hS;clear hS;rcases A1 with ⟨b1,b2⟩|⟨b1,b2,b3,b4⟩
    all_goals
     go_in;go_wp2_with fail;refine (L _).mono ?_;rintro _ w1 ⟨rfl,rfl⟩;go_wp2_with fail;refine (hP _).mono ?_;rintro _ w2 ⟨rfl,Z⟩;have Ax:=Z.size;simp only[cF] at Ax;have Aw:=(aa.new w #[al ⟨#[]⟩,ao ar 0,ao ar 0] 140).below Z (by simp);obtain⟨Ak,An,Al,Ao,Am,Ap⟩:=Aw.n3 rfl;have A2:cj w.heap.size w w2:=((ba _ w).alloc lz _).trans (Z.mono (by simp));go_wp2;refine bj (v:=ew #[al S,ao ar 6,ao ar 0]) (by simp[cD,mm,go_sem, *]) rfl ⟨by rw[N.out,HS.out];rfl,?_⟩
     (with_reducible repeat' first|refine ea ?_ ?_ _|refine ej ?_ ?_ _|refine ed ?_|refine ag ?_ _|assumption|exact ba _ _|(simp only[cF,World.size_setCell,World.size_drew];first|done|omega)|omega)
   .have Ag:Hid (aU r=jV n (r.drop 4)):=Hh (by unfold aU;rw[E6 (by simp[hu]),E6 (by rw[<-hn];exact h1),E6 (by rw[<-hn];exact h2),<-hn])
    have Af:r.drop 4=(bs s).drop (k+6):=by rw[hr,c4]
    have Aq:55296<=n/\n<=56319:=by omega
    have b1:decide ((56320:Int)<=(n:Int))=false:=by simp;omega
    have b2:decide ((n:Int)<55296)=false:=by simp;omega
    have b3:decide ((57343:Int)<(n:Int))=false:=by simp;omega
    have A0:=Hh Aq;have HR:=Hh hr;clear hu hn Aj h1 h2 Ar hr Aq
    cases hq:(bs s).drop (k+6) with
    |nil=>
     have N:Hid (aU r=aJ 2):=Hh (by rw[Ag.out,Af,hq];rfl);have hz:=iO At hq;have AA:s.size<=k+6:=by omega
     clear hq Af hz;go_in;go_wp2_with fail;refine (L _).mono ?_;rintro _ w1 ⟨rfl,rfl⟩;go_wp2_with fail;clear b1 b2 b3 L;refine mb 1 ?_;rw[fN];go_wp2;refine bj (v:=cK (aJ 2)) (by simp[cD,mm,go_sem,cK,aJ,un,bH]) rfl ⟨by rw[N.out],?_⟩
     (with_reducible repeat' first|refine ea ?_ ?_ _|refine ej ?_ ?_ _|refine ed ?_|refine ag ?_ _|assumption|exact ba _ _|(simp only[cF,World.size_setCell,World.size_drew];first|done|omega)|omega)
    |cons c t=>
     obtain⟨A7,AD⟩:=o7 hq;have hc:c<256:=gJ c (dT (by rw[hq];simp));have Aa:k+6<s.size:=A7
     by_cases hc92:c=92
     .subst hc92
      obtain⟨hd,A5⟩:=iX hq;rw[ay] at A5;have Ad:r.drop 4=92::t:=by rw[Af,hq]
      cases ht:t with
      |nil=>
       have N:Hid (aU r=aJ 2):=Hh (by rw[Ag.out,Ad,ht];rfl);have hz:=iO (show k+6+1<=s.size by omega) (by rw[<-ht];exact hd);have AA:s.size<=k+6+1:=by omega
       clear hq Af Ad ht hd hz;go_in;go_wp2_with fail;refine (L _).mono ?_;rintro _ w1 ⟨rfl,rfl⟩;go_wp2_with fail;clear b1 b2 b3 L;refine mb 2 ?_;rw[fN];go_wp2_with fail;obtain⟨T,g2,g3⟩:=Oi Aa hs;go_region
       clear T g2 g3;go_wp2_with fail;rw[fN];go_wp2;refine bj (v:=cK (aJ 2)) (by simp[cD,mm,go_sem,cK,aJ,un,bH]) rfl ⟨by rw[N.out],?_⟩
       (with_reducible repeat' first|refine ea ?_ ?_ _|refine ej ?_ ?_ _|refine ed ?_|refine ag ?_ _|assumption|exact ba _ _|(simp only[cF,World.size_setCell,World.size_drew];first|done|omega)|omega)
      |cons d u=>
       subst ht;obtain⟨Au,A4⟩:=o7 hd;have AE:d<256:=gJ d (dT (by rw[hd];simp));obtain⟨he,A6⟩:=iX hd;rw[ay] at A6;have Ab:k+6+1<s.size:=Au
       by_cases hd117:d=117
       .subst hd117
        have hF:=fun W=>Dw s (k+8) W (by omega) (by omega);rw[show (bs s).drop (k+8)=u from he] at hF;simp only[se,zj] at hF;clear hq Af he hd;obtain⟨x,hx⟩:=exq (aQ u);rw[<-hx] at hF;obtain⟨m,x2⟩:=x;simp only at hF
        by_cases hm:x2=0
        .subst hm
         have Ae:(aQ u).2=0:=by rw[<-hx]
         obtain⟨Ay,Av⟩:=kF Ae;have Ah:m=(aQ u).1:=by rw[<-hx]
         rw[<-Ah] at Av
         by_cases G:m<56320\/57343<m
         .have N:Hid (aU r=aJ 3):=Hh (by rw[Ag.out,Ad];simp only[jV];rw[E6 (by simp),E6 (by simp),E6 (by simp[Ae]),E4 (by rw[<-Ah];exact G)])
          have Ac:(decide ((m:Int)<56320)=true)\/(decide ((m:Int)<56320)=false/\decide ((57343:Int)<(m:Int))=true):=by
           rcases G with G|G
           .exact .inl (by simp;omega)
           .exact .inr ⟨by simp;omega,by simp;omega⟩
          have As:=Hh Ac;clear Ad Ae Ah G Ac Av Ay hx;go_in;go_wp2_with fail;refine (L _).mono ?_;rintro _ w1 ⟨rfl,rfl⟩;go_wp2_with fail;clear b1 b2 b3 L;refine mb 3 ?_;rw[fN];go_wp2_with fail;obtain⟨T,g2,g3⟩:=Oi Aa hs;go_region
          clear T g2 g3;go_wp2_with fail;rw[fN];go_wp2_with fail;obtain⟨T,g2,g3⟩:=Te Ab hs;go_region
          clear T g2 g3;go_wp2_with fail;rw[fN];go_wp2_with fail;refine (hF _).mono ?_;rintro _ w2 ⟨rfl,rfl⟩;clear hF;rcases As.out with G|⟨G,Ac⟩
          all_goals
           go_wp2;refine bj (v:=cK (aJ 3)) (by simp[cD,mm,go_sem,cK,aJ,un,bH]) rfl ⟨by rw[N.out],?_⟩
           (with_reducible repeat' first|refine ea ?_ ?_ _|refine ej ?_ ?_ _|refine ed ?_|refine ag ?_ _|assumption|exact ba _ _|(simp only[cF,World.size_setCell,World.size_drew];first|done|omega)|omega)
         .obtain⟨x,Az⟩:=exq (65536+(n-55296)*1024+(m-56320))
          have N:Hid (aU r=(fQ x,12,0)):=Hh (by rw[Ag.out,Ad];simp only[jV];rw[E6 (by simp),E6 (by simp),E6 (by simp[Ae]),E6 (by rw[<-Ah];exact G),Az,Ah]);have Aq:=A0.out;have Ai:mM (x:Int)=true:=by rw[gz,dF];omega
          have hP:=fun W=>A8 (x:Int) W;unfold wI at hP;rw[E4 Ai,eL] at hP;obtain⟨S,hS⟩:=exq (bH (iH x));rw[<-hS] at hP;have HS:=Hh hS;have E1:=Jh (show (0:Int)<=(n:Int)-55296/\(n:Int)-55296<=1023 by omega) (cE (show (0:Int)<=(m:Int)/\(m:Int)<=65535 by omega) (show (65536:Int)+((n:Int)-55296)*1024+(m:Int)-56320=(x:Int) by omega));have HD:=Jh (show decide ((m:Int)<56320)=false by simp;omega) (show decide ((57343:Int)<(m:Int))=false by simp;omega);clear Ad Ae Ah G Av Ay hx Az hS Ai Aq;go_in;go_wp2_with fail;refine (L _).mono ?_;rintro _ w1 ⟨rfl,rfl⟩;go_wp2_with fail;clear b1 b2 b3 L;refine mb 3 ?_;rw[fN];go_wp2_with fail;obtain⟨T,g2,g3⟩:=Oi Aa hs;go_region
          clear T g2 g3;go_wp2_with fail;rw[fN];go_wp2_with fail;obtain⟨T,g2,g3⟩:=Te Ab hs;go_region
          clear T g2 g3;go_wp2_with fail;rw[fN];go_wp2_with fail;refine (hF _).mono ?_;rintro _ w2 ⟨rfl,rfl⟩;clear hF;obtain⟨d1,d2⟩:=HD.out;obtain⟨e1,e2,A9⟩:=E1.out;go_wp2_with fail;refine (hP _).mono ?_;rintro _ w2 ⟨rfl,Z⟩;clear d1 d2 e1 e2 A9 hP;have Ax:=Z.size;simp only[cF,cd.size_drew] at Ax;have Aw:=((((aa.new w #[al ⟨#[]⟩,ao ar 0,ao ar 0] 140).alloc (aE #[ao .u8 92,ao .u8 117] 5)).drew.alloc (aE #[ao .u8 92,ao .u8 117] 5)).drew).below Z (by simp;omega);obtain⟨Ak,An,Al,Ao,Am,Ap⟩:=Aw.n3 rfl;have A2:cj w.heap.size w w2:=((((((ba _ w).alloc lz _).alloc (by simp) _).drew).alloc (by simp;omega) _).drew).trans (Z.mono (by simp;omega));go_wp2;refine bj (v:=ew #[al S,ao ar 12,ao ar 0]) (by simp[cD,mm,go_sem, *]) rfl ⟨by rw[N.out,HS.out];rfl,?_⟩
          (with_reducible repeat' first|refine ea ?_ ?_ _|refine ej ?_ ?_ _|refine ed ?_|refine ag ?_ _|assumption|exact ba _ _|(simp only[cF,World.size_setCell,World.size_drew];first|done|omega)|omega)
        .have Ae:(aQ u).2≠0:=by rw[<-hx];exact hm
         have N:Hid (aU r=aJ x2):=Hh (by rw[Ag.out,Ad];simp only[jV];rw[E6 (by simp),E6 (by simp),E4 Ae,<-hx]);have A3:((x2:Int) != 0)=true:=by rw[bne_iff_ne];omega
         clear Ad Ae hm hx;go_in;go_wp2_with fail;refine (L _).mono ?_;rintro _ w1 ⟨rfl,rfl⟩;go_wp2_with fail;clear b1 b2 b3 L;refine mb 3 ?_;rw[fN];go_wp2_with fail;obtain⟨T,g2,g3⟩:=Oi Aa hs;go_region
         clear T g2 g3;go_wp2_with fail;rw[fN];go_wp2_with fail;obtain⟨T,g2,g3⟩:=Te Ab hs;go_region
         clear T g2 g3;go_wp2_with fail;rw[fN];go_wp2_with fail;refine (hF _).mono ?_;rintro _ w2 ⟨rfl,rfl⟩;go_wp2;refine bj (v:=cK (aJ x2)) (by simp[cD,mm,go_sem,cK,aJ,un,bH]) rfl ⟨by rw[N.out],?_⟩
         (with_reducible repeat' first|refine ea ?_ ?_ _|refine ej ?_ ?_ _|refine ed ?_|refine ag ?_ _|assumption|exact ba _ _|(simp only[cF,World.size_setCell,World.size_drew];first|done|omega)|omega)
       .have N:Hid (aU r=aJ 3):=Hh (by rw[Ag.out,Ad];simp only[jV];rw[E6 (by simp),E4 (by simpa using hd117)])
        have AC:((d:Int) != 117)=true:=by rw[bne_iff_ne];omega
        clear hq Af Ad hd he hd117;go_in;go_wp2_with fail;refine (L _).mono ?_;rintro _ w1 ⟨rfl,rfl⟩;go_wp2_with fail;clear b1 b2 b3 L;refine mb 2 ?_;rw[fN];go_wp2_with fail;obtain⟨T,g2,g3⟩:=Oi Aa hs;go_region
        clear T g2 g3;go_wp2_with fail;rw[fN];go_wp2_with fail;obtain⟨T,g2,g3⟩:=Te Ab hs;go_region
        clear T g2 g3;go_wp2;refine bj (v:=cK (aJ 3)) (by simp[cD,mm,go_sem,cK,aJ,un,bH]) rfl ⟨by rw[N.out],?_⟩
        (with_reducible repeat' first|refine ea ?_ ?_ _|refine ej ?_ ?_ _|refine ed ?_|refine ag ?_ _|assumption|exact ba _ _|(simp only[cF,World.size_setCell,World.size_drew];first|done|omega)|omega)
     .have N:Hid (aU r=aJ 3):=Hh (by rw[Ag.out,Af,hq];simp only[jV];rw[E4 (by simpa using hc92)])
      have AB:((c:Int) != 92)=true:=by rw[bne_iff_ne];omega
      clear hq Af hc92;go_in;go_wp2_with fail;refine (L _).mono ?_;rintro _ w1 ⟨rfl,rfl⟩;go_wp2_with fail;clear b1 b2 b3 L;refine mb 1 ?_;rw[fN];go_wp2_with fail;obtain⟨T,g2,g3⟩:=Oi Aa hs;go_region
      clear T g2 g3;go_wp2;refine bj (v:=cK (aJ 3)) (by simp[cD,mm,go_sem,cK,aJ,un,bH]) rfl ⟨by rw[N.out],?_⟩
      (with_reducible repeat' first|refine ea ?_ ?_ _|refine ej ?_ ?_ _|refine ed ?_|refine ag ?_ _|assumption|exact ba _ _|(simp only[cF,World.size_setCell,World.size_drew];first|done|omega)|omega)
 .have N:Hid (aU r=aJ (aQ r).2):=Hh (by unfold aU;rw[E4 (by simpa using hu)])
  obtain⟨x,hx⟩:=exq (aQ r);rw[<-hx] at L hu N;obtain⟨x1,x2⟩:=x;simp only at L hu N;have A3:((x2:Int) != 0)=true:=by rw[bne_iff_ne];omega
  have HR:=Hh hr;clear hu hx hr;go_in;go_wp2_with fail;refine (L _).mono ?_;rintro _ w1 ⟨rfl,rfl⟩;go_wp2;refine bj (v:=cK (aJ x2)) (by simp[cD,mm,go_sem,cK,aJ,un,bH]) rfl ⟨by rw[N.out],?_⟩
  (with_reducible repeat' first|refine ea ?_ ?_ _|refine ej ?_ ?_ _|refine ed ?_|refine ag ?_ _|assumption|exact ba _ _|(simp only[cF,World.size_setCell,World.size_drew];first|done|omega)|omega)
theorem Vy{l:List Nat}(h:yP l):bs (bH (un l))=l:=by
 rw[Co];unfold un;rw[List.map_map]
 conv=>rhs;rw[<-List.map_id l]
 refine List.map_congr_left fun x hx=>?_;have:=h x hx;simp only[Function.comp,UInt8.toNat_ofNat',id];omega
theorem Mg(s:E7)(a b:Nat):s.extract a b=bH (un (((bs s).drop a).take (b-a))):=by
 refine KS ?_;rw[Vy (fun x hx=>gJ x (dT (List.mem_of_mem_take hx)))];rw[vW,gO]
theorem Nu(s:E7)(k:Nat)(w:cd)(hk:k<=s.size)(hs:s.size<=1048576) :
  cJ bh 133 #[al s,ao ar (k:Int)] w fun e w'=>e=bk (cK (ax ((bs s).drop k)))/\cj w.heap.size w w':=by
 cases hq:(bs s).drop k with
 |nil=>
  have A:Hid (ax []=aJ 2):=Hh rfl;have hz:=iO hk hq;have Aw:s.size<=k:=by omega
  clear hq hz;go_in;go_wp2;refine bj (v:=cK (aJ 2)) (by simp[cD,gC,go_sem,cK,aJ,un,bH]) rfl ⟨by rw[A.out],?_⟩
  (with_reducible repeat' first|refine ea ?_ ?_ _|refine ej ?_ ?_ _|refine ed ?_|refine ag ?_ _|assumption|exact ba _ _|(simp only[cF,World.size_setCell,World.size_drew];first|done|omega)|omega)
 |cons c r=>
  obtain⟨Au,Az⟩:=o7 hq;have Av:k<s.size:=Au;have hc:c<256:=gJ c (dT (by rw[hq];simp))
  by_cases R:c<32
  .have A:Hid (ax (c::r)=aJ 3):=Hh (by simp[ax,R])
   clear hq;go_in;go_wp2;refine bj (v:=cK (aJ 3)) (by simp[cD,gC,go_sem,cK,aJ,un,bH]) rfl ⟨by rw[A.out],?_⟩
   (with_reducible repeat' first|refine ea ?_ ?_ _|refine ej ?_ ?_ _|refine ed ?_|refine ag ?_ _|assumption|exact ba _ _|(simp only[cF,World.size_setCell,World.size_drew];first|done|omega)|omega)
  have Am:32<=c:=by omega
  by_cases h92:c=92
  .subst h92
   obtain⟨Ah,At⟩:=iX hq;rw[ay] at At;clear R Am
   cases ht:r with
   |nil=>
    have A:Hid (ax [92]=aJ 2):=Hh rfl;have hz:=iO (show k+1<=s.size by omega) (by rw[<-ht];exact Ah);have Aw:s.size<=k+1:=by omega
    clear hq Ah hz ht;go_in;go_wp2;refine bj (v:=cK (aJ 2)) (by simp[cD,gC,go_sem,cK,aJ,un,bH]) rfl ⟨by rw[A.out],?_⟩
    (with_reducible repeat' first|refine ea ?_ ?_ _|refine ej ?_ ?_ _|refine ed ?_|refine ag ?_ _|assumption|exact ba _ _|(simp only[cF,World.size_setCell,World.size_drew];first|done|omega)|omega)
   |cons d u=>
    subst ht;obtain⟨An,As⟩:=o7 Ah;have Aq:k+1<s.size:=An;have A0:d<256:=gJ d (dT (by rw[Ah];simp));have Ai:=fun W=>JY s k W (by omega) hs;rw[show (bs s).drop (k+2)=u from (iX Ah).1] at Ai;have Ax:(0:Int)<=(k:Int)+1/\(k:Int)+1<(s.size:Int):=by omega
    obtain⟨L,D⟩:=exq (92::d::u);rw[<-D];have hx:s.extract (k+1) (k+2)=bH (un [d]):=by rw[Mg,show k+2-(k+1)=1 by omega,Ah];rfl
    have HX:=Hh hx;clear hq Ah hx
    by_cases T:d=34
    .subst T
     have A:Hid (ax L=([34],2,0)):=Hh (by rw[D];rfl);clear D;go_in;go_wp2;refine bj (v:=ew #[al (s.extract (k+1) (k+2)),ao ar 2,ao ar 0]) (by simp[cD,gC,go_sem]) rfl ⟨by rw[A.out,HX.out];rfl,?_⟩
     (with_reducible repeat' first|refine ea ?_ ?_ _|refine ej ?_ ?_ _|refine ed ?_|refine ag ?_ _|assumption|exact ba _ _|(simp only[cF,World.size_setCell,World.size_drew];first|done|omega)|omega)
    by_cases Z:d=92
    .subst Z
     have A:Hid (ax L=([92],2,0)):=Hh (by rw[D];rfl);clear D;go_in;go_wp2;refine bj (v:=ew #[al (s.extract (k+1) (k+2)),ao ar 2,ao ar 0]) (by simp[cD,gC,go_sem]) rfl ⟨by rw[A.out,HX.out];rfl,?_⟩
     (with_reducible repeat' first|refine ea ?_ ?_ _|refine ej ?_ ?_ _|refine ed ?_|refine ag ?_ _|assumption|exact ba _ _|(simp only[cF,World.size_setCell,World.size_drew];first|done|omega)|omega)
    by_cases V:d=47
    .subst V
     have A:Hid (ax L=([47],2,0)):=Hh (by rw[D];rfl);clear D;go_in;go_wp2;refine bj (v:=ew #[al (s.extract (k+1) (k+2)),ao ar 2,ao ar 0]) (by simp[cD,gC,go_sem]) rfl ⟨by rw[A.out,HX.out];rfl,?_⟩
     (with_reducible repeat' first|refine ea ?_ ?_ _|refine ej ?_ ?_ _|refine ed ?_|refine ag ?_ _|assumption|exact ba _ _|(simp only[cF,World.size_setCell,World.size_drew];first|done|omega)|omega)
    by_cases Q:d=98
    .subst Q
     have A:Hid (ax L=([8],2,0)):=Hh (by rw[D];rfl);clear D;go_in;go_wp2;refine bj (v:=cK ([8],2,0)) (by simp[cD,gC,go_sem,cK,aJ,un,bH]) rfl ⟨by rw[A.out],?_⟩
     (with_reducible repeat' first|refine ea ?_ ?_ _|refine ej ?_ ?_ _|refine ed ?_|refine ag ?_ _|assumption|exact ba _ _|(simp only[cF,World.size_setCell,World.size_drew];first|done|omega)|omega)
    by_cases F:d=102
    .subst F
     have A:Hid (ax L=([12],2,0)):=Hh (by rw[D];rfl);clear D;go_in;go_wp2;refine bj (v:=cK ([12],2,0)) (by simp[cD,gC,go_sem,cK,aJ,un,bH]) rfl ⟨by rw[A.out],?_⟩
     (with_reducible repeat' first|refine ea ?_ ?_ _|refine ej ?_ ?_ _|refine ed ?_|refine ag ?_ _|assumption|exact ba _ _|(simp only[cF,World.size_setCell,World.size_drew];first|done|omega)|omega)
    by_cases I:d=110
    .subst I
     have A:Hid (ax L=([10],2,0)):=Hh (by rw[D];rfl);clear D;go_in;go_wp2;refine bj (v:=cK ([10],2,0)) (by simp[cD,gC,go_sem,cK,aJ,un,bH]) rfl ⟨by rw[A.out],?_⟩
     (with_reducible repeat' first|refine ea ?_ ?_ _|refine ej ?_ ?_ _|refine ed ?_|refine ag ?_ _|assumption|exact ba _ _|(simp only[cF,World.size_setCell,World.size_drew];first|done|omega)|omega)
    by_cases M:d=114
    .subst M
     have A:Hid (ax L=([13],2,0)):=Hh (by rw[D];rfl);clear D;go_in;go_wp2;refine bj (v:=cK ([13],2,0)) (by simp[cD,gC,go_sem,cK,aJ,un,bH]) rfl ⟨by rw[A.out],?_⟩
     (with_reducible repeat' first|refine ea ?_ ?_ _|refine ej ?_ ?_ _|refine ed ?_|refine ag ?_ _|assumption|exact ba _ _|(simp only[cF,World.size_setCell,World.size_drew];first|done|omega)|omega)
    by_cases N:d=116
    .subst N
     have A:Hid (ax L=([9],2,0)):=Hh (by rw[D];rfl);clear D;go_in;go_wp2;refine bj (v:=cK ([9],2,0)) (by simp[cD,gC,go_sem,cK,aJ,un,bH]) rfl ⟨by rw[A.out],?_⟩
     (with_reducible repeat' first|refine ea ?_ ?_ _|refine ej ?_ ?_ _|refine ed ?_|refine ag ?_ _|assumption|exact ba _ _|(simp only[cF,World.size_setCell,World.size_drew];first|done|omega)|omega)
    have Ao:Cb d=aq:=by
     unfold Cb;rw[E6 (by omega),E6 Q,E6 F,E6 I,E6 M,E6 N]
    by_cases P:d=117
    .subst P
     have A:Hid (ax L=aU u):=Hh (by rw[D];rfl);unfold cK at Ai;obtain⟨q,hq⟩:=exq (aU u);rw[<-hq] at Ai A;obtain⟨o,z,e⟩:=q;simp only at Ai;obtain⟨S,hS⟩:=exq (bH (un o));rw[<-hS] at Ai;have HS:=Hh hS;clear D Ao hS hq T Z V Q F I M N;go_in;go_wp2_with fail;refine (Ai _).mono ?_;rintro _ w2 ⟨rfl,E⟩;have Ak:=E.size;simp only[cF] at Ak;have Aj:=(aa.new w #[al ⟨#[]⟩,ao ar 0,ao ar 0] 140).below E (by simp);obtain⟨Ab,Ae,Ac,Af,Ad,Ag⟩:=Aj.n3 rfl;have Ap:cj w.heap.size w w2:=((ba _ w).alloc lz _).trans (E.mono (by simp));go_wp2;refine bj (v:=ew #[al S,ao ar z,ao ar e]) (by simp[cD,gC,go_sem, *]) rfl ⟨by rw[A.out,HS.out];rfl,?_⟩
     (with_reducible repeat' first|refine ea ?_ ?_ _|refine ej ?_ ?_ _|refine ed ?_|refine ag ?_ _|assumption|exact ba _ _|(simp only[cF,World.size_setCell,World.size_drew];first|done|omega)|omega)
    .have A:Hid (ax L=aJ 3):=Hh (by rw[D];simp only[ax,ou,Ao,E6 P];rfl)
     have b1:((d:Int)==34)=false:=by rw[Fc];omega
     have b2:((d:Int)==92)=false:=by rw[Fc];omega
     have b3:((d:Int)==47)=false:=by rw[Fc];omega
     have b4:((d:Int)==98)=false:=by rw[Fc];omega
     have b5:((d:Int)==102)=false:=by rw[Fc];omega
     have b6:((d:Int)==110)=false:=by rw[Fc];omega
     have b7:((d:Int)==114)=false:=by rw[Fc];omega
     have b8:((d:Int)==116)=false:=by rw[Fc];omega
     have b9:((d:Int)==117)=false:=by rw[Fc];omega
     clear D Ao T Z V Q F I M N P;go_in;go_wp2;refine bj (v:=cK (aJ 3)) (by simp[cD,gC,go_sem,cK,aJ,un,bH]) rfl ⟨by rw[A.out],?_⟩
     (with_reducible repeat' first|refine ea ?_ ?_ _|refine ej ?_ ?_ _|refine ed ?_|refine ag ?_ _|assumption|exact ba _ _|(simp only[cF,World.size_setCell,World.size_drew];first|done|omega)|omega)
  .have hO:=fun W=>F8 s k W (by omega) hk
   have Al:=lw ((bs s).drop k) (fun x hx=>gJ x (dT hx));rw[bm,ay] at Al;have Ar:((c:Int) != 92)=true:=by rw[bne_iff_ne];omega
   have Aa:ax (c::r)=if (aG (c::r)).2=0 then aJ 7 else ((c::r).take (aG (c::r)).2,(aG (c::r)).2,0):=by
    simp only[ax];rw[E6 R,E6 h92]
   rw[<-hq] at Aa ⊢;obtain⟨L,D⟩:=exq ((bs s).drop k);rw[<-D] at Aa hO Al ⊢;obtain⟨o,ho⟩:=exq (aG L);rw[<-ho] at Aa hO Al;obtain⟨o1,n⟩:=o;simp only at Aa hO Al;have hx:s.extract k (k+n)=bH (un (L.take n)):=by rw[Mg,show k+n-k=n by omega,D]
   have HX:=Hh hx
   by_cases hn:n=0
   .subst hn
    have A:Hid (ax L=aJ 7):=Hh (by rw[Aa,E4 rfl]);clear hq Aa D ho hx h92 R;go_in;go_wp2_with fail;refine (hO _).mono ?_;rintro _ w2 ⟨rfl,E⟩;have Ak:=E.size;simp only[cF] at Ak;have Aj:=(aa.new w #[al ⟨#[]⟩,ao ar 0,ao ar 0] 140).below E (by simp);obtain⟨Ab,Ae,Ac,Af,Ad,Ag⟩:=Aj.n3 rfl;have Ap:cj w.heap.size w w2:=((ba _ w).alloc lz _).trans (E.mono (by simp));go_wp2;refine bj (v:=cK (aJ 7)) (by simp[cD,gC,go_sem,cK,aJ,un,bH, *]) rfl ⟨by rw[A.out],?_⟩
    (with_reducible repeat' first|refine ea ?_ ?_ _|refine ej ?_ ?_ _|refine ed ?_|refine ag ?_ _|assumption|exact ba _ _|(simp only[cF,World.size_setCell,World.size_drew];first|done|omega)|omega)
   .have A:Hid (ax L=(L.take n,n,0)):=Hh (by rw[Aa,E6 hn])
    have Ay:((n:Int)==0)=false:=by rw[Fc];omega
    clear hq Aa D ho hx h92 R hn;go_in;go_wp2_with fail;refine (hO _).mono ?_;rintro _ w2 ⟨rfl,E⟩;have Ak:=E.size;simp only[cF] at Ak;have Aj:=(aa.new w #[al ⟨#[]⟩,ao ar 0,ao ar 0] 140).below E (by simp);obtain⟨Ab,Ae,Ac,Af,Ad,Ag⟩:=Aj.n3 rfl;have Ap:cj w.heap.size w w2:=((ba _ w).alloc lz _).trans (E.mono (by simp));go_wp2;refine bj (v:=ew #[al (s.extract k (k+n)),ao ar n,ao ar 0]) (by simp[cD,gC,go_sem, *]) rfl ⟨by rw[A.out,HX.out];rfl,?_⟩
    (with_reducible repeat' first|refine ea ?_ ?_ _|refine ej ?_ ?_ _|refine ed ?_|refine ag ?_ _|assumption|exact ba _ _|(simp only[cF,World.size_setCell,World.size_drew];first|done|omega)|omega)
theorem EI(a b:List UInt8):bH a++bH b=bH (a++b):=by
 refine KS ?_;simp[bs,bH]
theorem Jy(a b:List Nat):bH (un a)++bH (un b)=bH (un (a++b)):=by rw[EI];simp[un]
theorem Jw(l:List Nat):(un l).length=l.length:=by simp[un]
theorem vJ(s:E7)(w:cd)(hs:s.size<=1048576) :
  cJ bh 100 #[al s] w fun e w'=>e=bk (cK (aW (bs s)))/\cj w.heap.size w w':=by
 cases hq:bs s with
 |nil=>
  have R:Hid (aW []=aJ 2):=Hh rfl;have hz:s.size=0:=by rw[<-ay,hq];rfl
  have F:((s.size:Int)==0)=true:=by rw[beq_iff_eq];omega
  clear hq hz;go_in;go_wp2;refine bj (v:=cK (aJ 2)) (by simp[cD,wt,go_sem,cK,aJ,un,bH, *]) rfl ⟨by rw[R.out],?_⟩
  (with_reducible repeat' first|refine ea ?_ ?_ _|refine ej ?_ ?_ _|refine ed ?_|refine ag ?_ _|assumption|exact ba _ _|(simp only[cF,World.size_setCell,World.size_drew];first|done|omega)|omega)
 |cons c r=>
  obtain⟨Aw,AA⟩:=o7 (s:=s) (k:=0) (by rw[dd];exact hq);have Ax:0<s.size:=Aw;have hc:c<256:=gJ c (by rw[hq];simp);have A7:((s.size:Int)==0)=false:=by rw[Fc];omega
  by_cases G:c=34
  .subst G
   have HQ:Hid (aW (bs s)=ig [] 1 (bT ((bs s).drop 1))):=Hh (by rw[hq];rfl);rw[<-hq];have Al:=aa.new w #[al ⟨#[]⟩,ao ar 0,ao ar 0] 140;have Ai:cj w.heap.size w (w.alloc (aE #[al ⟨#[]⟩,ao ar 0,ao ar 0] 140)):=(ba _ w).alloc lz _;clear hq;go_in;go_wp2;go_loopw [3,4] (fun sv at' wr=>∃(k:Nat) (pre:List Nat) (S:E7),sv=al S/\Hid (S=bH (un pre))/\S.size<=4*k/\at'=ao ar (k:Int)/\k<=s.size/\ig pre k (bT ((bs s).drop k))=aW (bs s)/\aa wr w.heap.size #[al ⟨#[]⟩,ao ar 0,ao ar 0] 140/\cj w.heap.size w wr) (fun _ at' _=>s.size-(cR at').toNat)
   .exact⟨1,[],_,rfl,Hh rfl,by decide,rfl,by omega,HQ.out.symm,Al,Ai⟩
   clear Al Ai HQ;obtain⟨k,pre,S,rfl,HS,A6,rfl,hk,hj,M,F⟩:=hrel;have U:=Hh hj;have Ac:yP ((bs s).drop k):=fun x M=>gJ x (dT M);have L:=fun W=>Nu s k W hk hs;have As:=M.lt;clear hj
   by_cases I:((bs s).drop k).head?=aw 34
   .have R:Hid (aW (bs s)=(pre,k+1,0)):=Hh (by rw[<-U.out,D8 Ac I])
    obtain⟨t,ht⟩:∃t,(bs s).drop k=34::t:=by
     cases hd:(bs s).drop k with
     |nil=>rw[hd] at I;simp at I
     |cons a t=>rw[hd] at I;simp at I;subst I;exact⟨t,rfl⟩
    obtain⟨Ab,Ad⟩:=o7 ht;have Aj:k<s.size:=Ab;obtain⟨Ay,A1,Az,A2,A0,A3⟩:=M.n3 rfl;clear I ht Ac L U;go_wp2;refine bj (v:=ew #[al S,ao ar ((k:Int)+1),ao ar 0]) (by simp[cD,wt,go_sem,cK,aJ,un,bH, *]) rfl ⟨by rw[R.out,HS.out];rfl,?_⟩
    (with_reducible repeat' first|refine ea ?_ ?_ _|refine ej ?_ ?_ _|refine ed ?_|refine ag ?_ _|assumption|exact ba _ _|(simp only[cF,World.size_setCell,World.size_drew];first|done|omega)|omega)
   .have Aa:¬k<s.size\/(∃(h:k<s.size),(((s[k]'h).toNat:Int)==34)=false):=by
     cases hd:(bs s).drop k with
     |nil=>exact .inl (by have:=iO hk hd;omega)
     |cons a t=>
      obtain⟨Ab,Ad⟩:=o7 hd;refine .inr ⟨Ab,?_⟩;rw[Ad,Fc];intro e;exact I (by rw[hd];simp;omega)
    have V:=Hh (fun (he:(ax ((bs s).drop k)).2.2=0)=>BN Ac I he (pre:=pre) (k:=k));have Z:=Hh (fun (he:(ax ((bs s).drop k)).2.2≠0)=>D9 Ac I he (pre:=pre) (k:=k));have Y:=Hh (fun (he:(ax ((bs s).drop k)).2.2=0)=>lu Ac he);rw[bm,ay] at Y;rw[c4] at V;clear I Ac;unfold cK at L;generalize ax ((bs s).drop k)=q at *;obtain⟨o,z,e⟩:=q;simp only at L V Z Y;obtain⟨O,hO⟩:=exq (bH (un o));rw[<-hO] at L;have Ag:=Hh hO;clear hO
    by_cases he:e=0
    .subst he
     obtain⟨c0,-,Ak,AB,AC⟩:=Y.out rfl;have A5:O.size<=4:=by rw[Ag.out,nS,Jw,Ak,rX];exact (qE c0).2
     clear Ak;have At:Hid (ig (pre++o) (k+z) (bT ((bs s).drop (k+z)))=aW (bs s)):=Hh (by rw[<-U.out,V.out rfl]);have Au:Hid (S++O=bH (un (pre++o))):=Hh (by rw[HS.out,Ag.out,Jy]);clear V Z Y U;rcases Aa with Aa|⟨Ab,Aa⟩
     .omega
     .go_wp2_with fail
      refine (L _).mono ?_;rintro _ w2 ⟨rfl,D⟩;have A4:=D.size;have Ae:=M.below D As;have Ah:=(F.trans (D.mono F.size)).alloc (by have:=F.size;omega) (aE #[al O,ao ar z,ao ar 0] 140);have Af:=Ae.alloc (aE #[al O,ao ar z,ao ar 0] 140);clear M F L;go_wp2;go_roundw
      .exact⟨k+z,pre++o,_,rfl,Au,by rw[ByteArray.size_append];omega,by go_num,by omega,At.out,Af,Ah⟩
      simp[cR];omega
    .have R:Hid (aW (bs s)=aJ e):=Hh (by rw[<-U.out,Z.out he])
     have A9:((e:Int) != 0)=true:=by rw[bne_iff_ne];omega
     clear V Z Y U he;rcases Aa with Aa|⟨Ab,Aa⟩
     all_goals
      go_wp2_with fail;refine (L _).mono ?_;rintro _ w2 ⟨rfl,D⟩;have A4:=D.size;have Ae:=M.below D As;have Ah:=(F.trans (D.mono F.size)).alloc (by have:=F.size;omega) (aE #[al O,ao ar z,ao ar e] 140);have Af:=Ae.alloc (aE #[al O,ao ar z,ao ar e] 140);clear M Ae;obtain⟨Am,Ap,An,Aq,Ao,Ar⟩:=Af.n3 rfl;have Av:=F.trans (D.mono F.size);clear F D L;go_wp2;refine bj (v:=cK (aJ e)) (by simp[cD,wt,go_sem,cK,aJ,un,bH, *]) rfl ⟨by rw[R.out],?_⟩
      (with_reducible repeat' first|refine ea ?_ ?_ _|refine ej ?_ ?_ _|refine ed ?_|refine ag ?_ _|assumption|exact ba _ _|(simp only[cF,World.size_setCell,World.size_drew];first|done|omega)|omega)
  .have R:Hid (aW (c::r)=aJ 3):=Hh (by simp only[aW];rw[E4 G])
   have A8:((c:Int) != 34)=true:=by rw[bne_iff_ne];omega
   clear hq G;go_in;go_wp2;refine bj (v:=cK (aJ 3)) (by simp[cD,wt,go_sem,cK,aJ,un,bH, *]) rfl ⟨by rw[R.out],?_⟩
   (with_reducible repeat' first|refine ea ?_ ?_ _|refine ej ?_ ?_ _|refine ed ?_|refine ag ?_ _|assumption|exact ba _ _|(simp only[cF,World.size_setCell,World.size_drew];first|done|omega)|omega)
def CJ(w:cd)(s:E7)(k:Nat)(r:LR):Ending->cd->Prop:=Ey w (Bz s k r).1 (Bz s k r).2.1 (Bz s k r).2.2
theorem kW{w w1 w2:cd}{e:Int}{v:Value}(i:cj w.heap.size w w1)(f:aa w1 w.heap.size #[an aq 0 0,ao ar 0,ao ar 0] 81)(A:w1.heap.size<=w2.heap.size)(g:aS w1.heap.size w2 v l)(h:cj w1.heap.size w1 w2) :
  aa w2 w.heap.size #[an aq 0 0,ao ar 0,ao ar 0] 81/\
  aS w.heap.size (aj w2 w.heap.size 0 [v,ao ar a,ao ar e]) v l/\cj w.heap.size w (aj w2 w.heap.size 0 [v,ao ar a,ao ar e])/\
  aa (aj w2 w.heap.size 0 [v,ao ar a,ao ar e]) w.heap.size #[v,ao ar a,ao ar e] 81:=by
 have q:=f.below h f.lt;refine⟨q,?_,aZ _ _ lz _ _ _ _ (i.trans (h.mono i.size)),?_⟩
 .refine (g.base_le i.size).moved (fun k hk=>aR _ _ _ _ _ ?_)
  have r:=(World.ownsRow.lt g k hk).1;have u:=f.lt;omega
 .exact q.put [v,ao ar a,ao ar e] 0
theorem Qc(s:E7)(k:Nat)(w:cd)(Q:s.size<=1048576)(G:k<s.size)(h:s[k]'G=10) :
  cJ bh 62 #[al s,ao ar (k:Nat)] w (CJ w s k (.tok 5 1)):=by
 have Am:(s[k]'G).toNat=10:=by rw[h];rfl
 clear h;have B:cj w.heap.size w (w.alloc (aE #[an aq 0 0,ao ar 0,ao ar 0] 81)):=(ba _ w).alloc lz _;have Ad:=aa.new w #[an aq 0 0,ao ar 0,ao ar 0] 81;have F:=nL s k 1 5 (w.alloc (aE #[an aq 0 0,ao ar 0,ao ar 0] 81)) (by omega) (by omega);have O:k+1<=s.size:=G;go_in;go_wp2_with fail;refine (F).mono ?_;rintro _ P ⟨v,rfl,u,A⟩;obtain⟨Ac,Aa,Ab,-⟩:=kW (a:=0) (e:=0) B Ad A.size u A;obtain⟨C,D,Ak⟩:=u.len;simp only[bc,cY,df] at Ak;subst Ak;have Ao:=Ac.lt;have E:=Jh Aa (cE Ab Ac);clear u A Aa Ab B Ad;obtain⟨Ae,Ah,Af,Ai,Ag,Aj⟩:=Ac.n3 rfl;go_wp2;obtain⟨Aa,Ab,Al⟩:=E.out;have H:=((Al.setI 0 (an C 1 D)).setI 1 (ao ar 0)).setI 2 (ao ar 0);obtain⟨K,M,N⟩:=H.m3 rfl;refine bj (v:=ew #[an C 1 D,ao ar 0,ao ar 0]) (by simp[cD,kj,go_sem,K,M,N]) rfl ?_;exact⟨_,rfl,Aa,Ab⟩
theorem Qa(s:E7)(k:Nat)(w:cd)(hs:s.size<=1048576)(hk:k<s.size)(Y:s[k]'hk≠10)(h:lC (s[k]'hk)=true) :
  cJ bh 62 #[al s,ao ar (k:Nat)] w (CJ w s k (.tok 1 (1+uF (s.data.toList.drop (k+1))))):=by
 have Av:=gu Y (m:=10) rfl;have Aq:=jw (s[k]'hk);rw[h] at Aq;clear h Y;have M:cj w.heap.size w (w.alloc (aE #[an aq 0 0,ao ar 0,ao ar 0] 81)):=(ba _ w).alloc lz _;have Ac:=aa.new w #[an aq 0 0,ao ar 0,ao ar 0] 81;obtain⟨q,N⟩:∃q,uF (s.data.toList.drop (k+1))=q:=⟨_,rfl⟩;rw[N];have Ax:q<=s.size-(k+1):=by rw[<-N];have:=Kw (s.data.toList.drop (k+1));rw[bm,<-ak] at this;exact this
 have HQ:=Hh N;clear N;have O:=nL s k (1+q) 1 (w.alloc (aE #[an aq 0 0,ao ar 0,ao ar 0] 81)) (by omega) (by omega);have HH:=Jh M (cE Ac O);clear M Ac O;go_in;go_wp2_with fail;refine (Aq _).mono ?_;rintro _ _ ⟨rfl,K⟩;cases K
 go_wp2;go_loop [5] (fun n=>∃j:Nat,n=ao ar (j:Int)/\1<=j/\k+j<=s.size/\j+uF (s.data.toList.drop (k+j))=1+q) (fun n=>s.size-(k+(cR n).toNat))
 .exact⟨1,rfl,cA _,hk,by rw[HQ.out]⟩
 clear HQ;obtain⟨j,rfl,Aw,hj,E⟩:=hrel
 by_cases A:k+j<s.size
 .have As:=IC s.data.toList (k+j) (by rw[<-ak];exact A)
  rw[As] at E;have Ae:=jw (s[k+j]'A);rw[<-jW A,show Ky (s[k+j]'A)=(lC (s[k+j]'A) || dg (s[k+j]'A)) from rfl] at E;clear As;have An:0<=(k:Int)+j/\(k:Int)+j<s.size:=by omega
  have Ar:0<=(k:Int)+j/\(k:Int)+j<(s.size:Int):=An
  cases M:lC (s[k+j]'A) with
  |true=>
   rw[M] at E Ae;simp only[Bool.true_or,if_true] at E;have S:=Hh E;clear E M;go_wp2_with fail;refine (Ae _).mono ?_;rintro _ _ ⟨rfl,K⟩;cases K
   go_wp2;go_round
   .exact⟨j+1,by go_num,by omega,by omega,by have:=S.out;rw[show k+(j+1)=k+j+1 by omega];omega⟩
   simp[cR];omega
  |false=>
   rw[M] at E Ae
   cases hd:dg (s[k+j]'A) with
   |true=>
    rw[hd] at E;have Am:=uV hd;simp only[Bool.or_true,if_true] at E;have S:=Hh E;clear E M hd;go_wp2_with fail;refine (Ae _).mono ?_;rintro _ _ ⟨rfl,K⟩;cases K
    go_wp2;go_round
    .exact⟨j+1,by go_num,by omega,by omega,by have:=S.out;rw[show k+(j+1)=k+j+1 by omega];omega⟩
    simp[cR];omega
   |false=>
    rw[hd] at E
    have Am:(s[k+j]'A).toNat<48\/(48<=(s[k+j]'A).toNat/\57<(s[k+j]'A).toNat):=by
     have:¬(48<=(s[k+j]'A).toNat/\(s[k+j]'A).toNat<=57):=by simpa [dg,Mo] using hd
     omega
    simp only[my,Bool.false_eq_true,if_false] at E;have Ap:j=1+q:=by omega
    clear E M hd;subst Ap;rcases Am with Am|Am
    all_goals
     go_wp2_with fail;refine (Ae _).mono ?_;rintro _ _ ⟨rfl,K⟩;cases K
     go_wp2_with fail;obtain⟨M,Ac,O⟩:=HH.out;refine (O).mono ?_;rintro _ w2 ⟨v,rfl,D,G⟩;obtain⟨Ad,Aa,Ab,-⟩:=kW (a:=0) (e:=0) M Ac G.size D G;obtain⟨P,R,Al⟩:=D.len;simp only[bc,cY,df] at Al;subst Al;have Au:=Ad.lt;have U:=Jh Aa (cE Ab Ad);clear D G Aa Ab M Ac;obtain⟨Af,Ai,Ag,Aj,Ah,Ak⟩:=Ad.n3 rfl;go_wp2;obtain⟨Aa,Ab,Ao⟩:=U.out;have N:=((Ao.setI 0 (an P 1 R)).setI 1 (ao ar 0)).setI 2 (ao ar 0);obtain⟨Z,hy,hz⟩:=N.m3 rfl;refine bj (v:=ew #[an P 1 R,ao ar 0,ao ar 0]) (by simp[cD,kj,go_sem,Z,hy,hz]) rfl ?_;exact⟨_,rfl,Aa,Ab⟩
 .have At:k+j=s.size:=by omega
  have he:uF (s.data.toList.drop (k+j))=0:=by rw[At,ak,ei];rfl
  rw[he] at E;have Ap:j=1+q:=by omega
  clear E he;subst Ap;go_wp2_with fail;obtain⟨M,Ac,O⟩:=HH.out;refine (O).mono ?_;rintro _ w2 ⟨v,rfl,D,G⟩;obtain⟨Ad,Aa,Ab,-⟩:=kW (a:=0) (e:=0) M Ac G.size D G;obtain⟨P,R,Al⟩:=D.len;simp only[bc,cY,df] at Al;subst Al;have Au:=Ad.lt;have U:=Jh Aa (cE Ab Ad);clear D G Aa Ab M Ac;obtain⟨Af,Ai,Ag,Aj,Ah,Ak⟩:=Ad.n3 rfl;go_wp2;obtain⟨Aa,Ab,Ao⟩:=U.out;have N:=((Ao.setI 0 (an P 1 R)).setI 1 (ao ar 0)).setI 2 (ao ar 0);obtain⟨Z,hy,hz⟩:=N.m3 rfl;refine bj (v:=ew #[an P 1 R,ao ar 0,ao ar 0]) (by simp[cD,kj,go_sem,Z,hy,hz]) rfl ?_;exact⟨_,rfl,Aa,Ab⟩
theorem Tw(s:E7)(k n:Nat):(s.extract k (k+n)).data.toList=(s.data.toList.drop k).take n:=by rw[fU,gO];congr 1;omega
theorem Kc(s:E7)(k:Nat)(w:cd)(hs:s.size<=1048576)(hk:k<s.size)(hl:lC (s[k]'hk)=false)(h:dg (s[k]'hk)=true) :
  cJ bh 62 #[al s,ao ar (k:Nat)] w (CJ w s k (nA (s.data.toList.drop k))):=by
 have Aw:=gu (uU h (d:=10) rfl) (m:=10) rfl;have Ax:=uV h;have Af:=jw (s[k]'hk);rw[hl] at Af;have N:=fun W=>yo (s.extract k s.size) W (by rw[gx];omega);rw[xC] at N;have Av:=rR (s.data.toList.drop k);rw[bm,<-ak] at Av;have K:=fun W=>GY (s.extract k (k+dB (s.data.toList.drop k))) W (by rw[gx];omega);rw[Tw] at K;unfold nA OC;clear hl h;generalize dB (s.data.toList.drop k)=n at *;obtain⟨⟨⟨b,d,x⟩,z⟩,hR⟩:∃r,decR ((s.data.toList.drop k).take n)=r:=⟨_,rfl⟩;rw[hR] at K ⊢;simp only[eQ] at K ⊢;clear hR;have H:cj w.heap.size w (w.alloc (aE #[an aq 0 0,ao ar 0,ao ar 0] 81)):=(ba _ w).alloc lz _;have Ac:=aa.new w #[an aq 0 0,ao ar 0,ao ar 0] 81
 by_cases M:z=0
 .subst M
  rw[E4 rfl];go_in;go_wp2_with fail;refine (Af _).mono ?_;rintro _ _ ⟨rfl,F⟩;cases F
  go_wp2_with fail;refine (N _).mono ?_;rintro _ _ ⟨rfl,F⟩;cases F
  go_wp2_with fail;refine (K _).mono ?_;rintro _ w1 ⟨rfl,E⟩;have Aa:=(Ac.below E Ac.lt).alloc (aE #[cG b,al (au d),ao ar x] 136);have Ad:=(H.trans (E.mono H.size)).alloc (dy H.size E.size) (aE #[cG b,al (au d),ao ar x] 136);clear H Ac E K N;have H:=Ad;have Ac:=Aa;clear Ad Aa;go_wp2_with fail;refine (nL s k n 2 _ (by omega) (by omega)).mono ?_;rintro _ w2 ⟨v,rfl,G,Ad⟩;obtain⟨Am,Ab,Ae,-⟩:=kW (a:=0) (e:=0) H Ac Ad.size G Ad;obtain⟨va,vc,At⟩:=G.len
  (try simp only[bc,cY,df] at At)
  subst At;have Az:=Am.lt;have HX:=Jh Ab (cE Ae Am);clear G Ad Ab Ae H Ac;obtain⟨An,Aq,Ao,Ar,Ap,As⟩:=Am.n3 rfl;go_wp2;obtain⟨Ab,Ae,Au⟩:=HX.out;have O:=((Au.setI 0 (an va 1 vc)).setI 1 (ao ar 0)).setI 2 (ao ar 0);obtain⟨T,hy,M⟩:=O.m3 rfl;refine bj (v:=ew #[an va 1 vc,ao ar 0,ao ar 0]) (by simp[cD,kj,go_sem,T,hy,M]) rfl ?_;exact⟨_,rfl,Ab,Ae⟩
 .have A0:(z != 0)=true:=by simpa using M
  rw[E6 M];go_in;go_wp2_with fail;refine (Af _).mono ?_;rintro _ _ ⟨rfl,F⟩;cases F
  go_wp2_with fail;refine (N _).mono ?_;rintro _ _ ⟨rfl,F⟩;cases F
  go_wp2_with fail;refine (K _).mono ?_;rintro _ w1 ⟨rfl,E⟩;have Aa:=Ac.below E Ac.lt;have HB:=Hh (H.trans (E.mono H.size));have Ay:=Aa.lt;have HC:=Hh Aa;clear H Ac E K N;obtain⟨Ag,Aj,Ah,Ak,Ai,Al⟩:=Aa.n3 rfl;clear Aa;go_wp2;have O:=((((HC.out).setI 0 (an aq 0 0)).setI 1 (ao ar (k:Nat))).setI 2 (ao ar z)).alloc (aE #[cG b,al (au d),ao ar x] 136);obtain⟨T,hy,M⟩:=O.m3 rfl;refine bj (v:=ew #[an aq 0 0,ao ar (k:Nat),ao ar z]) (by simp[cD,kj,go_sem,T,hy,M]) rfl ?_;exact⟨_,by simp[Bz],aS.nil,(aZ _ _ lz [an aq 0 0,ao ar (k:Nat),ao ar z] 0 _ _ HB.out).alloc (by rw[aD];exact HB.out.size) _⟩
theorem Kb(s:E7)(k:Nat)(w:cd)(hs:s.size<=1048576)(hk:k<s.size)(h:s[k]'hk=34) :
  cJ bh 62 #[al s,ao ar (k:Nat)] w (CJ w s k (oG (s.data.toList.drop k))):=by
 have Aw:(s[k]'hk).toNat=34:=by rw[h];rfl
 have Ag:=jw 34;rw[show lC 34=false from rfl] at Ag;have O:=fun W=>vJ (s.extract k s.size) W (by rw[gx];omega);rw[show bs (s.extract k s.size)=nb (s.data.toList.drop k) by unfold bs nb;rw[xC]] at O;unfold oG;have Ae:=fun h=>(kg (gN (s.data.toList.drop k)) h).2;rw[kr,bm,<-ak] at Ae;clear h;generalize aW (nb (s.data.toList.drop k))=q at *;obtain⟨R,T,P⟩:=q;simp only[cK] at O Ae ⊢;generalize bH (un R)=R at *;have F:cj w.heap.size w (w.alloc (aE #[an aq 0 0,ao ar 0,ao ar 0] 81)):=(ba _ w).alloc lz _;have Ac:=aa.new w #[an aq 0 0,ao ar 0,ao ar 0] 81
 by_cases he:P=0
 .subst he
  have A0:=Ae rfl;rw[E4 rfl];clear Ae;go_in;go_wp2_with fail;refine (Ag _).mono ?_;rintro _ _ ⟨rfl,M⟩;cases M
  go_wp2_with fail;refine (O _).mono ?_;rintro _ w1 ⟨rfl,A⟩;have Aa:=(Ac.below A Ac.lt).alloc (aE #[al R,ao ar (T:Int),ao ar ((0:Nat):Int)] 140);have Ad:=(F.trans (A.mono F.size)).alloc (dy F.size A.size) (aE #[al R,ao ar (T:Int),ao ar ((0:Nat):Int)] 140);clear F Ac A O;have F:=Ad;have Ac:=Aa;clear Ad Aa;go_wp2_with fail;refine (nL s k T 3 _ (by omega) (by omega)).mono ?_;rintro _ w2 ⟨v,rfl,E,Ad⟩;obtain⟨U,Ab,Af,-⟩:=kW (a:=0) (e:=0) F Ac Ad.size E Ad;obtain⟨va,vc,Au⟩:=E.len
  (try simp only[bc,cY,df] at Au)
  subst Au;have Az:=U.lt;have HX:=Jh Ab (cE Af U);clear E Ad Ab Af F Ac;obtain⟨Ao,Ar,Ap,As,Aq,At⟩:=U.n3 rfl;go_wp2;obtain⟨Ab,Af,Av⟩:=HX.out;have V:=((Av.setI 0 (an va 1 vc)).setI 1 (ao ar 0)).setI 2 (ao ar 0);obtain⟨Y,hy,hz⟩:=V.m3 rfl;refine bj (v:=ew #[an va 1 vc,ao ar 0,ao ar 0]) (by simp[cD,kj,go_sem,Y,hy,hz]) rfl ?_;exact⟨_,rfl,Ab,Af⟩
 .have Ax:((P:Int) != 0)=true:=by rw[bne_iff_ne];omega
  rw[E6 (by omega)];clear he Ae;go_in;go_wp2_with fail;refine (Ag _).mono ?_;rintro _ _ ⟨rfl,M⟩;cases M
  go_wp2_with fail;refine (O _).mono ?_;rintro _ w1 ⟨rfl,A⟩;have Aa:=Ac.below A Ac.lt;have HB:=Hh (F.trans (A.mono F.size));have Ay:=Aa.lt;have HC:=Hh Aa;clear F Ac A O;obtain⟨Ah,Ak,Ai,Al,Aj,Am⟩:=Aa.n3 rfl;clear Aa;go_wp2;have V:=((((HC.out).setI 0 (an aq 0 0)).setI 1 (ao ar (k:Nat))).setI 2 (ao ar (P:Nat))).alloc (aE #[al R,ao ar (T:Int),ao ar (P:Int)] 140);obtain⟨Y,hy,hz⟩:=V.m3 rfl;refine bj (v:=ew #[an aq 0 0,ao ar (k:Nat),ao ar (P:Nat)]) (by simp[cD,kj,go_sem,Y,hy,hz]) rfl ?_;exact⟨_,by simp[Bz],aS.nil,(aZ _ _ lz [an aq 0 0,ao ar (k:Nat),ao ar (P:Nat)] 0 _ _ HB.out).alloc (by rw[aD];exact HB.out.size) _⟩
theorem Jz(a:Bs)(b:UInt8)(cs:Bs):iu (a++[b]) cs=if cs.contains b then iu a cs else a++[b]:=by
 unfold iu;rw[o4,List.reverse_singleton,fc,rK]
 by_cases h:cs.contains b=true
 .rw[E4 h,E4 h]
 .rw[E6 h,E6 h];simp
theorem Od(l:Bs){r:Bs}(h:l=c::r)(b:c≠10):1<=cO l:=by
 rw[h,cO,E6 b];omega
theorem Ka(s:E7)(k:Nat)(w:cd)(hs:s.size<=1048576)(hk:k<s.size)(K:s[k]'hk=35\/(s[k]'hk=47/\(s.data.toList.drop (k+1)).head?=aw 47)) :
  cJ bh 62 #[al s,ao ar (k:Nat)] w (CJ w s k (gp (iy (s.data.toList.drop k)) 6)):=by
 have hd:=fI hk;obtain⟨L,U⟩:∃L,(s.data.toList.drop k).take (cO (s.data.toList.drop k))=L:=⟨_,rfl⟩;obtain⟨F,Ac⟩:∃F,cO (s.data.toList.drop k)=F:=⟨_,rfl⟩;have A5:=sw (s.data.toList.drop k);rw[Ac,bm,<-ak] at A5;have Ao:L.length=F:=by rw[<-U,Ac,c8,bm,<-ak];omega
 have Ax:iy (s.data.toList.drop k)=iu L gm:=by unfold iy;rw[U]
 have Aw:∀j,j<=F->(s.data.toList.take (k+j)).drop k=L.take j:=by
  intro j V;rw[<-U,Ac,List.take_take,Nat.min_eq_left V,gO];congr 1;omega
 have Af:∀j,j<F->∃h2:k+j<s.size,L[j]?=aw (s[k+j]'h2):=by
  intro j h1;have h2:k+j<s.size:=by omega
  have h3:(s.data.toList.drop k)[j]?=aw (s[k+j]'h2):=by
   rw[List.getElem?_drop,jW,br]
  refine⟨h2,?_⟩;rw[<-h3,<-U,List.getElem?_take,E4 (by omega)]
 have h1:1<=F:=by
  rw[<-Ac];refine Od _ hd ?_;rcases K with h|⟨h,-⟩<;>rw[h]<;>decide
 have Ap:aN (s[k]'hk)=false:=by rcases K with h|⟨h,-⟩<;>rw[h]<;>rfl
 have hE:=fun W=>Mj s k W (by omega) (by omega);rw[Ac] at hE;rw[Ax];have Ai:=fun W=>vR s k ⟨#[47,47]⟩ W (by omega) (by omega) (by decide);rw[show (⟨#[47,47]⟩:E7).data.toList.isPrefixOf (s.data.toList.drop k)=decide (s[k]'hk=47/\(s.data.toList.drop (k+1)).head?=aw 47) by rw[hd];exact C8 47 47 _ _] at Ai;have An:=fun j W (V:j<=F)=>ze s k (k+j) 6 W hs (by omega) (by omega)
 have Ad:∀j W,j<=F->cJ bh 103 #[al s,ao ar (k:Nat),ao ar ((k+j:Nat):Int),ao ar ((6:Nat):Int)] W (Ey W (Bz s k (gp (L.take j) 6)).1 (Bz s k (gp (L.take j) 6)).2.1 (Bz s k (gp (L.take j) 6)).2.2):=fun j W V=>by
  have:=An j W V;rw[Aw j V] at this;exact this
 have A0:=Hh Ad;have HG:=Hh Af;have Az:=Hh Ap;have A1:=Hh Ao;clear An Ad Aw U Ac hd Ax Af Ap Ao;have T:cj w.heap.size w (w.alloc (aE #[an aq 0 0,ao ar 0,ao ar 0] 81)):=(ba _ w).alloc lz _;have Ab:=aa.new w #[an aq 0 0,ao ar 0,ao ar 0] 81;have HH:=Jh T Ab;rcases K with K|⟨K,hr⟩
 focus
  have A4:(s[k]'hk).toNat=35:=by rw[K];rfl
  have Ae:=jw 35;rw[show lC 35=false from rfl] at Ae;clear K Ai T Ab;go_in;go_wp2_with fail;refine (Ae _).mono ?_;rintro _ _ ⟨rfl,A⟩;cases A
 rotate_left
 focus
  have A4:(s[k]'hk).toNat=47:=by rw[K];rfl
  have Ae:=jw 47;rw[show lC 47=false from rfl] at Ae;rw[decide_eq_true ⟨K,hr⟩] at Ai;clear K hr T Ab;go_in;go_wp2_with fail;refine (Ae _).mono ?_;rintro _ _ ⟨rfl,A⟩;cases A
  go_wp2_with fail;refine (Ai _).mono ?_;rintro _ _ ⟨rfl,A⟩;cases A
 all_goals
  go_wp2_with fail;refine (hE _).mono ?_;rintro _ _ ⟨rfl,A⟩;cases A
  go_wp2;go_loop [10] (fun n=>∃m:Nat,n=ao ar (((k+m:Nat):Int)+1)/\m<F/\iu (L.take (m+1)) gm=iu L gm) (fun n=>(cR n).toNat)
  .exact⟨F-1,by congr 1;omega,by omega,by rw[List.take_of_length_le (by rw[A1.out];omega)]⟩
  obtain⟨m,rfl,hm,M⟩:=hrel;obtain⟨Ag,Am⟩:=HG.out m hm;have Aj:L.take (m+1)=L.take m++[s[k+m]'Ag]:=by rw[sr,Am];rfl
  rw[Aj,Jz,<-Aj] at M;have Ah:=yQ (s[k+m]'Ag)
  cases hbl:aN (s[k+m]'Ag) with
  |true=>
   rw[hbl] at Ah;rw[show gm.contains (s[k+m]'Ag)=true from hbl,E4 rfl] at M
   have A7:m≠0:=by
    rintro rfl;have:=Az.out;simp only[Nat.add_zero] at hbl;rw[hbl] at this;cases this
   have HI:=Hh M;clear M Aj Am hbl;go_wp2_with fail;refine (Ah _).mono ?_;rintro _ _ ⟨rfl,A⟩;cases A
   go_wp2;go_round
   .exact⟨m-1,by congr 1;omega,by omega,by rw[show m-1+1=m by omega];exact HI.out⟩
   simp[cR];omega
  |false=>
   rw[hbl] at Ah;rw[show gm.contains (s[k+m]'Ag)=false from hbl,E6 (by simp)] at M;have HI:=Hh M;have Z:=A0.out (m+1) (w.alloc (aE #[an aq 0 0,ao ar 0,ao ar 0] 81)) hm;rw[show ((k+(m+1):Nat):Int)=((k+m:Nat):Int)+1 by omega] at Z;clear M Aj Am hbl;obtain⟨⟨tl,ta,te⟩,Y⟩:∃x,Bz s k (gp (L.take (m+1)) 6)=x:=⟨_,rfl⟩;rw[Y] at Z;have A2:=Hh Y;clear Y;simp only at Z;go_wp2_with fail;refine (Ah _).mono ?_;rintro _ _ ⟨rfl,A⟩;cases A
   go_wp2_with fail;obtain⟨T,Ab⟩:=HH.out;refine (Z).mono ?_;rintro _ w2 ⟨v,rfl,D,P⟩;obtain⟨Al,Aa,Ak,-⟩:=kW (a:=ta) (e:=te) T Ab P.size D P;obtain⟨va,vc,Ay⟩:=D.len
   (try simp only[bc,cY,df] at Ay)
   subst Ay;have A6:=Al.lt;have HX:=Jh Aa (cE Ak Al);clear D P Aa Ak T Ab;obtain⟨Aq,At,Ar,Au,As,Av⟩:=Al.n3 rfl;go_wp2;obtain⟨Aa,Ak,A3⟩:=HX.out;have hq:=((A3.setI 0 (an va tl.length vc)).setI 1 (ao ar ta)).setI 2 (ao ar te);obtain⟨Y,hy,hz⟩:=hq.m3 rfl;refine bj (v:=ew #[an va tl.length vc,ao ar ta,ao ar te]) (by simp[cD,kj,go_sem,Y,hy,hz]) rfl ?_;unfold CJ;rw[<-HI.out,A2.out];exact⟨_,rfl,Aa,Ak⟩
end Go.Proofs.YtgmpmolfcaihfaaGreatDoor
