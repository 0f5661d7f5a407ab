import Derived.Test.YtbcdaaobbebooaaGreatDoorKgd
import Derived.Lib.IndexLaws
import Derived.Shelf.Strings.SlTrimAscii
import Derived.WalkMore
set_option linter.unusedSimpArgs false
set_option linter.unusedVariables false
set_option maxRecDepth 100000
set_option maxHeartbeats 20000000
namespace Go.Proofs.YtbcdaaobbebooaaGreatDoor
open Go.RowKit Go.Tab
theorem Jp(s:ByteArray)(w:World)(hs:s.size<=1048576):Calls Tryz.prog 181 #[.string s] w fun e w'=>e=.returned (.string s)/\Below w.heap.size w w':=by
 have hF:=fun W=>Go.Proofs.Tryz.stringslite_Clone s W (by omega);go_enter Tryz.func181,Tryz.ntmps181;go_wp2_with fail;refine (hF _).mono ?_;rintro _ w1 ⟨rfl,hb⟩;go_wp2;go_ret;exact⟨rfl,hb⟩
def dL(r:(Bool×Bs×Int)×Int):Value:=.tuple #[.agg #[.bool r.1.1,.string (ay r.1.2.1),.int .i64 r.1.2.2],.int .i64 r.2]
theorem JF(s:ByteArray)(w:World)(hT:vG w)(hs:s.size<=1048576)(h:s.data.toList=[]\/cB s.data.toList≠s.size) :
  Calls Tryz.prog 153 #[.string s] w fun e w'=>e=.returned (dL ((false,[],0),3))/\Below w.heap.size w w':=by
 by_cases h0:s.size=0
 ·have hd:s=⟨#[]⟩:=FN h0
  subst hd;clear h h0 hs;go_enter Tryz.func153,Tryz.ntmps153;go_wp2;refine bodyPost_ret (v:=dL ((false,[],0),3)) (by simp[results,Tryz.results153,go_sem,dL,ay]) rfl ⟨rfl,?_⟩
  (with_reducible repeat' first|refine Below.setCell ?_ ?_ _|refine Below.alloc ?_ ?_ _|refine Below.drew ?_|refine ah ?_ _|assumption|exact Below.refl _ _|(simp only[World.size_alloc,World.size_setCell,World.size_drew];first|done|omega)|omega)
 ·have Aa:=Bh h0
  have hn:((cB s.data.toList:Int) != (s.size:Int))=true:=by
   rcases h with h|h
   ·rw[au,h] at h0;exact absurd rfl h0
   ·rw[bne_iff_ne];omega
  have hS:=yH s (w.alloc (.cells #[.bool false,.string ⟨#[]⟩,.int .i64 0] 122)) (fun j hj=>by rw[World.cell?_alloc_past _ _ _ hT.pos];exact hT j hj) (by unfold maxLen;omega);clear h h0;go_enter Tryz.func153,Tryz.ntmps153;go_wp2_with fail;refine hS.mono ?_;rintro _ w1 ⟨rfl,n,rfl⟩;go_wp2;refine bodyPost_ret (v:=dL ((false,[],0),3)) (by simp[results,Tryz.results153,go_sem,dL,ay]) rfl ⟨rfl,?_⟩
  (with_reducible repeat' first|refine Below.setCell ?_ ?_ _|refine Below.alloc ?_ ?_ _|refine Below.drew ?_|refine ah ?_ _|assumption|exact Below.refl _ _|(simp only[World.size_alloc,World.size_setCell,World.size_drew];first|done|omega)|omega)
theorem CV(sg pw:Bs) : -1099511627776<=nX sg pw/\nX sg pw<=1099511627776:=by
 have:=nK pw 0 (by omega);unfold nX NS;split<;>omega
theorem Mj(l:Bs)(k:Nat)(h:k<(ay l).size):(ay l)[k]'h=l[k]'(by rw[<-aX];exact h):=rfl
theorem wG(l:Bs)(a b:Nat):(ay l).extract a b=ay ((l.take b).drop a):=kg (by rw[eQ,bU,bU])
theorem Dz(l:Bs)(v:Int)(W:World)(hl:l.length<=1048576)(ha:∀x∈l,x.toNat<128)(hv:Lib.indexAny l [101,69]=v) :
  Calls Tryz.prog 166 #[.string (ay l),.string ⟨#[101,69]⟩] W fun e w'=>e=.returned (.int .i64 v)/\Below W.heap.size W w':=by
 subst hv;refine Go.Proofs.Tryz.strings_IndexAny_laid (ay l) ⟨#[101,69]⟩ W (by rw[aX];omega) (by decide) (fun j b hb=>ha b (List.mem_of_getElem? hb)) (fun j b hb=>?_);have hm:b∈([101,69]:Bs):=List.mem_of_getElem? hb;simp at hm
 rcases hm with rfl|rfl<;>decide
theorem FY(s:ByteArray)(neg:Bool)(ip fr mk sg pw:Bs)(w:World)(hT:vG w)(hs:s.size<=1048576)(h:bg s.data.toList neg ip fr mk sg pw) :
  Calls Tryz.prog 153 #[.string s] w fun e w'=>e=.returned (dL (gq neg ip fr (nX sg pw)))/\Below w.heap.size w w':=by
 have Bt:s.toList.isEmpty=false:=Bh (by rw[au];exact om h.scan.2)
 have hn:((cB s.data.toList:Int) != (s.size:Int))=false:=by
  rw[h.scan.1,au];exact bne_self_eq_false _
 have hS:=yH s (w.alloc (.cells #[.bool false,.string ⟨#[]⟩,.int .i64 0] 122)) (fun j hj=>by rw[World.cell?_alloc_past _ _ _ hT.pos];exact hT j hj) (by unfold maxLen;omega);have As:=h.len;have hC:∀W,Calls Tryz.prog 177 #[.string s,.string ⟨#[45]⟩] W fun e w'=>e=.returned (.tuple #[.string (ay (aC ip fr++(mk++(sg++pw)))),.bool neg])/\W=w':=fun W=>(Go.Proofs.Tryz.strings_CutPrefix s ⟨#[45]⟩ W).mono fun e w' ⟨h1,h2⟩=>⟨by rw[h1];show Ending.returned (.tuple #[.string ⟨(Lib.trimPrefix s.data.toList [45]).toArray⟩,.bool (Lib.hasPrefix s.data.toList [45])])=_;rw[h.cut.1,h.cut.2];rfl,h2.symm⟩;obtain⟨p,hp⟩:∃p,nX sg pw=p:=⟨_,rfl⟩;have Bg:=CV sg pw;rw[hp] at Bg;have hP:=Hh hp;have Aq:=ww (ip++fr);have A5:(gF ip fr).length<=(iM ip fr).length:=Cb _;rw[List.length_append] at Aq;change (iM ip fr).length<=_ at Aq;rw[<-au] at As;obtain⟨l1,l2,l3,l4⟩:=As;have Ar:∀W,Calls Tryz.prog 179 #[.string (ay (ip++fr)),.string ⟨#[48]⟩] W fun e w'=>e=.returned (.string (ay (iM ip fr)))/\W=w':=fun W=>(Go.Proofs.Tryz.strings_TrimLeft_one (ay (ip++fr)) 48 (by decide) W).mono fun _ _ h=>⟨h.1,h.2.symm⟩;have Ak:∀W,Calls Tryz.prog 159 #[.string (ay (iM ip fr)),.string ⟨#[48]⟩] W fun e w'=>e=.returned (.string (ay (gF ip fr)))/\W=w':=fun W=>(Go.Proofs.Tryz.strings_TrimRight_one (ay (iM ip fr)) 48 (by decide) W (by rw[aX];omega)).mono fun _ _ h=>⟨h.1,h.2.symm⟩
 have A6:=fun W v (hv:Lib.indexAny (aC ip fr++(mk++(sg++pw))) [101,69]=v)=>Dz (aC ip fr++(mk++(sg++pw))) v W (by omega) h.ascii hv
 by_cases hm:mk=[]
 focus
  obtain⟨m1,m2,m3⟩:=h.mark_none hm;have hI:=fun W=>A6 W _ m1;rw[hp] at m3;rw[m2] at hC hI;clear A6 m1 m2
  by_cases hf:fr=[]
  focus
   obtain⟨p1,p2⟩:=h.point_none hf;have hB:∀W,Calls Tryz.prog 87 #[.string (ay (aC ip fr)),.int .u8 46] W fun e w'=>e=.returned (.int .i64 (-1))/\W=w':=fun W=>(Go.Proofs.Tryz.strings_IndexByte (ay (aC ip fr)) 46 W).mono fun e w' ⟨h1,h2⟩=>⟨by rw[h1];show Ending.returned (.int .i64 (Lib.indexByte (aC ip fr) 46))=_;rw[p1],h2.symm⟩;rw[p2] at hB hC hI;have Ba:fr.length=0:=by rw[hf];rfl
   have Aj:(ay (iM ip fr)).size=(iM ip fr).length:=aX _;have Ai:(ay (gF ip fr)).size=(gF ip fr).length:=aX _;clear h hm hf p1 p2 hp l4;generalize ay (ip++fr)=G at *;generalize hD:ay (iM ip fr)=D at Ar Ak Aj;generalize hCe:ay (gF ip fr)=C at Ak Ai;have HC:=Hh hCe;have SD:=Hh Aj;have SC:=Hh Ai;have A7:C.size<=D.size:=by omega
   have A8:D.size<=1048576:=by omega
   clear hD hCe Aj Ai Aq A5;obtain⟨E,hE⟩:∃E:Int,E=(D.size:Int)-(C.size:Int):=⟨_,rfl⟩;have Ah:∀n,ae ((w.alloc (.cells #[.bool false,.string ⟨#[]⟩,.int .i64 0] 122)).drewN n) w.heap.size #[.bool false,.string ⟨#[]⟩,.int .i64 0] 122:=fun n=>(ae.new w _ _).drewN n;have Ag:∀n,Below w.heap.size w ((w.alloc (.cells #[.bool false,.string ⟨#[]⟩,.int .i64 0] 122)).drewN n):=fun n=>ah ((Below.refl _ w).alloc lz _) n;go_enter Tryz.func153,Tryz.ntmps153;go_wp2_with fail;refine hS.mono ?_;clear hS;rintro _ w1 ⟨rfl,n,rfl⟩;go_wp2_with fail;refine (hC _).mono ?_;rintro _ _ ⟨rfl,rfl⟩;go_wp2_with fail;refine (hI _).mono ?_;rintro _ w4 ⟨rfl,hb⟩;have hx:=(Ah n).below hb (Ah n).lt;have hb:=(Ag n).trans (hb.mono (Ag n).size);clear Ah Ag;obtain⟨Aa,Ad,Ab,Ae,Ac,Af⟩:=hx.n3 rfl;go_wp2_with fail;refine (hB _).mono ?_;rintro _ _ ⟨rfl,rfl⟩
  rotate_left
  focus
   obtain⟨p1,p2⟩:=h.point_some hf;have hB:∀W,Calls Tryz.prog 87 #[.string (ay (aC ip fr)),.int .u8 46] W fun e w'=>e=.returned (.int .i64 (ip.length:Nat))/\W=w':=fun W=>(Go.Proofs.Tryz.strings_IndexByte (ay (aC ip fr)) 46 W).mono fun e w' ⟨h1,h2⟩=>⟨by rw[h1];show Ending.returned (.int .i64 (Lib.indexByte (aC ip fr) 46))=_;rw[p1],h2.symm⟩;have AB:=l4 hf;have AC:(ay (aC ip fr)).size=(aC ip fr).length:=aX _
   have Bj:(ay (aC ip fr)).extract 0 ip.length++(ay (aC ip fr)).extract (ip.length+1) (ay (aC ip fr)).size=ay (ip++fr):=by
    refine kg ?_;rw[yE,eQ,eQ,aX,bU,List.take_length,p2,bU];have e1:(ip++46::fr).drop (ip.length+1)=fr:=by rw[<-List.drop_drop,List.drop_left];rfl
    rw[e1,List.take_left];simp
   generalize ay (aC ip fr)=F at *;have AV:ip.length<=F.size:=by omega
   have AW:ip.length+1<=F.size:=by omega
   have AX:F.size<=1048576:=by omega
   have A9:Hid (F.size=ip.length+fr.length+1):=Hh (by omega);clear AB AC;have Aj:(ay (iM ip fr)).size=(iM ip fr).length:=aX _;have Ai:(ay (gF ip fr)).size=(gF ip fr).length:=aX _;clear h hm hf p1 p2 hp l4;generalize ay (ip++fr)=G at *;generalize hD:ay (iM ip fr)=D at Ar Ak Aj;generalize hCe:ay (gF ip fr)=C at Ak Ai;have HC:=Hh hCe;have SD:=Hh Aj;have SC:=Hh Ai;have A7:C.size<=D.size:=by omega
   have A8:D.size<=1048576:=by omega
   clear hD hCe Aj Ai Aq A5;obtain⟨E,hE⟩:∃E:Int,E = -((F.size:Int)-(ip.length:Int)-1)+((D.size:Int)-(C.size:Int)):=⟨_,rfl⟩;have Bq:Hid (F.size=ip.length+fr.length+1):=A9;have Ah:∀n,ae ((w.alloc (.cells #[.bool false,.string ⟨#[]⟩,.int .i64 0] 122)).drewN n) w.heap.size #[.bool false,.string ⟨#[]⟩,.int .i64 0] 122:=fun n=>(ae.new w _ _).drewN n;have Ag:∀n,Below w.heap.size w ((w.alloc (.cells #[.bool false,.string ⟨#[]⟩,.int .i64 0] 122)).drewN n):=fun n=>ah ((Below.refl _ w).alloc lz _) n;go_enter Tryz.func153,Tryz.ntmps153;go_wp2_with fail;refine hS.mono ?_;clear hS;rintro _ w1 ⟨rfl,n,rfl⟩;go_wp2_with fail;refine (hC _).mono ?_;rintro _ _ ⟨rfl,rfl⟩;go_wp2_with fail;refine (hI _).mono ?_;rintro _ w1 ⟨rfl,hb⟩;have hx:=(Ah n).below hb (Ah n).lt;have hb:=(Ag n).trans (hb.mono (Ag n).size);clear Ah Ag;obtain⟨Aa,Ad,Ab,Ae,Ac,Af⟩:=hx.n3 rfl;go_wp2_with fail;refine (hB _).mono ?_;rintro _ _ ⟨rfl,rfl⟩;go_wp2_with fail;go_region
   have Ap:=hx.drew;have Ao:Below w.heap.size w w1.drew:=Below.drew hb;clear hx hb Aa Ab Ac Ad Ae Af;generalize w1.drew=w4 at Ap Ao ⊢;have hx:=Ap;have hb:=Ao;clear Ap Ao;obtain⟨Aa,Ad,Ab,Ae,Ac,Af⟩:=hx.n3 rfl
 rotate_left 2
 focus
  obtain⟨m1,⟨m,Bd⟩,m3,m4⟩:=h.mark_some hm;subst Bd;have hI:=fun W=>A6 W _ m1;have AD:(ay (aC ip fr++([m]++(sg++pw)))).size=(aC ip fr++([m]++(sg++pw))).length:=aX _
  have AG:∀W,Calls Tryz.prog 178 #[.string (ay (sg++pw))] W fun e w'=>e=.returned (.int .i64 p)/\W=w':=fun W=>by
   rw[<-hp];refine CS _ sg pw W rfl m3 h.dpw m4 ?_;rw[aX];simp only[List.length_append] at l2 ⊢;omega
  have Bi:(ay (aC ip fr++([m]++(sg++pw)))).extract ((aC ip fr).length+1) (ay (aC ip fr++([m]++(sg++pw)))).size=ay (sg++pw):=by
   rw[AD,wG,List.take_length,<-List.drop_drop,List.drop_left];rfl
  have AI:(ay (aC ip fr++([m]++(sg++pw)))).extract 0 (aC ip fr).length=ay (aC ip fr):=by
   rw[wG,List.take_left];rfl
  have Bc:(aC ip fr).length+1<=(ay (aC ip fr++([m]++(sg++pw)))).size:=by rw[AD];simp
  have Bb:(aC ip fr).length<=(ay (aC ip fr++([m]++(sg++pw)))).size:=by omega
  have Br:(ay (aC ip fr++([m]++(sg++pw)))).size<=1048576:=by omega
  generalize ay (aC ip fr++([m]++(sg++pw)))=T at *;generalize ay (sg++pw)=P at *;obtain⟨q,hq⟩:∃q,(aC ip fr).length=q:=⟨_,rfl⟩;rw[hq] at hI Bi AI Bc Bb;clear A6 m1 m3 m4 AD l2
  by_cases hf:fr=[]
  focus
   obtain⟨p1,p2⟩:=h.point_none hf;have hB:∀W,Calls Tryz.prog 87 #[.string (ay (aC ip fr)),.int .u8 46] W fun e w'=>e=.returned (.int .i64 (-1))/\W=w':=fun W=>(Go.Proofs.Tryz.strings_IndexByte (ay (aC ip fr)) 46 W).mono fun e w' ⟨h1,h2⟩=>⟨by rw[h1];show Ending.returned (.int .i64 (Lib.indexByte (aC ip fr) 46))=_;rw[p1],h2.symm⟩;rw[p2] at hB AI;have Ba:fr.length=0:=by rw[hf];rfl
   clear hq l3;have Aj:(ay (iM ip fr)).size=(iM ip fr).length:=aX _;have Ai:(ay (gF ip fr)).size=(gF ip fr).length:=aX _;clear h hm hf p1 p2 hp l4;generalize ay (ip++fr)=G at *;generalize hD:ay (iM ip fr)=D at Ar Ak Aj;generalize hCe:ay (gF ip fr)=C at Ak Ai;have HC:=Hh hCe;have SD:=Hh Aj;have SC:=Hh Ai;have A7:C.size<=D.size:=by omega
   have A8:D.size<=1048576:=by omega
   clear hD hCe Aj Ai Aq A5;obtain⟨E,hE⟩:∃E:Int,E=p+((D.size:Int)-(C.size:Int)):=⟨_,rfl⟩;have Ah:∀n,ae ((w.alloc (.cells #[.bool false,.string ⟨#[]⟩,.int .i64 0] 122)).drewN n) w.heap.size #[.bool false,.string ⟨#[]⟩,.int .i64 0] 122:=fun n=>(ae.new w _ _).drewN n;have Ag:∀n,Below w.heap.size w ((w.alloc (.cells #[.bool false,.string ⟨#[]⟩,.int .i64 0] 122)).drewN n):=fun n=>ah ((Below.refl _ w).alloc lz _) n;go_enter Tryz.func153,Tryz.ntmps153;go_wp2_with fail;refine hS.mono ?_;clear hS;rintro _ w1 ⟨rfl,n,rfl⟩;go_wp2_with fail;refine (hC _).mono ?_;rintro _ _ ⟨rfl,rfl⟩;go_wp2_with fail;refine (hI _).mono ?_;rintro _ w4 ⟨rfl,hb⟩;have hx:=(Ah n).below hb (Ah n).lt;have hb:=(Ag n).trans (hb.mono (Ag n).size);clear Ah Ag;obtain⟨Aa,Ad,Ab,Ae,Ac,Af⟩:=hx.n3 rfl;go_wp2_with fail;refine (AG _).mono ?_;rintro _ _ ⟨rfl,rfl⟩;go_wp2_with fail;refine (hB _).mono ?_;rintro _ _ ⟨rfl,rfl⟩
  rotate_left
  focus
   obtain⟨p1,p2⟩:=h.point_some hf;have hB:∀W,Calls Tryz.prog 87 #[.string (ay (aC ip fr)),.int .u8 46] W fun e w'=>e=.returned (.int .i64 (ip.length:Nat))/\W=w':=fun W=>(Go.Proofs.Tryz.strings_IndexByte (ay (aC ip fr)) 46 W).mono fun e w' ⟨h1,h2⟩=>⟨by rw[h1];show Ending.returned (.int .i64 (Lib.indexByte (aC ip fr) 46))=_;rw[p1],h2.symm⟩;have AB:=l4 hf;clear hq;have AC:(ay (aC ip fr)).size=(aC ip fr).length:=aX _
   have Bj:(ay (aC ip fr)).extract 0 ip.length++(ay (aC ip fr)).extract (ip.length+1) (ay (aC ip fr)).size=ay (ip++fr):=by
    refine kg ?_;rw[yE,eQ,eQ,aX,bU,List.take_length,p2,bU];have e1:(ip++46::fr).drop (ip.length+1)=fr:=by rw[<-List.drop_drop,List.drop_left];rfl
    rw[e1,List.take_left];simp
   generalize ay (aC ip fr)=F at *;have AV:ip.length<=F.size:=by omega
   have AW:ip.length+1<=F.size:=by omega
   have AX:F.size<=1048576:=by omega
   have A9:Hid (F.size=ip.length+fr.length+1):=Hh (by omega);clear AB AC;have Aj:(ay (iM ip fr)).size=(iM ip fr).length:=aX _;have Ai:(ay (gF ip fr)).size=(gF ip fr).length:=aX _;clear h hm hf p1 p2 hp l4;generalize ay (ip++fr)=G at *;generalize hD:ay (iM ip fr)=D at Ar Ak Aj;generalize hCe:ay (gF ip fr)=C at Ak Ai;have HC:=Hh hCe;have SD:=Hh Aj;have SC:=Hh Ai;have A7:C.size<=D.size:=by omega
   have A8:D.size<=1048576:=by omega
   clear hD hCe Aj Ai Aq A5;obtain⟨E,hE⟩:∃E:Int,E=p-((F.size:Int)-(ip.length:Int)-1)+((D.size:Int)-(C.size:Int)):=⟨_,rfl⟩;have Ah:∀n,ae ((w.alloc (.cells #[.bool false,.string ⟨#[]⟩,.int .i64 0] 122)).drewN n) w.heap.size #[.bool false,.string ⟨#[]⟩,.int .i64 0] 122:=fun n=>(ae.new w _ _).drewN n;have Ag:∀n,Below w.heap.size w ((w.alloc (.cells #[.bool false,.string ⟨#[]⟩,.int .i64 0] 122)).drewN n):=fun n=>ah ((Below.refl _ w).alloc lz _) n;go_enter Tryz.func153,Tryz.ntmps153;go_wp2_with fail;refine hS.mono ?_;clear hS;rintro _ w1 ⟨rfl,n,rfl⟩;go_wp2_with fail;refine (hC _).mono ?_;rintro _ _ ⟨rfl,rfl⟩;go_wp2_with fail;refine (hI _).mono ?_;rintro _ w1 ⟨rfl,hb⟩;have hx:=(Ah n).below hb (Ah n).lt;have hb:=(Ag n).trans (hb.mono (Ag n).size);clear Ah Ag;obtain⟨Aa,Ad,Ab,Ae,Ac,Af⟩:=hx.n3 rfl;go_wp2_with fail;refine (AG _).mono ?_;rintro _ _ ⟨rfl,rfl⟩;go_wp2_with fail;refine (hB _).mono ?_;rintro _ _ ⟨rfl,rfl⟩;go_wp2_with fail;go_region
   have Ap:=hx.drew;have Ao:Below w.heap.size w w1.drew:=Below.drew hb;clear hx hb Aa Ab Ac Ad Ae Af;generalize w1.drew=w4 at Ap Ao ⊢;have hx:=Ap;have hb:=Ao;clear Ap Ao;obtain⟨Aa,Ad,Ab,Ae,Ac,Af⟩:=hx.n3 rfl
 all_goals
  go_wp2_with fail;refine (Ar _).mono ?_;rintro _ _ ⟨rfl,rfl⟩;go_wp2_with fail;refine (Ak _).mono ?_;rintro _ _ ⟨rfl,rfl⟩
  by_cases hz:C.size=0
  ·have AT:=FN hz
   have hV:=Hh (show gq neg ip fr (nX sg pw)=((false,[],0),0) by
    rw[gq,if_pos (List.eq_nil_of_length_eq_zero (by have:=SC.out;omega))])
   clear hz;subst AT;go_wp2;refine bodyPost_ret (v:=dL ((false,[],0),0)) (by simp[results,Tryz.results153,go_sem,dL,ay,Aa,Ab,Ac]) rfl ⟨by rw[hV.out],?_⟩
   (with_reducible repeat' first|refine Below.setCell ?_ ?_ _|refine Below.alloc ?_ ?_ _|refine Below.drew ?_|refine ah ?_ _|assumption|exact Below.refl _ _|(simp only[World.size_alloc,World.size_setCell,World.size_drew];first|done|omega)|omega)
  ·have Bn:=Bh hz
   have hR:=fun W=>Be neg C E W (by omega)
   have hV:=Hh (show gq neg ip fr (nX sg pw)=if oM neg C E then ((neg,gF ip fr,E),0) else ((false,[],0),4) by
    have AZ:gF ip fr≠[]:=fun e=>hz (by rw[SC.out,e];rfl);have AU:BZ ip fr (nX sg pw)=E:=by have:=SC.out;have:=SD.out;have:=hP.out;(try have:=A9.out);unfold BZ;omega
    rw[gq,if_neg AZ,AU,show (⟨(gF ip fr).toArray⟩:ByteArray)=C from HC.out])
   have Bp:=Hh hE;have Bo:=hE.symm;clear hz hE;go_wp2_with fail;refine (hR _).mono ?_;clear hR;rintro _ w2 ⟨rfl,hb2⟩;have AE:=(hx.alloc (.cells #[.bool neg,.string C,.int .i64 E] 122)).below hb2 (hx.alloc _).lt;have AF:=(ae.new w4 #[.bool neg,.string C,.int .i64 E] 122).below hb2 (ae.new _ _ _).lt;have AH:=(hb.alloc hb.size (.cells #[.bool neg,.string C,.int .i64 E] 122)).trans (hb2.mono (by simp only[World.size_alloc];have:=hb.size;omega));have Bv:=hb.size;have Bf:w.heap.size≠w4.heap.size:=fun e=>by have:=hx.lt;omega
   clear hb2 Aa Ab Ac Ad Ae Af;obtain⟨Al,At,Am,Au,An,Av⟩:=AE.n3 rfl;obtain⟨Az,A2,A0,A3,A1,A4⟩:=AF.n3 rfl
   by_cases hr:oM neg C E=true
   ·have AA:=Hh (show gq neg ip fr (nX sg pw)=((neg,gF ip fr,E),0) by rw[hV.out,if_pos hr])
    have AS:=fun W=>Jp C W (by omega);clear hV;go_wp2_with fail;refine (AS _).mono ?_;rintro _ w3 ⟨rfl,hb4⟩;have Bl:=AE.below hb4 AE.lt;have Bm:=AF.below hb4 AF.lt;have AY:=AH.trans (hb4.mono AH.size);have Bk:=AY.size;clear hb4 Al Am An At Au Av Az A0 A1 A2 A3 A4;obtain⟨Aw,AJ,Ax,AK,Ay,AL⟩:=Bl.n3 rfl;obtain⟨AM,AP,AN,AQ,AO,AR⟩:=Bm.n3 rfl;go_wp2;have hCe:=HC.out;refine bodyPost_ret (v:=dL ((neg,gF ip fr,E),0)) (by simp[results,Tryz.results153,go_sem,dL,hCe,Aw,Ax,Ay]) rfl ⟨by rw[AA.out],?_⟩
    (with_reducible repeat' first|refine Below.setCell ?_ ?_ _|refine Below.alloc ?_ ?_ _|refine Below.drew ?_|refine ah ?_ _|assumption|exact Below.refl _ _|(simp only[World.size_alloc,World.size_setCell,World.size_drew];first|done|omega)|omega)
   ·have AA:=Hh (show gq neg ip fr (nX sg pw)=((false,[],0),4) by rw[hV.out,if_neg hr])
    have Bu:oM neg C E=false:=by simpa using hr
    clear hV hr;go_wp2;refine bodyPost_ret (v:=dL ((false,[],0),4)) (by simp[results,Tryz.results153,go_sem,dL,ay,Al,Am,An]) rfl ⟨by rw[AA.out],?_⟩
    (with_reducible repeat' first|refine Below.setCell ?_ ?_ _|refine Below.alloc ?_ ?_ _|refine Below.drew ?_|refine ah ?_ _|assumption|exact Below.refl _ _|(simp only[World.size_alloc,World.size_setCell,World.size_drew];first|done|omega)|omega)
structure jk(w:World):Prop where
 utf:Tab w
 steps:vG w
 dbl:∀j:Nat,j<6->w.cell? ⟨0,j,none⟩=some (.string (ay (kS.getD j [])))
 mlen:∃m,w.cell? ⟨2,0,none⟩=some (.int .i64 m)
theorem jk.below{w w':World}(h:jk w)(hb:Below w.heap.size w w'):jk w':=
 ⟨h.utf.below hb h.utf.pos,h.steps.below hb h.steps.pos,fun j hj=>(hb.cell (p:=⟨0,j,none⟩) (World.block_lt_of_cell? w _ (h.dbl j hj))).trans (h.dbl j hj),by
  obtain⟨m,hm⟩:=h.mlen
  exact⟨m,(hb.cell (p:=⟨2,0,none⟩) (World.block_lt_of_cell? w _ hm)).trans hm⟩⟩
theorem Og(l:List UInt8)(c:UInt8):decide (0<=Lib.indexByte l c)=l.contains c:=by
 induction l with
 |nil=>rfl
 |cons b l ih=>
  unfold Lib.indexByte;rw[List.contains_cons]
  by_cases h:b=c
  ·subst h;simp
  ·have h1:(b==c)=false:=by simpa using h
   have h2:(c==b)=false:=by simpa using fun e:c=b=>h e.symm
   rw[h1,h2,Bool.false_or,<-ih];have:=Lib.indexByte_ge l c;simp only[Bool.false_eq_true,if_false]
   by_cases h3:Lib.indexByte l c = -1
   ·rw[if_pos (by simpa using h3),h3]
   ·rw[if_neg (by simpa using h3)]
    congr 1
    apply propext
    constructor<;>intro h<;>omega
theorem Mg(c:UInt8):((c.toNat:Int)).toNat.toUInt8=c:=by simp
theorem BA(s:ByteArray)(c:UInt8)(w:World):Calls Tryz.prog 87 #[.string s,.int .u8 c.toNat] w fun e w'=>(∃i:Int,e=.returned (.int .i64 i)/\decide (0<=i)=s.data.toList.contains c)/\w'=w:=
 (Tryz.strings_IndexByte s c.toNat w).mono fun e w' ⟨h1,h2⟩=>⟨⟨_,h1,by rw[Mg];exact Og _ _⟩,h2⟩
theorem J6(s:ByteArray)(w:World)(hT:jk w)(h0:0<s.size)(hs:s.size<=maxLen) :
  Calls Tryz.prog 130 #[.string s] w fun e w'=>e=.returned (.int .i64 (zw s.data.toList:Nat))/\w=w':=by
 unfold maxLen at hs;have t0:=hT.dbl 0 (by decide);have t1:=hT.dbl 1 (by decide);have t2:=hT.dbl 2 (by decide);have t3:=hT.dbl 3 (by decide);have t4:=hT.dbl 4 (by decide);have t5:=hT.dbl 5 (by decide);simp only[kS,List.getD_cons_zero,List.getD_cons_succ,ay] at t0 t1 t2 t3 t4 t5;have hP:=fun p W=>Tryz.strings_HasPrefix s p W
 have hz:s.data.toList=s[0]::s.data.toList.tail:=by
  have:=eG (s:=s) (k:=0) h0;rw[List.drop_zero] at this;rw[this];simp
 have Ad:zw s.data.toList=if [[61,61].isPrefixOf s.data.toList,[33,61].isPrefixOf s.data.toList,[60,61].isPrefixOf s.data.toList,[62,61].isPrefixOf s.data.toList,[38,38].isPrefixOf s.data.toList,[124,124].isPrefixOf s.data.toList].any id then 2 else if ni.contains s[0] then 1 else 0:=by
  unfold zw;rw[hz];rfl
 have hI:=fun W=>BA ⟨#[61,60,62,43,45,42,47,37,33,63,58,44,46,40,41,91,93,123,125]⟩ s[0] W;have Ac:(⟨#[61,60,62,43,45,42,47,37,33,63,58,44,46,40,41,91,93,123,125]⟩:ByteArray).data.toList.contains s[0]=ni.contains s[0]:=rfl;rw[Ac] at hI;clear Ac;rw[Ad];have e0:=hP ⟨#[61,61]⟩;have e1:=hP ⟨#[33,61]⟩;have e2:=hP ⟨#[60,61]⟩;have e3:=hP ⟨#[62,61]⟩;have e4:=hP ⟨#[38,38]⟩;have e5:=hP ⟨#[124,124]⟩;simp only[Lib.hasPrefix] at e0 e1 e2 e3 e4 e5;clear Ad hz hP;generalize [61,61].isPrefixOf s.data.toList=b0 at *;generalize [33,61].isPrefixOf s.data.toList=b1 at *;generalize [60,61].isPrefixOf s.data.toList=b2 at *;generalize [62,61].isPrefixOf s.data.toList=b3 at *;generalize [38,38].isPrefixOf s.data.toList=b4 at *;generalize [124,124].isPrefixOf s.data.toList=b5 at *;obtain⟨B,hB⟩:∃B,[b0,b1,b2,b3,b4,b5].any id=B:=⟨_,rfl⟩;rw[hB];obtain⟨R,hR⟩:=exq ((if B=true then 2 else if ni.contains s[0]=true then 1 else 0));rw[<-hR];have HR:=Hh hR;clear hR;have HI:=Hh hI;have HE:=Jh e0 (And.intro e1 (And.intro e2 (And.intro e3 (And.intro e4 e5))));have Ab:Hid (([b0,b1,b2,b3,b4,b5].drop 0).any id=B):=Hh hB;clear hI e0 e1 e2 e3 e4 e5 hB;go_enter Tryz.func130,Tryz.ntmps130;go_wp2_with fail;go_loop [4,6] (fun _ i=>∃k:Nat,k<=6/\i=.int .i64 (k:Int)/\([b0,b1,b2,b3,b4,b5].drop k).any id=B) (fun _ i=>6-(intOf i).toNat)
 case atStart=>exact⟨0,by omega,rfl,Ab.out⟩
 case round=>
  clear Ab t0 t1 t2 t3 t4 t5;obtain⟨k,hk,rfl,hb⟩:=hrel;have Ae:k=0\/k=1\/k=2\/k=3\/k=4\/k=5\/k=6:=by omega
  rcases Ae with rfl|rfl|rfl|rfl|rfl|rfl|rfl
  ·have e:=HE.out.1
   have hx:=fK (P:=Tryz.prog) w 186 9 6 #[.string ⟨#[61,61]⟩,.string ⟨#[33,61]⟩,.string ⟨#[60,61]⟩,.string ⟨#[62,61]⟩,.string ⟨#[38,38]⟩,.string ⟨#[124,124]⟩] .i64 0 0 _ Tryz.underlying186 (by kernel_rfl) (by kernel_rfl) rfl (by decide) rfl
   cases b0 with
   |true=>
    have Aa:Hid (B=true):=Hh (by rw[<-hb];simp);clear hb HE HI;go_wp2_with fail;refine (e _).mono ?_;rintro _ _ ⟨rfl,rfl⟩;go_wp2;go_ret;exact⟨dW (by rw[HR.out,Aa.out];rfl),rfl⟩
   |false=>
    have Aa:Hid (([b1,b2,b3,b4,b5]:List Bool).any id=B):=Hh (by rw[<-hb];simp);clear hb HI;go_wp2_with fail;refine (e _).mono ?_;rintro _ _ ⟨rfl,rfl⟩;go_wp2;go_round
    case rel=>exact⟨1,by omega,by go_num,Aa.out⟩
    case measure=>simp[intOf]
  ·have e:=HE.out.2.1
   have hx:=fK (P:=Tryz.prog) w 186 9 6 #[.string ⟨#[61,61]⟩,.string ⟨#[33,61]⟩,.string ⟨#[60,61]⟩,.string ⟨#[62,61]⟩,.string ⟨#[38,38]⟩,.string ⟨#[124,124]⟩] .i64 1 1 _ Tryz.underlying186 (by kernel_rfl) (by kernel_rfl) rfl (by decide) rfl
   cases b1 with
   |true=>
    have Aa:Hid (B=true):=Hh (by rw[<-hb];simp);clear hb HE HI;go_wp2_with fail;refine (e _).mono ?_;rintro _ _ ⟨rfl,rfl⟩;go_wp2;go_ret;exact⟨dW (by rw[HR.out,Aa.out];rfl),rfl⟩
   |false=>
    have Aa:Hid (([b2,b3,b4,b5]:List Bool).any id=B):=Hh (by rw[<-hb];simp);clear hb HI;go_wp2_with fail;refine (e _).mono ?_;rintro _ _ ⟨rfl,rfl⟩;go_wp2;go_round
    case rel=>exact⟨2,by omega,by go_num,Aa.out⟩
    case measure=>simp[intOf]
  ·have e:=HE.out.2.2.1
   have hx:=fK (P:=Tryz.prog) w 186 9 6 #[.string ⟨#[61,61]⟩,.string ⟨#[33,61]⟩,.string ⟨#[60,61]⟩,.string ⟨#[62,61]⟩,.string ⟨#[38,38]⟩,.string ⟨#[124,124]⟩] .i64 2 2 _ Tryz.underlying186 (by kernel_rfl) (by kernel_rfl) rfl (by decide) rfl
   cases b2 with
   |true=>
    have Aa:Hid (B=true):=Hh (by rw[<-hb];simp);clear hb HE HI;go_wp2_with fail;refine (e _).mono ?_;rintro _ _ ⟨rfl,rfl⟩;go_wp2;go_ret;exact⟨dW (by rw[HR.out,Aa.out];rfl),rfl⟩
   |false=>
    have Aa:Hid (([b3,b4,b5]:List Bool).any id=B):=Hh (by rw[<-hb];simp);clear hb HI;go_wp2_with fail;refine (e _).mono ?_;rintro _ _ ⟨rfl,rfl⟩;go_wp2;go_round
    case rel=>exact⟨3,by omega,by go_num,Aa.out⟩
    case measure=>simp[intOf]
  ·have e:=HE.out.2.2.2.1
   have hx:=fK (P:=Tryz.prog) w 186 9 6 #[.string ⟨#[61,61]⟩,.string ⟨#[33,61]⟩,.string ⟨#[60,61]⟩,.string ⟨#[62,61]⟩,.string ⟨#[38,38]⟩,.string ⟨#[124,124]⟩] .i64 3 3 _ Tryz.underlying186 (by kernel_rfl) (by kernel_rfl) rfl (by decide) rfl
   cases b3 with
   |true=>
    have Aa:Hid (B=true):=Hh (by rw[<-hb];simp);clear hb HE HI;go_wp2_with fail;refine (e _).mono ?_;rintro _ _ ⟨rfl,rfl⟩;go_wp2;go_ret;exact⟨dW (by rw[HR.out,Aa.out];rfl),rfl⟩
   |false=>
    have Aa:Hid (([b4,b5]:List Bool).any id=B):=Hh (by rw[<-hb];simp);clear hb HI;go_wp2_with fail;refine (e _).mono ?_;rintro _ _ ⟨rfl,rfl⟩;go_wp2;go_round
    case rel=>exact⟨4,by omega,by go_num,Aa.out⟩
    case measure=>simp[intOf]
  ·have e:=HE.out.2.2.2.2.1
   have hx:=fK (P:=Tryz.prog) w 186 9 6 #[.string ⟨#[61,61]⟩,.string ⟨#[33,61]⟩,.string ⟨#[60,61]⟩,.string ⟨#[62,61]⟩,.string ⟨#[38,38]⟩,.string ⟨#[124,124]⟩] .i64 4 4 _ Tryz.underlying186 (by kernel_rfl) (by kernel_rfl) rfl (by decide) rfl
   cases b4 with
   |true=>
    have Aa:Hid (B=true):=Hh (by rw[<-hb];simp);clear hb HE HI;go_wp2_with fail;refine (e _).mono ?_;rintro _ _ ⟨rfl,rfl⟩;go_wp2;go_ret;exact⟨dW (by rw[HR.out,Aa.out];rfl),rfl⟩
   |false=>
    have Aa:Hid (([b5]:List Bool).any id=B):=Hh (by rw[<-hb];simp);clear hb HI;go_wp2_with fail;refine (e _).mono ?_;rintro _ _ ⟨rfl,rfl⟩;go_wp2;go_round
    case rel=>exact⟨5,by omega,by go_num,Aa.out⟩
    case measure=>simp[intOf]
  ·have e:=HE.out.2.2.2.2.2
   have hx:=fK (P:=Tryz.prog) w 186 9 6 #[.string ⟨#[61,61]⟩,.string ⟨#[33,61]⟩,.string ⟨#[60,61]⟩,.string ⟨#[62,61]⟩,.string ⟨#[38,38]⟩,.string ⟨#[124,124]⟩] .i64 5 5 _ Tryz.underlying186 (by kernel_rfl) (by kernel_rfl) rfl (by decide) rfl
   cases b5 with
   |true=>
    have Aa:Hid (B=true):=Hh (by rw[<-hb];simp);clear hb HE HI;go_wp2_with fail;refine (e _).mono ?_;rintro _ _ ⟨rfl,rfl⟩;go_wp2;go_ret;exact⟨dW (by rw[HR.out,Aa.out];rfl),rfl⟩
   |false=>
    have Aa:Hid (([]:List Bool).any id=B):=Hh (by rw[<-hb];simp);clear hb HI;go_wp2_with fail;refine (e _).mono ?_;rintro _ _ ⟨rfl,rfl⟩;go_wp2;go_round
    case rel=>exact⟨6,by omega,by go_num,Aa.out⟩
    case measure=>simp[intOf]
  ·have Aa:Hid (B=false):=Hh hb.symm
   have hI:=HI.out;clear hb HE HI;generalize ni.contains s[0]=q at *;go_wp2_with fail;refine (hI _).mono ?_;rintro _ _ ⟨⟨i,rfl,hi⟩,rfl⟩
   cases q with
   |true=>
    go_wp2;go_ret;exact⟨dW (by rw[HR.out,Aa.out];rfl),rfl⟩
   |false=>
    go_wp2;go_ret;exact⟨dW (by rw[HR.out,Aa.out];rfl),rfl⟩
theorem FZ(s:ByteArray)(w:World)(hT:vG w)(hs:s.size<=1048576) :
  Calls Tryz.prog 153 #[.string s] w fun e w'=>e=.returned (dL (decR s.data.toList))/\Below w.heap.size w w':=by
 by_cases h:cB s.data.toList=s.data.toList.length/\s.data.toList≠[]
 ·obtain⟨Aa,ip,fr,mk,sg,pw,hn⟩:=qN _ h.1 h.2
  rw[hn.decR];exact FY s Aa ip fr mk sg pw w hT hs hn
 ·have h2:s.data.toList=[]\/cB s.data.toList≠s.size:=by
   rw[au]
   by_cases h3:s.data.toList=[]
   ·exact .inl h3
   ·exact .inr (fun e=>h ⟨e,h3⟩)
  rw[show decR s.data.toList=((false,[],0),3) by unfold decR;rw[if_neg h]];exact JF s w hT hs h2
def xE:LR->Value
 |.tok k n=>.tuple #[.int .i64 (k:Nat),.int .i64 (n:Nat),.int .i64 0,.int .i64 0]
 |.bad o e=>.tuple #[.int .i64 0,.int .i64 0,.int .i64 (o:Nat),.int .i64 e]
theorem nL(s:ByteArray)(k:Nat):(s.extract 0 k).data.toList=s.data.toList.take k:=by rw[eQ,List.drop_zero]
theorem kI{s:ByteArray}{k:Nat}(h:k<=s.size):(s.extract 0 k).size=k:=by rw[au,nL,List.length_take,<-au];omega
theorem D7(s:ByteArray)(w:World)(hT:jk w)(hs:s.size<=1048576) :
  Calls Tryz.prog 125 #[.string s] w fun e w'=>e=.returned (xE (l9 s.data.toList))/\Below w.heap.size w w':=by
 have hS:=yH s w hT.steps (by unfold maxLen;omega);have Ab:=o8 s.data.toList;rw[<-au] at Ab;have hP:=fun W h=>FZ (s.extract 0 (cB s.data.toList)) W h (by rw[kI Ab];omega);rw[nL] at hP;unfold l9 Jo;generalize cB s.data.toList=k at *;obtain⟨⟨⟨b,d,x⟩,z⟩,hR⟩:∃r,decR (s.data.toList.take k)=r:=⟨_,rfl⟩;rw[hR] at hP ⊢;simp only[dL] at hP;clear hR;generalize s.data.toList.take k=tk at *
 by_cases hz:z=0
 ·subst hz
  rw[if_pos rfl];simp only[xE];go_enter Tryz.func125,Tryz.ntmps125;go_wp2_with fail;refine hS.mono ?_;rintro _ _ ⟨rfl,n,rfl⟩;have Aa:vG (w.drewN n):=hT.steps;go_wp2_with fail;refine (hP _ Aa).mono ?_;rintro _ w2 ⟨rfl,hb2⟩;go_wp2;refine bodyPost_ret (v:=.tuple #[.int .i64 2,.int .i64 (k:Nat),.int .i64 0,.int .i64 0]) (by simp[results,Tryz.results125,go_sem]) rfl ⟨rfl,((bL w.heap.size w n).trans hb2).alloc hb2.size _⟩
 ·have Ac:(z != 0)=true:=by simpa using hz
  rw[if_neg hz];simp only[xE];clear hz;go_enter Tryz.func125,Tryz.ntmps125;go_wp2_with fail;refine hS.mono ?_;rintro _ _ ⟨rfl,n,rfl⟩;have Aa:vG (w.drewN n):=hT.steps;go_wp2_with fail;refine (hP _ Aa).mono ?_;rintro _ w2 ⟨rfl,hb2⟩;go_wp2;refine bodyPost_ret (v:=.tuple #[.int .i64 0,.int .i64 0,.int .i64 0,.int .i64 z]) (by simp[results,Tryz.results125,go_sem]) rfl ⟨rfl,((bL w.heap.size w n).trans hb2).alloc hb2.size _⟩
theorem uW:∀l:Bs,(Lib.indexByte l 10 = -1/\bR l=l.length)\/Lib.indexByte l 10=(bR l:Nat)
 |[]=>.inl ⟨rfl,rfl⟩
 | c::l=>by
  unfold Lib.indexByte bR
  by_cases h:c=10
  ·subst h;right;rfl
  ·rw[if_neg (by simpa using h),if_neg h]
   rcases uW l with ⟨h1,h2⟩|h1
   ·left;rw[h1];exact⟨rfl,by rw[h2];simp⟩
   ·right;rw[h1,if_neg (by simp)];rfl
theorem lD{l:Bs}{k:Nat}(h:yN l=none):fP l k=.tok k l.length:=by unfold fP;rw[h]
theorem jZ{l:Bs}{k:Nat}{x:Nat×Int}(h:yN l=some x):fP l k=.bad x.1 x.2:=by unfold fP;rw[h]
theorem vK{l:Bs}{x:Nat×Int}(h:yN l=some x):(x.2 != 0)=true:=by
 unfold yN at h;split at h
 ·cases h;rfl
 ·split at h
  ·cases h;rfl
  ·cases h
theorem tV:∀(j:Nat) b,(⟨#[32,9,13]⟩:ByteArray).data.toList[j]?=some b->b.toNat<128:=by
 intro j b h;have hm:b∈([32,9,13]:List UInt8):=List.mem_of_getElem? h;simp at hm
 rcases hm with rfl|rfl|rfl<;>decide
theorem EK(s:ByteArray)(w:World)(hT:jk w)(hs:s.size<=1048576) :
  Calls Tryz.prog 128 #[.string s] w fun e w'=>e=.returned (xE (fP (fQ s.data.toList) 6))/\Below w.heap.size w w':=by
 have hI:=fun W=>Tryz.strings_IndexByte s 10 W;rw[show ((10:Int).toNat.toUInt8)=10 from rfl] at hI;have Ae:=pG s.data.toList;rw[<-au] at Ae;rcases uW s.data.toList with ⟨h1,h2⟩|h1
 ·rw[h1] at hI
  have Ab:=fun W=>Any.strings_TrimRight_laid Tryz.lays162 (by kernel_rfl) s ⟨#[32,9,13]⟩ W (by omega) (by decide) tV
  have he:Lib.trimRightS s.data.toList (⟨#[32,9,13]⟩:ByteArray).data.toList=fQ s.data.toList:=by
   unfold fQ;rw[h2,List.take_length];rfl
  rw[he] at Ab;clear he h1 h2 Ae;have hW:=qY (ay (fQ s.data.toList));have Af:=sK s.data.toList;rw[bU] at hW;have Ac:(ay (fQ s.data.toList)).size=(fQ s.data.toList).length:=aX _;rw[<-au] at Af;change ∀W,Calls Tryz.prog 159 #[.string s,.string ⟨#[32,9,13]⟩] W fun e w'=>e=.returned (.string (ay (fQ s.data.toList)))/\Below W.heap.size W w' at Ab;generalize hrs:fQ s.data.toList=rs at *;generalize hS:ay rs=S at *;clear hrs hS;have Aa:=fun w h=>hW w (by omega) h;clear hW
  cases hw:yN rs with
  |none=>
   rw[lD hw];rw[hw] at Aa;simp only[xE,ug] at Aa ⊢;have Ad:=Hh Ac;clear Ac;go_enter Tryz.func128,Tryz.ntmps128;go_wp2_with fail;refine (hI _).mono ?_;rintro _ _ ⟨rfl,rfl⟩;go_wp2_with fail;refine (Ab _).mono ?_;rintro _ w1 ⟨rfl,hb1⟩;go_wp2_with fail;refine (Aa _ (hT.below hb1).utf).mono ?_;rintro _ w2 ⟨rfl,hb2⟩;go_wp2;refine bodyPost_ret (v:=.tuple #[.int .i64 6,.int .i64 (rs.length:Nat),.int .i64 0,.int .i64 0]) (by simp[results,Tryz.results128,go_sem,Ad.out]) rfl ⟨rfl,hb1.trans (hb2.mono hb1.size)⟩
  |some x=>
   rw[jZ hw];rw[hw] at Aa;have Ag:=vK hw;obtain⟨xa,xe⟩:=x;simp only[xE,ug] at Aa Ag ⊢;go_enter Tryz.func128,Tryz.ntmps128;go_wp2_with fail;refine (hI _).mono ?_;rintro _ _ ⟨rfl,rfl⟩;go_wp2_with fail;refine (Ab _).mono ?_;rintro _ w1 ⟨rfl,hb1⟩;go_wp2_with fail;refine (Aa _ (hT.below hb1).utf).mono ?_;rintro _ w2 ⟨rfl,hb2⟩;go_wp2;refine bodyPost_ret (v:=.tuple #[.int .i64 0,.int .i64 0,.int .i64 (xa:Nat),.int .i64 xe]) (by simp[results,Tryz.results128,go_sem]) rfl ⟨rfl,hb1.trans (hb2.mono hb1.size)⟩
 ·rw[h1] at hI
  have Ab:=fun W=>Any.strings_TrimRight_laid Tryz.lays162 (by kernel_rfl) (s.extract 0 (bR s.data.toList)) ⟨#[32,9,13]⟩ W (by rw[kI Ae];omega) (by decide) tV
  have he:Lib.trimRightS (s.extract 0 (bR s.data.toList)).data.toList (⟨#[32,9,13]⟩:ByteArray).data.toList=fQ s.data.toList:=by
   unfold fQ;rw[nL];rfl
  rw[he] at Ab;clear he h1;generalize bR s.data.toList=ln at *;have hW:=qY (ay (fQ s.data.toList));have Af:=sK s.data.toList;rw[bU] at hW;have Ac:(ay (fQ s.data.toList)).size=(fQ s.data.toList).length:=aX _;rw[<-au] at Af;change ∀W,Calls Tryz.prog 159 #[.string (s.extract 0 ln),.string ⟨#[32,9,13]⟩] W fun e w'=>e=.returned (.string (ay (fQ s.data.toList)))/\Below W.heap.size W w' at Ab;generalize hrs:fQ s.data.toList=rs at *;generalize hS:ay rs=S at *;clear hrs hS;have Aa:=fun w h=>hW w (by omega) h;clear hW
  cases hw:yN rs with
  |none=>
   rw[lD hw];rw[hw] at Aa;simp only[xE,ug] at Aa ⊢;have Ad:=Hh Ac;clear Ac;go_enter Tryz.func128,Tryz.ntmps128;go_wp2_with fail;refine (hI _).mono ?_;rintro _ _ ⟨rfl,rfl⟩;go_wp2_with fail;refine (Ab _).mono ?_;rintro _ w1 ⟨rfl,hb1⟩;go_wp2_with fail;refine (Aa _ (hT.below hb1).utf).mono ?_;rintro _ w2 ⟨rfl,hb2⟩;go_wp2;refine bodyPost_ret (v:=.tuple #[.int .i64 6,.int .i64 (rs.length:Nat),.int .i64 0,.int .i64 0]) (by simp[results,Tryz.results128,go_sem,Ad.out]) rfl ⟨rfl,hb1.trans (hb2.mono hb1.size)⟩
  |some x=>
   rw[jZ hw];rw[hw] at Aa;have Ag:=vK hw;obtain⟨xa,xe⟩:=x;simp only[xE,ug] at Aa Ag ⊢;go_enter Tryz.func128,Tryz.ntmps128;go_wp2_with fail;refine (hI _).mono ?_;rintro _ _ ⟨rfl,rfl⟩;go_wp2_with fail;refine (Ab _).mono ?_;rintro _ w1 ⟨rfl,hb1⟩;go_wp2_with fail;refine (Aa _ (hT.below hb1).utf).mono ?_;rintro _ w2 ⟨rfl,hb2⟩;go_wp2;refine bodyPost_ret (v:=.tuple #[.int .i64 0,.int .i64 0,.int .i64 (xa:Nat),.int .i64 xe]) (by simp[results,Tryz.results128,go_sem]) rfl ⟨rfl,hb1.trans (hb2.mono hb1.size)⟩
theorem yh:∀l:Bs,(Lib.index l [42,47] = -1/\fD l=none)\/∃n:Nat,Lib.index l [42,47]=n/\fD l=some n
 |[]=>.inl ⟨rfl,rfl⟩
 | c::l=>by
  unfold Lib.index fD
  have hp:([42,47]:Bs).isPrefixOf (c::l)=decide (c=42/\l.head?=some 47):=by
   cases l with
   |nil=>simp[List.isPrefixOf]
   |cons d l=>
    simp only[List.isPrefixOf,List.head?_cons,Option.some.injEq,Bool.and_true]
    by_cases h1:c=42
    ·by_cases h2:d=47
     ·subst h1 h2;rfl
     ·subst h1
      have:(47==d)=false:=by simpa using fun e:(47:UInt8)=d=>h2 e.symm
      simp[this,h2]
    ·have:(42==c)=false:=by simpa using fun e:(42:UInt8)=c=>h1 e.symm
     simp[this,h1]
  rw[hp]
  by_cases h:c=42/\l.head?=some 47
  ·rw[if_pos (by simpa using h),if_pos h]
   exact .inr ⟨0,rfl,rfl⟩
  ·rw[if_neg (by simpa using h),if_neg h]
   rcases yh l with ⟨h1,h2⟩|⟨n,h1,h2⟩
   ·left;rw[h1,h2];exact⟨by simp,rfl⟩
   ·right;rw[h1,h2];exact⟨n+1,by rw[if_neg (by simp)];rfl,rfl⟩
theorem tH(s:ByteArray)(k:Nat):(s.extract k s.size).data.toList=s.data.toList.drop k:=by rw[eQ,au,List.take_length]
theorem Jz(s:ByteArray)(w:World)(hT:jk w)(hs:s.size<=1048576)(h2:2<=s.size) :
  Calls Tryz.prog 129 #[.string s] w fun e w'=>e=.returned (xE (dS s.data.toList))/\Below w.heap.size w w':=by
 obtain⟨m,hm⟩:=hT.mlen;have hI:=Tryz.strings_Index (s.extract 2 s.size) ⟨#[42,47]⟩ m w (by rw[ByteArray.size_extract];omega) hm;rw[tH] at hI;unfold dS;rcases yh (s.data.toList.drop 2) with ⟨h3,h4⟩|⟨n,h3,h4⟩
 ·rw[h4]
  simp only[xE];change Calls _ _ _ _ fun e w'=>e=.returned (.int .i64 (Lib.index (s.data.toList.drop 2) [42,47]))/\w'=w at hI;rw[h3] at hI;clear h3 h4 hm;go_enter Tryz.func129,Tryz.ntmps129;go_wp2_with fail;refine hI.mono ?_;rintro _ _ ⟨rfl,rfl⟩;go_wp2;refine bodyPost_ret (v:=.tuple #[.int .i64 0,.int .i64 0,.int .i64 0,.int .i64 2]) (by simp[results,Tryz.results129,go_sem]) rfl ⟨rfl,Below.refl _ _⟩
 ·have Ac:=qp _ _ h4
  rw[List.length_drop,<-au] at Ac;rw[h4];simp only;change Calls _ _ _ _ fun e w'=>e=.returned (.int .i64 (Lib.index (s.data.toList.drop 2) [42,47]))/\w'=w at hI;rw[h3] at hI;have hB:=fun W=>BA (s.extract 0 (n+2)) 10 W;rw[nL] at hB;have hW:=fun W h=>qY (s.extract 0 (n+4)) W (by rw[kI (by omega)];omega) h;rw[nL] at hW;have Ab:(s.extract 0 (n+4)).size=n+4:=kI (by omega);have Aa:(s.data.toList.take (n+4)).length=n+4:=by rw[List.length_take,<-au];omega
  have e2:s.extract 0 (n+2)=s.extract 0 (n+2):=rfl;clear h3 h4 hm
  cases hc:(s.data.toList.take (n+2)).contains 10 with
  |true=>
   rw[hc] at hB;rw[if_pos rfl];simp only[xE];clear hc hW Ab Aa;go_enter Tryz.func129,Tryz.ntmps129;go_wp2_with fail;refine hI.mono ?_;rintro _ _ ⟨rfl,rfl⟩;go_wp2_with fail;refine (hB _).mono ?_;rintro _ _ ⟨⟨i,rfl,hi⟩,rfl⟩;go_wp2;refine bodyPost_ret (v:=.tuple #[.int .i64 0,.int .i64 0,.int .i64 0,.int .i64 2]) (by simp[results,Tryz.results129,go_sem]) rfl ⟨rfl,Below.refl _ _⟩
  |false=>
   rw[hc] at hB;rw[if_neg (by simp)];clear hc;generalize s.data.toList.take (n+4)=rs at *
   cases hw:yN rs with
   |none=>
    rw[lD hw,Aa];rw[hw] at hW;simp only[xE,ug] at hW ⊢;clear hw Aa;go_enter Tryz.func129,Tryz.ntmps129;go_wp2_with fail;refine hI.mono ?_;rintro _ _ ⟨rfl,rfl⟩;go_wp2_with fail;refine (hB _).mono ?_;rintro _ _ ⟨⟨i,rfl,hi⟩,rfl⟩;go_wp2_with fail;refine (hW _ hT.utf).mono ?_;rintro _ w2 ⟨rfl,hb2⟩;go_wp2;refine bodyPost_ret (v:=.tuple #[.int .i64 7,.int .i64 ((n+4:Nat):Int),.int .i64 0,.int .i64 0]) (by simp[results,Tryz.results129,go_sem,Ab]) rfl ⟨rfl,hb2⟩
   |some x=>
    rw[jZ hw];rw[hw] at hW;have Ad:=vK hw;obtain⟨xa,xe⟩:=x;simp only[xE,ug] at hW Ad ⊢;clear hw Aa;go_enter Tryz.func129,Tryz.ntmps129;go_wp2_with fail;refine hI.mono ?_;rintro _ _ ⟨rfl,rfl⟩;go_wp2_with fail;refine (hB _).mono ?_;rintro _ _ ⟨⟨i,rfl,hi⟩,rfl⟩;go_wp2_with fail;refine (hW _ hT.utf).mono ?_;rintro _ w2 ⟨rfl,hb2⟩;go_wp2;refine bodyPost_ret (v:=.tuple #[.int .i64 0,.int .i64 0,.int .i64 (xa:Nat),.int .i64 xe]) (by simp[results,Tryz.results129,go_sem]) rfl ⟨rfl,hb2⟩
theorem yV(a b c:UInt8)(l:Bs):([a,b]:Bs).isPrefixOf (c::l)=decide (c=a/\l.head?=some b):=by
 cases l with
 |nil=>simp[List.isPrefixOf]
 |cons d l=>
  simp only[List.isPrefixOf,List.head?_cons,Option.some.injEq,Bool.and_true]
  by_cases h1:c=a
  ·by_cases h2:d=b
   ·subst h1 h2;simp
   ·subst h1
    have:(b==d)=false:=by simpa using fun e:b=d=>h2 e.symm
    simp[this,h2]
  ·have:(a==c)=false:=by simpa using fun e:a=c=>h1 e.symm
   simp[this,h1]
theorem sV(r:LR):∃a b c d:Int,xE r=.tuple #[.int .i64 a,.int .i64 b,.int .i64 c,.int .i64 d]:=by
 cases r<;>exact⟨_,_,_,_,rfl⟩
theorem KF(s:ByteArray)(w:World)(hT:jk w)(hs:s.size<=1048576)(h0:0<s.size) :
  Calls Tryz.prog 88 #[.string s] w fun e w'=>e=.returned (xE (dN s.data.toList))/\Below w.heap.size w w':=by
 obtain⟨c,hc⟩:∃c,s[0]'h0=c:=⟨_,rfl⟩;have An:(s[0]'h0).toNat=c.toNat:=by rw[hc]
 obtain⟨r,hr⟩:∃r,s.data.toList=c::r:=⟨_,by have:=eG (s:=s) (k:=0) h0;rw[List.drop_zero,hc] at this;exact this⟩;have Ab:=xP c;have Aa:=Ah c;have Ag:=fun W=>Je s W (by unfold maxLen;omega) h0;rw[hr] at Ag;simp only[List.drop_succ_cons,List.drop_zero] at Ag;have Af:=fun W h=>D7 s W h hs;have hQ:=fun W h=>zG s W hs h;have hR:=fun W h=>EK s W h hs;have Ac:=fun W=>Tryz.strings_HasPrefix s ⟨#[47,47]⟩ W;have Ad:=fun W=>Tryz.strings_HasPrefix s ⟨#[47,42]⟩ W;have hA:=fun W h h2=>Jz s W h hs h2;have Ae:=fun W h=>J6 s W h h0 (by unfold maxLen;omega);have e1:Lib.hasPrefix s.data.toList (⟨#[47,47]⟩:ByteArray).data.toList=decide (c=47/\r.head?=some 47):=by rw[hr];exact yV 47 47 c r
 have e2:Lib.hasPrefix s.data.toList (⟨#[47,42]⟩:ByteArray).data.toList=decide (c=47/\r.head?=some 42):=by rw[hr];exact yV 47 42 c r
 rw[e1] at Ac;rw[e2] at Ad
 have h2:r.head?=some 42->2<=s.size:=by
  intro h;rw[au,hr]
  cases r with
  |nil=>cases h
  |cons d r=>simp
 rw[hr] at Af hR hA Ae ⊢;have Aj:bs s=nb (c::r):=by rw[<-hr];rfl
 rw[Aj] at hQ;clear e1 e2 hr hc Aj;rw[dN]
 cases hl:jO c with
 |true=>
  rw[hl] at Ab;simp only[if_true,xE];clear Aa Af hQ hR Ac Ad hA Ae hl h2;generalize uf r=q at *;go_enter Tryz.func88,Tryz.ntmps88;go_wp2_with fail;refine (Ab _).mono ?_;rintro _ _ ⟨rfl,rfl⟩;go_wp2_with fail;refine (Ag _).mono ?_;rintro _ _ ⟨rfl,rfl⟩;go_wp2;refine bodyPost_ret (v:=.tuple #[.int .i64 1,.int .i64 ((1+q:Nat):Int),.int .i64 0,.int .i64 0]) (by simp[results,Tryz.results88,go_sem]) rfl ⟨rfl,Below.refl _ _⟩
 |false=>
 rw[hl] at Ab
 cases hd:dg c with
 |true=>
  rw[hd] at Aa;simp only[if_true,Bool.false_eq_true,if_false];clear hQ hR Ac Ad hA Ae hl h2 Ag hd;obtain⟨x1,x2,x3,x4,hx⟩:=sV (l9 (c::r));rw[hx] at Af ⊢;clear hx;go_enter Tryz.func88,Tryz.ntmps88;go_wp2_with fail;refine (Ab _).mono ?_;rintro _ _ ⟨rfl,rfl⟩;go_wp2_with fail;refine (Aa _).mono ?_;rintro _ _ ⟨rfl,rfl⟩;go_wp2_with fail;refine (Af _ hT).mono ?_;rintro _ w1 ⟨rfl,hb1⟩;go_wp2;refine bodyPost_ret (v:=.tuple #[.int .i64 x1,.int .i64 x2,.int .i64 x3,.int .i64 x4]) (by simp[results,Tryz.results88,go_sem]) rfl ⟨rfl,hb1⟩
 |false=>
 rw[hd] at Aa;simp only[Bool.false_eq_true,if_false]
 by_cases h34:c=34
 ·have Al:((c.toNat:Int)==34)=true:=by subst h34;rfl
  rw[if_pos h34];unfold nz;clear hR Ac Ad hA Ae hl h2 Ag hd Af h34;generalize aV (nb (c::r))=q at *;obtain⟨qs,qn,qe⟩:=q;simp only[J9] at hQ ⊢
  by_cases he:qe=0
  ·subst he
   rw[if_pos rfl];simp only[xE];go_enter Tryz.func88,Tryz.ntmps88;go_wp2_with fail;refine (Ab _).mono ?_;rintro _ _ ⟨rfl,rfl⟩;go_wp2_with fail;refine (Aa _).mono ?_;rintro _ _ ⟨rfl,rfl⟩;go_wp2_with fail;refine (hQ _ hT.utf).mono ?_;rintro _ w1 ⟨rfl,hb1⟩;go_wp2;refine bodyPost_ret (v:=.tuple #[.int .i64 3,.int .i64 (qn:Nat),.int .i64 0,.int .i64 0]) (by simp[results,Tryz.results88,go_sem]) rfl ⟨rfl,hb1⟩
  ·have Ao:((qe:Int) != 0)=true:=by rw[bne_iff_ne];omega
   rw[if_neg (by omega)];simp only[xE];clear he;go_enter Tryz.func88,Tryz.ntmps88;go_wp2_with fail;refine (Ab _).mono ?_;rintro _ _ ⟨rfl,rfl⟩;go_wp2_with fail;refine (Aa _).mono ?_;rintro _ _ ⟨rfl,rfl⟩;go_wp2_with fail;refine (hQ _ hT.utf).mono ?_;rintro _ w1 ⟨rfl,hb1⟩;go_wp2;refine bodyPost_ret (v:=.tuple #[.int .i64 0,.int .i64 0,.int .i64 0,.int .i64 (qe:Nat)]) (by simp[results,Tryz.results88,go_sem]) rfl ⟨rfl,hb1⟩
 rw[if_neg h34];have Al:=eY h34 (m:=34) rfl;clear h34 hQ Af Ag
 by_cases h10:c=10
 ·have Ak:((c.toNat:Int)==10)=true:=by subst h10;rfl
  rw[if_pos h10];clear hR Ac Ad hA Ae hl h2 hd h10;simp only[xE];go_enter Tryz.func88,Tryz.ntmps88;go_wp2_with fail;refine (Ab _).mono ?_;rintro _ _ ⟨rfl,rfl⟩;go_wp2_with fail;refine (Aa _).mono ?_;rintro _ _ ⟨rfl,rfl⟩;go_wp2;refine bodyPost_ret (v:=.tuple #[.int .i64 5,.int .i64 1,.int .i64 0,.int .i64 0]) (by simp[results,Tryz.results88,go_sem]) rfl ⟨rfl,Below.refl _ _⟩
 rw[if_neg h10];have Ak:=eY h10 (m:=10) rfl;clear h10
 by_cases h35:c=35
 ·have Am:((c.toNat:Int)==35)=true:=by subst h35;rfl
  rw[if_pos (.inl h35)];clear Ac Ad hA Ae hl h2 hd h35;obtain⟨x1,x2,x3,x4,hx⟩:=sV (fP (fQ (c::r)) 6);rw[hx] at hR ⊢;clear hx;go_enter Tryz.func88,Tryz.ntmps88;go_wp2_with fail;refine (Ab _).mono ?_;rintro _ _ ⟨rfl,rfl⟩;go_wp2_with fail;refine (Aa _).mono ?_;rintro _ _ ⟨rfl,rfl⟩;go_wp2_with fail;refine (hR _ hT).mono ?_;rintro _ w1 ⟨rfl,hb1⟩;go_wp2;refine bodyPost_ret (v:=.tuple #[.int .i64 x1,.int .i64 x2,.int .i64 x3,.int .i64 x4]) (by simp[results,Tryz.results88,go_sem]) rfl ⟨rfl,hb1⟩
 have Am:=eY h35 (m:=35) rfl
 by_cases h47:c=47/\r.head?=some 47
 ·rw[if_pos (.inr h47)]
  rw[decide_eq_true h47] at Ac;clear Ad hA Ae hl h2 hd h35 h47;obtain⟨x1,x2,x3,x4,hx⟩:=sV (fP (fQ (c::r)) 6);rw[hx] at hR ⊢;clear hx;go_enter Tryz.func88,Tryz.ntmps88;go_wp2_with fail;refine (Ab _).mono ?_;rintro _ _ ⟨rfl,rfl⟩;go_wp2_with fail;refine (Aa _).mono ?_;rintro _ _ ⟨rfl,rfl⟩;go_wp2_with fail;refine (Ac _).mono ?_;rintro _ _ ⟨rfl,rfl⟩;go_wp2_with fail;refine (hR _ hT).mono ?_;rintro _ w1 ⟨rfl,hb1⟩;go_wp2;refine bodyPost_ret (v:=.tuple #[.int .i64 x1,.int .i64 x2,.int .i64 x3,.int .i64 x4]) (by simp[results,Tryz.results88,go_sem]) rfl ⟨rfl,hb1⟩
 rw[if_neg (by rintro (h|h);(· exact h35 h);(· exact h47 h))];rw[decide_eq_false h47] at Ac;clear h35 h47 hR
 by_cases h42:c=47/\r.head?=some 42
 ·rw[if_pos h42]
  rw[decide_eq_true h42] at Ad;have Ai:=fun W h=>hA W h (h2 h42.2);clear hA Ae hl h2 hd h42;obtain⟨x1,x2,x3,x4,hx⟩:=sV (dS (c::r));rw[hx] at Ai ⊢;clear hx;go_enter Tryz.func88,Tryz.ntmps88;go_wp2_with fail;refine (Ab _).mono ?_;rintro _ _ ⟨rfl,rfl⟩;go_wp2_with fail;refine (Aa _).mono ?_;rintro _ _ ⟨rfl,rfl⟩;go_wp2_with fail;refine (Ac _).mono ?_;rintro _ _ ⟨rfl,rfl⟩;go_wp2_with fail;refine (Ad _).mono ?_;rintro _ _ ⟨rfl,rfl⟩;go_wp2_with fail;refine (Ai _ hT).mono ?_;rintro _ w1 ⟨rfl,hb1⟩;go_wp2;refine bodyPost_ret (v:=.tuple #[.int .i64 x1,.int .i64 x2,.int .i64 x3,.int .i64 x4]) (by simp[results,Tryz.results88,go_sem]) rfl ⟨rfl,hb1⟩
 rw[if_neg h42];rw[decide_eq_false h42] at Ad;clear h42 hA h2 hl hd;generalize zw (c::r)=n at *
 by_cases hn:n=0
 ·subst hn
  rw[if_pos rfl];simp only[xE];go_enter Tryz.func88,Tryz.ntmps88;go_wp2_with fail;refine (Ab _).mono ?_;rintro _ _ ⟨rfl,rfl⟩;go_wp2_with fail;refine (Aa _).mono ?_;rintro _ _ ⟨rfl,rfl⟩;go_wp2_with fail;refine (Ac _).mono ?_;rintro _ _ ⟨rfl,rfl⟩;go_wp2_with fail;refine (Ad _).mono ?_;rintro _ _ ⟨rfl,rfl⟩;go_wp2_with fail;refine (Ae _ hT).mono ?_;rintro _ _ ⟨rfl,rfl⟩;go_wp2;refine bodyPost_ret (v:=.tuple #[.int .i64 0,.int .i64 0,.int .i64 0,.int .i64 3]) (by simp[results,Tryz.results88,go_sem]) rfl ⟨rfl,Below.refl _ _⟩
 ·rw[if_neg hn]
  have Ap:0<n:=by omega
  simp only[xE];clear hn;go_enter Tryz.func88,Tryz.ntmps88;go_wp2_with fail;refine (Ab _).mono ?_;rintro _ _ ⟨rfl,rfl⟩;go_wp2_with fail;refine (Aa _).mono ?_;rintro _ _ ⟨rfl,rfl⟩;go_wp2_with fail;refine (Ac _).mono ?_;rintro _ _ ⟨rfl,rfl⟩;go_wp2_with fail;refine (Ad _).mono ?_;rintro _ _ ⟨rfl,rfl⟩;go_wp2_with fail;refine (Ae _ hT).mono ?_;rintro _ _ ⟨rfl,rfl⟩;go_wp2;refine bodyPost_ret (v:=.tuple #[.int .i64 4,.int .i64 (n:Nat),.int .i64 0,.int .i64 0]) (by simp[results,Tryz.results88,go_sem]) rfl ⟨rfl,Below.refl _ _⟩
theorem nE{l:Bs}{o:Nat}{e:Int}(h:dN l=.bad o e):e≠0:=by
 have hT:∀(q:Bs) k,fP q k=.bad o e->e≠0:=by
  intro q k hq
  cases hw:yN q with
  |none=>rw[lD hw] at hq;cases hq
  |some x=>
   rw[jZ hw] at hq;cases hq
   simpa using vK hw
 cases l with
 |nil=>cases h;decide
 |cons c r=>
  rw[dN] at h;split at h
  ·cases h
  split at h
  ·unfold l9 at h
   split at h
   ·cases h
   ·next hn=>cases h;exact hn
  split at h
  ·unfold nz at h
   split at h
   ·cases h
   ·next hn=>cases h;omega
  split at h
  ·cases h
  split at h
  ·exact hT _ _ h
  split at h
  ·unfold dS at h
   split at h
   ·cases h;decide
   ·split at h
    ·cases h;decide
    ·exact hT _ _ h
  split at h
  ·cases h;decide
  ·cases h
theorem Cn:∀(m:Nat) (l:List Nat) (a:Nat),l.length<=m->(∀x∈l,x<256)->∀x∈(scan l a).1,x.1<a+l.length
 | m,l,a,hm,hl,x,hx=>by
  by_cases h0:l=[]
  ·subst h0;simp[sF] at hx
  have hp:=List.length_pos_iff.2 h0
  by_cases hn:(aF l).2=0
  ·rw[nk h0 hn] at hx;simp at hx
  ·have hle:=(ko l hl).1
   cases m with
   |zero=>omega
   |succ m=>
    rw[iy h0,if_neg hn] at hx;rcases List.mem_cons.1 hx with rfl|hx
    ·simp only;omega
    ·have:=Cn m (l.drop (aF l).2) (a+(aF l).2) (by simp;omega) (fun x hx=>hl x (List.mem_of_mem_drop hx)) x hx
     simp at this;omega
theorem Me{l:Bs}{x:Nat×Int}(h:yN l=some x):x.1<l.length:=by
 unfold yN at h;split at h
 ·next y hy=>
  cases h
  have:=Cn _ (nb l) 0 lz (gy l) y (List.mem_of_find?_eq_some hy);rw[j3] at this;simpa using this
 ·split at h
  ·next a ha=>
   cases h
   have:=Gd _ (nb l) 0 a lz (gy l) ha;rw[j3] at this;simpa using this
  ·cases h
theorem Db{l:Bs}{o:Nat}{e:Int}(h:dN l=.bad o e):o<=l.length:=by
 have hT:∀(q:Bs) k,q.length<=l.length->fP q k=.bad o e->o<=l.length:=by
  intro q k hl hq
  cases hw:yN q with
  |none=>rw[lD hw] at hq;cases hq
  |some x=>
   rw[jZ hw] at hq;cases hq
   have:=Me hw;omega
 cases l with
 |nil=>cases h;exact Nat.zero_le _
 |cons c r=>
  rw[dN] at h;split at h
  ·cases h
  split at h
  ·unfold l9 at h
   split at h
   ·cases h
   ·cases h;exact Nat.zero_le _
  split at h
  ·unfold nz at h
   split at h
   ·cases h
   ·cases h;exact Nat.zero_le _
  split at h
  ·cases h
  split at h
  ·exact hT _ _ (sK _) h
  split at h
  ·unfold dS at h
   split at h
   ·cases h;exact Nat.zero_le _
   ·split at h
    ·cases h;exact Nat.zero_le _
    ·exact hT _ _ (by rw[List.length_take];omega) h
  split at h
  ·cases h;exact Nat.zero_le _
  ·cases h
theorem K4(t:ag)(g:Nat)(v:Value)(l:List ag)(W:World)(hc:ae W g #[v] 22)(hown:aO (g+1) W v l)(hl:l.length<=1048576) :
  Calls Tryz.prog 48 #[jb t,.pointer (some ⟨g,0,none⟩)] W fun e w'=>e=.returned (.bool true)/\∃v',ae w' g #[v'] 22/\aO (g+1) w' v' (l++[t])/\Below g W w':=by
 obtain⟨va,vc,rfl⟩:=hown.len;have Af:=hc.lt;obtain⟨Aa,Ab⟩:=hc.n1 rfl;go_enter Tryz.func48,Tryz.ntmps48;go_wp2_with (with_reducible first|refine aK ?_)
 refine Stop.out ?_;refine gN rfl _ _ rfl (g+1) l t (by exact (hown.alloc _).alloc _) (W.heap.size+1) rfl (by simp[World.cell?_alloc_new]) (by simp) (by simp) hl (by simp;omega) W (by (with_reducible repeat' first|refine Below.setCell ?_ ?_ _|refine Below.alloc ?_ ?_ _|refine Below.drew ?_|refine ah ?_ _|assumption|exact Below.refl _ _|(simp only[World.size_alloc,World.size_setCell,World.size_drew];first|done|omega)|omega)) ?_;intro v' w' hown' hb' hg';obtain⟨a2,c2,rfl⟩:=hown'.len;have hq:=hc.below hb' (Nat.lt_succ_self g);have Ac:=hq.lt;clear Aa Ab hg';obtain⟨Ad,Ae⟩:=hq.n1 rfl;have HX:=Jh hown' (And.intro hb' hq);clear hown' hb' hown hc;go_wp2;go_ret;obtain⟨hown',hb',hq⟩:=HX.out;exact⟨rfl,.slice a2 (l++[t]).length c2,by simpa using hq.setI 0 _,hown'.moved (fun k hk=>Below.heap_setCell w' ⟨g,0,none⟩ _ _ (by show k≠g;have:=(World.ownsRow.lt hown' k hk).1;omega)),(hb'.mono (Nat.le_succ g)).setCell lz _⟩
def dE(l:Bs)(k:Nat)(pre:List ag):Prop:=aG l 0=(pre++(aG (l.drop k) k).1,(aG (l.drop k) k).2)
theorem dE.zero(l:Bs):dE l 0 []:=by unfold dE;simp
theorem tK{l:Bs}{k:Nat}(h:k<l.length):l.drop k=l[k]::l.drop (k+1):=List.drop_eq_getElem_cons h
theorem dE.blank{l:Bs}{k:Nat}{pre:List ag}(h:dE l k pre)(hk:k<l.length)(hb:bG l[k]=true):dE l (k+1) pre:=by
 unfold dE at h ⊢;rw[h,tK hk,bO hb]
theorem dE.bad{l:Bs}{k:Nat}{pre:List ag}(h:dE l k pre)(hk:k<l.length)(hb:bG l[k]=false){o:Nat}{e:Int}(ho:dN (l.drop k)=.bad o e):aG l 0=(pre,((k+o:Nat):Int),e):=by
 unfold dE at h;rw[tK hk] at ho h;rw[h,eB hb ho];simp
theorem dE.tok{l:Bs}{k:Nat}{pre:List ag}(h:dE l k pre)(hk:k<l.length)(hb:bG l[k]=false){kd sz:Nat}(ho:dN (l.drop k)=.tok kd sz) :
  dE l (k+sz) (pre++[⟨(kd:Nat),ay ((l.drop k).take sz),(k:Nat)⟩]):=by
 unfold dE at h ⊢;have Aa:=ho;rw[tK hk] at Aa;rw[h,tK hk,di hb Aa,<-tK hk,List.drop_drop];simp
theorem dE.done{l:Bs}{k:Nat}{pre:List ag}(h:dE l k pre)(hk:k=l.length):aG l 0=(pre,-1,0):=by
 unfold dE at h;rw[h,hk,List.drop_length,dH];simp
theorem dE.len{l:Bs}{k:Nat}{pre:List ag}(h:dE l k pre):pre.length<=l.length:=by
 have h1:=lS l.length l 0 lz;unfold dE at h;rw[h] at h1;simp at h1;omega
def JV(x:List ag×Int×Int):Value:=if x.2.2=0 then .tuple #[.int .i64 0,.int .i64 0] else .tuple #[.int .i64 x.2.1,.int .i64 x.2.2]
theorem Hg(s:ByteArray)(w0 w:World)(hb0:Below w0.heap.size w0 w)(hT0:jk w0)(hs:s.size<=1048576)(hc0:ae w w0.heap.size #[.slice none 0 0] 22) :
  Calls Tryz.prog 47 #[.string s,.func (.func 48) #[] #[.pointer (some ⟨w0.heap.size,0,none⟩)]] w fun e w'=>e=.returned (JV (aG s.data.toList 0))/\
   ∃v,ae w' w0.heap.size #[v] 22/\aO (w0.heap.size+1) w' v (aG s.data.toList 0).1/\Below w0.heap.size w0 w':=by
 have Ac:=Jh hc0 hb0;clear hc0 hb0;go_enter Tryz.func47,Tryz.ntmps47;go_wp2_with fail;go_step3
 go_wp2_with fail;go_step3
 go_wp2_with fail;go_loopw [4,5,6,7,8,9,10] (fun a e p _ _ _ _ wr=>∃(k:Nat) (pre:List ag) (v:Value),a=.int .i64 0/\e=.int .i64 0/\p=.int .i64 (k:Int)/\k<=s.size/\dE s.data.toList k pre/\ae wr w0.heap.size #[v] 22/\aO (w0.heap.size+1) wr v pre/\Below w0.heap.size w0 wr) (fun _ _ p _ _ _ _ _=>s.size-(intOf p).toNat)
 case atStart=>exact⟨0,[],_,rfl,rfl,rfl,Nat.zero_le _,dE.zero _,Ac.out.1,aO.nil,Ac.out.2⟩
 case round=>
  clear Ac;obtain⟨k,pre,v,rfl,rfl,rfl,hk,hR,hc,Ab,hb⟩:=hrel
  by_cases hlt:k<s.size
  ·have hB:=BA ⟨#[32,9,13]⟩ (s[k]'hlt)
   rw[show (⟨#[32,9,13]⟩:ByteArray).data.toList.contains (s[k]'hlt)=bG (s[k]'hlt) from rfl] at hB;have Af:k<s.data.toList.length:=by rw[<-au];exact hlt
   have Aj:=hR.len;rw[<-au] at Aj;have HR:=Hh hR;clear hR
   cases hb1:bG (s[k]'hlt) with
   |true=>
    rw[hb1] at hB;have Ah:=Hh (HR.out.blank Af hb1);clear HR hb1;go_wp2_with fail;refine (hB _).mono ?_;rintro _ _ ⟨⟨i,rfl,hi⟩,rfl⟩;go_wp2;go_roundw
    case rel=>exact⟨k+1,pre,v,rfl,rfl,by go_num,by omega,Ah.out,hc,Ab,hb⟩
    case measure=>simp[intOf];omega
   |false=>
    rw[hb1] at hB;have hN:=fun W h=>KF (s.extract k s.size) W h (by rw[ByteArray.size_extract];omega) (by rw[ByteArray.size_extract];omega);rw[tH] at hN;have An:=Hh hb1
    cases ho:dN (s.data.toList.drop k) with
    |bad o e=>
     have HD:=Hh (HR.out.bad Af hb1 ho);have Ao:(e != 0)=true:=by simpa using nE ho
     have Ag:=Hh (nE ho);have Al:=Db ho;rw[List.length_drop,<-au] at Al;rw[ho] at hN;simp only[xE] at hN;clear HR hb1 ho;go_wp2_with fail;refine (hB _).mono ?_;rintro _ _ ⟨⟨i,rfl,hi⟩,rfl⟩;go_wp2_with fail;refine (hN _ (hT0.below hb)).mono ?_;rintro _ w2 ⟨rfl,hb2⟩;have Ad:=hb.trans (hb2.mono hb.size);have Ae:=hc.below hb2 hc.lt;have Aa:=Ab.below hb2 lz;go_wp2;rw[Exit.noGoto_ret];refine bodyPost_ret (v:=.tuple #[.int .i64 ((k:Int)+o),.int .i64 e]) (by simp[results,Tryz.results47,go_sem]) rfl ?_;rw[HD.out];unfold JV;simp only;rw[if_neg Ag.out];exact⟨by simp,v,Ae,Aa,Ad⟩
    |tok kd sz=>
     have HD:=Hh (HR.out.tok Af hb1 ho);have Ai:ay ((s.data.toList.drop k).take sz)=s.extract k (k+sz):=kg (by rw[eQ,bU,List.drop_take];congr 1;omega);have Am:=dh ho;rw[List.length_drop,<-au] at Am;rw[ho] at hN;simp only[xE] at hN;clear HR hb1 ho;go_wp2_with fail;refine (hB _).mono ?_;rintro _ _ ⟨⟨i,rfl,hi⟩,rfl⟩;go_wp2_with fail;refine (hN _ (hT0.below hb)).mono ?_;rintro _ w2 ⟨rfl,hb2⟩;have Ad:=hb.trans (hb2.mono hb.size);have Ae:=hc.below hb2 hc.lt;have Aa:=Ab.below hb2 lz;go_wp2_with fail;rw[Ai] at HD;refine (K4 ⟨(kd:Nat),s.extract k (k+sz),(k:Nat)⟩ w0.heap.size v pre w2 Ae Aa (by omega)).mono ?_;rintro _ w3 ⟨rfl,v3,hc3,hown3,hb4⟩;have Ak:=Ad.trans hb4;go_wp2;go_roundw
     case rel=>exact⟨k+sz,_,v3,rfl,rfl,by go_num,by omega,HD.out,hc3,hown3,Ak⟩
     case measure=>simp[intOf];omega
  ·obtain rfl:k=s.size:=by omega
   have HD:=Hh (hR.done (au s));clear hR;go_wp2;rw[Exit.noGoto_ret];refine bodyPost_ret (v:=.tuple #[.int .i64 0,.int .i64 0]) (by simp[results,Tryz.results47,go_sem]) rfl ?_;rw[HD.out];exact⟨rfl,v,hc,Ab,hb⟩
def iT(l:Bs):List ag×Int×Int:=if (aG l 0).2.2=0 then ((aG l 0).1,-1,0) else ([],(aG l 0).2)
theorem ol(s:ByteArray)(w:World)(hT:jk w)(hs:s.size<=1048576) :
  Calls Tryz.prog 17 #[.string s] w fun e w'=>∃v,e=.returned (.tuple #[v,.int .i64 (iT s.data.toList).2.1,.int .i64 (iT s.data.toList).2.2])/\aO w.heap.size w' v (iT s.data.toList).1/\Below w.heap.size w w':=by
 have hW:=Hg s w (w.alloc (.cells #[.slice none 0 0] 22)) ((Below.refl _ w).alloc lz _) hT hs (ae.new w _ _);unfold JV at hW;unfold iT;obtain⟨⟨l,p,z⟩,hx⟩:∃x,aG s.data.toList 0=x:=⟨_,rfl⟩;rw[hx] at hW ⊢;clear hx;simp only at hW ⊢
 by_cases hz:z=0
 ·subst hz
  rw[if_pos rfl] at hW;rw[if_pos rfl];go_enter Tryz.func17,Tryz.ntmps17;go_wp2_with fail;refine hW.mono ?_;rintro _ w2 ⟨rfl,v,hc,hown,hb⟩;obtain⟨va,vc,rfl⟩:=hown.len;have hl:=hc.lt;obtain⟨Ab,Ac⟩:=hc.n1 rfl;have HX:=Jh hc (And.intro hown hb);clear hc hown hb hW;go_wp2;obtain⟨hc,hown,hb⟩:=HX.out;have Aa:=(hc.setI 0 (.slice va l.length vc)).cell 0 _ rfl;refine bodyPost_ret (v:=.tuple #[.slice va l.length vc,.int .i64 (-1),.int .i64 0]) (by simp[results,Tryz.results17,go_sem,Aa]) rfl ?_;exact⟨_,rfl,(hown.moved (fun k hk=>Below.heap_setCell _ _ _ _ (by show k≠w.heap.size;have:=(World.ownsRow.lt hown k hk).1;omega))).base_le (Nat.le_succ _),hb.setCell lz _⟩
 ·rw[if_neg hz] at hW
  rw[if_neg hz];have Ad:(z != 0)=true:=by simpa using hz
  go_enter Tryz.func17,Tryz.ntmps17;go_wp2_with fail;refine hW.mono ?_;rintro _ w2 ⟨rfl,v,hc,hown,hb⟩;have hl:=hc.lt;obtain⟨Ab,Ac⟩:=hc.n1 rfl;have HX:=Jh hc hb;clear hc hown hb hW;go_wp2;obtain⟨hc,hb⟩:=HX.out;have Aa:=(hc.setI 0 (.slice none 0 0)).cell 0 _ rfl;refine bodyPost_ret (v:=.tuple #[.slice none 0 0,.int .i64 p,.int .i64 z]) (by simp[results,Tryz.results17,go_sem,Aa]) rfl ?_;exact⟨_,rfl,aO.nil,hb.setCell lz _⟩
end Go.Proofs.YtbcdaaobbebooaaGreatDoor
namespace Go.Proofs.YtbcdaaobbebooaaGreatDoor
theorem qx{s:Bs}(h:bC s=0):∀l:Bs,bC (l++s)=bC l
 |[]=>h
 |c::l=>by simp only[List.cons_append,bC,qx h l]
theorem tC{s:Bs}(h:uf s=0):∀l:Bs,uf (l++s)=uf l
 |[]=>h
 |c::l=>by simp only[List.cons_append,uf,tC h l]
structure lh(s:Bs):Prop where
 d:bC s=0
 f:bX s=0
 p:iF s=0
 g:mQ s=0
theorem FK{s:Bs}(h:lh s):∀l:Bs,bX (l++s)=bX l
 |[]=>h.f
 |c::l=>by simp only[List.cons_append,bX,qx h.d l]
theorem J8{s:Bs}(h:lh s):∀l:Bs,mQ (l++s)=mQ l
 |[]=>h.g
 |c::l=>by simp only[List.cons_append,mQ]
theorem NU:∀l:Bs,mQ l<=l.length
 |[]=>Nat.le_refl _
 |c::l=>by rw[mQ];split<;>simp
theorem IC{s:Bs}(h:lh s):∀l:Bs,iF (l++s)=iF l
 |[]=>h.p
 | c::l=>by
  simp only[List.cons_append,iF,J8 h l];rw[List.drop_append_of_le_length (NU l),qx h.d]
theorem Jd{s:Bs}(h:lh s):∀l:Bs,eF (l++s)=eF l
 | []=>by
  simp only[List.nil_append]
  cases s with
  |nil=>rfl
  |cons c s=>
   have:=h.d;show eF (c::s)=0;simp only[eF];split
   ·next hc=>subst hc;rw[bC,if_pos (by decide)] at this;omega
   ·exact this
 | c::l=>by
  simp only[List.cons_append,eF];rw[<-List.cons_append,qx h.d]
theorem DL:∀l:Bs,bX l<=l.length
 |[]=>Nat.le_refl _
 |c::l=>by rw[bX];have:=kr l;split<;>simp;omega
theorem GI:∀l:Bs,eF l<=l.length
 |[]=>Nat.le_refl _
 | c::l=>by
  rw[eF];split
  ·simp
  ·exact kr _
theorem EB{s:Bs}(h:lh s)(l:Bs):fT (l++s)=fT l:=by
 unfold fT;rw[FK h,List.drop_append_of_le_length (DL l),IC h]
theorem KJ:∀l:Bs,lQ l<=l.length
 |[]=>Nat.le_refl _
 |c::l=>by rw[lQ];split<;>simp
theorem wI{s:Bs}(h:lh s){l:Bs}(hl:l≠[]):cB (l++s)=cB l:=by
 have hm:lQ (l++s)=lQ l:=by cases l with|nil=>exact absurd rfl hl|cons c l=>rfl
 unfold cB;have hi:=GI (l.drop (lQ l));rw[List.length_drop] at hi;have Aa:=KJ l;rw[hm,List.drop_append_of_le_length Aa,Jd h,List.drop_append_of_le_length (by omega),EB h]
theorem DX:∀(l s:Bs) (n:Nat),fD l=some n->fD (l++s)=some n
 |[],_,_,h=>by cases h
 | c::l,s,n,h=>by
  cases l with
  |nil=>
   rw[fD] at h;simp[fD] at h
  |cons d l=>
   rw[List.cons_append,fD];rw[fD] at h;have hh:((d::l)++s).head?=(d::l).head?:=rfl;rw[hh];split at h
   ·next hc=>rw[if_pos hc];exact h
   ·next hc=>
    rw[if_neg hc];obtain⟨m,hm,rfl⟩:=Option.map_eq_some_iff.1 h;rw[DX (d::l) s m hm];rfl
theorem vM{c:UInt8}{r s:Bs}(h:r≠[]\/(s.head?≠some 61/\s.head?≠some 38/\s.head?≠some 124)):zw (c::(r++s))=zw (c::r):=by
 have Aa:kS.any (fun d=>d.isPrefixOf (c::(r++s)))=kS.any (fun d=>d.isPrefixOf (c::r)):=by
  simp only[kS,List.any_cons,List.any_nil,yV]
  cases r with
  |cons d r=>rfl
  |nil=>
   rcases h with h|⟨h1,h2,h3⟩
   ·exact absurd rfl h
   ·simp[h1,h2,h3]
 simp only[zw,Aa]
theorem Bi(a b:Bs):nb (a++b)=nb a++nb b:=by unfold nb;rw[List.map_append]
theorem Km{l s:Bs}{k n:Nat}(h:nz l=.tok k n):nz (l++s)=.tok k n:=by
 unfold nz at h ⊢;split at h
 ·next hz=>
  have Aa:=jd (gy l) hz
  have hm:=nV (l:=nb l) (m:=(nb l).drop (aV (nb l)).2.1++nb s) (gy l) (fun x hx=>by
   rcases List.mem_append.1 hx with hx|hx
   ·exact gy l x (List.mem_of_mem_drop hx)
   ·exact gy s x hx) hz
  rw[<-List.append_assoc,List.take_append_drop,<-Bi] at hm;rw[hm,if_pos hz];exact h
 ·cases h
theorem Dh{l s:Bs}{k n:Nat}(h:l9 l=.tok k n)(hl:l≠[])(hs:lh s):l9 (l++s)=.tok k n:=by
 unfold l9 at h ⊢;rw[wI hs hl,List.take_append_of_le_length (o8 l)];exact h
theorem Dt(b:Bs):∀l:Bs,bR (l++10::b)=bR l
 |[]=>by simp[bR]
 |c::l=>by simp only[List.cons_append,bR,Dt b l]
theorem AY(l b:Bs):fQ (l++10::b)=fQ l:=by
 unfold fQ;rw[Dt,List.take_append_of_le_length (pG l)]
theorem yD{l s:Bs}{k n:Nat}(h:dS l=.tok k n)(h2:2<=l.length):dS (l++s)=.tok k n:=by
 unfold dS at h ⊢;rw[List.drop_append_of_le_length h2]
 cases he:fD (l.drop 2) with
 |none=>rw[he] at h;cases h
 |some m=>
  rw[he] at h;have Aa:=qp _ _ he;rw[List.length_drop] at Aa;rw[DX _ s m he];simp only at h ⊢;rw[List.take_append_of_le_length (by omega),List.take_append_of_le_length (by omega)];exact h
theorem AJ(b:Bs):lh (10::b):=⟨by simp[bC,show dg 10=false from rfl],by simp[bX],by simp[iF],by simp[mQ]⟩
theorem MK{l:Bs}{k n:Nat}(h:dN l=.tok k n)(b:Bs):dN (l++10::b)=.tok k n:=by
 cases l with
 |nil=>cases h
 |cons c r=>
  rw[List.cons_append];rw[dN] at h ⊢;split at h
  ·next hc=>rw[if_pos hc,tC (by simp[uf,show M9 10=false from rfl])];exact h
  next hc=>
  rw[if_neg hc];split at h
  ·next hg=>rw[if_pos hg,<-List.cons_append];exact Dh h (by simp) (AJ b)
  next hg=>
  rw[if_neg hg];split at h
  ·next hq=>rw[if_pos hq,<-List.cons_append];exact Km h
  next hq=>
  rw[if_neg hq];split at h
  ·next h10=>rw[if_pos h10];exact h
  next h10=>
  rw[if_neg h10]
  have hh:∀x:UInt8,x≠10->(((r++10::b).head?=some x)↔(r.head?=some x)):=fun x hx=>by
   cases r with
   |nil=>simp;exact fun e=>hx e.symm
   |cons d r=>simp
  simp only[hh 47 (by decide),hh 42 (by decide)];split at h
  ·next hr=>rw[if_pos hr,<-List.cons_append,AY];exact h
  next hr=>
  rw[if_neg hr];split at h
  ·next ha=>
   rw[if_pos ha,<-List.cons_append];exact yD h (by cases r with|nil=>simp at ha|cons d r=>simp)
  next ha=>
  rw[if_neg ha,vM (.inr (by simp))];exact h
theorem FB:∀(k:Nat) (a:Bs) (p:Nat) (b:Bs),a.length<=k->(aG a p).2.2=0->
  aG (a++10::b) p=((aG a p).1++⟨5,ay [10],((p+a.length:Nat):Int)⟩::(aG b (p+a.length+1)).1,(aG b (p+a.length+1)).2)
 | k,[],p,b,_,_=>by
  have ho:dN (10::b)=.tok 5 1:=by simp[dN,show jO 10=false from rfl,show dg 10=false from rfl]
  rw[List.nil_append,di rfl ho,dH];simp
 |0,c::r,p,b,hk,_=>by simp at hk
 | k+1,c::r,p,b,hk,h=>by
  simp only[List.length_cons] at hk;rw[List.cons_append]
  cases hb:bG c with
  |true=>
   rw[bO hb] at h ⊢;rw[bO hb,FB k r (p+1) b (by omega) h];simp only[List.length_cons];rw[show p+1+r.length=p+(r.length+1) by omega]
  |false=>
   cases ho:dN (c::r) with
   |bad o e=>rw[eB hb ho] at h;exact absurd h (nE ho)
   |tok kd sz=>
    have hs:=dh ho;rw[List.length_cons] at hs;rw[di hb ho] at h ⊢;have ho2:=MK ho b;rw[List.cons_append] at ho2;rw[di hb ho2,<-List.cons_append,List.take_append_of_le_length (by simp;omega),List.drop_append_of_le_length (by simp;omega)];have ih:=FB k ((c::r).drop sz) (p+sz) b (by rw[List.length_drop,List.length_cons];omega) h;rw[ih,List.length_drop,List.length_cons];simp only[List.cons_append];rw[show p+sz+(r.length+1-sz)=p+(r.length+1) by omega]
end Go.Proofs.YtbcdaaobbebooaaGreatDoor
namespace Go.Proofs.YtbcdaaobbebooaaGreatDoor
def oK(l:List Nat):Prop:=∀x∈l,32<=x
theorem oK.app{a b:List Nat}(h1:oK a)(h2:oK b):oK (a++b):=fun x hx=>(List.mem_append.1 hx).elim (h1 x) (h2 x)
theorem K9{c d:Nat}(h:mI c=some d):32<=c:=by
 unfold mI at h;split at h
 ·omega
 split at h
 ·omega
 split at h
 ·omega
 ·cases h
theorem ui:∀(k n:Nat) (l:List Nat),(gY k n l).2=0->oK (l.take k)
 |0,_,_,_=>by intro x hx;simp at hx
 |_+1,_,[],_=>by intro x hx;simp at hx
 | k+1,n,c::r,h=>by
  simp only[gY] at h
  cases hc:mI c with
  |none=>simp[hc] at h
  |some d=>
   rw[hc] at h;simp only at h;rw[List.take_succ_cons];intro x hx;rcases List.mem_cons.1 hx with rfl|hx
   ·exact K9 hc
   ·exact ui k _ r h x hx
theorem KN{n:Nat}{l:List Nat}(h:(iR n l).2.2=0):oK (l.take 6):=by
 match l with
 |[]=>simp[iR,aD] at h
 |[c]=>by_cases hc:c=92<;>simp[iR,aD,hc] at h
 |c::d::u=>
  by_cases hc:c=92
  ·by_cases hd:d=117
   ·have h1:(aJ u).2=0:=by
     unfold iR at h;simp only at h;rw[if_neg (by simp[hc]),if_neg (by simp[hd])] at h
     by_cases hu:(aJ u).2=0
     ·exact hu
     ·rw[if_pos (by simpa using hu)] at h;exact absurd h hu
    have h2:=ui 4 0 u h1;subst hc hd;simp only[List.take_succ_cons];intro x hx;rcases List.mem_cons.1 hx with rfl|hx
    ·decide
    rcases List.mem_cons.1 hx with rfl|hx
    ·decide
    ·exact h2 x hx
   ·unfold iR at h;simp only at h;rw[if_neg (by simp[hc]),if_pos (by simpa using hd)] at h;simp[aD] at h
  ·unfold iR at h;simp only at h;rw[if_pos (by simpa using hc)] at h;simp[aD] at h
theorem FP{r:List Nat}(h:(aN r).2.2=0):oK (r.take ((aN r).2.1-2)):=by
 have hu:(aJ r).2=0:=by
  unfold aN at h
  by_cases hu:(aJ r).2=0
  ·exact hu
  ·rw[if_pos (by simpa using hu)] at h;exact absurd h hu
 have h4:=ui 4 0 r hu;unfold aN at h ⊢;rw[if_neg (by simp[hu])] at h ⊢
 by_cases h1:56320<=(aJ r).1/\(aJ r).1<=57343
 ·rw[if_pos h1] at h;simp[aD] at h
 rw[if_neg h1] at h ⊢
 by_cases h2:(aJ r).1<55296\/57343<(aJ r).1
 ·rw[if_pos h2]
  exact h4
 ·rw[if_neg h2] at h ⊢
  obtain⟨_,_,_,Aa,h6⟩:=sW (by have:=jl hu;omega) h;rw[Aa];have hl:=KN h;show oK (r.take 10);rw[show (10:Nat)=4+6 from rfl,List.take_add];exact h4.app hl
theorem KA{c:Nat}{r:List Nat}(hl:vI (c::r))(h1:¬c<32)(h:(aF (c::r)).2≠0):oK ((c::r).take (aF (c::r)).2):=by
 obtain⟨q1,q2,q3,q4⟩:=kw (c:=(aF (c::r)).1) (n:=(aF (c::r)).2) hl rfl h;rw[<-q3]
 have hc:32<=(aF (c::r)).1:=by
  obtain⟨j,hj⟩:∃j,(aF (c::r)).2=j+1:=⟨(aF (c::r)).2-1,by omega⟩
  by_cases h8:(aF (c::r)).1<128
  ·have:fM (aF (c::r)).1=[(aF (c::r)).1]:=by simp[fM,h8]
   rw[this,hj] at q3;simp only[List.take_succ_cons,List.cons.injEq] at q3;omega
  ·omega
 generalize (aF (c::r)).1=v at *;intro x hx;unfold fM at hx;split at hx
 ·simp at hx;omega
 split at hx
 ·simp at hx;omega
 split at hx
 ·simp at hx;omega
 ·simp at hx;omega
theorem Li{c b:Nat}(h:yf c=some b):32<=c:=by
 unfold yf at h;repeat' (split at h)
 all_goals first|(cases h;omega)|omega|cases h
theorem IG{l:List Nat}(hl:vI l)(h:(av l).2.2=0):oK (l.take (av l).2.1):=by
 match l with
 |[]=>intro x hx;simp at hx
 |c::r=>
  rw[Fa] at h ⊢
  by_cases h1:c<32
  ·rw[if_pos h1] at h;simp[aD] at h
  rw[if_neg h1] at h ⊢
  by_cases h2:c=92
  ·rw[if_pos h2] at h ⊢
   match r with
   |[]=>simp[lW,aD] at h
   |d::t=>
    simp only[lW] at h ⊢
    cases hd:yf d with
    |some b=>
     simp only[List.take_succ_cons,List.take_zero];intro x hx;simp at hx
     rcases hx with rfl|rfl
     ·omega
     ·exact Li hd
    |none=>
     rw[hd] at h;simp only at h ⊢
     by_cases h3:d=117
     ·rw[if_pos h3] at h ⊢
      have hc:=FP h
      obtain⟨k,hk⟩:∃k,(aN t).2.1=k+2:=by
       have:(aN t).2.1=6\/(aN t).2.1=12:=by
        unfold aN at h ⊢
        by_cases hu:(aJ t).2=0
        ·rw[if_neg (by simp[hu])] at h ⊢
         by_cases g1:56320<=(aJ t).1/\(aJ t).1<=57343
         ·rw[if_pos g1] at h;simp[aD] at h
         ·rw[if_neg g1] at h ⊢
          by_cases g2:(aJ t).1<55296\/57343<(aJ t).1
          ·rw[if_pos g2];exact .inl rfl
          ·rw[if_neg g2] at h ⊢
           exact .inr (sW (by omega) h).choose_spec.2.2.1
        ·rw[if_pos (by simpa using hu)] at h;exact absurd h hu
       rcases this with h|h
       ·exact⟨4,h⟩
       ·exact⟨10,h⟩
      rw[hk] at hc ⊢;simp only[Nat.add_sub_cancel] at hc;simp only[List.take_succ_cons];intro x hx;rcases List.mem_cons.1 hx with rfl|hx
      ·omega
      rcases List.mem_cons.1 hx with rfl|hx
      ·omega
      ·exact hc x hx
     ·rw[if_neg h3] at h;simp[aD] at h
  ·rw[if_neg h2] at h ⊢
   by_cases h3:(aF (c::r)).2=0
   ·rw[if_pos h3] at h;simp[aD] at h
   ·rw[if_neg h3]
    exact KA hl h1 h3
theorem Ao:∀(k:Nat) (l:List Nat),l.length<=k->vI l->(bY l).2.2=0->oK (l.take (bY l).2.1)
 | k,l,hk,hl,h=>by
  by_cases h34:l.head?=some 34
  ·have e:bY l=([],1,0):=by rw[dP hl,if_pos h34]
   rw[e]
   cases l with
   |nil=>cases h34
   |cons c r=>
    have hc:c=34:=by simpa using h34
    subst hc;intro x hx;simp at hx
    omega
  ·have hp:(av l).2.2=0:=by
    refine Decidable.byContradiction fun hn=>?_;rw[dP hl,if_neg h34,if_pos hn] at h;exact hn h
   obtain⟨_,_,_,q3,q4⟩:=ky hl hp
   have hr:(bY (l.drop (av l).2.1)).2.2=0:=by
    refine Decidable.byContradiction fun hn=>?_;rw[dP hl,if_neg h34,if_neg (by simp[hp]),if_pos hn] at h;exact hn h
   have e:bY l=((av l).1++(bY (l.drop (av l).2.1)).1,(av l).2.1+(bY (l.drop (av l).2.1)).2.1,0):=by
    rw[dP hl,if_neg h34,if_neg (by simp[hp]),if_neg (by simp[hr])]
   cases k with
   |zero=>omega
   |succ k=>
    have ih:=Ao k (l.drop (av l).2.1) (by simp;omega) (hl.drop _) hr;rw[e,List.take_add];exact (IG hl hp).app ih
theorem Ib{l:List Nat}(hl:vI l)(h:(aV l).2.2=0):oK (l.take (aV l).2.1):=by
 cases l with
 |nil=>intro x hx;simp at hx
 |cons c r=>
  have hc:c=34:=by
   refine Decidable.byContradiction fun hn=>?_;rw[aV,if_pos hn] at h;simp[aD] at h
  have e:aV (c::r)=gQ [] 1 (bY r):=by rw[aV,if_neg (by simpa using hc)]
  have hb:(bY r).2.2=0:=by
   refine Decidable.byContradiction fun hn=>?_;rw[e,gQ,if_pos hn] at h;exact hn h
  have ih:=Ao r.length r lz (fun x hx=>hl x (by simp[hx])) hb;rw[e,gQ,if_neg (by simp[hb])];simp only;rw[Nat.add_comm 1,List.take_succ_cons];intro x hx;rcases List.mem_cons.1 hx with rfl|hx
  ·omega
  ·exact ih x hx
theorem Mw{l b:Bs}{k n:Nat}(h:nz (l++10::b)=.tok k n):nz l=.tok k n:=by
 unfold nz at h ⊢;split at h
 ·next hz=>
  have hc:=Ib (gy _) hz;have Ab:=jd (gy _) hz
  have Aa:(aV (nb (l++10::b))).2.1<=l.length:=by
   refine Nat.le_of_not_lt fun hlt=>?_;generalize (aV (nb (l++10::b))).2.1=q at *
   have:=hc 10 (by
    rw[Bi];refine List.mem_take_iff_getElem.2 ⟨l.length,?_,?_⟩
    ·simp[j3];omega
    ·rw[List.getElem_append_right (by simp[j3])]
     simp[nb])
   omega
  have hm:=nV (l:=nb (l++10::b)) (m:=nb (l.drop (aV (nb (l++10::b))).2.1)) (gy _) (gy _) hz
  have he:(nb (l++10::b)).take (aV (nb (l++10::b))).2.1++nb (l.drop (aV (nb (l++10::b))).2.1)=nb l:=by
   generalize (aV (nb (l++10::b))).2.1=m at *;rw[Bi,List.take_append_of_le_length (by rw[j3];exact Aa)];unfold nb;rw[<-List.map_take,<-List.map_append,List.take_append_drop]
  rw[he] at hm;rw[hm,if_pos hz];exact h
 ·cases h
theorem Ad:∀(l:Bs) (n:Nat),fD l=some n->l[n]?=some 42/\l[n+1]?=some 47
 |[],_,h=>by cases h
 | c::l,n,h=>by
  rw[fD] at h;split at h
  ·next hc=>
   cases h
   cases l with
   |nil=>simp at hc
   |cons d l=>simp at hc;simp[hc.1,hc.2]
  ·obtain⟨m,hm,rfl⟩:=Option.map_eq_some_iff.1 h
   simpa using Ad l m hm
theorem DW:∀(l s:Bs) (n:Nat),fD (l++s)=some n->n+2<=l.length->fD l=some n
 |[],_,_,_,hn=>by simp at hn
 |[c],_,n,_,hn=>by simp at hn
 | c::d::l,s,n,h,hn=>by
  rw[List.cons_append,fD] at h;rw[fD];have hh:((d::l)++s).head?=(d::l).head?:=rfl;rw[hh] at h;split at h
  ·next hc=>rw[if_pos hc];exact h
  ·next hc=>
   rw[if_neg hc];obtain⟨m,hm,rfl⟩:=Option.map_eq_some_iff.1 h;rw[DW (d::l) s m hm (by simp at hn ⊢;omega)];rfl
theorem JA{l b:Bs}{k n:Nat}(h:dS (l++10::b)=.tok k n)(h2:2<=l.length):dS l=.tok k n:=by
 unfold dS at h ⊢;rw[List.drop_append_of_le_length h2] at h
 cases he:fD (l.drop 2++10::b) with
 |none=>rw[he] at h;cases h
 |some m=>
  rw[he] at h;simp only at h;have Aa:=Ad _ _ he
  by_cases hc:((l++10::b).take (m+2)).contains 10=true
  ·rw[if_pos hc] at h;cases h
  ·rw[if_neg hc] at h
   have Ac:(l.drop 2).length=l.length-2:=List.length_drop
   have Ab:(l.drop 2++10::b)[l.length-2]?=some 10:=by
    rw[List.getElem?_append_right (by omega)];simp
   have Ae:m+2<=l.length:=by
    refine Nat.le_of_not_lt fun hlt=>hc ?_;rw[List.contains_iff_mem];refine List.mem_take_iff_getElem.2 ⟨l.length,?_,?_⟩
    ·simp;omega
    ·rw[List.getElem_append_right lz];simp
   have Af:m≠l.length-2:=fun e=>by rw[e,Ab] at Aa;simp at Aa
   have Ag:m+1≠l.length-2:=fun e=>by have:=Aa.2;rw[e,Ab] at this;simp at this
   rw[DW _ _ m he (by omega)];simp only;rw[List.take_append_of_le_length (by omega)] at hc h;rw[if_neg hc];exact h
theorem KC{l:Bs}(hl:l≠[]){k n:Nat}{b:Bs}(h:dN (l++10::b)=.tok k n):dN l=.tok k n:=by
 cases l with
 |nil=>exact absurd rfl hl
 |cons c r=>
  rw[List.cons_append] at h;rw[dN] at h ⊢;split at h
  ·next hc=>rw[if_pos hc];rw[tC (by simp[uf,show M9 10=false from rfl])] at h;exact h
  next hc=>
  rw[if_neg hc];split at h
  ·next hg=>
   rw[if_pos hg];rw[<-List.cons_append] at h;unfold l9 at h ⊢;rw[wI (AJ b) (by simp),List.take_append_of_le_length (o8 _)] at h;exact h
  next hg=>
  rw[if_neg hg];split at h
  ·next hq=>rw[if_pos hq];rw[<-List.cons_append] at h;exact Mw h
  next hq=>
  rw[if_neg hq];split at h
  ·next h10=>rw[if_pos h10];exact h
  next h10=>
  rw[if_neg h10]
  have hh:∀x:UInt8,x≠10->(((r++10::b).head?=some x)↔(r.head?=some x)):=fun x hx=>by
   cases r with
   |nil=>simp;exact fun e=>hx e.symm
   |cons d r=>simp
  simp only[hh 47 (by decide),hh 42 (by decide)] at h;split at h
  ·next hr=>rw[if_pos hr];rw[<-List.cons_append,AY] at h;exact h
  next hr=>
  rw[if_neg hr];split at h
  ·next ha=>
   rw[if_pos ha];rw[<-List.cons_append] at h;exact JA h (by cases r with|nil=>simp at ha|cons d r=>simp)
  next ha=>
  rw[if_neg ha];rw[vM (.inr (by simp))] at h;exact h
theorem Bv:∀(k:Nat) (a:Bs) (p:Nat) (b:Bs),a.length<=k->(aG (a++10::b) p).2.2=0->(aG a p).2.2=0
 |k,[],p,b,_,_=>by rw[dH]
 |0,c::r,p,b,hk,_=>by simp at hk
 | k+1,c::r,p,b,hk,h=>by
  simp only[List.length_cons] at hk;rw[List.cons_append] at h
  cases hb:bG c with
  |true=>
   rw[bO hb] at h ⊢;exact Bv k r (p+1) b (by omega) h
  |false=>
   cases ho:dN (c::(r++10::b)) with
   |bad o e=>rw[eB hb ho] at h;exact absurd h (nE ho)
   |tok kd sz=>
    have ho2:=KC (l:=c::r) (by simp) (b:=b) ho;have hs:=dh ho2;rw[List.length_cons] at hs;rw[di hb ho,<-List.cons_append,List.drop_append_of_le_length (by simp;omega)] at h;rw[di hb ho2];exact Bv k _ _ b (by rw[List.length_drop,List.length_cons];omega) h
def PR(q:Nat)(t:ag):ag:=⟨t.kind,t.text,t.pos+(q:Nat)⟩
theorem uC:∀(k:Nat) (l:Bs) (p q:Nat),l.length<=k->aG l (p+q)=((aG l p).1.map (PR q),if (aG l p).2.2=0 then -1 else (aG l p).2.1+(q:Nat),(aG l p).2.2)
 |k,[],p,q,_=>by rw[dH,dH];rfl
 |0,c::r,p,q,hk=>by simp at hk
 | k+1,c::r,p,q,hk=>by
  simp only[List.length_cons] at hk
  cases hb:bG c with
  |true=>
   rw[bO hb,bO hb,show p+q+1=p+1+q by omega];exact uC k r (p+1) q (by omega)
  |false=>
   cases ho:dN (c::r) with
   |bad o e=>
    rw[eB hb ho,eB hb ho];simp only[List.map_nil,if_neg (nE ho)]
    congr 2
    omega
   |tok kd sz=>
    have hs:=dh ho;rw[di hb ho,di hb ho,show p+q+sz=p+sz+q by omega,uC k ((c::r).drop sz) (p+sz) q (by rw[List.length_drop,List.length_cons];omega)];simp only[List.map_cons,PR]
    congr 2
end Go.Proofs.YtbcdaaobbebooaaGreatDoor
