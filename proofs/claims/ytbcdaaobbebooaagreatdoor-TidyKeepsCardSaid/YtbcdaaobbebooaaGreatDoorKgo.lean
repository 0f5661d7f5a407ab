import Derived.Test.YtbcdaaobbebooaaGreatDoorKgn
set_option linter.unusedSimpArgs false
set_option linter.unusedVariables false
set_option maxRecDepth 100000
set_option maxHeartbeats 20000000
namespace Go.Proofs.YtbcdaaobbebooaaGreatDoor
open Go.RowKit Go.Tab
def iG(t:ag):Bool:=!decide (t.kind=5)&&!dB t
theorem sD(p:ag->Bool)(l:List ag)(k:Nat)(h:k<l.length):(l.take (k+1)).filter p=(l.take k).filter p++(if p l[k] then [l[k]] else []):=by
 rw[List.take_succ_eq_append_getElem h,List.filter_append]
 congr 1
 simp only[List.filter_cons,List.filter_nil]
def ku(l:List ag):List ByteArray:=(l.filter dB).map (·.text)
theorem FC(v:Value)(l:List ag)(w:World)(h:aH w v l)(hs:l.length<=1000000) :
  Calls Tryz.prog 21 #[v] w fun e w'=>∃v',e=.returned v'/\aT Value.string 9 w.heap.size w' v' (ku l)/\Below w.heap.size w w':=by
 obtain⟨a,Ag,rfl,Ai,Ae,Aj⟩:=h.len;unfold maxLen at Ae;have HT:=Hh h;clear h;go_enter Tryz.func21,Tryz.ntmps21;go_wp2_with fail;go_loopw [3,8] (fun o i wr=>∃k:Nat,k<=l.length/\i=.int .i64 (k:Int)/\aT Value.string 9 w.heap.size wr o (ku (l.take k))/\Below w.heap.size w wr) (fun _ i _=>l.length-(intOf i).toNat)
 case atStart=>exact⟨0,Nat.zero_le _,rfl,by simpa [ku] using aT.nil,Below.refl _ _⟩
 case round=>
  obtain⟨k,hk,rfl,Aa,hb⟩:=hrel;obtain⟨va,vc,rfl,-⟩:=Aa.row.len
  by_cases hkl:k<l.length
  ·obtain⟨bb,Al,rfl,Ak,q0,q1,q2⟩:=aH.get (HT.out.below hb lz) hkl
   have HF:Hid (ku (l.take (k+1))=ku (l.take k)++(if dB l[k] then [l[k].text] else [])):=Hh (by
    unfold ku;rw[sD dB l k hkl,List.map_append]
    cases dB l[k]<;>rfl)
   have Ah:(ku (l.take k)).length<=1000000:=by
    unfold ku;rw[List.length_map];exact Nat.le_trans (List.length_filter_le _ _) (by rw[List.length_take];omega)
   generalize ku (l.take k)=E at *;generalize l[k]=t at *;obtain⟨tk,tt,tp⟩:=t;simp only at q0 q1 q2 HF;have Ac:Below w.heap.size w (wr.alloc (.cells #[.int .i64 tk,.string tt,.int .i64 tp] 63)):=hb.alloc hb.size _;have Af:=Ac.size
   by_cases h6:tk=6
   ·subst h6
    have hp:dB ⟨6,tt,tp⟩=true:=rfl;go_wp2_with (with_reducible first|refine aK ?_)
    refine Stop.out ?_;have Ab:=aT.lit (f:=Value.string) (E:=9) (base:=0) (w:=(wr.alloc (.cells #[.int .i64 6,.string tt,.int .i64 tp] 63))) [tt] (Nat.zero_le _) (by simp[maxLen]);refine dG (f:=Value.string) rfl _ _ _ rfl w.heap.size 9 16 (.string ⟨#[]⟩) Tryz.underlying34 Tryz.infoStrZ rfl (fun _=>rfl) E [tt] (by exact (Aa.alloc _).alloc _) (by have q:=Ab.row;(try simp only[World.size_alloc] at q);exact q) (by simp;unfold maxLen;omega) (by simp;omega) (by have:=hb.size;simp;omega) w (by exact (Ac).alloc (Ac).size _) ?_;intro v6 w6 hown6 hb6 hg6;obtain⟨r6,c6,rfl,-⟩:=hown6.row.len;have HX:=Jh hown6 hb6;clear Ab hown6 hb6 hg6 Aa;go_wp2;go_roundw
    case rel=>exact⟨k+1,by omega,by go_num,by rw[HF.out,hp];simpa using HX.out.1,HX.out.2⟩
    case measure=>simp[intOf];omega
   by_cases h7:tk=7
   ·subst h7
    have hp:dB ⟨7,tt,tp⟩=true:=rfl;go_wp2_with (with_reducible first|refine aK ?_)
    refine Stop.out ?_;have Ab:=aT.lit (f:=Value.string) (E:=9) (base:=0) (w:=(wr.alloc (.cells #[.int .i64 7,.string tt,.int .i64 tp] 63))) [tt] (Nat.zero_le _) (by simp[maxLen]);refine dG (f:=Value.string) rfl _ _ _ rfl w.heap.size 9 16 (.string ⟨#[]⟩) Tryz.underlying34 Tryz.infoStrZ rfl (fun _=>rfl) E [tt] (by exact (Aa.alloc _).alloc _) (by have q:=Ab.row;(try simp only[World.size_alloc] at q);exact q) (by simp;unfold maxLen;omega) (by simp;omega) (by have:=hb.size;simp;omega) w (by exact (Ac).alloc (Ac).size _) ?_;intro v6 w6 hown6 hb6 hg6;obtain⟨r6,c6,rfl,-⟩:=hown6.row.len;have HX:=Jh hown6 hb6;clear Ab hown6 hb6 hg6 Aa;go_wp2;go_roundw
    case rel=>exact⟨k+1,by omega,by go_num,by rw[HF.out,hp];simpa using HX.out.1,HX.out.2⟩
    case measure=>simp[intOf];omega
   have e6:(tk==6)=false:=by simpa using h6
   have e7:(tk==7)=false:=by simpa using h7
   have hp:dB ⟨tk,tt,tp⟩=false:=by unfold dB;simp[h6,h7]
   have Ad:=Hh Ac;have Aa:=Aa.alloc (.cells #[.int .i64 tk,.string tt,.int .i64 tp] 63);clear h6 h7 Ac Af;have HX:=Jh Aa hb;clear Aa hb;go_wp2;go_roundw
   case rel=>exact⟨k+1,by omega,by go_num,by rw[HF.out,hp];simpa using HX.out.1,Ad.out⟩
   case measure=>simp[intOf];omega
  ·obtain rfl:k=l.length:=by omega
   rw[List.take_length] at Aa ⊢;have HX:=Jh Aa hb;clear Aa hb;go_wp2;go_ret;exact⟨_,rfl,HX.out.1,HX.out.2⟩
theorem Io(v:Value)(l:List ag)(w:World)(h:aH w v l)(hs:l.length<=1000000) :
  Calls Tryz.prog 20 #[v] w fun e w'=>∃v',e=.returned v'/\aT Value.string 9 w.heap.size w' v' (ku l)/\Below w.heap.size w w':=by
 obtain⟨a,Ad,rfl,Af,Ac,Ag⟩:=h.len;unfold maxLen at Ac;have HT:=Hh h;clear h;go_enter Tryz.func20,Tryz.ntmps20;go_wp2_with fail;go_loopw [3,4] (fun o i wr=>∃k:Nat,k<=l.length/\i=.int .i64 (k:Int)/\aT Value.string 9 w.heap.size wr o (ku (l.take k))/\Below w.heap.size w wr) (fun _ i _=>l.length-(intOf i).toNat)
 case atStart=>exact⟨0,Nat.zero_le _,rfl,by simpa [ku] using aT.nil,Below.refl _ _⟩
 case round=>
  obtain⟨k,hk,rfl,Aa,hb⟩:=hrel;obtain⟨va,vc,rfl,-⟩:=Aa.row.len
  by_cases hkl:k<l.length
  ·obtain⟨bb,Ai,rfl,Ah,q0,q1,q2⟩:=aH.get (HT.out.below hb lz) hkl
   have HF:Hid (ku (l.take (k+1))=ku (l.take k)++(if dB l[k] then [l[k].text] else [])):=Hh (by
    unfold ku;rw[sD dB l k hkl,List.map_append]
    cases dB l[k]<;>rfl)
   have Ae:(ku (l.take k)).length<=1000000:=by
    unfold ku;rw[List.length_map];exact Nat.le_trans (List.length_filter_le _ _) (by rw[List.length_take];omega)
   generalize ku (l.take k)=E at *;generalize l[k]=t at *;obtain⟨tk,tt,tp⟩:=t;simp only at q0 q1 q2 HF
   by_cases h6:tk=6
   ·subst h6
    have hp:dB ⟨6,tt,tp⟩=true:=rfl;go_wp2_with (with_reducible first|refine aK ?_)
    refine Stop.out ?_;have Ab:=aT.lit (f:=Value.string) (E:=9) (base:=0) (w:=wr) [tt] (Nat.zero_le _) (by simp[maxLen]);refine dG (f:=Value.string) rfl _ _ _ rfl w.heap.size 9 16 (.string ⟨#[]⟩) Tryz.underlying34 Tryz.infoStrZ rfl (fun _=>rfl) E [tt] (by exact Aa.alloc _) (by have q:=Ab.row;(try simp only[World.size_alloc] at q);exact q) (by simp;unfold maxLen;omega) (by simp;omega) (by have:=hb.size;simp;omega) w (by exact (hb).alloc (hb).size _) ?_;intro v6 w6 hown6 hb6 hg6;obtain⟨r6,c6,rfl,-⟩:=hown6.row.len;have HX:=Jh hown6 hb6;clear Ab hown6 hb6 hg6 Aa;go_wp2;go_roundw
    case rel=>exact⟨k+1,by omega,by go_num,by rw[HF.out,hp];simpa using HX.out.1,HX.out.2⟩
    case measure=>simp[intOf];omega
   by_cases h7:tk=7
   ·subst h7
    have hp:dB ⟨7,tt,tp⟩=true:=rfl;go_wp2_with (with_reducible first|refine aK ?_)
    refine Stop.out ?_;have Ab:=aT.lit (f:=Value.string) (E:=9) (base:=0) (w:=wr) [tt] (Nat.zero_le _) (by simp[maxLen]);refine dG (f:=Value.string) rfl _ _ _ rfl w.heap.size 9 16 (.string ⟨#[]⟩) Tryz.underlying34 Tryz.infoStrZ rfl (fun _=>rfl) E [tt] (by exact Aa.alloc _) (by have q:=Ab.row;(try simp only[World.size_alloc] at q);exact q) (by simp;unfold maxLen;omega) (by simp;omega) (by have:=hb.size;simp;omega) w (by exact (hb).alloc (hb).size _) ?_;intro v6 w6 hown6 hb6 hg6;obtain⟨r6,c6,rfl,-⟩:=hown6.row.len;have HX:=Jh hown6 hb6;clear Ab hown6 hb6 hg6 Aa;go_wp2;go_roundw
    case rel=>exact⟨k+1,by omega,by go_num,by rw[HF.out,hp];simpa using HX.out.1,HX.out.2⟩
    case measure=>simp[intOf];omega
   have e6:(tk==6)=false:=by simpa using h6
   have e7:(tk==7)=false:=by simpa using h7
   have hp:dB ⟨tk,tt,tp⟩=false:=by unfold dB;simp[h6,h7]
   clear h6 h7;have HX:=Jh Aa hb;clear Aa hb;go_wp2;go_roundw
   case rel=>exact⟨k+1,by omega,by go_num,by rw[HF.out,hp];simpa using HX.out.1,HX.out.2⟩
   case measure=>simp[intOf];omega
  ·obtain rfl:k=l.length:=by omega
   rw[List.take_length] at Aa ⊢;have HX:=Jh Aa hb;clear Aa hb;go_wp2;go_ret;exact⟨_,rfl,HX.out.1,HX.out.2⟩
theorem Ip(v:Value)(l:List ag)(w:World)(h:aH w v l)(hs:l.length<=1000000) :
  Calls Tryz.prog 23 #[v] w fun e w'=>∃v',e=.returned v'/\aO w.heap.size w' v' (l.filter iG)/\Below w.heap.size w w':=by
 obtain⟨a,Ac,rfl,Ae,Ab,Af⟩:=h.len;unfold maxLen at Ab;have HT:=Hh h;clear h;go_enter Tryz.func23,Tryz.ntmps23;go_wp2_with fail;go_loopw [3,4] (fun o i wr=>∃k:Nat,k<=l.length/\i=.int .i64 (k:Int)/\aO w.heap.size wr o ((l.take k).filter iG)/\Below w.heap.size w wr) (fun _ i _=>l.length-(intOf i).toNat)
 case atStart=>exact⟨0,Nat.zero_le _,rfl,by simpa using aO.nil,Below.refl _ _⟩
 case round=>
  obtain⟨k,hk,rfl,Aa,hb⟩:=hrel;obtain⟨va,vc,rfl⟩:=Aa.len
  by_cases hkl:k<l.length
  ·
   obtain⟨bb,Ah,rfl,Ag,q0,q1,q2⟩:=aH.get (HT.out.below hb lz) hkl;have HF:=Hh (sD iG l k hkl);have Ad:((l.take k).filter iG).length<=1000000:=Nat.le_trans (List.length_filter_le _ _) (by rw[List.length_take];omega);generalize (l.take k).filter iG=E at *;generalize l[k]=t at *;obtain⟨tk,tt,tp⟩:=t;simp only at q0 q1 q2 HF
   by_cases h5:tk=5
   ·subst h5
    have hp:iG ⟨5,tt,tp⟩=false:=rfl;have e5:((5:Int) != 5)=false:=by decide
    have HX:=Jh Aa hb;clear Aa hb;go_wp2;go_roundw
    case rel=>exact⟨k+1,by omega,by go_num,by rw[HF.out,hp];simpa using HX.out.1,HX.out.2⟩
    case measure=>simp[intOf];omega
   by_cases h6:tk=6
   ·subst h6
    have hp:iG ⟨6,tt,tp⟩=false:=rfl;have e5:((6:Int) != 5)=true:=by decide
    have e6:((6:Int) != 6)=false:=by decide
    have HX:=Jh Aa hb;clear Aa hb;go_wp2;go_roundw
    case rel=>exact⟨k+1,by omega,by go_num,by rw[HF.out,hp];simpa using HX.out.1,HX.out.2⟩
    case measure=>simp[intOf];omega
   by_cases h7:tk=7
   ·subst h7
    have hp:iG ⟨7,tt,tp⟩=false:=rfl;have e5:((7:Int) != 5)=true:=by decide
    have e6:((7:Int) != 6)=true:=by decide
    have e7:((7:Int) != 7)=false:=by decide
    have HX:=Jh Aa hb;clear Aa hb;go_wp2;go_roundw
    case rel=>exact⟨k+1,by omega,by go_num,by rw[HF.out,hp];simpa using HX.out.1,HX.out.2⟩
    case measure=>simp[intOf];omega
   have e5:(tk != 5)=true:=by simpa using h5
   have e6:(tk != 6)=true:=by simpa using h6
   have e7:(tk != 7)=true:=by simpa using h7
   have hp:iG ⟨tk,tt,tp⟩=true:=by unfold iG dB;simp[h5,h6,h7]
   clear h5 h6 h7;go_wp2_with (with_reducible first|refine aK ?_)
   refine Stop.out ?_;refine gN rfl _ _ rfl w.heap.size E ⟨tk,tt,tp⟩ (by exact Aa.alloc _) _ rfl (by simp[World.cell?_alloc_new]) (by simp[World.cell?_alloc_new]) (by simp[World.cell?_alloc_new]) (by omega) (by have:=hb.size;simp;omega) w (by exact (hb).alloc (hb).size _) ?_;intro v' w' hown' hb' hg';obtain⟨a2,c2,rfl⟩:=hown'.len;have HX:=Jh hown' hb';clear hown' hb' hg' Aa hb;go_wp2;go_roundw
   case rel=>exact⟨k+1,by omega,by go_num,by rw[HF.out,hp];simpa using HX.out.1,HX.out.2⟩
   case measure=>simp[intOf];omega
  ·
   obtain rfl:k=l.length:=by omega
   rw[List.take_length] at Aa ⊢;have HX:=Jh Aa hb;clear Aa hb;go_wp2;go_ret;exact⟨_,rfl,HX.out.1,HX.out.2⟩
theorem FD(v:Value)(l:List ag)(w:World)(h:aH w v l)(hs:l.length<=1000000) :
  Calls Tryz.prog 24 #[v] w fun e w'=>∃v',e=.returned v'/\aO w.heap.size w' v' (l.filter iG)/\Below w.heap.size w w':=by
 obtain⟨a,Ae,rfl,Ag,Ad,Ah⟩:=h.len;unfold maxLen at Ad;have HT:=Hh h;clear h;go_enter Tryz.func24,Tryz.ntmps24;go_wp2_with fail;go_loopw [3,8] (fun o i wr=>∃k:Nat,k<=l.length/\i=.int .i64 (k:Int)/\aO w.heap.size wr o ((l.take k).filter iG)/\Below w.heap.size w wr) (fun _ i _=>l.length-(intOf i).toNat)
 case atStart=>exact⟨0,Nat.zero_le _,rfl,by simpa using aO.nil,Below.refl _ _⟩
 case round=>
  obtain⟨k,hk,rfl,Aa,hb⟩:=hrel;obtain⟨va,vc,rfl⟩:=Aa.len
  by_cases hkl:k<l.length
  ·
   obtain⟨bb,Aj,rfl,Ai,q0,q1,q2⟩:=aH.get (HT.out.below hb lz) hkl;have HF:=Hh (sD iG l k hkl);have Af:((l.take k).filter iG).length<=1000000:=Nat.le_trans (List.length_filter_le _ _) (by rw[List.length_take];omega);generalize (l.take k).filter iG=E at *;generalize l[k]=t at *;obtain⟨tk,tt,tp⟩:=t;simp only at q0 q1 q2 HF;have Ac:Below w.heap.size w (wr.alloc (.cells #[.int .i64 tk,.string tt,.int .i64 tp] 63)):=hb.alloc hb.size _;have Ab:=Hh Ac;clear Ac
   by_cases h5:tk=5
   ·subst h5
    have hp:iG ⟨5,tt,tp⟩=false:=rfl;have Aa:=Aa.alloc (.cells #[.int .i64 5,.string tt,.int .i64 tp] 63);have HX:=Jh Aa hb;clear Aa hb;go_wp2;go_roundw
    case rel=>exact⟨k+1,by omega,by go_num,by rw[HF.out,hp];simpa using HX.out.1,Ab.out⟩
    case measure=>simp[intOf];omega
   by_cases h6:tk=6
   ·subst h6
    have hp:iG ⟨6,tt,tp⟩=false:=rfl;have Aa:=Aa.alloc (.cells #[.int .i64 6,.string tt,.int .i64 tp] 63);have HX:=Jh Aa hb;clear Aa hb;go_wp2;go_roundw
    case rel=>exact⟨k+1,by omega,by go_num,by rw[HF.out,hp];simpa using HX.out.1,Ab.out⟩
    case measure=>simp[intOf];omega
   by_cases h7:tk=7
   ·subst h7
    have hp:iG ⟨7,tt,tp⟩=false:=rfl;have Aa:=Aa.alloc (.cells #[.int .i64 7,.string tt,.int .i64 tp] 63);have HX:=Jh Aa hb;clear Aa hb;go_wp2;go_roundw
    case rel=>exact⟨k+1,by omega,by go_num,by rw[HF.out,hp];simpa using HX.out.1,Ab.out⟩
    case measure=>simp[intOf];omega
   have e5:(tk==5)=false:=by simpa using h5
   have e6:(tk==6)=false:=by simpa using h6
   have e7:(tk==7)=false:=by simpa using h7
   have hp:iG ⟨tk,tt,tp⟩=true:=by unfold iG dB;simp[h5,h6,h7]
   clear h5 h6 h7;go_wp2_with (with_reducible first|refine aK ?_)
   refine Stop.out ?_;refine gN rfl _ _ rfl w.heap.size E ⟨tk,tt,tp⟩ (by exact (Aa.alloc _).alloc _) _ rfl (by simp[World.cell?_alloc_new]) (by simp[World.cell?_alloc_new]) (by simp[World.cell?_alloc_new]) (by omega) (by have:=hb.size;simp;omega) w (by exact (Ab.out).alloc (Ab.out).size _) ?_;intro v' w' hown' hb' hg';obtain⟨a2,c2,rfl⟩:=hown'.len;have HX:=Jh hown' hb';clear hown' hb' hg' Aa hb;go_wp2;go_roundw
   case rel=>exact⟨k+1,by omega,by go_num,by rw[HF.out,hp];simpa using HX.out.1,HX.out.2⟩
   case measure=>simp[intOf];omega
  ·
   obtain rfl:k=l.length:=by omega
   rw[List.take_length] at Aa ⊢;have HX:=Jh Aa hb;clear Aa hb;go_wp2;go_ret;exact⟨_,rfl,HX.out.1,HX.out.2⟩
theorem Cu(u v:Value)(l m:List ag)(w:World)(h1:aH w u l)(h2:aH w v m)(hl:l.length<=1000000)(hm:l.map (fun t=>(t.kind,t.text))=m.map (fun t=>(t.kind,t.text))) :
  Calls Tryz.prog 22 #[u,v] w fun e w'=>e=.returned (.bool true)/\Below w.heap.size w w':=by
 obtain⟨a,c,rfl,Ak,Ae,-⟩:=h1.len;obtain⟨b,d,rfl,Af,Ag,-⟩:=h2.len;unfold maxLen at Ae Ag;have Aa:m.length=l.length:=by have:=congrArg List.length hm;simpa using this.symm
 rw[Aa] at Af ⊢;have H1:=Hh h1;have H2:=Hh h2;have HM:=Hh hm;have Ad:=Hh Aa;clear h1 h2 hm Aa;go_enter Tryz.func22,Tryz.ntmps22;go_wp2_with fail;go_loopw [5] (fun i wr=>∃k:Nat,k<=l.length/\i=.int .i64 (k:Int)/\Below w.heap.size w wr) (fun i _=>l.length-(intOf i).toNat)
 case atStart=>exact⟨0,Nat.zero_le _,rfl,Below.refl _ _⟩
 case round=>
  obtain⟨k,hk,rfl,hb⟩:=hrel;have HB:=Hh hb
  by_cases hkl:k<l.length
  ·have Ab:k<m.length:=by rw[Ad.out];exact hkl
   have Ac:=H2.out.below hb lz;obtain⟨bb,Am,rfl,Al,q0,q1,q2⟩:=aH.get (H1.out.below hb lz) hkl;obtain⟨Aj,Ai,rfl,Ah,r0,r1,r2⟩:=aH.get Ac Ab
   have he:l[k].kind=m[k].kind/\l[k].text=m[k].text:=by
    have:=congrArg (·[k]?) HM.out;simp only[List.getElem?_map,List.getElem?_eq_getElem hkl,List.getElem?_eq_getElem Ab,Option.map_some,Option.some.injEq,Prod.mk.injEq] at this;exact this
   rw[<-he.1] at r0;rw[<-he.2] at r1;generalize l[k].kind=tk at *;generalize l[k].text=tt at *;have e1:(tk != tk)=false:=by simp
   have e2:(tt.toList==tt.toList)=true:=by simp
   have i1:(0:Int)<=(k:Int):=by omega
   have i2:(k:Int)<(l.length:Int):=by omega
   clear q2 r2 he Ac hb Ab;go_wp2_with fail;go_quiet (fail)
   go_wp2_with fail;go_roundw
   case rel=>exact⟨k+1,hkl,by go_num,ah HB.out nq⟩
   case measure=>simp[intOf];omega
  ·obtain rfl:k=l.length:=by omega
   go_wp2_with fail;go_ret;exact⟨rfl,HB.out⟩
theorem Tryz.infoRowT:(Tryz.prog.info? 103).map (fun i=>(i.zero,i.size,i.bytes))=some (some (.agg #[.slice none 0 0,.int .i64 0]),2,32):=by kernel_rfl
def iD(B1 B:Nat)(w:World)(v:Value)(R:List aI):Prop:=
 ∃D:List (j5×aI),D.map (·.2)=R/\w.ownsRow B1 103 2 v D.length (D.flatMap l8)/\∀d∈D,aO B w (eO d.1) d.2.toks
theorem iD.nil(B1 B:Nat)(w:World):iD B1 B w (.slice none 0 0) []:=⟨[],rfl,World.ownsRow_nil _ _ _ _,fun d hd=>by cases hd⟩
theorem iD.tr{B1 B:Nat}{w:World}{v:Value}{R:List aI}(h:iD B1 B w v R)(hb:B<=B1):Em B w v R:=by
 obtain⟨D,h1,h2,h3⟩:=h;exact⟨D,h1,sP h2 hb,h3⟩
theorem iD.wr{B1 B Bg g:Nat}{w w':World}{v:Value}{R:List aI}{l:Bs}(h:iD B1 B w v R)(hw:BW Bg w g l)(hr:oO Bg g w w'):iD B1 B w' v R:=by
 obtain⟨D,h1,h2,h3⟩:=h;exact⟨D,h1,Fb h2 hw hr (by decide) (by decide),fun d hd=>sS (h3 d hd) hw hr⟩
section
variable {B g x:Nat} {w:World} {l:Bs} {cs:Array Value} {t:TypeId}
theorem dA{base n sz:Nat}{E:TypeId}{v:Value}{xs:List Value}(h:w.ownsRow base E sz v n xs)(hc:ae w x cs t)(ht:E≠t)(j:Nat)(u:Value):(w.setCell ⟨x,j,none⟩ u).ownsRow base E sz v n xs:=
 bZ h fun k e=>Below.heap_setCell _ _ _ _ (by exact dC h hc ht k e)
theorem BW.set(h:BW B w g l)(hc:ae w x cs t)(ht:t≠69)(hu:t≠5)(j:Nat)(u:Value):BW B (w.setCell ⟨x,j,none⟩ u) g l:=by
 have Ac:=h.ne hc ht;obtain⟨h1,Aa,h2,Ab,ha,v,hv,ho⟩:=h;exact⟨h1,Aa,h2,Ab.setOther _ _ Ac,ha,v,hv,dA ho hc (fun e=>hu e.symm) j u⟩
theorem Em.set{v:Value}{R:List aI}(h:Em B w v R)(hc:ae w x cs t)(h1:t≠103)(h2:t≠63)(j:Nat)(u:Value):Em B (w.setCell ⟨x,j,none⟩ u) v R:=by
 obtain⟨D,q1,q2,q3⟩:=h;exact⟨D,q1,dA q2 hc (fun e=>h1 e.symm) j u,fun d hd=>dA (q3 d hd) hc (fun e=>h2 e.symm) j u⟩
end
theorem xu{base n sz:Nat}{E:TypeId}{w:World}{v:Value}{xs:List Value}(h:w.ownsRow base E sz v n xs):∃a c,v=.slice a n c:=by
 rcases h.2 with ⟨rfl,rfl⟩|⟨g,cap,cur,rfl,-⟩
 ·exact⟨none,0,rfl⟩
 ·exact⟨_,_,rfl⟩
structure WS(B B1 g bx rx:Nat)(w:World)(L:Bs)(rv:Value)(Q:List aI)(v:Value)(R:List aI):Prop where
 bw:BW B w g L
 p:ae w bx #[.pointer (some ⟨g,0,none⟩)] 66
 r:ae w rx #[rv] 71
 q:iD B1 B w rv Q
 a:Em B w v R
 lt:∀k,v.ownBlock=some k->k<B1
 le:B<=B1/\B1<=rx/\B1<=w.heap.size
section
variable {B B1 g bx rx:Nat} {w w':World} {L L':Bs} {rv:Value} {Q:List aI} {v:Value} {R:List aI}
theorem WS.wr(h:WS B B1 g bx rx w L rv Q v R)(hw:BW B w' g L')(hp:oO B g w w'):WS B B1 g bx rx w' L' rv Q v R:=
 ⟨hw,hp.cells h.p (h.bw.ne h.p (by decide)) (by decide),hp.cells h.r (h.bw.ne h.r (by decide)) (by decide),h.q.wr h.bw hp,h.a.wr h.bw hp,h.lt,h.le.1,h.le.2.1,by have:=hp.b.size;have:=h.le;omega⟩
theorem WS.below(h:WS B B1 g bx rx w L rv Q v R)(hb:Below w.heap.size w w'):WS B B1 g bx rx w' L rv Q v R:=
 h.wr (h.bw.below hb) (oO.of hb (by have:=h.bw.lt;have:=h.bw.1;omega))
theorem WS.clear(h:WS B B1 g bx rx w L rv Q v R):WS B B1 g bx rx (w.setCell ⟨rx,0,none⟩ (.slice none 0 0)) L (.slice none 0 0) [] v R:=by
 refine⟨h.bw.set h.r (by decide) (by decide) _ _,h.p.setOther _ _ ?_,h.r.set 0 (by simp) _,iD.nil _ _ _,h.a.set h.r (by decide) (by decide) _ _,h.lt,by simpa using h.le⟩;rintro rfl;have h1:w.heap[rx]?=_:=h.p;have h2:w.heap[rx]?=_:=h.r;rw[h1] at h2;simp only[Option.some.injEq,Obj.cells.injEq] at h2;exact absurd h2.2.1 (by decide)
end
theorem su{B B1 g bx rx:Nat}{w:World}{L:Bs}{rv:Value}{Q:List aI}{v:Value}{R:List aI}(h:WS B B1 g bx rx w L rv Q v R)(hT:zh B w)(hF:∀r∈Q,zk r/\(rV r.toks).isSome=true)(hn:Q.length<=1000000)(hl:L.length+(mK Q).length<=500000000) :
  Calls Tryz.prog 63 #[.pointer (some ⟨bx,0,none⟩),.pointer (some ⟨rx,0,none⟩)] w fun e w'=>e=.returned (.tuple #[])/\WS B B1 g bx rx w' (L++mK Q) (.slice none 0 0) [] v R/\∃w2,oO B g w w2/\w'=w2.setCell ⟨rx,0,none⟩ (.slice none 0 0):=by
 have hA:=JD Q rv h.bw (h.q.tr h.le.1) hF hn hl hT;have H:=Hh h;have hp:=h.p;have hr:=h.r;have lp:=hp.lt;have lr:=hr.lt;obtain⟨Ac,Ad⟩:=hp.n1 rfl;obtain⟨Aa,Ab⟩:=hr.n1 rfl;clear h hp hr hF hl hT;go_enter Tryz.func63,Tryz.ntmps63;go_wp2_with fail;refine hA.mono ?_;rintro _ w2 ⟨rfl,hw2,hp2⟩;have H2:=Hh (H.out.wr hw2 hp2);have HB:=Hh hp2;have hr:=H2.out.r;have lr:=hr.lt;clear hA hw2 hp2 Aa Ab Ac Ad;obtain⟨Aa,Ab⟩:=hr.n1 rfl;clear hr;go_wp2_with fail;refine bodyPost_end (v:=.tuple #[]) (by simp[results,Tryz.results63,go_sem]) rfl ?_;exact⟨rfl,H2.out.clear,w2,HB.out,rfl⟩
theorem fV{w:World}{ops:Array Oper}{rest:List Oper}{p:Oper}{a:Act}{Q:Exit->Act->World->Prop}(hgd:p.guard=none)(s x:Operand)
  (hop:p.op=.call { callee:=.builtin .append,args:=#[s,x],argTypes:=#[71,71] }) (B:Nat) (lv:Value) (D:List (j5×aI)) (d:j5×aI) (hs:a.eval s=lv)
  (hown:w.ownsRow B 103 2 lv D.length (D.flatMap l8)) (g:Nat) (hx:a.eval x=.slice (some ⟨g,0,none⟩) 1 1) (hc:ae w g #[eO d.1,.int .i64 d.2.dep] 103)
  (hD:D.length<=1000000) (hbase:B<=w.heap.size)
  (hK:∀v' w',w'.ownsRow B 103 2 v' (D.length+1) (D.flatMap l8++l8 d)->w.grownBy w' lv.ownBlock->wpList Tryz.prog ops Q rest (a.put p.dst v') w'):wpList Tryz.prog ops Q (p::rest) a w:=by
 obtain⟨i,Aa,Ab,Ac,Ad⟩:=info_parts Tryz.infoRowT;refine wpList_append_lies w hgd s x 71 hop B 103 i _ 2 32 Tryz.underlying71 Aa Ab Ac Ad rfl (by decide) lv D.length (D.flatMap l8) hs hown ⟨g,0,none⟩ 1 1 (l8 d) hx rfl ?_ ?_ (by omega) (by unfold maxLen;omega) (by omega) hbase _ rfl (fun g2 c2 w' h1 h2 _ _=>hK _ w' h1 h2)
 ·intro j u hu
  rw[Addr.add_lit,Nat.zero_add];exact hc.cell _ _ (by simpa [l8] using hu)
 ·intro u hu
  simp only[l8,List.mem_cons,List.not_mem_nil,or_false] at hu;rcases hu with rfl|rfl<;>rfl
section
variable {B B1 g bx rx:Nat} {w w':World} {L L':Bs} {rv nv:Value} {Q:List aI} {v:Value} {R:List aI}
theorem WS.push(h:WS B B1 g bx rx w L rv Q v R){D:List (j5×aI)}{d:j5×aI}(hD:D.map (·.2)=Q)(h0:w.ownsRow B1 103 2 rv D.length (D.flatMap l8))(hDt:∀d∈D,aO B w (eO d.1) d.2.toks)(hd:aO B w (eO d.1) d.2.toks)
  (hg:w.grownBy w' rv.ownBlock) (hown:w'.ownsRow B1 103 2 nv (D.length+1) (D.flatMap l8++l8 d)):WS B B1 g bx rx (w'.setCell ⟨rx,0,none⟩ nv) L nv (Q++[d.2]) v R:=by
 have hT:∀{E:TypeId} {base n sz:Nat} {u:Value} {xs:List Value},w.ownsRow base E sz u n xs->E≠103->w'.ownsRow base E sz u n xs:=fun hu hE=>bZ hu fun k e=>hg.block k (World.ownsRow.lt hu k e).2 (fun q=>nY hu h0 hE k e q.symm);have hC:∀{k:Nat} {cs:Array Value} {t:TypeId},ae w k cs t->t≠103->ae w' k cs t:=fun hc ht=>hc.kept hg (fun e=>dC h0 hc (fun q=>ht q.symm) _ e.symm rfl);have hr:=hC h.r (by decide);have hp:=hC h.p (by decide);obtain⟨b1,cs,b2,bc,ba,u,bu,bo⟩:=h.bw;have Aa:BW B w' g L:=⟨b1,cs,b2,hC bc (by decide),ba,u,bu,hT bo (by decide)⟩;obtain⟨A,a1,a2,a3⟩:=h.a
 have ha:Em B w' v R:=⟨A,a1,bZ a2 fun k e=>hg.block k (World.ownsRow.lt a2 k e).2 (fun q=>by
  have:=(World.ownsRow.lt h0 k q.symm).1;have:=h.lt k e
  omega),fun x hx=>hT (a3 x hx) (by decide)⟩
 refine⟨Aa.set hr (by decide) (by decide) _ _,hp.setOther _ _ ?_,hr.set 0 (by simp) _,⟨D++[d],by rw[List.map_append,hD];rfl,?_,?_⟩,ha.set hr (by decide) (by decide) _ _,h.lt,h.le.1,h.le.2.1,by have:=hg.size;have:=h.le;simp;omega⟩
 ·rintro rfl
  have h1:w'.heap[rx]?=_:=hp;have h2:w'.heap[rx]?=_:=hr;rw[h1] at h2;simp only[Option.some.injEq,Obj.cells.injEq] at h2;exact absurd h2.2.1 (by decide)
 ·have e:(D++[d]).flatMap l8=D.flatMap l8++l8 d:=by simp
  rw[e,List.length_append,List.length_singleton];exact dA hown hr (by decide) _ _
 ·intro x hx
  rcases List.mem_append.1 hx with hx|hx
  ·exact dA (hT (hDt x hx) (by decide)) hr (by decide) _ _
  ·rw[List.mem_singleton.1 hx]
   exact dA (hT hd (by decide)) hr (by decide) _ _
end
structure WT(B B1 g bx rx:Nat)(w:World)(L:Bs)(rv:Value)(Q:List aI)(v:Value)(R:List aI)(rb:Nat)(s:j5)(dep:Int)(toks:List ag):Prop where
 ws:WS B B1 g bx rx w L rv Q v R
 r:ae w rb #[eO s,.int .i64 dep] 103
 t:aO B w (eO s) toks
section
variable {B B1 g bx rx rb:Nat} {w w':World} {L L':Bs} {rv:Value} {Q:List aI} {v:Value} {R:List aI} {s:j5} {dep:Int} {toks:List ag}
theorem WT.wr(h:WT B B1 g bx rx w L rv Q v R rb s dep toks)(hw:BW B w' g L')(hp:oO B g w w'):WT B B1 g bx rx w' L' rv Q v R rb s dep toks:=
 ⟨h.ws.wr hw hp,hp.cells h.r (h.ws.bw.ne h.r (by decide)) (by decide),sS h.t h.ws.bw hp⟩
theorem WT.below(h:WT B B1 g bx rx w L rv Q v R rb s dep toks)(hb:Below w.heap.size w w'):WT B B1 g bx rx w' L rv Q v R rb s dep toks:=
 ⟨h.ws.below hb,h.r.below hb h.r.lt,h.t.below hb lz⟩
theorem WT.end(h:WT B B1 g bx rx w L rv Q v R rb s dep toks){w2:World}(hp:oO B g w w2)(hr:ae w2 rx #[rv] 71)(hs:WS B B1 g bx rx (w2.setCell ⟨rx,0,none⟩ (.slice none 0 0)) L' (.slice none 0 0) [] v R):WT B B1 g bx rx (w2.setCell ⟨rx,0,none⟩ (.slice none 0 0)) L' (.slice none 0 0) [] v R rb s dep toks:=by
 have h1:=hp.cells h.r (h.ws.bw.ne h.r (by decide)) (by decide);refine⟨hs,h1.setOther _ _ ?_,dA (sS h.t h.ws.bw hp) hr (by decide) _ _⟩;rintro rfl;have h2:w2.heap[rx]?=_:=hr;have h3:w2.heap[rx]?=_:=h1;rw[h2] at h3;simp only[Option.some.injEq,Obj.cells.injEq] at h3;exact absurd h3.2.1 (by decide)
end
theorem Mm{R:List aI}{k:Nat}(hk:k<R.length)(Q:List aI):gP (R.drop k) Q=if (rV R[k].toks).isSome then gP (R.drop (k+1)) (Q++[R[k]]) else mK Q++(vw R[k]++gP (R.drop (k+1)) []):=by
 rw[List.drop_eq_getElem_cons hk,gP]
theorem Ha{B g:Nat}{w:World}{l:Bs}(R:List aI)(v:Value)(hW:BW B w g l)(hR:Em B w v R)(hF:∀r∈R,zk r)(hn:R.length<=1000000)(hl:l.length+(gP R []).length<=400000000)(hT:zh B w) :
  Calls Tryz.prog 40 #[.pointer (some ⟨g,0,none⟩),v] w fun e w'=>e=.returned (.tuple #[])/\BW B w' g (l++gP R [])/\Below B w w':=by
 obtain⟨ra,rc,rfl,AL,AE⟩:=hR.len;unfold maxLen at AE;have hB:B<=w.heap.size:=by have:=hW.lt;have:=hW.1;omega
 have A4:Below w.heap.size w (w.alloc (.cells #[.pointer (some ⟨g,0,none⟩)] 66)):=(Below.refl _ w).alloc lz _;have Am:=A4.alloc (by simp) (.cells #[.slice none 0 0] 71);have A5:=(ae.new w #[.pointer (some ⟨g,0,none⟩)] 66).alloc (.cells #[.slice none 0 0] 71);have As:=ae.new (w.alloc (.cells #[.pointer (some ⟨g,0,none⟩)] 66)) #[.slice none 0 0] 71;simp only[World.size_alloc] at As
 have A6:∀k,(Value.slice ra R.length rc).ownBlock=some k->k<w.heap.size:=by
  obtain⟨D,-,q2,-⟩:=hR;exact fun k e=>(World.ownsRow.lt q2 k e).2
 have A2:WS B w.heap.size g w.heap.size (w.heap.size+1) ((w.alloc (.cells #[.pointer (some ⟨g,0,none⟩)] 66)).alloc (.cells #[.slice none 0 0] 71)) l (.slice none 0 0) [] (.slice ra R.length rc) R:=
  ⟨hW.below Am,A5,As,iD.nil _ _ _,hR.wr hW (oO.of Am hB),A6,hB,by omega,Am.size⟩
 have H0:=Jh A2 (Am.mono hB);have HF:=Hh hF;have HL:=Hh hl;have HT:=Hh hT;clear hW hR hF hl A4 Am A5 As A2 hT A6;go_enter Tryz.func40,Tryz.ntmps40;go_wp2_with fail;go_loopw [11] (fun i wr=>∃(k:Nat) (O:Bs) (rv:Value) (Q:List aI),k<=R.length/\i=.int .i64 (k:Int)/\WS B w.heap.size g w.heap.size (w.heap.size+1) wr (l++O) rv Q (.slice ra R.length rc) R/\gP R []=O++gP (R.drop k) Q/\(∀r∈Q,zk r/\(rV r.toks).isSome=true)/\Q.length<=k/\Below B w wr) (fun i _=>R.length-(intOf i).toNat)
 case atStart=>exact⟨0,[],_,[],Nat.zero_le _,rfl,by simpa using H0.out.1,by simp,(fun r hr=>by cases hr),Nat.le_refl _,H0.out.2⟩
 case round=>
  clear H0;obtain⟨k,O,rv,Q,hk,rfl,hS,Ac,hQ,AN,hb⟩:=hrel
  by_cases hkl:k<R.length
  ·obtain⟨b,s,rfl,AK,Ah,q0,q1⟩:=hS.a.get hkl
   obtain⟨sa,sn,sc⟩:=s;have Ak:=HF.out R[k] (List.getElem_mem hkl);have A9:=Mm hkl Q;rw[A9] at Ac
   have AA:sn=R[k].toks.length:=by
    obtain⟨a',c',e'⟩:=Ah.len;simp only[eO,Value.slice.injEq] at e';exact e'.2.1
   have Ap:Below wr.heap.size wr (wr.alloc (.cells #[.slice sa sn sc,.int .i64 R[k].dep] 103)):=(Below.refl _ wr).alloc lz _;have Ar:WT B w.heap.size g w.heap.size (w.heap.size+1) (wr.alloc (.cells #[.slice sa sn sc,.int .i64 R[k].dep] 103)) (l++O) rv Q (.slice (some ⟨b,0,none⟩) R.length rc) R wr.heap.size (sa,sn,sc) R[k].dep R[k].toks:=⟨hS.below Ap,ae.new _ _ _,Ah.below Ap lz⟩;have Af:=wF _ _ R[k].toks R[k].dep Ar.t.toks Ak.l;have AO:sn<=1000000:=by have:=Ak.l;omega
   have AF:=Ak.s;have Ae:(O++if (rV R[k].toks).isSome then gP (R.drop (k+1)) (Q++[R[k]]) else mK Q++(vw R[k]++gP (R.drop (k+1)) [])).length=(gP R []).length:=by rw[Ac]
   have HR:=Jh Ac (And.intro hQ (And.intro hb Ae));have Ag:=Hh Ar;have Ao:=Hh Ak;have Az:=Hh AA;have AJ:Hid (R[k]=⟨R[k].toks,R[k].dep⟩):=Hh rfl;have A1:vw R[k]=cu R[k].toks R[k].ind 0 R[k].toks.length++[10]:=rfl;have Ax:=Hh A1;simp only[eO] at q0 Af;clear hS Ac hQ hb Ar Ak Ah Ap A9 Ae A1 AA;generalize R[k]=r at *;obtain⟨Aa,Ab⟩:=r;simp only at q1 Af Ag Az HR
   cases hq:rV Aa with
   |some i=>
    have AM:=(pK hq).1;rw[hq] at Af HR;simp only[Iq,Option.isSome_some,if_true] at Af HR;have i1:(0:Int)<(i:Int):=by omega
    go_wp2_with fail;refine Af.mono ?_;rintro _ w4 ⟨rfl,hb4⟩;have H4:=Hh (Ag.out.below hb4);have hr:=H4.out.ws.r;have hx:=H4.out.r;have lr:=hr.lt;have lx:=hx.lt;have Ai:=Hh (HR.out.2.2.1.trans (((Ag.out.ws.le.1:_) |> fun _=>(Below.refl B wr).alloc (by have:=Ag.out.ws.le;have:=HR.out.2.2.1.size;omega) (.cells #[.slice sa sn sc,.int .i64 Ab] 103)).trans (hb4.mono (by have:=Ag.out.ws.le;simp at *;omega))));have AH:=hx.cell 0 (.slice sa sn sc) rfl;have AI:=hx.cell 1 _ rfl;obtain⟨Au,Av⟩:=hr.n1 rfl;clear Af hb4 hr hx q0 q1;go_wp2_with (with_reducible first|refine aK ?_)
    refine Stop.out ?_;have h5:=H4.out.below ((Below.refl _ w4).alloc lz (.cells #[.slice sa sn sc,.int .i64 Ab] 103));obtain⟨D,d1,d2,d3⟩:=h5.ws.q;have AD:D.length=Q.length:=by rw[<-d1,List.length_map]
    refine fV rfl _ _ rfl w.heap.size rv D ((sa,sn,sc),⟨Aa,Ab⟩) rfl (by exact d2) w4.heap.size rfl (by exact ae.new w4 #[.slice sa sn sc,.int .i64 Ab] 103) (by omega) (by have:=h5.ws.le;exact this.2.2) ?_;intro nv w6 ho6 hg6;obtain⟨na,nc,rfl⟩:=xu ho6;have h6:=h5.ws.push d1 d2 d3 h5.t hg6 ho6;have At:=h5.ws.r.kept hg6 (fun e=>dC d2 h5.ws.r (by decide) _ e.symm rfl);have Aj:=Hh ((Ai.out.alloc (by have:=Ai.out.size;have:=H4.out.ws.le;omega) (.cells #[.slice sa sn sc,.int .i64 Ab] 103)).grown hg6 (by have:=h5.ws.le;omega) (fun j e=>by have:=(World.ownsRow.lt d2 j e).1;have:=h5.ws.le;omega));have H6:=Hh h6;clear h5 d1 d2 d3 ho6 hg6 h6 Au Av lr lx AH AI AD;have lr:=At.lt;obtain⟨A7,A8⟩:=At.n1 rfl;clear At;go_wp2_with fail;go_roundw
    case rel=>exact⟨k+1,O,_,Q++[⟨Aa,Ab⟩],hkl,by go_num,H6.out,HR.out.1,(fun x hx=>by
     rcases List.mem_append.1 hx with hx|hx
     ·exact HR.out.2.1 x hx
     ·rw[List.mem_singleton.1 hx];exact⟨Ao.out,by rw[hq];rfl⟩),by simp;omega,Aj.out.setCell (by have:=H4.out.ws.le;show B<=w.heap.size+1;omega) _⟩
    case measure=>simp[intOf];omega
   |none=>
    rw[hq] at Af HR;simp only[Iq,Option.isSome_none,Bool.false_eq_true,if_false] at Af HR;have An:=HR.out.2.2.2;simp only[List.length_append] at An;have Aq:=HL.out;have AG:(vw ⟨Aa,Ab⟩).length=(cu Aa (aI.ind ⟨Aa,Ab⟩) 0 Aa.length).length+1:=by rw[Ax.out];simp
    have Aw:∀{w4},Below (wr.alloc (.cells #[.slice sa sn sc,.int .i64 Ab] 103)).heap.size (wr.alloc (.cells #[.slice sa sn sc,.int .i64 Ab] 103)) w4->Below B w w4:=fun hb4=>HR.out.2.2.1.trans (((Below.refl B wr).alloc (by have:=Ag.out.ws.le;have:=HR.out.2.2.1.size;omega) (.cells #[.slice sa sn sc,.int .i64 Ab] 103)).trans (hb4.mono (by have:=Ag.out.ws.le;simp at *;omega)));go_wp2_with fail;refine Af.mono ?_;rintro _ w4 ⟨rfl,hb4⟩;have H4:=Hh (Ag.out.below hb4);have Ai:=Hh (Aw hb4);have Ad:=su H4.out.ws (HT.out.go Ai.out) HR.out.2.1 (by omega) (by simp only[List.length_append];omega);clear Af hb4 Aw q0 q1;go_wp2_with fail;refine Ad.mono ?_;rintro _ w5 ⟨rfl,h5,w2,hp2,rfl⟩;have h6:=H4.out.end hp2 (hp2.cells H4.out.ws.r (H4.out.ws.bw.ne H4.out.ws.r (by decide)) (by decide)) h5;have Aj:=Hh (Ai.out.trans (hp2.b.setCell (p:=⟨w.heap.size+1,0,none⟩) (by have:=H4.out.ws.le;show B<=w.heap.size+1;omega) (.slice none 0 0)));obtain⟨w7,AB⟩:=exq (w2.setCell ⟨w.heap.size+1,0,none⟩ (.slice none 0 0));rw[<-AB] at h6 Aj ⊢;have H6:=Hh h6;have a0:=h6.ws.p.cell 0 _ rfl;have a1:=h6.r.cell 0 (.slice sa sn sc) rfl;have a2:=h6.r.cell 1 _ rfl;have a3:=h6.ws.p.lt;have a4:=h6.r.lt;clear Ad h5 hp2 h6 AB
    have H7:Hid (∀W,Below w7.drew.heap.size w7.drew W->WT B w.heap.size g w.heap.size (w.heap.size+1) W (l++O++mK Q) (.slice none 0 0) [] (.slice (some ⟨b,0,none⟩) R.length rc) R wr.heap.size (sa,sn,sc) Ab Aa/\Below B w W):=Hh fun W hW=>by
     have A3:=((Below.refl w7.heap.size w7).drew).trans hW;exact⟨H6.out.below A3,Aj.out.trans (A3.mono (by have:=H6.out.ws.le;have:=Aj.out.size;omega))⟩
    have A0:∀W,WT B w.heap.size g w.heap.size (w.heap.size+1) W (l++O++mK Q) (.slice none 0 0) [] (.slice (some ⟨b,0,none⟩) R.length rc) R wr.heap.size (sa,sn,sc) Ab Aa/\Below B w W->
      Calls Tryz.prog 67 #[.agg #[.slice sa sn sc,.int .i64 Ab],.int .i64 0,.int .i64 (sn:Nat)] W fun e w'=>e=.returned (.string (ay (cu Aa (aI.ind ⟨Aa,Ab⟩) 0 Aa.length)))/\WT B w.heap.size g w.heap.size (w.heap.size+1) w' (l++O++mK Q) (.slice none 0 0) [] (.slice (some ⟨b,0,none⟩) R.length rc) R wr.heap.size (sa,sn,sc) Ab Aa/\Below B w w':=fun W ⟨h,hb⟩=>by
     rw[Az.out] at h ⊢;have h2:=h.t;refine (ry W _ Aa Ab 0 Aa.length h2.toks Ao.out.d (Nat.zero_le _) lz Ao.out.l (by have:=Ao.out.s;simp only[aI.ind] at this ⊢;omega)).mono ?_;rintro e w' ⟨rfl,hb'⟩;exact⟨rfl,h.below hb',hb.trans (hb'.mono (by have:=h.ws.le;omega))⟩
    have AC:Hid ((ay (cu Aa (aI.ind ⟨Aa,Ab⟩) 0 Aa.length)).data.toList=cu Aa (aI.ind ⟨Aa,Ab⟩) 0 Aa.length):=Hh rfl;generalize ay (cu Aa (aI.ind ⟨Aa,Ab⟩) 0 Aa.length)=pr at *;have Ay:Hid (iI [pr,⟨#[10]⟩]=vw ⟨Aa,Ab⟩):=Hh (by rw[Ax.out,<-AC.out];simp[iI])
    have Al:∀W,WT B w.heap.size g w.heap.size (w.heap.size+1) W (l++O++mK Q) (.slice none 0 0) [] (.slice (some ⟨b,0,none⟩) R.length rc) R wr.heap.size (sa,sn,sc) Ab Aa/\Below B w W->
      Calls Tryz.prog 66 #[.pointer (some ⟨g,0,none⟩),.slice (some ⟨W.heap.size,0,none⟩) 2 2] (W.alloc (.cells #[.string pr,.string ⟨#[10]⟩] 9)) fun e w'=>e=.returned (.tuple #[])/\WT B w.heap.size g w.heap.size (w.heap.size+1) w' (l++O++mK Q++vw ⟨Aa,Ab⟩) (.slice none 0 0) [] (.slice (some ⟨b,0,none⟩) R.length rc) R wr.heap.size (sa,sn,sc) Ab Aa/\Below B w w':=fun W ⟨h,hb⟩=>by
     have hA:Below W.heap.size W (W.alloc (.cells #[.string pr,.string ⟨#[10]⟩] 9)):=(Below.refl _ W).alloc lz _;have h2:=h.below hA;refine (vP [pr,⟨#[10]⟩] h2.ws.bw (ae.new W #[.string pr,.string ⟨#[10]⟩] 9) (by rw[Ay.out];simp only[List.length_append];omega) (by simp)).mono ?_;rintro e w' ⟨rfl,h5,h6⟩;rw[Ay.out] at h5;exact⟨rfl,h2.wr h5 h6,(hb.trans (hA.mono (by have:=h.ws.le;omega))).trans h6.b⟩
    clear An Aq AG AF;go_upto_region 9 with fail
    go_region_held3 (fun w'=>w'.cell? ⟨w.heap.size,0,none⟩=some (.pointer (some ⟨g,0,none⟩))/\w'.cell? ⟨wr.heap.size,0,none⟩=some (.slice sa sn sc)/\w'.cell? ⟨wr.heap.size,1,none⟩=some (.int .i64 Ab)) (first|(with_reducible exact⟨a0,a1,a2⟩)|(with_reducible exact⟨g60,g61,g62⟩)|(with_reducible exact⟨g50,g51,g52⟩)|go_keep) (first
     |(go_at_call 66;(refine (Al _ hx8).mono ?_);rintro _ w9 ⟨rfl,hx9⟩;have g60:=hx9.1.ws.p.cell 0 _ rfl;have g61:=hx9.1.r.cell 0 (.slice sa sn sc) rfl;have g62:=hx9.1.r.cell 1 _ rfl)
     |(go_at_call 67;(with_reducible refine (A0 _ (H7.out _ (Below.refl _ _))).mono ?_);rintro _ w8 ⟨rfl,hx8⟩;have g50:=hx8.1.ws.p.cell 0 _ rfl;have g51:=hx8.1.r.cell 0 (.slice sa sn sc) rfl;have g52:=hx8.1.r.cell 1 _ rfl;have z5:=hx8.1.ws.p.lt;have z6:=hx8.1.r.lt))
    all_goals
     have HN:=Hh hx9;clear hx8 hx9 g50 g51 g52 g60 g61 g62 z5 z6 H7 A0 Al a0 a1 a2 a3 a4;go_wp2_with fail;go_roundw
     case rel=>exact⟨k+1,O++(mK Q++vw ⟨Aa,Ab⟩),_,[],hkl,by go_num,by simpa using HN.out.1.ws,by rw[HR.out.1];simp,(fun x hx=>by cases hx),Nat.zero_le _,HN.out.2⟩
     case measure=>simp[intOf];omega
  ·obtain rfl:k=R.length:=by omega
   rw[List.drop_length,gP] at Ac;have Ae:(gP R []).length=(O++mK Q).length:=by rw[Ac]
   rw[List.length_append] at Ae;have Aq:=HL.out;have Ad:=su hS (HT.out.go hb) hQ (by omega) (by simp only[List.length_append];omega);have HS:=Jh hS (And.intro Ac hb);clear hS Ac hQ hb Ae Aq;go_wp2_with fail;refine Ad.mono ?_;rintro _ w5 ⟨rfl,h5,w2,hp2,rfl⟩
   have HN:Hid (BW B (w2.setCell ⟨w.heap.size+1,0,none⟩ (.slice none 0 0)) g (l++gP R [])/\Below B w (w2.setCell ⟨w.heap.size+1,0,none⟩ (.slice none 0 0))):=Hh ⟨by
    rw[HS.out.2.1,<-List.append_assoc]
    exact h5.bw,HS.out.2.2.trans (hp2.b.setCell (p:=⟨w.heap.size+1,0,none⟩) (by have:=HS.out.1.le;show B<=w.heap.size+1;omega) (.slice none 0 0))⟩
   clear Ad h5 hp2;go_wp2_with fail;refine bodyPost_end (v:=.tuple #[]) (by simp[results,Tryz.results40,go_sem]) rfl ?_;exact⟨rfl,HN.out.1,HN.out.2⟩
def JL:List (List ag)->Nat->Option Nat
 |[],_=>none
 |[]::r,i=>JL r (i+1)
 |(_::_)::_,i=>some i
theorem Dj(L:List (List ag)):∀(m k:Nat),L.length<=k+m->match JL (L.drop k) k with
  |some j=>∃h:j<L.length,k<=j/\L[j]≠[]/\dF (L.drop k)=L[j]::L.drop (j+1)
  |none=>dF (L.drop k)=[]
 |0,k,h=>by rw[List.drop_eq_nil_of_le (by omega)];rfl
 | m+1,k,h=>by
  by_cases hk:k<L.length
  ·rw[List.drop_eq_getElem_cons hk]
   cases hr:L[k] with
   |nil=>
    have ih:=Dj L m (k+1) (by omega);simp only[JL,dF];split at ih
    ·obtain⟨h1,h2,h3⟩:=ih
     exact⟨h1,by omega,h3⟩
    ·exact ih
   |cons t q=>
    simp only[JL,dF];refine⟨hk,Nat.le_refl _,by rw[hr];simp,by rw[hr]⟩
  ·rw[List.drop_eq_nil_of_le (by omega)];rfl
def tX(L:List (List ag))(i:Nat):Nat:=
 if jS (L[i]?.getD []) then (match JL (L.drop (i+1)) (i+1) with
  |some j=>if oG (L[j]?.getD []) then j else 0
  |none=>0) else 0
theorem M4{L:List (List ag)}{i:Nat}(h:i<L.length) :
  (tX L i=0/\ql L[i] (L.drop (i+1))=(L[i],L.drop (i+1)))\/∃j,∃h2:j<L.length,tX L i=j/\i<j/\L[j]≠[]/\ql L[i] (L.drop (i+1))=(L[i]++L[j],L.drop (j+1)):=by
 unfold tX ql;rw[List.getElem?_eq_getElem h,Option.getD_some]
 by_cases hl:jS L[i]=true
 ·rw[if_pos hl,if_pos hl]
  have hn:=Dj L L.length (i+1) (by omega);split at hn
  ·next j hj=>
   obtain⟨h1,h2,h3,h4⟩:=hn;simp only[hj,List.getElem?_eq_getElem h1,Option.getD_some,h4]
   by_cases hh:oG L[j]=true
   ·exact .inr ⟨j,h1,by rw[if_pos hh],by omega,h3,by rw[if_pos hh]⟩
   ·exact .inl ⟨by rw[if_neg hh],by rw[if_neg hh]⟩
  ·next hj=>
   simp only[hj,hn];exact .inl ⟨by trivial,by trivial⟩
 ·rw[if_neg hl,if_neg hl]
  exact .inl ⟨rfl,rfl⟩
theorem Ja{r:List ag}{m:Nat}(h:r.length=m+1):jS r=gH (r[m]'(by omega)) ut:=by
 unfold jS;have e:r.length-1=m:=by omega
 rw[List.getLast?_eq_getElem?];simp only[e];rw[List.getElem?_eq_getElem (by omega)]
theorem Jf{r:List ag}(h:0<r.length):oG r=gH r[0] nW:=by
 cases r with
 |nil=>simp at h
 |cons t r=>rfl
theorem N9{L:List (List ag)}{k:Nat}(h:k<L.length)(h0:L[k].length=0):JL (L.drop k) k=JL (L.drop (k+1)) (k+1):=by
 rw[List.drop_eq_getElem_cons h,List.eq_nil_of_length_eq_zero h0,JL]
theorem MO{L:List (List ag)}{k:Nat}(h:k<L.length)(h0:L[k].length≠0):JL (L.drop k) k=some k:=by
 rw[List.drop_eq_getElem_cons h]
 cases hr:L[k] with
 |nil=>rw[hr] at h0;exact absurd rfl h0
 |cons t q=>rfl
theorem LH{B:Nat}(w:World)(v:Value)(L:List (List ag))(h:vF B w v L)(i:Nat)(hi:i<L.length)(hne:L[i]≠[])(hn:L.length<=1000000)(hl:∀r∈L,r.length<=1000000) :
  Calls Tryz.prog 68 #[v,.int .i64 (i:Nat)] w fun e w'=>e=.returned (.int .i64 (tX L i:Nat))/\Below w.heap.size w w':=by
 obtain⟨va,vc,rfl,Ay,Ao,-⟩:=h.len;unfold maxLen at Ao;obtain⟨b,A1,s,rfl,Ax,Ab,q0⟩:=h.get hi;obtain⟨sa,sn,sc⟩:=s;obtain⟨m,hm⟩:∃m,L[i].length=m+1:=⟨L[i].length-1,by have:=List.length_pos_iff.2 hne;omega⟩;have Ap:=hl L[i] (List.getElem_mem hi)
 have Ak:sn=L[i].length:=by
  obtain⟨a',c',e'⟩:=Ab.len;simp only[eO,Value.slice.injEq] at e';exact e'.2.1
 rw[hm] at Ak;subst Ak;obtain⟨tb,Av,rfl,Aq,r0,r1,r2⟩:=Ab.toks.get (j:=m) (by omega);have Ai:=Ja hm
 have Af:tX L i=if jS L[i] then (match JL (L.drop (i+1)) (i+1) with
  |some j=>if oG (L[j]?.getD []) then j else 0
  |none=>0) else 0:=by unfold tX;rw[List.getElem?_eq_getElem hi,Option.getD_some]
 rw[Ai] at Af;have Ad:=Hh Af;have hS:=mY L[i][m] ut w;have HT:=Hh h;have Am:=Hh hl;have kq:IntKind.i64.wrap ((m:Int)+1-1)=(m:Int):=by rw[IntWalk.i64_in _ (by omega)];omega
 have A0:wrap64 (m:Int)=(m:Int):=IntWalk.wrap64_in _ (by omega);simp only[eO] at q0;clear Ai Af h Ab hl hne;generalize L[i][m]=t at *;obtain⟨kd,tx,ps⟩:=t;simp only[jb] at hS r0 r1 r2 Ad;generalize gH ⟨kd,tx,ps⟩ ut=lb at *;clear hm Ap
 cases lb with
 |false=>
  go_enter Tryz.func68,Tryz.ntmps68;go_wp2_with fail;refine hS.mono ?_;rintro _ _ ⟨rfl,rfl⟩;clear hS;go_wp2_with fail;go_ret;rw[Ad.out];exact⟨rfl,(Below.refl _ w).alloc lz _⟩
 |true=>
  go_enter Tryz.func68,Tryz.ntmps68;go_wp2_with fail;refine hS.mono ?_;rintro _ _ ⟨rfl,rfl⟩;clear hS;have Ag:=Hh (gZ w ⟨kd,tx,ps⟩);go_wp2_with fail;go_loopw [6] (fun x wr=>∃k:Nat,i+1<=k/\k<=L.length/\x=.int .i64 (k:Int)/\Hid (JL (L.drop k) k=JL (L.drop (i+1)) (i+1))/\Below w.heap.size w wr) (fun x _=>L.length-(intOf x).toNat)
  case atStart=>exact⟨i+1,Nat.le_refl _,hi,by go_num,Hh rfl,Ag.out⟩
  case round=>
   clear Ag q0 r0 r1 r2 Aq;obtain⟨k,Az,hk,rfl,HA,hb⟩:=hrel;have HB:=Hh hb
   by_cases hkl:k<L.length
   ·obtain⟨b2,At,s2,e2,An,Aa,p0⟩:=(HT.out.below hb).get hkl
    cases e2
    obtain⟨ta,tn,tc⟩:=s2
    have Ac:tn=L[k].length:=by
     obtain⟨a',c',e'⟩:=Aa.len;simp only[eO,Value.slice.injEq] at e';exact e'.2.1
    simp only[eO] at p0;have Aj:=Am.out L[k] (List.getElem_mem hkl)
    by_cases h0:tn=0
    ·subst h0
     have HG:=Hh (N9 hkl Ac.symm);clear hb Aa Ac Aj;go_wp2_with fail;go_roundw
     case rel=>exact⟨k+1,by omega,hkl,by go_num,Hh (by rw[<-HA.out,HG.out]),HB.out⟩
     case measure=>simp[intOf]<;>omega
    ·obtain⟨n,rfl⟩:∃n,tn=n+1:=⟨tn-1,by omega⟩
     have e0:(((n+1:Nat):Int)==0)=false:=by simp;omega
     have HG:=Hh (MO hkl (by omega));obtain⟨A2,Al,rfl,Ar,r0,r1,r2⟩:=Aa.toks.get (j:=0) (by omega);have Ah:=Jf (r:=L[k]) (by omega)
     have Ae:Hid (tX L i=if gH (L[k][0]'(by omega)) nW then k else 0):=Hh (by
      rw[Ad.out,if_pos (by trivial),<-HA.out,HG.out]
      simp only[List.getElem?_eq_getElem hkl,Option.getD_some,Ah])
     have hS:=mY (L[k][0]'(by omega)) nW wr;generalize (L[k][0]'(by omega))=t2 at *;obtain⟨As,Aw,Au⟩:=t2;simp only[jb,Nat.zero_mul,Nat.add_zero] at hS r0 r1 r2;generalize gH ⟨As,Aw,Au⟩ nW=rb at *;clear hb Aa Ac Aj Ah h0;go_wp2_with fail;refine hS.mono ?_;rintro _ _ ⟨rfl,rfl⟩;clear hS;cases rb
     all_goals
      go_wp2_with fail;go_ret;rw[Ae.out];exact⟨rfl,HB.out.alloc HB.out.size _⟩
   ·obtain rfl:k=L.length:=by omega
    have HE:Hid (tX L i=0):=Hh (by rw[Ad.out,if_pos (by trivial),<-HA.out,List.drop_length];rfl);clear hb;go_wp2_with fail;go_ret;rw[HE.out];exact⟨rfl,HB.out⟩
def Md(Q:List aI):Option Bool:=Q.getLast?.map (fun r=>mq r.toks)
def vZ(L:List (List ag))(i:Nat)(gap:Bool)(d:Int)(Q:List aI):Prop:=∃f,(L.drop i).length<=f/\dx L=Q++jM (eU f gap (L.drop i)) d (Md Q)
theorem vZ.start(L:List (List ag)):vZ L 0 false 0 []:=⟨L.length,by simp,rfl⟩
theorem vZ.empty{L:List (List ag)}{i:Nat}{gap:Bool}{d:Int}{Q:List aI}(h:vZ L i gap d Q)(hi:i<L.length)(h0:L[i]=[]):vZ L (i+1) true d Q:=by
 obtain⟨f,h1,h2⟩:=h;rw[List.length_drop] at h1;obtain⟨g,rfl⟩:∃g,f=g+1:=⟨f-1,by omega⟩;refine⟨g,by rw[List.length_drop];omega,?_⟩;rw[h2,List.drop_eq_getElem_cons hi,h0,eU]
def oH(gap:Bool)(pv:Option Bool)(T:List ag):List aI:=if gap&&(pv.isSome&&(!oN T&&pv != some true)) then [⟨[],0⟩] else []
theorem vZ.row{L:List (List ag)}{i i2:Nat}{gap:Bool}{d:Int}{Q:List aI}(h:vZ L i gap d Q)(hi:i<L.length)(h0:L[i]≠[]){T:List ag}(hj:ql L[i] (L.drop (i+1))=(T,L.drop i2))(hi2:i<i2) :
  vZ L i2 false (eZ d T) (Q++oH gap (Md Q) T++[⟨T,gD d T⟩]):=by
 obtain⟨f,h1,h2⟩:=h;rw[List.length_drop] at h1;obtain⟨g,rfl⟩:∃g,f=g+1:=⟨f-1,by omega⟩;refine⟨g,by rw[List.length_drop];omega,?_⟩;rw[h2,List.drop_eq_getElem_cons hi]
 cases hr:L[i] with
 |nil=>exact absurd hr h0
 |cons t q=>
  rw[hr] at hj;rw[eU,hj,jM];have e:Md (Q++oH gap (Md Q) T++[⟨T,gD d T⟩])=some (mq T):=by unfold Md;rw[List.getLast?_concat];rfl
  rw[e];unfold oH;simp only[List.append_assoc];rfl
theorem vZ.end{L:List (List ag)}{gap:Bool}{d:Int}{Q:List aI}(h:vZ L L.length gap d Q):dx L=Q:=by
 obtain⟨f,h1,h2⟩:=h;rw[h2,List.drop_length];cases f<;>simp[eU,jM]
theorem iD.shape{B1 B:Nat}{w:World}{v:Value}{R:List aI}(h:iD B1 B w v R):∃a c,v=.slice a R.length c:=by
 obtain⟨D,rfl,h2,-⟩:=h;obtain⟨a,c,e⟩:=xu h2;exact⟨a,c,by rw[e,List.length_map]⟩
theorem zq{w:World}{b off c:Nat}{l:List ag}(h:aH w (.slice (some ⟨b,off,none⟩) l.length c) l):∀j u,(l.flatMap jL)[j]?=some u->w.cell? ((⟨b,off,none⟩:Addr).add j)=some u:=by
 intro j u hu
 have Aa:(l.flatMap jL).length=l.length*3:=by
  clear h hu
  induction l with
  |nil=>rfl
  |cons t l ih=>rw[List.flatMap_cons,List.length_append,ih];simp[jL];omega
 have hj:j<l.length*3:=by rw[<-Aa];exact (List.getElem?_eq_some_iff.1 hu).1
 obtain⟨q,r,hr,rfl⟩:∃q r,r<3/\j=q*3+r:=⟨j / 3,j % 3,Nat.mod_lt _ (by omega),by omega⟩;have hq:q<l.length:=by omega
 obtain⟨f1,f2,f3⟩:=xW l q hq;obtain⟨b',o',e',-,g1,g2,g3⟩:=h.get hq;cases e'
 rw[Addr.add_lit,<-Nat.add_assoc]
 match r,hr with
 |0,_=>rw[Nat.add_zero] at hu ⊢;rw[f1] at hu;cases hu;exact g1
 |1,_=>rw[f2] at hu;cases hu;exact g2
 |2,_=>rw[f3] at hu;cases hu;exact g3
theorem Cc(l:List ag):∀u∈l.flatMap jL,u.oneCell'=true:=by
 intro u hu;obtain⟨t,-,ht⟩:=List.mem_flatMap.1 hu;exact wB t u ht
theorem Ce(l:List ag):(l.flatMap jL).length=l.length*3:=by
 induction l with
 |nil=>rfl
 |cons t l ih=>rw[List.flatMap_cons,List.length_append,ih];simp[jL];omega
theorem C8{base:Nat}{w:World}{a:Option Addr}{n c:Nat}{l:List ag}(h:aO base w (.slice a n c) l)(hl:l≠[]):n=l.length/\∃g,a=some ⟨g,0,none⟩/\g<w.heap.size:=by
 obtain⟨h1,h2⟩:=h;rcases h2 with ⟨-,h3⟩|⟨g,cap',cur,he,hb,hg,h3,h4,h5,h6⟩
 ·exact absurd (List.eq_nil_of_length_eq_zero h3) hl
 ·cases he
  exact⟨rfl,g,rfl,(Array.getElem?_eq_some_iff.1 hg).1⟩
theorem iD.moved{B1 B:Nat}{w w':World}{v:Value}{R:List aI}(h:iD B1 B w v R)(h1:∀k,v.ownBlock=some k->w'.heap[k]?=w.heap[k]?)(h2:∀{u:Value} {l:List ag},aO B w u l->aO B w' u l):iD B1 B w' v R:=by
 obtain⟨D,q1,q2,q3⟩:=h;exact⟨D,q1,bZ q2 h1,fun d hd=>h2 (q3 d hd)⟩
theorem iD.lt{B1 B:Nat}{w:World}{v:Value}{R:List aI}(h:iD B1 B w v R):∀k,v.ownBlock=some k->B1<=k/\k<w.heap.size:=by
 obtain⟨D,-,q2,-⟩:=h;exact fun k e=>World.ownsRow.lt q2 k e
theorem kL{B x:Nat}{w w1 w2:World}{cs:Array Value}{t:TypeId}{u v:Value}{T:List ag}{Q:List aI}(h:ae w1 x cs t/\aO B w1 u T/\iD w.heap.size B w1 v Q/\Below w.heap.size w w1)(hb:Below w1.heap.size w1 w2) :
  ae w2 x cs t/\aO B w2 u T/\iD w.heap.size B w2 v Q/\Below w.heap.size w w2:=
 ⟨h.1.below hb h.1.lt,h.2.1.below hb lz,h.2.2.1.moved (fun k e=>hb.block k (h.2.2.1.lt k e).2) (fun h=>h.below hb lz),aQ h.2.2.2 hb⟩
theorem iD.push{B1 B:Nat}{w w':World}{v nv:Value}{Q:List aI}{D:List (j5×aI)}{d:j5×aI}(hD:D.map (·.2)=Q)(h0:w.ownsRow B1 103 2 v D.length (D.flatMap l8))(hDt:∀d∈D,aO B w (eO d.1) d.2.toks)(hd:aO B w (eO d.1) d.2.toks)
  (hg:w.grownBy w' v.ownBlock) (hown:w'.ownsRow B1 103 2 nv (D.length+1) (D.flatMap l8++l8 d)):iD B1 B w' nv (Q++[d.2]):=by
 have hT:∀{u:Value} {l:List ag},aO B w u l->aO B w' u l:=fun hu=>bZ hu fun k e=>hg.block k (World.ownsRow.lt hu k e).2 (fun q=>nY hu h0 (by decide) k e q.symm);refine⟨D++[d],by rw[List.map_append,hD];rfl,?_,?_⟩
 ·rw[List.flatMap_append,List.length_append]
  simpa using hown
 ·intro x hx
  rcases List.mem_append.1 hx with hx|hx
  ·exact hT (hDt x hx)
  ·rw[List.mem_singleton.1 hx];exact hT hd
theorem IQ{B:Nat}(w:World)(v:Value)(L:List (List ag))(h:vF B w v L)(hB:B<=w.heap.size)(hn:L.length<=1000000)(hl:∀r∈L,r.length<=400000) :
  Calls Tryz.prog 41 #[v] w fun e w'=>∃v',e=.returned v'/\iD w.heap.size B w' v' (dx L)/\Below w.heap.size w w':=by
 obtain⟨va,vc,rfl,Bs,Bi,-⟩:=h.len;unfold maxLen at Bi;have HT:=Hh h;have HL:=Hh hl;clear h hl;go_enter Tryz.func41,Tryz.ntmps41;go_wp2_with fail;go_loopw [3,4,5,6] (fun ov gv dv iv wr=>∃(k:Nat) (gap:Bool) (d:Int) (Q:List aI),k<=L.length/\iv=.int .i64 (k:Int)/\gv=.bool gap/\dv=.int .i64 d/\(-(k:Int)<=d/\d<=k)/\iD w.heap.size B wr ov Q/\(Q.length<=k/\(gap=true->Q.length+1<=k))/\Hid (vZ L k gap d Q/\∀r∈Q,r.toks.length<=900000)/\Below w.heap.size w wr) (fun _ _ _ iv _=>L.length-(intOf iv).toNat)
 case atStart=>exact⟨0,false,0,[],Nat.zero_le _,rfl,rfl,rfl,by omega,iD.nil _ _ _,⟨Nat.le_refl _,fun h=>by cases h⟩,Hh ⟨vZ.start L,fun r h=>by cases h⟩,Below.refl _ _⟩
 case round=>
  obtain⟨k,gap,d,Q,hk,rfl,rfl,rfl,hd,hQ,Ap,HM,hb⟩:=hrel
  by_cases hkl:k<L.length
  ·obtain⟨b,Bd,s,rfl,Bg,Av,q0⟩:=(HT.out.below hb).get hkl
   obtain⟨sa,sn,sc⟩:=s
   have A9:sn=L[k].length:=by
    obtain⟨a',c',e'⟩:=Av.len;simp only[eO,Value.slice.injEq] at e';exact e'.2.1
   have AL:=HL.out L[k] (List.getElem_mem hkl);have A3:=Hh A9;have AA:=hb.size;simp only[eO] at q0;obtain⟨oa,oc,rfl⟩:=hQ.shape;have HS:=Jh hQ (And.intro hb Av);have AS:Below wr.heap.size wr (wr.alloc (.cells #[.slice sa sn sc,.int .i64 0] 103)):=(Below.refl _ wr).alloc lz _;have HA:=Hh AS;clear hQ hb Av A9 AS
   by_cases h0:sn=0
   ·subst h0
    have HE:Hid (vZ L (k+1) true d Q/\∀r∈Q,r.toks.length<=900000):=Hh ⟨HM.out.1.empty hkl (List.eq_nil_of_length_eq_zero A3.out.symm),HM.out.2⟩;go_wp2_with fail;go_roundw
    case rel=>exact⟨k+1,true,d,Q,hkl,by go_num,rfl,rfl,by omega,(by obtain⟨D,h1,h2,h3⟩:=HS.out.1;exact⟨D,h1,World.ownsRow.alloc h2 _,fun x hx=>(h3 x hx).alloc _⟩),⟨by omega,fun _=>by omega⟩,HE,HS.out.2.1.alloc AA _⟩
    case measure=>simp[intOf];omega
   ·have e0:((sn:Int)==0)=false:=by simpa using h0
    have AM:L[k]≠[]:=fun e=>h0 (by rw[A3.out,e];rfl);have AG:=LH _ _ L ((HT.out.below HS.out.2.1).below HA.out) k hkl AM hn (fun r hr=>by have:=HL.out r hr;omega);have AV:=M4 hkl;obtain⟨nx,AW⟩:=exq (tX L k);rw[<-AW] at AG AV;clear AW;go_wp2_with fail;refine AG.mono ?_;rintro _ w4 ⟨rfl,hb4⟩;have Ay:=Hh AM;clear AG AM;have AZ:w.heap.size<=w4.heap.size:=by have:=hb4.size;simp at this;omega
    have Ai:Hid (ae w4 wr.heap.size #[.slice sa sn sc,.int .i64 0] 103/\aO B w4 (eO (sa,sn,sc)) L[k]/\iD w.heap.size B w4 (.slice oa Q.length oc) Q/\Below w.heap.size w w4/\vF B w4 (.slice (some ⟨b,Bd,none⟩) L.length vc) L):=Hh (by
     have Ar:Below wr.heap.size wr w4:=HA.out.trans (hb4.mono (by simp));refine⟨(ae.new wr #[.slice sa sn sc,.int .i64 0] 103).below hb4 (by simp),HS.out.2.2.below Ar lz,?_,aQ HS.out.2.1 Ar,(HT.out.below HS.out.2.1).below Ar⟩;obtain⟨D,h1,h2,h3⟩:=HS.out.1
     exact⟨D,h1,bZ h2 (fun x e=>Ar.block x (World.ownsRow.lt h2 x e).2),fun x hx=>(h3 x hx).below Ar lz⟩)
    have Ax:Hid (∀k,(Value.slice oa Q.length oc).ownBlock=some k->k≠wr.heap.size):=Hh (fun k e=>by have:=(HS.out.1.lt k e).2;omega);have AF:Hid (w4.cell? ⟨b,Bd+k,none⟩=some (.slice sa sn sc)):=Hh ((((HA.out.trans (hb4.mono (by simp)))).cell Bg).trans q0);clear hb4 HS HA q0 e0 h0;rcases AV with ⟨hn0,hj⟩|⟨j,hjl,hnj,hkj,hjne,hj⟩
    focus (
     have e1:decide ((k:Int)<(nx:Int))=false:=by rw[decide_eq_false_iff_not];omega
     go_upto_region 13 with fail
     obtain⟨i1,An⟩:∃x:Nat,k=x:=⟨k,rfl⟩;have Bj:k<=i1/\i1<L.length:=by omega
     have Ae:Hid (vZ L (i1+1) false (eZ d L[k]) (Q++oH gap (Md Q) L[k]++[⟨L[k],gD d L[k]⟩])/\L[k].length<=900000/\∀r∈Q,r.toks.length<=900000):=Hh ⟨by rw[<-An];exact HM.out.1.row hkl Ay.out hj (by omega),by omega,HM.out.2⟩;rw[An];have A0:Hid (ae w4 wr.heap.size #[.slice sa sn sc,.int .i64 0] 103/\aO B w4 (eO (sa,sn,sc)) L[k]/\iD w.heap.size B w4 (.slice oa Q.length oc) Q/\Below w.heap.size w w4):=Hh ⟨Ai.out.1,Ai.out.2.1,Ai.out.2.2.1,Ai.out.2.2.2.1⟩;clear Ai An hn0 hj e1 HM Ay AF;have A9:=A3.out;clear A3 AL;subst A9;generalize L[k]=T at *;generalize w4=wc at *
     )
    rotate_left
    focus (
     have e1:decide ((k:Int)<(nx:Int))=true:=by rw[decide_eq_true_iff];omega
     obtain⟨i0,An,Ba,Bb,Bc⟩:=info_parts Tryz.infoTok;obtain⟨b2,Bo,s2,e2,Bh,Al,q2⟩:=Ai.out.2.2.2.2.get hjl;cases e2
     obtain⟨ta,tn,tc⟩:=s2;simp only[eO] at q2;obtain⟨rfl,g2,rfl,Bu⟩:=C8 Al hjne;have Ak:=Ai.out.2.1;obtain⟨rfl,g1,rfl,Bt⟩:=C8 Ak Ay.out;have hc:=Ai.out.1;have q1:=AF.out;have lc:=hc.lt;have AU:=HL.out L[j] (List.getElem_mem hjl);have Bw:(0:Int)<=(k:Int):=by omega
     have Bx:(k:Int)<(L.length:Int):=by omega
     have Bv:(0:Int)<=(j:Int):=by omega
     have Bk:(j:Int)<(L.length:Int):=by omega
     have AN:=Hh Ak;have AC:=Hh Al;have HC:=Hh hc;have AX:0<L[k].length:=List.length_pos_iff.2 Ay.out;have AY:0<L[j].length:=List.length_pos_iff.2 hjne;have HP:=Jh AX AY;have Aw:=Jh AL AU;clear Ak Al hc AX AY AL AU;go_upto_region 11 with fail
     go_cut [] (fun wc=>∃g5 c5,ae wc wr.heap.size #[.slice (some ⟨g5,0,none⟩) (L[k]++L[j]).length c5,.int .i64 0] 103/\aO B wc (eO (some ⟨g5,0,none⟩,(L[k]++L[j]).length,c5)) (L[k]++L[j])/\iD w.heap.size B wc (.slice oa Q.length oc) Q/\Below w.heap.size w wc)
     case first=>
      generalize L[k]=T1 at *;generalize L[j]=T2 at *
      go_region_law (first
       |(refine step_append_lies _ rfl _ _ 22 rfl B 63 i0 _ 3 32 Tryz.underlying22 An Ba Bb Bc rfl (by decide) (.slice none 0 0) 0 [] (by rfl) (World.ownsRow_nil _ _ _ _) ⟨g1,0,none⟩ T1.length sc (T1.flatMap jL) (by rfl) (Ce _) (by exact zq (show aO B w4.drew _ _ from AN.out).toks) (Cc _) (by exact HP.out.1) (by have:=Aw.out.1;unfold maxLen;omega) (by have:=Aw.out.1;omega) (by show B<=w4.heap.size;omega) _ rfl ?_;intro g3 cap3 w5 hown3 hgrow3 hat3 hlt3;have G1:w4.grownBy w5 none:=⟨hgrow3.os,hgrow3.tape,hgrow3.output,hgrow3.size,hgrow3.block⟩;have AQ:aO B w5 (.slice (some ⟨g2,0,none⟩) T2.length tc) T2:=AC.out.moved (fun k e=>G1.block k (World.ownsRow.lt AC.out k e).2 (by simp));have p1:=G1.cell q1 (by simp);have p2:=G1.cell q2 (by simp);have x5:=HC.out.kept G1 (by simp);have AR:Hid (g3=w4.heap.size):=Hh (hat3.elim (fun h=>by cases h) (fun h=>h));have hown3:w5.ownsRow B 63 3 (.slice (some ⟨g3,0,none⟩) T1.length cap3) T1.length (T1.flatMap jL):=(by rw[Nat.zero_add,List.nil_append] at hown3;exact hown3);have A1:=Jh hown3 (And.intro G1 (And.intro hlt3 (And.intro AQ x5)));clear hown3 hgrow3 hat3 hlt3 AQ x5 G1)
       |(refine step_append_lies _ rfl _ _ 22 rfl B 63 i0 _ 3 32 Tryz.underlying22 An Ba Bb Bc rfl (by decide) (.slice (some ⟨g3,0,none⟩) T1.length cap3) T1.length (T1.flatMap jL) (by rfl) (by exact A1.out.1) ⟨g2,0,none⟩ T2.length tc (T2.flatMap jL) (by rfl) (Ce _) (by exact zq A1.out.2.2.2.1.toks) (Cc _) (by exact HP.out.2) (by have:=Aw.out;unfold maxLen;omega) (by have:=Aw.out;omega) (by have:=A1.out.2.1.size;omega) _ rfl ?_;intro g5 cap5 w6 hown5 hgrow5 hat5 hlt5;have G2:w5.grownBy w6 (some g3):=hgrow5;have x6:=A1.out.2.2.2.2.kept G2 (by rw[AR.out];intro e;have:=Option.some.inj e;omega);obtain⟨b0,Bp,b1,Bq⟩:=x6.n2 rfl;have By:=x6.lt;have AB:=Jh hown5 (And.intro G2 x6);clear hown5 hgrow5 hat5 hlt5 G2 x6))
      all_goals go_wp2_with fail
      all_goals go_meet
      all_goals
       have G1:=A1.out.2.1;have G2:=AB.out.2.1;have x6:=AB.out.2.2;have s5:=G1.size;have e3:=AR.out;refine⟨g5,cap5,?_,?_,?_,?_⟩
       ·have h:=x6.set 0 (by simp) (Value.slice (some ⟨g5,0,none⟩) (T1.length+T2.length) cap5)
        rw[List.length_append];exact h
       ·have h:=AB.out.1
        unfold aO;rw[List.flatMap_append,List.length_append];exact dA h x6 (by decide) 0 _
       ·refine Ai.out.2.2.1.moved (fun q e=>?_) (fun {u l} h=>?_)
        ·have hq:=Ax.out q e
         have Ap:=(Ai.out.2.2.1.lt q e).2;exact ((Below.heap_setCell _ _ _ _ (by show q≠wr.heap.size;omega)).trans (G2.block q (by omega) (fun e=>by have:=Option.some.inj e;omega))).trans (G1.block q (by omega) (by simp))
        ·exact dA (bZ h (fun q e=>by
          have hq:=(World.ownsRow.lt h q e).2
          exact (G2.block q (by omega) (fun e=>by have:=Option.some.inj e;omega)).trans (G1.block q (by omega) (by simp)))) x6 (by decide) 0 _
       ·exact ((Ai.out.2.2.2.1.grown G1 AZ (by simp)).grown G2 (by omega) (fun q e=>by have:=Option.some.inj e;omega)).setCell AA _
     obtain⟨g5,c5,y1,y2,y3,y4⟩:=hcut;go_upto_region 13 with fail
     have A0:=Jh y1 (And.intro y2 (And.intro y3 y4));obtain⟨i1,An⟩:∃x:Nat,j=x:=⟨j,rfl⟩;have Bj:k<=i1/\i1<L.length:=by omega
     have Ae:Hid (vZ L (i1+1) false (eZ d (L[k]++L[j])) (Q++oH gap (Md Q) (L[k]++L[j])++[⟨L[k]++L[j],gD d (L[k]++L[j])⟩])/\(L[k]++L[j]).length<=900000/\∀r∈Q,r.toks.length<=900000):=Hh ⟨by rw[<-An];exact HM.out.1.row hkl Ay.out hj (by omega),by rw[List.length_append];have:=Aw.out;omega,HM.out.2⟩;clear y1 y2 y3 y4;generalize L[k]++L[j]=T at *;generalize (some ⟨g5,0,none⟩:Option Addr)=sa at A0;generalize c5=sc at *;rw[An]
     clear An hj Ai HM Ay AF A3 AN AC HC HP Aw AZ q1 q2)
    all_goals
     have hc:=A0.out.1;have lc:=hc.lt;have A5:=Ck wc (.slice sa T.length sc) T 0 0 A0.out.2.1.toks (by have:=Ae.out.2.1;omega) (by omega);have A6:=fun W=>mY (JZ T (oQ T 0 0)) nW W;obtain⟨cb,AI⟩:∃x,oN T=x:=⟨_,rfl⟩;have AJ:=Hh ((Nj T).trans AI);have Aq:=Hh AI;clear AI;generalize JZ T (oQ T 0 0)=t at A5 A6 AJ;obtain⟨kd,tx,ps⟩:=t;simp only[jb,Cs] at A5 A6;obtain⟨Aa,Ac,Ab,Ad⟩:=hc.n2 rfl;clear hc;go_wp2_with fail;refine A5.mono ?_;rintro _ w5 ⟨rfl,Ar⟩;have AO:=Hh (kL A0.out Ar);clear A5 Ar A0 Aa Ab Ac Ad;go_wp2_with fail;refine (A6 _).mono ?_;rintro _ _ ⟨rfl,rfl⟩;rw[AJ.out];have Ag:=Hh (kL AO.out (gZ w5 ⟨kd,tx,ps⟩));clear A6 AO AJ;generalize w5.alloc (l5 ⟨kd,tx,ps⟩)=wz at Ag ⊢;have Bf:Q.length<=k:=Ap.1;have B0:IntKind.i64.wrap (d-1)=d-1:=IntWalk.i64_in _ (by omega);have B1:IntKind.i64.wrap (d+1)=d+1:=IntWalk.i64_in _ (by omega);have B2:IntKind.i64.wrap (d-1+1)=d-1+1:=IntWalk.i64_in _ (by omega);cases cb
     focus (
      cases gap
      focus (
       go_upto_region 16 with fail
       have Am:Hid (vZ L (i1+1) false (eZ d T) (Q++[⟨T,gD d T⟩])/\T.length<=900000/\∀r∈Q,r.toks.length<=900000):=Hh ⟨by have h:=Ae.out.1;have As:=Aq.out;simpa [oH] using h,Ae.out.2⟩
       clear Ae Ap)
      rotate_left
      by_cases h0:Q.length=0
      case' pos=>
       obtain⟨qn,Af⟩:∃x:Nat,x=Q.length:=⟨_,rfl⟩;have e0:decide ((0:Int)<(qn:Int))=false:=by simp;omega
       have e1:decide (0<qn)=false:=by simp;omega
       have e2:(0<qn)=False:=by simp;omega
       have AT:Hid (Q=[]):=Hh (List.eq_nil_of_length_eq_zero h0);rw[<-Af];have HQ:=Hh Af;clear h0 Af;go_upto_region 16 with fail
       have Af:=HQ.out;clear HQ e0 e1 e2;subst Af;have Am:Hid (vZ L (i1+1) false (eZ d T) (Q++[⟨T,gD d T⟩])/\T.length<=900000/\∀r∈Q,r.toks.length<=900000):=Hh ⟨by have h:=Ae.out.1;have As:=Aq.out;have hq:=AT.out;simpa [oH,Md,hq] using h,Ae.out.2⟩;clear Ae Ap AT
      case' neg=>
       obtain⟨m,hm⟩:∃m,Q.length=m+1:=⟨Q.length-1,by omega⟩;have A7:m<Q.length:=by omega
       obtain⟨b3,s3,e3,Br,AH,c0,c1⟩:=(Ag.out.2.2.1.tr hB).get A7;obtain⟨a3,n3,p3⟩:=s3;simp only[eO] at c0 AH;cases e3
       have A8:Q.length+1<=k:=Ap.2 rfl;have Ah:=oZ wz (.slice a3 n3 p3) Q[m].toks Q[m].dep AH.toks (by have:=Ae.out.2.2 Q[m] (List.getElem_mem A7);omega)
       have A2:Hid (Md Q=some (mq Q[m].toks)):=Hh (by
        unfold Md;have e:Q.length-1=m:=by omega
        rw[List.getLast?_eq_getElem?,e,List.getElem?_eq_getElem A7];rfl)
       simp only[Cs] at Ah;generalize mq Q[m].toks=ob at Ah A2;generalize Q[m].dep=dp3 at Ah c1;obtain⟨qn,Af⟩:∃x:Nat,x=Q.length:=⟨_,rfl⟩;have e0:decide ((0:Int)<(qn:Int))=true:=by simp;omega
       have e1:decide (0<qn)=true:=by simp;omega
       have e2:(0<qn)=True:=by simp;omega
       have kq:IntKind.i64.wrap ((qn:Int)-1)=(m:Int):=by rw[IntWalk.i64_in _ (by omega)];omega
       have Bl:(0:Int)<=(m:Int):=by omega
       have Bm:(m:Int)<(qn:Int):=by omega
       have Bn:m<qn:=by omega
       rw[<-Af];have HQ:=Hh Af;have AE:=Hh A8;have Be:Hid (1<=Q.length):=Hh (by omega);clear h0 Af AH hm A7 A8 Ap;go_wp2_with fail;refine Ah.mono ?_;rintro _ w7 ⟨rfl,hb7⟩;have AP:=Hh (kL Ag.out hb7);clear Ah hb7 Ag c0 c1 e0 e1 e2 kq Bl Bm Bn;have Ag:=AP;clear AP;generalize w7=wz at *;cases ob
       focus (
        go_wp2_with (with_reducible first|refine aK ?_)
        refine Stop.out ?_;have Af:=HQ.out;subst Af;obtain⟨x1,x2,x3,x4⟩:=kL Ag.out ((Below.refl _ wz).alloc lz (.cells #[.slice none 0 0,.int .i64 0] 103));obtain⟨D,d1,d2,d3⟩:=x3;have Az:D.length=Q.length:=by rw[<-d1,List.length_map]
        have A8:=AE.out;refine fV rfl _ _ rfl w.heap.size (.slice (some ⟨b3,0,none⟩) Q.length oc) D ((none,0,0),⟨[],0⟩) rfl (by exact d2) wz.heap.size rfl (by exact ae.new wz #[.slice none 0 0,.int .i64 0] 103) (by omega) (by exact x4.size) ?_;intro nv w9 ho9 hg9;obtain⟨na,nc,rfl⟩:=xu ho9;have xc:=x1.kept hg9 (fun e=>Ax.out _ e.symm rfl)
        have At:∀q,(Value.slice na (D.length+1) nc).ownBlock=some q->q≠wr.heap.size:=by
         intro q e hqe;rw[hqe] at e;rcases ho9.2 with ⟨-,h3⟩|⟨g,cap,cur,he,hgb,hgc,h3,h4,h5,h6⟩
         ·omega
         ·cases he
          have e':g=wr.heap.size:=Option.some.inj e;rw[e',show w9.heap[wr.heap.size]?=_ from xc] at hgc;simp only[Option.some.injEq,Obj.cells.injEq] at hgc;have hz:=congrArg Array.size hgc.1;rw[h5] at hz;simp at hz
          have Bz:=Be.out;omega
        have AK:D.length+1=(Q++[(⟨[],0⟩:aI)]).length:=by simp[Az]
        have xt:aO B w9 (eO (sa,T.length,sc)) T:=bZ x2 fun q e=>hg9.block q (World.ownsRow.lt x2 q e).2 (fun q2=>nY x2 d2 (by decide) q e q2.symm);have xr:=iD.push d1 d2 d3 aO.nil hg9 ho9;have xb:=x4.grown hg9 (by exact x4.size) (fun q e=>(World.ownsRow.lt d2 q e).1);rw[AK] at At xr ⊢
        have Am:Hid (vZ L (i1+1) false (eZ d T) (Q++[⟨[],0⟩]++[⟨T,gD d T⟩])/\T.length<=900000/\∀r∈Q++[(⟨[],0⟩:aI)],r.toks.length<=900000):=Hh ⟨by
         have h:=Ae.out.1;have As:=Aq.out;rw[A2.out] at h
         simpa [oH,As] using h,Ae.out.2.1,fun r hr=>by
         rcases List.mem_append.1 hr with hr|hr
         ·exact Ae.out.2.2 r hr
         ·rw[List.mem_singleton.1 hr];exact Nat.zero_le _⟩
        have Bf:(Q++[(⟨[],0⟩:aI)]).length<=k:=by rw[<-AK];omega
        have Ag:=Jh xc (And.intro xt (And.intro xr xb));have Ax:=Hh At;clear xc xt xr xb At AK d1 d2 d3 ho9 hg9 x1 x2 x4 Az HQ AE A8 A2 Ae;generalize Q++[(⟨[],0⟩:aI)]=Q at *;generalize w9=wz at *;generalize na=oa at *;generalize nc=oc at *
        go_upto_region 16 with fail)
       rotate_left
       case' true=>
        go_upto_region 16 with fail
        have Af:=HQ.out;subst Af;generalize (some ⟨b3,0,none⟩:Option Addr)=oa at Ag Ax ⊢
        have Am:Hid (vZ L (i1+1) false (eZ d T) (Q++[⟨T,gD d T⟩])/\T.length<=900000/\∀r∈Q,r.toks.length<=900000):=Hh ⟨by
         have h:=Ae.out.1;rw[A2.out] at h
         simpa [oH] using h,Ae.out.2⟩
        clear Ae HQ AE A2
      all_goals
       have hc:=Ag.out.1;have lc:=hc.lt;obtain⟨Aa,Ac,Ab,Ad⟩:=hc.n2 rfl;have Ao:Hid (vZ L (i1+1) false (if mq T then d+1 else d) (Q++[⟨T,d⟩])/\T.length<=900000/\∀r∈Q,r.toks.length<=900000):=Hh (by have h:=Am.out;unfold eZ gD at h;rw[Aq.out] at h;exact h);clear hc Am;go_upto_region 20 with fail
       have Aj:Hid (ae (wz.setCell ⟨wr.heap.size,1,none⟩ (.int .i64 d)) wr.heap.size #[.slice sa T.length sc,.int .i64 d] 103/\aO B (wz.setCell ⟨wr.heap.size,1,none⟩ (.int .i64 d)) (eO (sa,T.length,sc)) T/\iD w.heap.size B (wz.setCell ⟨wr.heap.size,1,none⟩ (.int .i64 d)) (.slice oa Q.length oc) Q/\Below w.heap.size w (wz.setCell ⟨wr.heap.size,1,none⟩ (.int .i64 d))):=
        Hh ⟨Ag.out.1.set 1 (by simp) _,dA Ag.out.2.1 Ag.out.1 (by decide) 1 _,Ag.out.2.2.1.moved (fun q e=>Below.heap_setCell _ _ _ _ (by exact Ax.out q e)) (fun h=>dA h Ag.out.1 (by decide) 1 _),Ag.out.2.2.2.setCell (by exact AA) _⟩
       generalize wz.setCell ⟨wr.heap.size,1,none⟩ (.int .i64 d)=wy at Aj ⊢;clear Ag Aa Ac Ab Ad lc;have hc:=Aj.out.1;have lc:=hc.lt;obtain⟨Aa,Ac,Ab,Ad⟩:=hc.n2 rfl;have Ah:=oZ wy (.slice sa T.length sc) T (d) Aj.out.2.1.toks (by have:=Ao.out.2.1;omega);simp only[Cs] at Ah;obtain⟨ob,Au⟩:∃x,mq T=x:=⟨_,rfl⟩;rw[Au] at Ah;have AD:=Hh Au;clear Au hc;go_wp2_with fail;refine Ah.mono ?_;rintro _ w8 ⟨rfl,hb8⟩;have A4:=Hh (kL Aj.out hb8);clear Ah hb8 Aj Aa Ac Ab Ad lc;have hc:=A4.out.1;have lc:=hc.lt;obtain⟨Aa,Ac,Ab,Ad⟩:=hc.n2 rfl;clear hc;cases ob
       all_goals
        go_wp2_with (with_reducible first|refine aK ?_)
        refine Stop.out ?_;obtain⟨x1,x2,x3,x4⟩:=kL A4.out ((Below.refl _ w8).alloc lz (.cells #[.slice sa T.length sc,.int .i64 (d)] 103));obtain⟨D,d1,d2,d3⟩:=x3;have Az:D.length=Q.length:=by rw[<-d1,List.length_map]
        refine fV rfl _ _ rfl w.heap.size (.slice oa Q.length oc) D ((sa,T.length,sc),⟨T,d⟩) rfl (by exact d2) w8.heap.size rfl (by exact ae.new w8 #[.slice sa T.length sc,.int .i64 (d)] 103) (by omega) (by exact x4.size) ?_;intro nv w9 ho9 hg9;obtain⟨na,nc,rfl⟩:=xu ho9;have HF:=Jh (iD.push d1 d2 d3 x2 hg9 ho9) (x4.grown hg9 (by exact x4.size) (fun q e=>(World.ownsRow.lt d2 q e).1));clear x1 x2 x4 d1 d2 d3 ho9 hg9 Az Aa Ac Ab Ad lc;go_wp2_with fail;go_roundw
        case rel=>exact⟨i1+1,false,_,Q++[⟨T,d⟩],by omega,by go_num,rfl,rfl,by omega,HF.out.1,⟨by simp;omega,fun h=>by cases h⟩,Hh ⟨by have h:=Ao.out.1;rw[AD.out] at h;first|exact h|(rw[if_pos rfl,Int.sub_add_cancel] at h;exact h),fun r hr=>by
         rcases List.mem_append.1 hr with hr|hr
         ·exact Ao.out.2.2 r hr
         ·rw[List.mem_singleton.1 hr];exact Ao.out.2.1⟩,HF.out.2⟩
        case measure=>simp[intOf]<;>omega
      )
     focus (
      cases gap
      focus (
       go_upto_region 16 with fail
       have Am:Hid (vZ L (i1+1) false (eZ d T) (Q++[⟨T,gD d T⟩])/\T.length<=900000/\∀r∈Q,r.toks.length<=900000):=Hh ⟨by have h:=Ae.out.1;have As:=Aq.out;simpa [oH] using h,Ae.out.2⟩
       clear Ae Ap)
      rotate_left
      by_cases h0:Q.length=0
      case' pos=>
       obtain⟨qn,Af⟩:∃x:Nat,x=Q.length:=⟨_,rfl⟩;have e0:decide ((0:Int)<(qn:Int))=false:=by simp;omega
       have e1:decide (0<qn)=false:=by simp;omega
       have e2:(0<qn)=False:=by simp;omega
       rw[<-Af];have HQ:=Hh Af;clear h0 Af;go_upto_region 16 with fail
       have Af:=HQ.out;clear HQ e0 e1 e2;subst Af;have Am:Hid (vZ L (i1+1) false (eZ d T) (Q++[⟨T,gD d T⟩])/\T.length<=900000/\∀r∈Q,r.toks.length<=900000):=Hh ⟨by have h:=Ae.out.1;have As:=Aq.out;simpa [oH,As] using h,Ae.out.2⟩;clear Ae Ap
      case' neg=>
       obtain⟨qn,Af⟩:∃x:Nat,x=Q.length:=⟨_,rfl⟩;have e0:decide ((0:Int)<(qn:Int))=true:=by simp;omega
       have e1:decide (0<qn)=true:=by simp;omega
       have e2:(0<qn)=True:=by simp;omega
       rw[<-Af];have HQ:=Hh Af;clear h0 Af;go_upto_region 16 with fail
       have Af:=HQ.out;clear HQ e0 e1 e2;subst Af;have Am:Hid (vZ L (i1+1) false (eZ d T) (Q++[⟨T,gD d T⟩])/\T.length<=900000/\∀r∈Q,r.toks.length<=900000):=Hh ⟨by have h:=Ae.out.1;have As:=Aq.out;simpa [oH,As] using h,Ae.out.2⟩;clear Ae Ap
      all_goals
       have hc:=Ag.out.1;have lc:=hc.lt;obtain⟨Aa,Ac,Ab,Ad⟩:=hc.n2 rfl;have Ao:Hid (vZ L (i1+1) false (if mq T then (d-1)+1 else (d-1)) (Q++[⟨T,(d-1)⟩])/\T.length<=900000/\∀r∈Q,r.toks.length<=900000):=Hh (by have h:=Am.out;unfold eZ gD at h;rw[Aq.out] at h;exact h);clear hc Am;go_upto_region 20 with fail
       have Aj:Hid (ae (wz.setCell ⟨wr.heap.size,1,none⟩ (.int .i64 (d-1))) wr.heap.size #[.slice sa T.length sc,.int .i64 (d-1)] 103/\aO B (wz.setCell ⟨wr.heap.size,1,none⟩ (.int .i64 (d-1))) (eO (sa,T.length,sc)) T/\iD w.heap.size B (wz.setCell ⟨wr.heap.size,1,none⟩ (.int .i64 (d-1))) (.slice oa Q.length oc) Q/\Below w.heap.size w (wz.setCell ⟨wr.heap.size,1,none⟩ (.int .i64 (d-1)))):=
        Hh ⟨Ag.out.1.set 1 (by simp) _,dA Ag.out.2.1 Ag.out.1 (by decide) 1 _,Ag.out.2.2.1.moved (fun q e=>Below.heap_setCell _ _ _ _ (by exact Ax.out q e)) (fun h=>dA h Ag.out.1 (by decide) 1 _),Ag.out.2.2.2.setCell (by exact AA) _⟩
       generalize wz.setCell ⟨wr.heap.size,1,none⟩ (.int .i64 (d-1))=wy at Aj ⊢;clear Ag Aa Ac Ab Ad lc;have hc:=Aj.out.1;have lc:=hc.lt;obtain⟨Aa,Ac,Ab,Ad⟩:=hc.n2 rfl;have Ah:=oZ wy (.slice sa T.length sc) T ((d-1)) Aj.out.2.1.toks (by have:=Ao.out.2.1;omega);simp only[Cs] at Ah;obtain⟨ob,Au⟩:∃x,mq T=x:=⟨_,rfl⟩;rw[Au] at Ah;have AD:=Hh Au;clear Au hc;go_wp2_with fail;refine Ah.mono ?_;rintro _ w8 ⟨rfl,hb8⟩;have A4:=Hh (kL Aj.out hb8);clear Ah hb8 Aj Aa Ac Ab Ad lc;have hc:=A4.out.1;have lc:=hc.lt;obtain⟨Aa,Ac,Ab,Ad⟩:=hc.n2 rfl;clear hc;cases ob
       all_goals
        go_wp2_with (with_reducible first|refine aK ?_)
        refine Stop.out ?_;obtain⟨x1,x2,x3,x4⟩:=kL A4.out ((Below.refl _ w8).alloc lz (.cells #[.slice sa T.length sc,.int .i64 ((d-1))] 103));obtain⟨D,d1,d2,d3⟩:=x3;have Az:D.length=Q.length:=by rw[<-d1,List.length_map]
        refine fV rfl _ _ rfl w.heap.size (.slice oa Q.length oc) D ((sa,T.length,sc),⟨T,(d-1)⟩) rfl (by exact d2) w8.heap.size rfl (by exact ae.new w8 #[.slice sa T.length sc,.int .i64 ((d-1))] 103) (by omega) (by exact x4.size) ?_;intro nv w9 ho9 hg9;obtain⟨na,nc,rfl⟩:=xu ho9;have HF:=Jh (iD.push d1 d2 d3 x2 hg9 ho9) (x4.grown hg9 (by exact x4.size) (fun q e=>(World.ownsRow.lt d2 q e).1));clear x1 x2 x4 d1 d2 d3 ho9 hg9 Az Aa Ac Ab Ad lc;go_wp2_with fail;go_roundw
        case rel=>exact⟨i1+1,false,_,Q++[⟨T,(d-1)⟩],by omega,by go_num,rfl,rfl,by omega,HF.out.1,⟨by simp;omega,fun h=>by cases h⟩,Hh ⟨by have h:=Ao.out.1;rw[AD.out] at h;first|exact h|(rw[if_pos rfl,Int.sub_add_cancel] at h;exact h),fun r hr=>by
         rcases List.mem_append.1 hr with hr|hr
         ·exact Ao.out.2.2 r hr
         ·rw[List.mem_singleton.1 hr];exact Ao.out.2.1⟩,HF.out.2⟩
        case measure=>simp[intOf]<;>omega
      )
  ·obtain rfl:k=L.length:=by omega
   have hE:=HM.out.1.end;obtain⟨oa,oc,rfl⟩:=hQ.shape;have HS:=Jh hQ hb;clear hQ hb hkl;go_wp2_with fail;go_ret;rw[hE];exact⟨_,rfl,HS.out⟩
theorem iD.low{B1 B B0:Nat}{w:World}{v:Value}{R:List aI}(h:iD B1 B w v R)(h1:B0<=B1)(h2:B0<=B):Em B0 w v R:=by
 obtain⟨D,q1,q2,q3⟩:=h;exact⟨D,q1,sP q2 h1,fun d hd=>sP (q3 d hd) h2⟩
theorem EA(s:ByteArray)(w:World)(hT:jk w)(hTb:zh w.heap.size w)(hs:s.size<=400000)(hn:(bV s.data.toList).length<=1000000)(hl:∀r∈bV s.data.toList,r.toks.length<=400000)
  (hF:(bT s.data.toList).2.2=0->(∀r∈dx ((bV s.data.toList).map (·.toks)),zk r)/\(jQ ((bV s.data.toList).map (·.toks))).length<=400000000/\(dx ((bV s.data.toList).map (·.toks))).length<=1000000) :
  Calls Tryz.prog 13 #[.string s] w fun e w'=>e=.returned (.tuple #[.string ⟨(jP s.data.toList).1.toArray⟩,.int .i64 (jP s.data.toList).2.1,.int .i64 (jP s.data.toList).2.2])/\Below w.heap.size w w':=by
 have hP:=qV s w hT (by omega);obtain⟨X,hX⟩:=exq (bT s.data.toList);have Ad:jP s.data.toList=if X.2.2=0 then (jQ ((bV s.data.toList).map (·.toks)),-1,0) else ([],X.2):=by rw[hX];rfl
 rw[Ad];rw[<-hX] at hF hP;clear Ad hX;obtain⟨X1,Aj,er⟩:=X;go_enter Tryz.func13,Tryz.ntmps13;go_wp2_with fail;refine hP.mono ?_;rintro _ w1 ⟨⟨v1,rfl,-⟩,hb1⟩
 by_cases h0:er=0
 ·subst h0
  simp only at hF;obtain⟨Ae,Af⟩:=hF (by trivial);have HF:=Jh Ae Af;clear hF Ae Af;go_wp2_with fail;have Ac:w.heap.size<=w1.heap.size:=hb1.size;have Ab:Below w.heap.size w (w1.alloc (.cells #[.pointer none,.slice none 0 0] 69)):=hb1.alloc Ac _;have hR:=Fu s _ (hT.below Ab) (by omega) hn;have HW:=Hh (BW.start w1 w1.heap.size lz);have Ai:=Hh Ab;clear hb1 Ab;generalize hw2:w1.alloc (.cells #[.pointer none,.slice none 0 0] 69)=w2 at *;have Am:w2.heap.size=w1.heap.size+1:=by rw[<-hw2];simp
  clear hw2;refine hR.mono ?_;rintro _ w3 ⟨v3,rfl,hK,hb3⟩;have hM:=IQ w3 v3 _ hK hb3.size (by simpa using hn) (by simpa using hl);clear hR;go_wp2_with fail;refine hM.mono ?_;rintro _ w4 ⟨v4,rfl,hO,hb4⟩;have Al:=hb3.size;have Ag:=(HW.out.below hb3).below hb4;have Aa:Below w.heap.size w w4:=(Ai.out.trans (hb3.mono (by omega))).trans (hb4.mono (by omega));have Ah:=Ha _ v4 Ag (hO.low (by omega) (by omega)) HF.out.1 HF.out.2.2 (by have:=HF.out.2.1;simpa [jQ] using this) (fun W q=>hTb W (Aa.trans (q.mono Ac)));have HS:=Jh Aa Ac;clear hM hO hK Ag Aa;go_wp2_with fail;refine Ah.mono ?_;rintro _ w5 ⟨rfl,hW5,hb5⟩;have Ak:=si w5 (by exact hW5.2.choose_spec.2) (by have:=hb3.size;have:=hb4.size;have:=hb5.size;omega) (by have:=HF.out.2.1;simpa [jQ] using Nat.le_trans this (by decide));have HZ:=Jh hb3 (And.intro hb4 hb5);clear Ah hW5 hb3 hb4 hb5;go_wp2_with fail;refine Ak.mono ?_;rintro _ w6 ⟨rfl,hb6,-⟩;go_wp2_with fail;refine bodyPost_ret (v:=.tuple #[.string ⟨([]++gP (dx ((bV s.data.toList).map j6.toks)) []).toArray⟩,.int .i64 (-1),.int .i64 0]) (by simp[results,Tryz.results13,go_sem]) rfl ?_;refine⟨by trivial,HS.out.1.trans ((HZ.out.2.2.trans hb6).mono HS.out.2)⟩
 ·have h1:(er != 0)=true:=by simpa using h0
  have HB:=Hh hb1;clear hb1 hF;go_wp2_with fail;refine bodyPost_ret (v:=.tuple #[.string ⟨#[]⟩,.int .i64 Aj,.int .i64 er]) (by simp[results,Tryz.results13,go_sem]) rfl ?_;simp only[if_neg h0];exact⟨by trivial,HB.out⟩
theorem jk.tabB{w:World}(h:jk w):zh w.heap.size w:=fun _ hW=>(h.below hW).utf
theorem J2{l:Bs}(h:(bT l).2.2=0)(hl:l.length<=4500):(jQ ((bV l).map (·.toks))).length<=400000000:=by
 have:=Hu h;have h2:(2*(l.length+1))*(4*(128+2*l.length)+2)<=(2*(4500+1))*(4*(128+2*4500)+2):=Nat.mul_le_mul (by omega) (by omega);omega
theorem Cg(s:ByteArray)(w:World)(hT:jk w)(hs:s.size<=4500) :
  Calls Tryz.prog 13 #[.string s] w fun e w'=>e=.returned (.tuple #[.string (ay (jP s.data.toList).1),.int .i64 (jP s.data.toList).2.1,.int .i64 (jP s.data.toList).2.2])/\Below w.heap.size w w':=by
 have hl:s.data.toList.length=s.size:=jc s;have h1:=wO s.data.toList;refine EA s w hT hT.tabB (by omega) (by omega) (fun r hr=>by have:=h1.2.2 r hr;omega) (fun h=>⟨Kb h (by omega),J2 h (by omega),?_⟩);have:=(wE ((bV s.data.toList).map (·.toks))).2;rw[List.length_map] at this;omega
abbrev Ol:Bs:=[97,61,49,10,98,32,32,123,10,125,10]
theorem Ho:jP Ol=([97,32,61,32,49,10,98,32,123,125,10],-1,0):=by kernel_rfl
theorem BX(w:World)(hT:jk w):Calls Tryz.prog 12 #[] w fun e w'=>e=.returned (.bool true)/\Below w.heap.size w w':=by
 have hA:=Cg (ay Ol) w hT (by decide);rw[bU,Ho] at hA;have e1:ay [97,32,61,32,49,10,98,32,123,125,10]=⟨#[97,32,61,32,49,10,98,32,123,125,10]⟩:=rfl;have e2:ay Ol=⟨#[97,61,49,10,98,32,32,123,10,125,10]⟩:=rfl;rw[e2] at hA;simp only[e1] at hA;clear e1 e2;go_enter Tryz.func12,Tryz.ntmps12;go_wp2_with fail;refine hA.mono ?_;clear hA;rintro _ w2 ⟨rfl,hb2⟩;have HB:=Hh hb2;clear hb2;go_wp2;go_ret;exact⟨rfl,HB.out⟩
theorem Ht(l:Bs):(jP l).2.2=(bT l).2.2:=by
 unfold jP;split
 ·next h=>rw[h]
 ·rfl
end Go.Proofs.YtbcdaaobbebooaaGreatDoor
