import Derived.Test.YtbcdaaobbebooaaGreatDoorKga
import Derived.Lib.Builder
import Derived.Lib.AppendStr
import Derived.Lib.UnsafeStr
import Derived.Laws.Externs
import Derived.Laws.BitsAllLaws
import Derived.Laws.IdiomStrings
set_option linter.unusedSimpArgs false
set_option linter.unusedVariables false
set_option maxRecDepth 100000
set_option maxHeartbeats 20000000
namespace Go.Proofs.YtbcdaaobbebooaaGreatDoor
open Go.RowKit Go.Tab
abbrev Ph:=aT kV 5
theorem Tryz.uPB:Tryz.prog.underlying 66=some (.pointer 69):=by kernel_rfl
theorem Tryz.uUP:Tryz.prog.underlying 200=some .unsafePointer:=by kernel_rfl
theorem Tryz.uBytes:Tryz.prog.underlying 67=some (.slice 5):=by kernel_rfl
theorem Tryz.uStr:Tryz.prog.underlying 9=some .string:=by kernel_rfl
theorem Tryz.infoU8:(Tryz.prog.info? 5).map (fun i=>(i.zero,i.size,i.bytes))=some (some (.int .u8 0),1,1):=by kernel_rfl
theorem Tryz.sizeBld:(Tryz.prog.info? 69).map (·.size)=some 2:=by kernel_rfl
theorem Tryz.cellsU8:Tryz.prog.cellsOf 5=1:=by kernel_rfl
theorem Pv(x:UInt8):(kV x).oneCell'=true:=rfl
theorem MU(w:World)(c:UInt8)(n:Int)(hn:n=(c.toNat:Int))(t:TypeId):RowOf kV (w.alloc (.cells #[.int .u8 n] t)) (.slice (some ⟨w.heap.size,0,none⟩) 1 1) [c]:=by
 refine⟨_,1,rfl,Nat.le_refl _,by decide,(fun h=>by cases h),fun x hx _=>?_⟩;cases hx
 subst hn;refine⟨rfl,by simp,fun j hj=>?_⟩;obtain rfl:j=0:=by simpa using hj
 rw[World.cell?_alloc_new];rfl
structure F5(T:TypeId)(base:Nat)(w:World)(g o:Nat)(cs:Array Value)(l:List UInt8):Prop where
 cells:ae w g cs T
 addr:cs[o]?=some (.pointer none)\/cs[o]?=some (.pointer (some ⟨g,o,none⟩))
 buf:∃v,cs[o+1]?=some v/\Ph base w v l
structure Ay(T:TypeId)(n o:Nat):Prop where
 ne:T≠5
 lies:liesAt Tryz.prog Tryz.prog.depth T (n / Tryz.prog.cellsOf T) o 69 1=true
 lt:o+1<n
def BL(g o:Nat)(cs cs':Array Value):Prop:=cs'.size=cs.size/\(∀j,j≠o->j≠o+1->cs'[j]?=cs[j]?)/\cs'[o]?=some (.pointer (some ⟨g,o,none⟩))
theorem qR{T:TypeId}{base g o:Nat}{cs:Array Value}{l:List UInt8}(w:World)(h:F5 T base w g o cs l)(hI:Ay T cs.size o)(hg:base<=g) :
  Calls Tryz.prog 147 #[.pointer (some ⟨g,o,none⟩)] w fun e w'=>e=.returned (.tuple #[])/\∃cs',F5 T base w' g o cs' l/\BL g o cs cs'/\(∀v,cs[o+1]?=some v->cs'[o+1]?=some v)/\w.grownBy w' (some g):=by
 obtain⟨hc,ha,v,hv,Aa⟩:=h;obtain⟨j,hj,Ad⟩:=Option.map_eq_some_iff.1 Tryz.sizeBld;rcases ha with ha|ha
 ·have h0:=hc.cell o _ ha
  have hf:=hc.frozen o;have Ac:=hc.shape;have Ae:=hI.lt;have Ag:=Lib.run_to_unsafe w ⟨g,o,none⟩ Tryz.uPB Tryz.uUP hj (by rw[Ad];decide) Ac (by show o<cs.size;omega);have Ah:=Lib.run_from_unsafe w ⟨g,o,none⟩ Tryz.uUP Tryz.uPB hj Ac hI.lies;go_enter Tryz.func147,Tryz.ntmps147;go_wp2;rw[run_callFunc_extern Tryz.func173 (by kernel_rfl) (by kernel_rfl) (by kernel_rfl) (e:=Extern.AbiNoEscape.same) (by kernel_rfl)];rw[Lib.run_noEscape];simp only[Result.andThen];rw[Oper.upon_value];go_wp2;go_end0
  have Ab:=yZ w g o (.pointer (some ⟨g,o,none⟩));refine⟨rfl,_,⟨hc.set o (by omega) _,.inr (by simp),v,by rw[Array.getElem?_set_ne (by omega) (by omega)];exact hv,Aa.kept Ab (.inr (lL Aa hc hI.ne))⟩,⟨by simp,fun k h1 _=>by rw[Array.getElem?_set_ne (by omega) (fun e=>h1 e.symm)],by simp⟩,fun u hu=>by rw[Array.getElem?_set_ne (by omega) (by omega)];exact hu,Ab⟩
 ·have h0:=hc.cell o _ ha
  have Af:=Lib.run_neq_ptr_same w ⟨g,o,none⟩ Tryz.uPB hj;go_enter Tryz.func147,Tryz.ntmps147;go_wp2;go_end0
  exact⟨rfl,cs,⟨hc,.inr ha,v,hv,Aa⟩,⟨rfl,fun _ _ _=>rfl,ha⟩,fun _ h=>h,World.grownBy.refl _ _⟩
theorem BL.trans{g o:Nat}{a b c:Array Value}(h:BL g o a b)(h2:BL g o b c):BL g o a c:=
 ⟨h2.1.trans h.1,fun j h3 h4=>(h2.2.1 j h3 h4).trans (h.2.1 j h3 h4),h2.2.2⟩
theorem F5.put{T:TypeId}{base g o:Nat}{cs:Array Value}{l':List UInt8}{w:World}{v':Value}(h:ae w g cs T)(hI:Ay T cs.size o)(ha:cs[o]?=some (.pointer (some ⟨g,o,none⟩)))(hown:Ph base w v' l') :
  ∃cs',F5 T base (w.setCell ⟨g,o+1,none⟩ v') g o cs' l'/\BL g o cs cs':=by
 have Aa:=hI.lt;refine⟨_,⟨h.set (o+1) Aa v',.inr (by rw[Array.getElem?_set_ne Aa (by omega)];exact ha),v',by simp,hown.setOther _ _ (fun e=>lL hown h hI.ne e)⟩,by simp,fun j h1 h2=>by rw[Array.getElem?_set_ne Aa (fun e=>h2 e.symm)],by rw[Array.getElem?_set_ne Aa (by omega)];exact ha⟩
theorem zf{T:TypeId}{base g o:Nat}{cs:Array Value}{l:List UInt8}(w:World)(c:UInt8)(n:Int)(hn:n=(c.toNat:Int))(h:F5 T base w g o cs l)(hI:Ay T cs.size o)(hg:base<=g)(hlen:l.length<=1000000000) :
  Calls Tryz.prog 183 #[.pointer (some ⟨g,o,none⟩),.int .u8 n] w fun e w'=>e=.returned .nilIface/\∃cs',F5 T base w' g o cs' (l++[c])/\BL g o cs cs'/\Below base w w'/\bD 5 g w w':=by
 have Ah:base<=w.heap.size:=by have:=h.cells.lt;omega
 subst hn;go_enter Tryz.func183,Tryz.ntmps183;go_wp2_with fail;refine (qR w h hI hg).mono ?_;rintro e w1 ⟨rfl,cs1,h1,hU,hbuf,hg1⟩;have Ai:Below base w w1:=jv hg1 Ah (fun k hk=>by cases hk;exact hg);have Ap:=hg1.size;obtain⟨Ab,Al,v,hv,Aa⟩:=h1;have Ao:=Ab.cell (o+1) _ hv;go_wp2_with (with_reducible first|refine aK ?_|refine ng ?_|refine jW ?_|refine zu ?_);refine Stop.out ?_
 refine dG (f:=kV) rfl _ _ 67 rfl base 5 1 _ Tryz.uBytes Tryz.infoU8 rfl Pv l [c] (by exact Aa.alloc _) (by exact MU w1 c _ rfl _) (by unfold maxLen;simp;omega) (by simp;omega) (by simp;omega) w (by exact Ai.alloc (by omega) _) ?_;intro v2 w2 ho2 hb2 hg2;obtain⟨a2,n2,c2,rfl,-⟩:=ho2.row.shape;have Ac:=(Ab.alloc (.cells #[.int .u8 (c.toNat:Int)] 5)).kept hg2 (fun e=>(lL Aa Ab (by exact hI.ne)) e.symm);have Ad:bD 5 g w w2:=(((bD.refl.grown hg1 (fun k hk=>.inl (by cases hk;rfl))).alloc (.cells #[.int .u8 (c.toNat:Int)] 5)).grown hg2 (fun k hk=>.inr (rG (Aa.alloc (.cells #[.int .u8 (c.toNat:Int)] 5)) k hk)));have An:=Ac.frozen (o+1);have Am:=Ac.cell (o+1) _ hv;have Ak:cs1.size=cs.size:=hU.1;obtain⟨Ae,h3,Ag⟩:=F5.put Ac (by rw[Ak];exact hI) hU.2.2 ho2;have Aj:=hb2.setCell (p:=⟨g,o+1,none⟩) hg (.slice a2 n2 c2);have Af:=Ad.setCell (o+1) (.slice a2 n2 c2);clear Ad;go_wp2;go_ret;exact⟨rfl,Ae,h3,hU.trans Ag,Aj,Af⟩
theorem sw{P:Program}{w:World}{ops:Array Oper}{rest:List Oper}{o:Oper}{a:Act}{Q:Exit->Act->World->Prop}(hgd:o.guard=none)(sl x:Operand)(t u:TypeId)
  (ho:o.op=.call { callee:=.builtin .append,args:=#[sl,x],argTypes:=#[t,u] }) (base:Nat) (e:TypeId) (ht:P.underlying t=some (.slice e)) (hu:P.underlying u=some .string)
  (hi:(P.info? e).map (fun i=>(i.zero,i.size,i.bytes))=some (some (.int .u8 0),1,1)) (l:List UInt8) (hown:aT kV e base w (a.eval sl) l) (s:ByteArray) (hx:a.eval x=.string s)
  (hlen:l.length+s.size<=2000000000) (hbase:base<=w.heap.size) (w0:World) (hb:Below base w0 w)
  (hK:∀v' w',aT kV e base w' v' (l++s.data.toList)->Below base w0 w'->w.grownBy w' (a.eval sl).ownBlock->wpList P ops Q rest (a.put o.dst v') w'):wpList P ops Q (o::rest) a w:=by
 obtain⟨i,Aa,Ab,Ac,Ad⟩:=info_parts hi;refine Lib.wpList_append_own_string w hgd sl x t u ho base e i ht hu Aa Ab Ac Ad (a.eval sl) l.length (l.map kV) rfl hown s hx (by unfold maxLen;omega) (by omega) hbase ?_;intro v' w' hown' hg _;refine hK v' w' ?_ (hb.trans (jv hg hbase (fun k hk=>(World.ownsRow.lt hown k hk).1))) hg;unfold aT;rw[show (l++s.data.toList).length=l.length+s.size by rw[List.length_append];rfl,List.map_append];exact hown'
theorem oJ{T:TypeId}{base g o:Nat}{cs:Array Value}{l:List UInt8}(w:World)(s:ByteArray)(h:F5 T base w g o cs l)(hI:Ay T cs.size o)(hg:base<=g)(hlen:l.length+s.size<=1000000000) :
  Calls Tryz.prog 113 #[.pointer (some ⟨g,o,none⟩),.string s] w fun e w'=>e=.returned (.tuple #[.int .i64 s.size,.nilIface])/\∃cs',F5 T base w' g o cs' (l++s.data.toList)/\BL g o cs cs'/\Below base w w'/\bD 5 g w w':=by
 have Ah:base<=w.heap.size:=by have:=h.cells.lt;omega
 go_enter Tryz.func113,Tryz.ntmps113;go_wp2_with fail;refine (qR w h hI hg).mono ?_;rintro e w1 ⟨rfl,cs1,h1,hU,hbuf,hg1⟩;have Ai:Below base w w1:=jv hg1 Ah (fun k hk=>by cases hk;exact hg);have Ap:=hg1.size;obtain⟨Ab,Al,v,hv,Aa⟩:=h1;have Ao:=Ab.cell (o+1) _ hv;go_wp2_with (with_reducible first|refine aK ?_|refine ng ?_|refine jW ?_|refine zu ?_);refine Stop.out ?_
 refine sw rfl _ _ 67 9 rfl base 5 Tryz.uBytes Tryz.uStr Tryz.infoU8 l (by exact Aa) s rfl (by omega) (by omega) w (by exact Ai) ?_;intro v2 w2 ho2 hb2 hg2;obtain⟨a2,n2,c2,rfl,-⟩:=ho2.row.shape;have Ac:=Ab.kept hg2 (fun e=>(lL Aa Ab (by exact hI.ne)) e.symm);have Ad:bD 5 g w w2:=((bD.refl.grown hg1 (fun k hk=>.inl (by cases hk;rfl))).grown hg2 (fun k hk=>.inr (rG Aa k hk)));have An:=Ac.frozen (o+1);have Am:=Ac.cell (o+1) _ hv;have Ak:cs1.size=cs.size:=hU.1;obtain⟨Ae,h3,Ag⟩:=F5.put Ac (by rw[Ak];exact hI) hU.2.2 ho2;have Aj:=hb2.setCell (p:=⟨g,o+1,none⟩) hg (.slice a2 n2 c2);have Af:=Ad.setCell (o+1) (.slice a2 n2 c2);clear Ad;go_wp2;go_ret2
 exact⟨rfl,Ae,h3,hU.trans Ag,Aj,Af⟩
theorem Tryz.uPU8:Tryz.prog.underlying 111=some (.pointer 5):=by kernel_rfl
theorem BB(w:World)(p:Addr)(n k:Nat)(hk:k≠p.block):(w.freeze p n).heap[k]?=w.heap[k]?:=by
 unfold World.freeze;split
 ·rfl
 ·simp only[Array.getElem?_modify]
  rw[if_neg (fun e=>hk e.symm)]
theorem si{T:TypeId}{base g o:Nat}{cs:Array Value}{l:List UInt8}(w:World)(h:F5 T base w g o cs l)(hg:base<=w.heap.size)(hlen:l.length<=1000000000) :
  Calls Tryz.prog 43 #[.pointer (some ⟨g,o,none⟩)] w fun e w'=>e=.returned (.string ⟨l.toArray⟩)/\Below base w w'/\∀k o',k<w.heap.size->w.heap[k]?=some o'->(∀cs fr,o'≠.cells cs 5 fr)->w'.heap[k]?=some o':=by
 obtain⟨hc,ha,v,hv,Aa⟩:=h;have Ag:∀(W:World) (q:Option Addr),(Builtin.unsafeString_ #[111,3] 9 #[.pointer q,.int .i64 0]).run Tryz.prog W=.ok (.string .empty) W:=fun W q=>Lib.run_unsafeString_none W _ _ _ q;have c1:=hc.drew.cell (o+1) _ hv;rcases Aa.2 with ⟨rfl,hl⟩|⟨b,cap,cur,rfl,hbb,hb,hnc,hcm,hcs,htake⟩
 ·have Ab:l=[]:=List.eq_nil_of_length_eq_zero hl
  subst Ab;have Ac:(Builtin.unsafeSliceData_ #[67] 111 #[.slice none 0 0]).run Tryz.prog w.drew=.ok (.pointer none) w.drew:=rfl;go_enter Tryz.func43,Tryz.ntmps43;go_wp2;go_region
  all_goals (go_wp2;go_ret;exact⟨rfl,Below.drew (Below.refl base w),fun k o' _ h _=>h⟩)
 ·by_cases Ab:l=[]
  ·subst Ab
   clear Aa htake
   by_cases hcap:cap=0
   ·subst hcap
    have Ac:(Builtin.unsafeSliceData_ #[67] 111 #[.slice (some ⟨b,0,none⟩) 0 0]).run Tryz.prog w.drew=.ok (.pointer (some ⟨w.drew.heap.size,0,none⟩)) (w.drew.alloc (.view ⟨b,0,none⟩ 5)):=
     Lib.run_unsafeSliceData_zero w.drew _ _ 5 Tryz.uPU8 ⟨b,0,none⟩ 0 (5,cur.size) (by have Ad:w.drew.heap[b]?=some (.cells cur 5 (0,0)):=hb;simp[World.shape?,Ad])
    have c2:=(hc.drew.alloc (.view ⟨b,0,none⟩ 5)).cell (o+1) _ hv;have c3:(w.alloc (.view ⟨b,0,none⟩ 5)).drew.cell? ⟨g,o+1,none⟩=some (.slice (some ⟨b,0,none⟩) 0 0):=c2;have c4:=hc.cell (o+1) _ hv;simp only[List.length_nil] at c1 c2 c3 c4;go_enter Tryz.func43,Tryz.ntmps43;go_wp2;go_region
    all_goals
     go_wp2;go_ret;exact⟨rfl,(Below.drew (Below.refl base w)).alloc hg _,fun k o' hk h _=>((World.grownBy_alloc w.drew (.view ⟨b,0,none⟩ 5) none).block k hk (by simp)).trans h⟩
   ·have Ac:(Builtin.unsafeSliceData_ #[67] 111 #[.slice (some ⟨b,0,none⟩) 0 cap]).run Tryz.prog w.drew=.ok (.pointer (some ⟨b,0,none⟩)) w.drew:=Lib.run_unsafeSliceData_row _ _ _ _ _ _ hcap
    simp only[List.length_nil] at c1;clear hcap;go_enter Tryz.func43,Tryz.ntmps43;go_wp2;go_region
    all_goals (go_wp2;go_ret;exact⟨rfl,Below.drew (Below.refl base w),fun k o' _ h _=>h⟩)
  ·have Af:l.length≠0:=by simpa using Ab
   have Ac:(Builtin.unsafeSliceData_ #[67] 111 #[.slice (some ⟨b,0,none⟩) l.length cap]).run Tryz.prog w.drew=.ok (.pointer (some ⟨b,0,none⟩)) w.drew:=Lib.run_unsafeSliceData_row _ _ _ _ _ _ (by omega)
   have Ae:(Builtin.unsafeString_ #[111,3] 9 #[.pointer (some ⟨b,0,none⟩),.int .i64 l.length]).run Tryz.prog w.drew=.ok (.string ⟨l.toArray⟩) (w.drew.freeze ⟨b,0,none⟩ l.length):=by
    refine Lib.run_unsafeString_row w.drew 111 3 9 5 Tryz.uPU8 Tryz.cellsU8 b cur.size (by have Ad:w.drew.heap[b]?=some (.cells cur 5 (0,0)):=hb;simp[World.shape?,Ad]) l Ab (by omega) (by omega) ?_;intro j x hx;obtain⟨hj,rfl⟩:=List.getElem?_eq_some_iff.1 hx;have:=Aa.cellAt j hj;rw[Addr.add_lit,Nat.zero_add];exact this
   clear Aa htake Ab Af;go_enter Tryz.func43,Tryz.ntmps43;go_wp2;go_region
   all_goals
    go_wp2;go_ret;refine⟨rfl,Lib.below_freeze (Below.drew (Below.refl base w)) (p:=⟨b,0,none⟩) hbb _,fun k o' _ h hn=>?_⟩;rw[BB _ _ _ _ (by rintro rfl;rw[hb] at h;cases h;exact hn _ _ rfl)];exact h
def Tab(w:World):Prop:=∀j:Nat,j<32->w.cell? ⟨1,j,none⟩=some (.int .i64 (dV (8*j):Nat))
theorem Tab.below{w w':World}{B:Nat}(h:Tab w)(hb:Below B w w')(hB:1<B):Tab w':=fun j hj=>(hb.cell hB).trans (h j hj)
theorem Tab.pos{w:World}(h:Tab w):1<w.heap.size:=World.block_lt_of_cell? w _ (h 0 (by decide))
theorem uq(a:Nat):dV (8*(a / 8))=dV a:=by
 unfold dV;have h1:8*(a / 8)<128↔a<128:=by omega
 have h2:8*(a / 8)<192↔a<192:=by omega
 have h3:8*(a / 8)<224↔a<224:=by omega
 have h4:8*(a / 8)<240↔a<240:=by omega
 have h5:8*(a / 8)<248↔a<248:=by omega
 simp only[h1,h2,h3,h4,h5]
theorem kF(a b:Nat)(ha:a<4611686018427387904)(hb:b<4611686018427387904):bits .and .i64 (a:Int) (b:Int)=((a &&& b:Nat):Int):=by
 have hx:a &&& b<2 ^ 62:=Nat.and_lt_two_pow _ (by omega);have e1:(BitVec.ofInt 64 (a:Int)).toNat=a:=by rw[BitVec.ofInt_natCast,BitVec.toNat_ofNat];exact Nat.mod_eq_of_lt (by omega)
 have e2:(BitVec.ofInt 64 (b:Int)).toNat=b:=by rw[BitVec.ofInt_natCast,BitVec.toNat_ofNat];exact Nat.mod_eq_of_lt (by omega)
 show IntKind.i64.wrap ((BitVec.ofInt 64 (a:Int) &&& BitVec.ofInt 64 (b:Int)).toNat:Int)=_;rw[BitVec.toNat_and,e1,e2,IntKind.wrap_i64];omega
theorem rT(a b:Nat)(ha:a<4611686018427387904)(hb:b<4611686018427387904):bits .or .i64 (a:Int) (b:Int)=((a ||| b:Nat):Int):=by
 have hx:a ||| b<2 ^ 62:=Nat.or_lt_two_pow (by omega) (by omega)
 have e1:(BitVec.ofInt 64 (a:Int)).toNat=a:=by rw[BitVec.ofInt_natCast,BitVec.toNat_ofNat];exact Nat.mod_eq_of_lt (by omega)
 have e2:(BitVec.ofInt 64 (b:Int)).toNat=b:=by rw[BitVec.ofInt_natCast,BitVec.toNat_ofNat];exact Nat.mod_eq_of_lt (by omega)
 show IntKind.i64.wrap ((BitVec.ofInt 64 (a:Int) ||| BitVec.ofInt 64 (b:Int)).toNat:Int)=_;rw[BitVec.toNat_or,e1,e2,IntKind.wrap_i64];omega
theorem tZ(a k:Nat):a &&& (2 ^ k-1)=a % 2 ^ k:=Nat.and_two_pow_sub_one_eq_mod a k
theorem Pb(a:Nat)(h:a<256):bits .and .i64 (a:Int) 31=((a % 32:Nat):Int):=by
 have:=kF a 31 (by omega) (by omega);rw[show 31=2 ^ 5-1 by rfl,tZ] at this;simpa using this
theorem Pd(a:Nat)(h:a<256):bits .and .i64 (a:Int) 15=((a % 16:Nat):Int):=by
 have:=kF a 15 (by omega) (by omega);rw[show 15=2 ^ 4-1 by rfl,tZ] at this;simpa using this
theorem PE(a:Nat)(h:a<256):bits .and .i64 (a:Int) 7=((a % 8:Nat):Int):=by
 have:=kF a 7 (by omega) (by omega);rw[show 7=2 ^ 3-1 by rfl,tZ] at this;simpa using this
theorem NK(a:Nat)(h:a<4611686018427387904):bits .and .i64 (a:Int) 63=((a % 64:Nat):Int):=by
 have:=kF a 63 h (by omega);rw[show 63=2 ^ 6-1 by rfl,tZ] at this;simpa using this
theorem Ox(a:Nat)(h:a<256):bits .and .i64 (a:Int) 192=((a / 64*64:Nat):Int):=by
 have:=kF a 192 (by omega) (by omega);have h2:∀a:Fin 256,a.val &&& 192=a.val / 64*64:=by decide +kernel
 rw[show a &&& 192=a / 64*64 from h2 ⟨a,h⟩] at this
 simpa using this
theorem Pt(a b:Nat)(h:a<16777216)(hb:b<64):bits .or .i64 ((a:Int)*64) (b:Int)=((a*64+b:Nat):Int):=by
 have:=rT (a*64) b (by omega) (by omega);have h7:=Nat.two_pow_add_eq_or_of_lt (i:=6) (b:=b) (by omega) a;rw[show 2 ^ 6*a=a*64 by omega] at h7;rw[<-h7] at this
 simpa using this
def kE(c:Int):Bool:=decide (0<=c)&&decide (c<=1114111)&&(decide (c<55296) || decide (57343<c))
theorem fo(c:Nat):kE (c:Int)=j4 c:=by
 unfold kE j4;have e1:decide (0<=(c:Int))=true:=by simp
 have e2:decide ((c:Int)<=1114111)=decide (c<=1114111):=by simp only[decide_eq_decide];omega
 have e3:decide ((c:Int)<55296)=decide (c<55296):=by simp only[decide_eq_decide];omega
 have e4:decide (57343<(c:Int))=decide (57343<c):=by simp only[decide_eq_decide];omega
 rw[e1,e2,e3,e4];simp
theorem jE(c:Int)(w:World):Calls Tryz.prog 168 #[.int .i64 c] w fun e w'=>e=.returned (.bool (kE c))/\w=w':=by
 unfold kE
 by_cases h0:0<=c
 ·by_cases h1:c<=1114111
  ·by_cases h2:c<55296
   ·go_enter Tryz.func168,Tryz.ntmps168
    go_wp2;go_ret;exact⟨iQ (by simp[h0,h1,h2]),rfl⟩
   ·have h3:decide (c<55296)=false:=by simp;omega
    go_enter Tryz.func168,Tryz.ntmps168;go_wp2;go_ret;exact⟨iQ (by simp[h0,h1,h2]),rfl⟩
  ·have h3:decide (c<=1114111)=false:=by simp;omega
   go_enter Tryz.func168,Tryz.ntmps168;go_wp2;go_ret;exact⟨iQ (by simp[h0,h1]),rfl⟩
 ·have h3:decide (0<=c)=false:=by simp;omega
  go_enter Tryz.func168,Tryz.ntmps168;go_wp2;go_ret;exact⟨iQ (by simp[h0]),rfl⟩
theorem lq(c:Nat)(w:World):Calls Tryz.prog 169 #[.int .i64 c] w fun e w'=>e=.returned (.int .i64 (pY c:Nat))/\w=w':=by
 unfold pY
 by_cases h1:c<128
 ·rw[if_pos h1]
  go_enter Tryz.func169,Tryz.ntmps169;go_wp2;go_ret;exact⟨rfl,rfl⟩
 ·rw[if_neg h1]
  by_cases h2:c<2048
  ·rw[if_pos h2]
   have d1:decide ((c:Int)<128)=false:=by simp;omega
   have d2:decide ((c:Int)<2048)=true:=by simp;omega
   clear h1 h2;go_enter Tryz.func169,Tryz.ntmps169;go_wp2;go_ret;exact⟨rfl,rfl⟩
  ·rw[if_neg h2]
   by_cases h3:c<65536
   ·rw[if_pos h3]
    have d1:decide ((c:Int)<128)=false:=by simp;omega
    have d2:decide ((c:Int)<2048)=false:=by simp;omega
    have d3:decide ((c:Int)<65536)=true:=by simp;omega
    clear h1 h2 h3;go_enter Tryz.func169,Tryz.ntmps169;go_wp2;go_ret;exact⟨rfl,rfl⟩
   ·rw[if_neg h3]
    have d1:decide ((c:Int)<128)=false:=by simp;omega
    have d2:decide ((c:Int)<2048)=false:=by simp;omega
    have d3:decide ((c:Int)<65536)=false:=by simp;omega
    clear h1 h2 h3;go_enter Tryz.func169,Tryz.ntmps169;go_wp2;go_ret;exact⟨rfl,rfl⟩
abbrev gJ(l:List Nat)(w:World):Ending->World->Prop:=fun e w'=>e=.returned (.tuple #[.int .i64 (aF l).1,.int .i64 (aF l).2])/\w=w'
theorem jY{a b:Int}{l:List Nat}{c n:Nat}(h:aF l=(c,n))(h1:a=c)(h2:b=n):Ending.returned (.tuple #[.int .i64 a,.int .i64 b])=.returned (.tuple #[.int .i64 (aF l).1,.int .i64 (aF l).2]):=by
 rw[h,h1,h2]
theorem Jk(s:ByteArray)(i:Nat)(a:Nat)(r:List Nat)(w:World)(hT:Tab w)(hl:(bs s).drop i=a::r)(hs:s.size<=1048576)(h1:a<128) :
  Calls Tryz.prog 143 #[.string s,.int .i64 i] w (gJ (a::r) w):=by
 obtain⟨h0,e0⟩:=Am hl (j:=0) (by simp);simp only[Nat.add_zero,List.getElem_cons_zero] at h0 e0;have ho:aF (a::r)=(a,1):=by simp[aF,h1]
 have HO:=Hh ho;have hc:=hT (a / 8) (by omega);rw[uq,show dV a=1 by simp[dV,h1]] at hc;clear ho hl;unfold gJ;go_enter Tryz.func143,Tryz.ntmps143;go_wp2;go_ret2
 exact⟨jY HO.out rfl rfl,rfl⟩
theorem OO(c b:Nat)(h:c<131072)(hb:b<256):bits .or .i64 ((c:Int)*64) ((b:Int) % 64)=((c*64+b % 64:Nat):Int):=by
 have:=Pt c (b % 64) (by omega) (by omega)
 simpa using this
theorem FL(s:ByteArray)(i:Nat)(a n:Nat)(r:List Nat)(w:World)(hT:Tab w)(hl:(bs s).drop i=a::r)(hs:s.size<=1048576)(hsz:dV a=n)(hn:n=2\/n=3\/n=4) :
  Calls Tryz.prog 143 #[.string s,.int .i64 i] w (gJ (a::r) w):=by
 have Ac:∀x∈a::r,x<256:=by rw[<-hl];exact fun x hx=>fI x (List.mem_of_mem_drop hx)
 have ha:=Ac a (by simp);have hi:=Hh (fun (j:Nat) (hj:j<(a::r).length)=>Am hl hj);have Ab:(a::r).length=s.size-i:=by rw[<-hl];simp[ax]
 simp only[List.length_cons] at Ab;obtain⟨h0,e0⟩:=hi.out 0 (by simp);simp only[Nat.add_zero,List.getElem_cons_zero] at h0 e0;have ho:=IK Ac hsz (by omega);have hc:=hT (a / 8) (by omega);rw[uq,hsz] at hc;clear hl;unfold gJ
 by_cases hsh:r.length<n-1
 ·rw[if_pos hsh] at ho
  have HO:=Hh ho;have hd:(s.size:Int)-i<n:=by omega
  clear ho hsh Ab hsz;rcases hn with rfl|rfl|rfl
  all_goals
   go_enter Tryz.func143,Tryz.ntmps143;go_wp2;go_ret2
   exact⟨jY HO.out rfl rfl,rfl⟩
 ·rw[if_neg hsh] at ho
  have HO:=Hh ho;have hd:(n:Int)<=(s.size:Int)-i:=by omega
  have m1:=Pb a ha;have m2:=Pd a ha;have m3:=PE a ha;have Ak:jh a n<32:=by unfold jh;split<;>(try split)<;>omega
  have Av:n-1<=r.length:=by omega
  have Aj:=Hh Ac;have As:((n:Int)==1)=false:=by rw[beq_eq_false_iff_ne];omega
  have Ar:((n:Int)==0)=false:=by rw[beq_eq_false_iff_ne];omega
  have Au:n<=4:=by omega
  have At:2<=n:=by omega
  have hz:(n=2/\((n:Int)==2)=true/\jh a n=a % 32)\/(n=3/\((n:Int)==2)=false/\((n:Int)==3)=true/\jh a n=a % 16)\/(n=4/\((n:Int)==2)=false/\((n:Int)==3)=false/\jh a n=a % 8):=by
   rcases hn with rfl|rfl|rfl
   ·exact .inl ⟨rfl,rfl,rfl⟩
   ·exact .inr (.inl ⟨rfl,rfl,rfl,rfl⟩)
   ·exact .inr (.inr ⟨rfl,rfl,rfl,rfl⟩)
  clear ho hsh Ab hsz Ac hn;have Aw:∀A:Nat,A=jh a n->A<32:=fun A h=>by omega
  rcases hz with ⟨-,f2,hz⟩|⟨-,f2,f3,hz⟩|⟨-,f2,f3,hz⟩
  all_goals
   have HZ:=Hh hz;clear hz;go_enter Tryz.func143,Tryz.ntmps143;go_wp2_with fail;go_loop [4,5,7] (fun c z k=>∃C K:Nat,c=.int .i64 C/\z=.int .i64 n/\k=.int .i64 K/\1<=K/\K<=n/\qG (jh a n) (r.take (n-1))=qG C ((r.take (n-1)).drop (K-1))/\Hid ((K=1->C<32)/\(K=2->C<2048)/\(K=3->C<131072)/\C<8388608)) (fun _ _ k=>n-(intOf k).toNat)
   case atStart=>
    refine⟨jh a n,1,by rw[HZ.out];simp,rfl,rfl,by omega,by omega,by simp,?_⟩;have:=Ak;exact Hh (by omega)
   case round=>
    obtain⟨C,K,rfl,rfl,rfl,Ap,Aq,Aa,hC⟩:=hrel
    by_cases hKn:K<n
    ·have Af:K<(a::r).length:=by simp;omega
     obtain⟨h5,e5⟩:=hi.out K Af
     have Ah:(r.take (n-1)).drop (K-1)=(a::r)[K]::(r.take (n-1)).drop K:=by
      have h6:K-1<(r.take (n-1)).length:=by simp;omega
      rw[List.drop_eq_getElem_cons h6];obtain⟨j,rfl⟩:∃j,K=j+1:=⟨K-1,by omega⟩;simp
     have hb:=Aj.out _ (List.getElem_mem Af);rw[Ah] at Aa;clear Ah;generalize (a::r)[K]=b at e5 hb Aa;have An:0<=(i:Int)+(K:Int)/\(i:Int)+(K:Int)<(s.size:Int):=by omega
     have m4:=Ox b hb;have m5:=NK b (by omega)
     by_cases hb2:b / 64=2
     ·have Ae:C<131072:=by have:=hC.out;omega
      have m6:=OO C b Ae hb;have m7:((b / 64*64:Nat):Int)=128:=by omega
      rw[m7] at m4;simp only[qG,hb2,if_true] at Aa;have HC:=Hh Aa;have HB:Hid ((K+1=1->C*64+b % 64<32)/\(K+1=2->C*64+b % 64<2048)/\(K+1=3->C*64+b % 64<131072)/\C*64+b % 64<8388608):=Hh (by have:=hC.out;omega);have Ao:C*64<=8388607:=by omega
      clear Aa m7 Ae;go_wp2;go_round
      case rel=>exact⟨C*64+b % 64,K+1,by go_num,rfl,by go_num,by omega,by omega,HC.out,HB⟩
      case measure=>simp[intOf];omega
     ·have m7:(((b / 64*64:Nat):Int) != 128)=true:=by rw[bne_iff_ne];omega
      simp only[qG,hb2,if_false] at Aa;have HC:=Hh Aa;have H5:=HO.out;rw[HC.out] at H5;have H6:=Hh H5;rw[<-m4] at m7;clear Aa H5;go_wp2;go_ret2
      exact⟨jY H6.out rfl rfl,rfl⟩
    ·obtain rfl:K=n:=by omega
     have Ag:(r.take (K-1)).drop (K-1)=[]:=List.drop_of_length_le (by simp;omega);rw[Ag] at Aa;simp only[qG] at Aa;have H5:=HO.out;rw[Aa] at H5;simp only at H5;clear Aa Ag
     by_cases hsc:j4 C=true
     ·by_cases hw:pY C=K
      ·rw[if_pos ⟨hsc,hw⟩] at H5
       have H6:=Hh H5;have Ad:((pY C:Nat):Int)=(K:Int):=by rw[hw]
       have Ai:=Hh Ad;clear H5 hw Ad;go_wp2_with fail;refine (jE (C:Int) w).mono ?_;rintro e1 w1 ⟨rfl,rfl⟩;rw[fo,hsc];go_wp2_with fail;refine (lq C w).mono ?_;rintro e1 w1 ⟨rfl,rfl⟩;rw[Ai.out];go_wp2;go_ret2
       exact⟨jY H6.out rfl rfl,rfl⟩
      ·rw[if_neg (fun h=>hw h.2)] at H5
       have H6:=Hh H5;have Ad:(((pY C:Nat):Int) != (K:Int))=true:=by rw[bne_iff_ne];omega
       clear H5 hw;go_wp2_with fail;refine (jE (C:Int) w).mono ?_;rintro e1 w1 ⟨rfl,rfl⟩;rw[fo,hsc];go_wp2_with fail;refine (lq C w).mono ?_;rintro e1 w1 ⟨rfl,rfl⟩;go_wp2;go_ret2
       exact⟨jY H6.out rfl rfl,rfl⟩
     ·rw[if_neg (fun h=>hsc h.1)] at H5
      have H6:=Hh H5;have Al:j4 C=false:=by simpa using hsc
      clear H5 hsc;go_wp2_with fail;refine (jE (C:Int) w).mono ?_;rintro e1 w1 ⟨rfl,rfl⟩;rw[fo,Al];go_wp2;go_ret2
      exact⟨jY H6.out rfl rfl,rfl⟩
theorem uK(s:ByteArray)(i:Nat)(w:World)(hT:Tab w)(hs:s.size<=1048576) :
  Calls Tryz.prog 143 #[.string s,.int .i64 i] w (gJ ((bs s).drop i) w):=by
 obtain⟨l,hl⟩:∃l,(bs s).drop i=l:=⟨_,rfl⟩;rw[hl]
 match l with
 |[]=>
  have h1:s.size<=i:=by have:=congrArg List.length hl;simp[ax] at this;omega
  unfold gJ;go_enter Tryz.func143,Tryz.ntmps143;go_wp2;go_ret2
  exact⟨rfl,rfl⟩
 |a::r=>
  rcases yQ a with h|h|h
  ·obtain⟨h0,e0⟩:=Am hl (j:=0) (by simp)
   simp only[Nat.add_zero,List.getElem_cons_zero] at h0 e0;have ha:=fI a (List.mem_of_mem_drop (i:=i) (by rw[hl];simp));have HO:=Hh (IJ (r:=r) h);have hc:=hT (a / 8) (by omega);rw[uq,h] at hc;clear hl h;unfold gJ;go_enter Tryz.func143,Tryz.ntmps143;go_wp2;go_ret2
   exact⟨jY HO.out rfl rfl,rfl⟩
  ·exact Jk s i a r w hT hl hs (Cm h)
  ·exact FL s i a _ r w hT hl hs rfl (by omega)
def Ow:Option Nat->Int
 |none=>-1
 |some a=>a
def nQ(l:List Nat)(k:Nat)(pre:List (Nat×Nat)):Prop:=scan l 0=(pre++(scan (l.drop k) k).1,(scan (l.drop k) k).2)
theorem nQ.zero(l:List Nat):nQ l 0 []:=by simp[nQ]
theorem nQ.bad{l:List Nat}{k:Nat}{pre:List (Nat×Nat)}(h:nQ l k pre)(hk:k<l.length)(h1:(aF (l.drop k)).2=0):scan l 0=(pre,some k):=by
 have Aa:l.drop k≠[]:=by intro h;have:=congrArg List.length h;simp at this;omega
 rw[h,nk Aa h1];simp
theorem nQ.good{l:List Nat}{k c n:Nat}{pre:List (Nat×Nat)}(h:nQ l k pre)(hk:k<l.length)(h1:aF (l.drop k)=(c,n))(hn:n≠0):nQ l (k+n) (pre++[(k,c)]):=by
 have Aa:l.drop k≠[]:=by intro h;have:=congrArg List.length h;simp at this;omega
 unfold nQ at h ⊢;rw[h,Ia Aa h1 hn,List.drop_drop];simp
theorem nQ.done{l:List Nat}{k:Nat}{pre:List (Nat×Nat)}(h:nQ l k pre)(hk:k=l.length):scan l 0=(pre,none):=by
 rw[h,hk,List.drop_length,sF];simp
theorem Gd:∀(m:Nat) (l:List Nat) (a k:Nat),l.length<=m->(∀x∈l,x<256)->(scan l a).2=some k->k<a+l.length
 | m,l,a,k,hm,hl,h=>by
  by_cases h0:l=[]
  ·subst h0;simp[sF] at h
  have hp:=List.length_pos_iff.2 h0
  by_cases hn:(aF l).2=0
  ·rw[nk h0 hn] at h;simp at h;omega
  ·have hle:=(ko l hl).1
   cases m with
   |zero=>omega
   |succ m=>
    rw[iy h0,if_neg hn] at h;have:=Gd m (l.drop (aF l).2) (a+(aF l).2) k (by simp;omega) (fun x hx=>hl x (List.mem_of_mem_drop hx)) h;simp at this;omega
theorem NA(s:ByteArray)(w:World)(hT:Tab w)(hs:s.size<=1048576) :
  Calls Tryz.prog 190 #[.string s] w fun e w'=>e=.returned (.int .i64 (Ow (scan (bs s) 0).2))/\w=w':=by
 go_enter Tryz.func190,Tryz.ntmps190;go_wp2_with fail;go_loop [3] (fun i=>∃(k:Nat) (pre:List (Nat×Nat)),i=.int .i64 k/\k<=s.size/\nQ (bs s) k pre) (fun i=>s.size-(intOf i).toNat)
 case atStart=>exact⟨0,[],rfl,Nat.zero_le _,nQ.zero _⟩
 case round=>
  obtain⟨k,pre,rfl,hk,hr⟩:=hrel;have HR:=Hh hr;clear hr
  by_cases h:k<s.size
  ·obtain⟨c,n,h1⟩:∃c n,aF ((bs s).drop k)=(c,n):=⟨_,_,rfl⟩
   have Aa:=(ko ((bs s).drop k) (fun x hx=>fI x (List.mem_of_mem_drop hx))).1;have hF:=uK s k w hT hs;unfold gJ at hF;rw[h1] at hF Aa;simp only[List.length_drop,ax] at Aa;have H1:=Hh h1;clear h1
   by_cases hn:n=0
   ·subst hn
    have h2:=Hh (HR.out.bad (by rw[ax];exact h) (by rw[H1.out]));go_wp2_with fail;refine hF.mono ?_;clear hF;rintro e w1 ⟨rfl,rfl⟩;go_wp2;go_ret;rw[h2.out];exact⟨rfl,rfl⟩
   ·have h2:=Hh (HR.out.good (by rw[ax];exact h) H1.out hn)
    have hb:((n:Int)==0)=false:=by rw[beq_eq_false_iff_ne];omega
    have Ab:1<=n:=by omega
    clear hn;go_wp2_with fail;refine hF.mono ?_;clear hF;rintro e w1 ⟨rfl,rfl⟩;go_wp2;go_round
    case rel=>exact⟨k+n,_,by go_num,by omega,h2.out⟩
    case measure=>simp[intOf];omega
  ·have h2:=Hh (HR.out.done (by rw[ax];omega))
   go_wp2;go_ret;rw[h2.out];exact⟨rfl,rfl⟩
def LA(r:List (Nat×Nat)×Option Nat):Nat:=if r.2.isNone then r.1.length else 0
theorem JI(s:ByteArray)(w:World)(hT:Tab w)(hs:s.size<=1048576) :
  Calls Tryz.prog 110 #[.string s] w fun e w'=>e=.returned (.tuple #[.int .i64 (LA (scan (bs s) 0)),.bool (scan (bs s) 0).2.isNone])/\w=w':=by
 go_enter Tryz.func110,Tryz.ntmps110;go_wp2_with fail;go_loop [4,5] (fun m i=>∃(k:Nat) (pre:List (Nat×Nat)),m=.int .i64 (pre.length:Nat)/\i=.int .i64 k/\k<=s.size/\pre.length<=k/\nQ (bs s) k pre) (fun _ i=>s.size-(intOf i).toNat)
 case atStart=>exact⟨0,[],rfl,rfl,Nat.zero_le _,Nat.le_refl _,nQ.zero _⟩
 case round=>
  obtain⟨k,pre,rfl,rfl,hk,Ac,hr⟩:=hrel;have HR:=Hh hr;clear hr
  by_cases h:k<s.size
  ·obtain⟨c,n,h1⟩:∃c n,aF ((bs s).drop k)=(c,n):=⟨_,_,rfl⟩
   have Aa:=(ko ((bs s).drop k) (fun x hx=>fI x (List.mem_of_mem_drop hx))).1;have hF:=uK s k w hT hs;unfold gJ at hF;rw[h1] at hF Aa;simp only[List.length_drop,ax] at Aa;have H1:=Hh h1;clear h1
   by_cases hn:n=0
   ·subst hn
    have h2:=Hh (HR.out.bad (by rw[ax];exact h) (by rw[H1.out]));go_wp2_with fail;refine hF.mono ?_;clear hF;rintro e w1 ⟨rfl,rfl⟩;go_wp2;go_ret2
    rw[h2.out];exact⟨rfl,rfl⟩
   ·have h2:=Hh (HR.out.good (by rw[ax];exact h) H1.out hn)
    have hb:((n:Int)==0)=false:=by rw[beq_eq_false_iff_ne];omega
    have Ab:1<=n:=by omega
    clear hn;go_wp2_with fail;refine hF.mono ?_;clear hF;rintro e w1 ⟨rfl,rfl⟩;go_wp2;go_round
    case rel=>exact⟨k+n,_,by simp,by go_num,by omega,by simp;omega,h2.out⟩
    case measure=>simp[intOf];omega
  ·have h2:=Hh (HR.out.done (by rw[ax];omega))
   go_wp2;go_ret2
   rw[h2.out];exact⟨rfl,rfl⟩
def bf(l:List UInt8):ByteArray:=⟨l.toArray⟩
theorem vQ(k m x:Nat)(hx:x<2 ^ k)(hm:2 ^ k*m<256)(hx2:x<256):bits .or .i64 ((2 ^ k*m:Nat):Int) (x:Int)=((2 ^ k*m+x:Nat):Int):=by
 have:=rT (2 ^ k*m) x (by omega) (by omega);rw[<-Nat.two_pow_add_eq_or_of_lt hx m] at this;exact this
theorem OU(x:Nat)(h:x<64):bits .or .i64 128 (x:Int)=((128+x:Nat):Int):=vQ 6 2 x h (by decide) (by omega)
theorem OT(x:Nat)(h:x<64):bits .or .i64 192 (x:Int)=((192+x:Nat):Int):=vQ 6 3 x h (by decide) (by omega)
theorem OQ(x:Nat)(h:x<32):bits .or .i64 224 (x:Int)=((224+x:Nat):Int):=vQ 5 7 x h (by decide) (by omega)
theorem OP(x:Nat)(h:x<16):bits .or .i64 240 (x:Int)=((240+x:Nat):Int):=vQ 4 15 x h (by decide) (by omega)
theorem mZ(c:Nat)(w:World)(hc:c<=1114111):Calls Tryz.prog 227 #[.int .i64 c] w fun e w'=>e=.returned (.int .u8 (128+c % 64:Nat))/\w=w':=by
 have m1:=NK c (by omega);have m2:=OU (c % 64) (by omega);push_cast at m1 m2;clear hc;go_enter Tryz.func227,Tryz.ntmps227;go_wp2;go_ret;exact⟨dW (by simp),rfl⟩
theorem Tryz.underS:Tryz.prog.underlying 9=some .string:=by kernel_rfl
theorem jw(w:World)(l:List UInt8)(cs:Array Value)(n:Nat)(m:List UInt8)(hm:m=l)(h:cs=(l.map kV).toArray)(hn:n=l.length) :
  (convert 67 9 (.slice (some ⟨w.heap.size,0,none⟩) n n)).run Tryz.prog (w.alloc (.cells cs 5))=.ok (.string (bf m)) (w.alloc (.cells cs 5)):=by
 subst hm h hn;refine run_convert_bytes_back (P:=Tryz.prog) _ _ _ 5 _ m.length m Tryz.underlying67 Tryz.underlying5 Tryz.underS fun j hj=>?_;rw[Addr.add_lit,World.cell?_alloc_new];simp[hj]
theorem BO(c:Nat)(w:World)(h:j4 c=true) :
  Calls Tryz.prog 209 #[.int .i64 c] w fun e w'=>e=.returned (.tuple #[.string (bf (gm c)),.bool true])/\Below w.heap.size w w':=by
 have hS:=jE (c:Int) w;rw[fo,h] at hS;rw[dm] at h;obtain⟨h,-⟩:=h
 by_cases h1:c<128
 ·have hW:=lq c w
  rw[show pY c=1 by simp[pY,h1]] at hW;have hp:gm c=[UInt8.ofNat c]:=by simp[gm,fM,h1]
  have Aa:=jw w [UInt8.ofNat c] #[.int .u8 c] 1 (gm c) hp (by simp[kV];omega) rfl;clear hp;go_enter Tryz.func209,Tryz.ntmps209;go_wp2_with fail;refine hS.mono ?_;rintro e w1 ⟨rfl,rfl⟩;go_wp2_with fail;refine hW.mono ?_;rintro e w1 ⟨rfl,rfl⟩;go_wp2;go_ret2
  exact⟨rfl,(Below.refl _ _).alloc lz _⟩
 ·by_cases h2:c<2048
  ·have hW:=lq c w
   rw[show pY c=2 by simp[pY,h1,h2]] at hW;have hp:gm c=[UInt8.ofNat (192+c / 64),UInt8.ofNat (128+c % 64)]:=by simp[gm,fM,h1,h2]
   have m1:=OT (c / 64) (by omega);push_cast at m1;have H:=Hh h;have Aa:=jw w [UInt8.ofNat (192+c / 64),UInt8.ofNat (128+c % 64)] #[.int .u8 (192+(c:Int) / 64),.int .u8 (128+(c:Int) % 64)] 2 (gm c) hp (by simp[kV];omega) rfl;have hb:c / 64<=31:=by omega
   clear hp h h1 h2;go_enter Tryz.func209,Tryz.ntmps209;go_wp2_with fail;refine hS.mono ?_;rintro e w1 ⟨rfl,rfl⟩;go_wp2_with fail;refine hW.mono ?_;rintro e w1 ⟨rfl,rfl⟩;go_wp2_with fail;refine (mZ c w H.out).mono ?_;rintro e w1 ⟨rfl,rfl⟩;go_wp2;go_ret2
   exact⟨rfl,(Below.refl _ _).alloc lz _⟩
  ·by_cases h3:c<65536
   ·have hW:=lq c w
    rw[show pY c=3 by simp[pY,h1,h2,h3]] at hW;have hp:gm c=[UInt8.ofNat (224+c / 4096),UInt8.ofNat (128+c / 64 % 64),UInt8.ofNat (128+c % 64)]:=by simp[gm,fM,h1,h2,h3]
    have m1:=OQ (c / 4096) (by omega);push_cast at m1;have H:=Hh h;have H2:=Hh (show c / 64<=1114111 by omega);have Aa:=jw w [UInt8.ofNat (224+c / 4096),UInt8.ofNat (128+c / 64 % 64),UInt8.ofNat (128+c % 64)] #[.int .u8 (224+(c:Int) / 4096),.int .u8 (128+(c:Int) / 64 % 64),.int .u8 (128+(c:Int) % 64)] 3 (gm c) hp (by simp[kV];omega) rfl;have hb:c / 4096<=15:=by omega
    clear hp h h1 h2 h3;go_enter Tryz.func209,Tryz.ntmps209;go_wp2_with fail;refine hS.mono ?_;rintro e w1 ⟨rfl,rfl⟩;go_wp2_with fail;refine hW.mono ?_;rintro e w1 ⟨rfl,rfl⟩;go_wp2_with fail;refine (mZ (c / 64) w H2.out).mono ?_;rintro e w1 ⟨rfl,rfl⟩;go_wp2_with fail;refine (mZ c w H.out).mono ?_;rintro e w1 ⟨rfl,rfl⟩;go_wp2;go_ret2
    exact⟨rfl,(Below.refl _ _).alloc lz _⟩
   ·have hW:=lq c w
    rw[show pY c=4 by simp[pY,h1,h2,h3]] at hW;have hp:gm c=[UInt8.ofNat (240+c / 262144),UInt8.ofNat (128+c / 4096 % 64),UInt8.ofNat (128+c / 64 % 64),UInt8.ofNat (128+c % 64)]:=by simp[gm,fM,h1,h2,h3]
    have m1:bits .or .i64 240 ((c:Int) / 262144)=240+(c:Int) / 262144:=by
     have:=OP (c / 262144) (by omega);rw[Int.natCast_add,Int.natCast_ediv] at this;exact this
    have H:=Hh h;have H2:=Hh (show c / 64<=1114111 by omega);have H3:=Hh (show c / 4096<=1114111 by omega);have Aa:=jw w [UInt8.ofNat (240+c / 262144),UInt8.ofNat (128+c / 4096 % 64),UInt8.ofNat (128+c / 64 % 64),UInt8.ofNat (128+c % 64)] #[.int .u8 (240+(c:Int) / 262144),.int .u8 (128+(c:Int) / 4096 % 64),.int .u8 (128+(c:Int) / 64 % 64),.int .u8 (128+(c:Int) % 64)] 4 (gm c) hp (by simp[kV];omega) rfl;have hb:c / 262144<=4:=by omega
    clear hp h h1 h2 h3;go_enter Tryz.func209,Tryz.ntmps209;go_wp2_with fail;refine hS.mono ?_;rintro e w1 ⟨rfl,rfl⟩;go_wp2_with fail;refine hW.mono ?_;rintro e w1 ⟨rfl,rfl⟩;go_wp2_with fail;refine (mZ (c / 4096) w H3.out).mono ?_;rintro e w1 ⟨rfl,rfl⟩;go_wp2_with fail;refine (mZ (c / 64) w H2.out).mono ?_;rintro e w1 ⟨rfl,rfl⟩;go_wp2_with fail;refine (mZ c w H.out).mono ?_;rintro e w1 ⟨rfl,rfl⟩;go_wp2;go_ret2
    exact⟨rfl,(Below.refl _ _).alloc lz _⟩
theorem LZ(c:Int)(w:World)(h:kE c=false) :
  Calls Tryz.prog 209 #[.int .i64 c] w fun e w'=>e=.returned (.tuple #[.string (bf []),.bool false])/\w=w':=by
 have hS:=jE c w;rw[h] at hS;go_enter Tryz.func209,Tryz.ntmps209;go_wp2_with fail;refine hS.mono ?_;rintro e w1 ⟨rfl,rfl⟩;go_wp2;go_ret2
 exact⟨rfl,rfl⟩
abbrev xY(n:Int):Value:=.iface 176 (.agg #[.int .i64 n])
abbrev NP(n:Int):Ending:=.panicked [{ v:=xY n,recovered:=false }]
theorem ig(n:Int)(w:World):Calls Tryz.prog 156 #[.int .i64 n] w fun e w'=>e=NP n/\w=w':=by
 go_enter Tryz.func156,Tryz.ntmps156;go_wp2;exact⟨rfl,rfl,rfl⟩
def cz(w:World)(g:Nat)(s:ByteArray)(k:Nat)(l:List UInt8):Prop:=
 ∃cs,F5 180 g w g 2 cs l/\cs.size=4/\cs[0]?=some (.string s)/\cs[1]?=some (.int .i64 (k:Int))
theorem PT:Ay 180 4 2:=⟨by decide,by kernel_rfl,by decide⟩
theorem cz.drewN{w:World}{g:Nat}{s:ByteArray}{k:Nat}{l:List UInt8}(h:cz w g s k l)(n:Nat):cz (w.drewN n) g s k l:=by
 obtain⟨cs,⟨h1,h2,v,h3,h4⟩,h5⟩:=h;exact⟨cs,⟨h1.drewN n,h2,v,h3,h4.drewN n⟩,h5⟩
theorem cz.lt{w:World}{g:Nat}{s:ByteArray}{k:Nat}{l:List UInt8}(h:cz w g s k l):g<w.heap.size:=by
 obtain⟨cs,h1,_⟩:=h;exact h1.cells.lt
theorem cz.moved{w:World}{g:Nat}{s:ByteArray}{k:Nat}{l:List UInt8}(h:cz w g s k l)(k':Nat):cz (w.setCell ⟨g,1,none⟩ (.int .i64 (k':Int))) g s k' l:=by
 obtain⟨cs,⟨h1,h2,v,h3,h4⟩,h5,h6,h7⟩:=h;refine⟨cs.set 1 (.int .i64 (k':Int)) (by omega),⟨h1.set 1 (by omega) _,?_,v,?_,h4.setOther _ _ (lL h4 h1 (by decide))⟩,by simpa using h5,?_,by simp⟩
 ·rwa [Array.getElem?_set_ne (by omega) (by omega)]
 ·rwa [Array.getElem?_set_ne (by omega) (by omega)]
 ·rwa [Array.getElem?_set_ne (by omega) (by omega)]
theorem pQ{w:World}(g:Nat)(v:Value):Below g w (w.setCell ⟨g,1,none⟩ v):=(Below.refl g w).setCell (p:=⟨g,1,none⟩) lz v
def OH(g:Nat)(s:ByteArray)(w:World)(v:Value)(k':Nat)(l':List UInt8)(e:Ending)(w':World):Prop:=
 e=.returned v/\cz w' g s k' l'/\Below g w w'/\bD 5 g w w'
def El(g:Nat)(w:World)(n:Int)(e:Ending)(w':World):Prop:=e=NP n/\Below g w w'
theorem bD.drewN{E:TypeId}{g:Nat}{w w':World}(h:bD E g w w')(n:Nat):bD E g w (w'.drewN n):=h
theorem Below.drewN'{B:Nat}{w w':World}(h:Below B w w')(n:Nat):Below B w (w'.drewN n):=h.trans (bL B w' n)
theorem Ij(w:World)(g:Nat)(s:ByteArray)(k:Nat)(l:List UInt8)(h:cz w g s k l)(hk:k=s.size)(hs:s.size<=1048576) :
  Calls Tryz.prog 155 #[.pointer (some ⟨g,0,none⟩)] w (El g w 2):=by
 obtain⟨cs,hb,h5,h6,h7⟩:=h;have c0:=hb.cells.cell 0 _ h6;have c1:=hb.cells.cell 1 _ h7;have hd:decide (s.size<=k)=true:=by simp;omega
 clear hk hb h5 h6 h7;go_enter Tryz.func155,Tryz.ntmps155;go_wp2_with fail;go_quiet (fail)
 go_wp2_with fail;refine (ig 2 _).mono ?_;rintro e w1 ⟨rfl,rfl⟩;go_wp2;exact⟨rfl,rfl,Below.drewN' (Below.refl g w) _⟩
theorem Ik(w:World)(g:Nat)(s:ByteArray)(k:Nat)(l:List UInt8)(h:cz w g s k l)(hk:k<s.size)(hs:s.size<=1048576) :
  Calls Tryz.prog 155 #[.pointer (some ⟨g,0,none⟩)] w (OH g s w (.int .u8 ((s[k]'hk).toNat:Nat)) (k+1) l):=by
 obtain⟨cs,hb,h5,h6,h7⟩:=id h;have c0:=hb.cells.cell 0 _ h6;have c1:=hb.cells.cell 1 _ h7;have f1:=hb.cells.frozen 1;have hd:decide (s.size<=k)=false:=by simp;omega
 have Aa:=hb.cells.lt;clear hb h5 h6 h7;go_enter Tryz.func155,Tryz.ntmps155;go_wp2_with fail;go_quiet (fail)
 go_wp2_with fail;go_quiet (fail)
 go_wp2;go_ret;exact⟨rfl,((h.drewN _).moved (k+1)).drewN _,Below.drewN' ((Below.drewN' (Below.refl g w) _).setCell (p:=⟨g,1,none⟩) lz _) _,((bD.refl.drewN _).setCell 1 _).drewN _⟩
theorem gB{s:ByteArray}{k:Nat}(hk:k<=s.size)(h:(bs s).drop k=[]):k=s.size:=by
 have:=congrArg List.length h;simp[ax] at this;omega
theorem lw(w:World)(g:Nat)(s:ByteArray)(k:Nat)(l:List UInt8)(h:cz w g s k l)(hk:k<=s.size)(hr:(bs s).drop k=[])(hs:s.size<=1048576) :
  Calls Tryz.prog 155 #[.pointer (some ⟨g,0,none⟩)] w (El g w 2):=Ij w g s k l h (gB hk hr) hs
theorem jX(w:World)(g:Nat)(s:ByteArray)(k:Nat)(l:List UInt8){c:Nat}{r:List Nat}(h:cz w g s k l)(hr:(bs s).drop k=c::r)(hs:s.size<=1048576) :
  Calls Tryz.prog 155 #[.pointer (some ⟨g,0,none⟩)] w (OH g s w (.int .u8 (c:Int)) (k+1) l):=by
 obtain⟨hk,he⟩:=Am hr (j:=0) (by simp);have Aa:k<s.size:=hk;have e:(s[k]'Aa).toNat=c:=he;have:=Ik w g s k l h Aa hs
 rwa [e] at this
theorem gK{l r:List Nat}{k c:Nat}(h:l.drop k=c::r):l.drop (k+1)=r/\k<l.length:=by
 refine⟨?_,?_⟩
 ·rw[<-List.drop_drop,h];rfl
 ·have:=congrArg List.length h;simp at this;omega
theorem NZ(a b:Nat)(h:a<16777216)(hb:b<16):bits .or .i64 ((a:Int)*16) (b:Int)=((a*16+b:Nat):Int):=by
 have:=rT (a*16) b (by omega) (by omega);push_cast at this;rw[this,show a*16=2 ^ 4*a by omega,<-Nat.two_pow_add_eq_or_of_lt (by omega:b<2 ^ 4)]
def Pi(g:Nat)(s:ByteArray)(w:World)(k:Nat)(l:List UInt8)(r:List Nat)(e:Ending)(w':World):Prop:=
 ((aJ r).2=0/\OH g s w (.int .i64 ((aJ r).1:Nat)) (k+4) l e w')\/((aJ r).2≠0/\El g w ((aJ r).2:Nat) e w')
theorem OW{j m:Nat}(hj:j<4)(hm:m<16 ^ j):m<4096/\∀d,d<16->m*16+d<16 ^ (j+1):=by
 have:j=0\/j=1\/j=2\/j=3:=by omega
 rcases this with rfl|rfl|rfl|rfl<;>simp at hm ⊢<;>refine⟨by omega,fun d hd=>by omega⟩
theorem DN(w:World)(g:Nat)(s:ByteArray)(k:Nat)(l:List UInt8)(h:cz w g s k l)(hk:k<=s.size)(hs:s.size<=1048576) :
  Calls Tryz.prog 226 #[.pointer (some ⟨g,0,none⟩)] w (Pi g s w k l ((bs s).drop k)):=by
 go_enter Tryz.func226,Tryz.ntmps226;go_wp2_with fail;go_loopw [3,5] (fun n i wr=>∃(j m:Nat),j<=4/\n=.int .i64 m/\i=.int .i64 j/\m<16 ^ j/\cz wr g s (k+j) l/\k+j<=s.size/\Below g w wr/\bD 5 g w wr/\gY (4-j) m ((bs s).drop (k+j))=aJ ((bs s).drop k)) (fun _ i _=>4-(intOf i).toNat)
 case atStart=>exact⟨0,0,by omega,rfl,rfl,by simp,h,hk,Below.refl _ _,bD.refl,rfl⟩
 case round=>
  obtain⟨j,m,hj,rfl,rfl,hm,hR,Af,hb,hB,hu⟩:=hrel
  by_cases hj4:j<4
  ·obtain⟨Ag,Aa⟩:=OW hj4 hm
   obtain⟨i,hi⟩:∃i,4-j=i+1:=⟨3-j,by omega⟩;rw[hi] at hu
   cases hr:(bs s).drop (k+j) with
   |nil=>
    rw[hr,gY] at hu;have HU:=Hh hu;have hN:=lw wr g s (k+j) l hR Af hr hs;clear hu hr hi Aa hm;go_wp2_with fail;refine hN.mono ?_;rintro e w1 ⟨rfl,hb1⟩;go_wp2;exact⟨rfl,.inr ⟨by rw[<-HU.out];simp,by rw[<-HU.out];rfl,hb.trans hb1⟩⟩
   |cons c r=>
    obtain⟨Ad,Ae⟩:=gK hr;rw[ax] at Ae;have HR:=Hh (show (bs s).drop (k+(j+1))=r from Ad);have hc:c<256:=fI c (List.mem_of_mem_drop (by rw[hr];simp));have hN:=jX wr g s (k+j) l hR hr hs;rw[hr] at hu;simp only[gY] at hu;clear Ad
    by_cases h1:48<=c/\c<=57
    ·obtain⟨x,hx⟩:=exq (m*16+(c-48))
     have ho:bits .or .i64 ((m:Int)*16) ((c:Int)-48)=(x:Int):=by
      have:=NZ m (c-48) (by omega) (by omega);rw[show (((c-48:Nat)):Int)=(c:Int)-48 by omega] at this;rw[this,hx]
     have Ab:x<16 ^ (j+1):=by rw[hx];exact Aa _ (by omega)
     rw[show mI c=some (c-48) by unfold mI;rw[if_pos h1]] at hu;simp only[<-hx] at hu;have HU:=Hh hu;have Ac:=Hh Ab;clear hu hr Aa hm Ab hx;have HI:=Hh hi;clear hi;go_wp2_with fail;refine hN.mono ?_;clear hN;rintro e w1 ⟨rfl,hR1,hb1,hB1⟩;go_wp2;go_roundw
     case rel=>exact⟨j+1,x,by omega,rfl,by go_num,Ac.out,hR1,by omega,hb.trans hb1,hB.trans hB1,by rw[show 4-(j+1)=i by have:=HI.out;omega,HR.out];exact HU.out⟩
     case measure=>simp[intOf];omega
    by_cases h2:97<=c/\c<=102
    ·obtain⟨x,hx⟩:=exq (m*16+(c-87))
     have ho:bits .or .i64 ((m:Int)*16) ((c:Int)-97+10)=(x:Int):=by
      have:=NZ m (c-87) (by omega) (by omega);rw[show (((c-87:Nat)):Int)=(c:Int)-97+10 by omega] at this;rw[this,hx]
     have Ab:x<16 ^ (j+1):=by rw[hx];exact Aa _ (by omega)
     rw[show mI c=some (c-87) by unfold mI;rw[if_neg h1,if_pos h2]] at hu;simp only[<-hx] at hu;have HU:=Hh hu;have Ac:=Hh Ab;clear hu hr Aa hm Ab hx;have HI:=Hh hi;clear hi;go_wp2_with fail;refine hN.mono ?_;clear hN;rintro e w1 ⟨rfl,hR1,hb1,hB1⟩;go_wp2;go_roundw
     case rel=>exact⟨j+1,x,by omega,rfl,by go_num,Ac.out,hR1,by omega,hb.trans hb1,hB.trans hB1,by rw[show 4-(j+1)=i by have:=HI.out;omega,HR.out];exact HU.out⟩
     case measure=>simp[intOf];omega
    by_cases h3:65<=c/\c<=70
    ·obtain⟨x,hx⟩:=exq (m*16+(c-55))
     have ho:bits .or .i64 ((m:Int)*16) ((c:Int)-65+10)=(x:Int):=by
      have:=NZ m (c-55) (by omega) (by omega);rw[show (((c-55:Nat)):Int)=(c:Int)-65+10 by omega] at this;rw[this,hx]
     have Ab:x<16 ^ (j+1):=by rw[hx];exact Aa _ (by omega)
     rw[show mI c=some (c-55) by unfold mI;rw[if_neg h1,if_neg h2,if_pos h3]] at hu;simp only[<-hx] at hu;have HU:=Hh hu;have Ac:=Hh Ab;clear hu hr Aa hm Ab hx;have HI:=Hh hi;clear hi;go_wp2_with fail;refine hN.mono ?_;clear hN;rintro e w1 ⟨rfl,hR1,hb1,hB1⟩;go_wp2;go_roundw
     case rel=>exact⟨j+1,x,by omega,rfl,by go_num,Ac.out,hR1,by omega,hb.trans hb1,hB.trans hB1,by rw[show 4-(j+1)=i by have:=HI.out;omega,HR.out];exact HU.out⟩
     case measure=>simp[intOf];omega
    ·rw[show mI c=none by unfold mI;rw[if_neg h1,if_neg h2,if_neg h3]] at hu
     have HU:=Hh hu;clear hu hr Aa hm hi;have h4:c<48\/(58<=c/\c<=64)\/(71<=c/\c<=96)\/103<=c:=by omega
     clear h1 h2 h3;rcases h4 with h4|h4|h4|h4
     all_goals
      go_wp2_with fail;refine hN.mono ?_;rintro e w1 ⟨rfl,hR1,hb1,hB1⟩;go_wp2_with fail;refine (ig 3 _).mono ?_;rintro e w2 ⟨rfl,rfl⟩;go_wp2;exact⟨rfl,.inr ⟨by rw[<-HU.out];simp,by rw[<-HU.out];rfl,hb.trans hb1⟩⟩
  ·obtain rfl:j=4:=by omega
   simp only[Nat.sub_self,gY] at hu;have HU:=Hh hu;clear hu hm;go_wp2;go_ret;exact .inl ⟨by rw[<-HU.out],by rw[<-HU.out];rfl,hR,hb,hB⟩
def un(l:List Nat):List UInt8:=l.map UInt8.ofNat
theorem Hl(a b:List Nat):un (a++b)=un a++un b:=by simp[un]
theorem cz.wrote{w:World}{g:Nat}{s:ByteArray}{k:Nat}{l':List UInt8}{w':World}{cs:Array Value}(h5:cs.size=4)(h6:cs[0]?=some (.string s))(h7:cs[1]?=some (.int .i64 (k:Int)))
  (h:∃cs',F5 180 g w' g 2 cs' l'/\BL g 2 cs cs'/\Below g w w'/\bD 5 g w w'):cz w' g s k l'/\Below g w w'/\bD 5 g w w':=by
 obtain⟨cs',hb,⟨h1,h2,h3⟩,h8,h9⟩:=h;exact⟨⟨cs',hb,by rw[h1,h5],by rw[h2 0 (by omega) (by omega)];exact h6,by rw[h2 1 (by omega) (by omega)];exact h7⟩,h8,h9⟩
theorem Mv(w:World)(g:Nat)(s:ByteArray)(k:Nat)(l:List UInt8)(c:Nat)(n:Int)(hn:n=(c:Int))(hc:c<256)(h:cz w g s k l)(hl:l.length<=100000000) :
  Calls Tryz.prog 183 #[.pointer (some ⟨g,2,none⟩),.int .u8 n] w fun e w'=>e=.returned .nilIface/\cz w' g s k (l++un [c])/\Below g w w'/\bD 5 g w w':=by
 obtain⟨cs,hb,h5,h6,h7⟩:=h;refine (zf w (UInt8.ofNat c) n (by rw[hn,UInt8.toNat_ofNat'];omega) hb (by rw[h5];exact PT) lz (by omega)).mono ?_;rintro e w' ⟨rfl,hh⟩;exact⟨rfl,cz.wrote h5 h6 h7 hh⟩
theorem Pn(w:World)(g:Nat)(s:ByteArray)(k:Nat)(l:List UInt8)(x:ByteArray)(h:cz w g s k l)(hl:l.length+x.size<=100000000) :
  Calls Tryz.prog 113 #[.pointer (some ⟨g,2,none⟩),.string x] w fun e w'=>e=.returned (.tuple #[.int .i64 x.size,.nilIface])/\cz w' g s k (l++x.data.toList)/\Below g w w'/\bD 5 g w w':=by
 obtain⟨cs,hb,h5,h6,h7⟩:=h;refine (oJ w x hb (by rw[h5];exact PT) lz (by omega)).mono ?_;rintro e w' ⟨rfl,hh⟩;exact⟨rfl,cz.wrote h5 h6 h7 hh⟩
def NL(g:Nat)(s:ByteArray)(w:World)(v:Value)(k0:Nat)(l:List UInt8)(q:nR)(e:Ending)(w':World):Prop:=
 (q.2.2=0/\OH g s w v (k0+q.2.1) (l++un q.1) e w')\/(q.2.2≠0/\El g w (q.2.2:Nat) e w')
theorem lH(l:List UInt8):(bf l).size=l.length:=by simp[bf,ByteArray.size]
theorem bD.of_below{E:TypeId}{g:Nat}{w w':World}(h:Below w.heap.size w w'):bD E g w w':=
 ⟨h.size,fun k o _ ho _=>(h.block k (Array.getElem?_eq_some_iff.1 ho).1).trans ho⟩
theorem cz.below{w w':World}{g:Nat}{s:ByteArray}{k:Nat}{l:List UInt8}(h:cz w g s k l)(hb:Below w.heap.size w w'):cz w' g s k l:=by
 obtain⟨cs,⟨h1,h2,v,h3,h4⟩,h5⟩:=h;exact⟨cs,⟨h1.below hb h1.lt,h2,v,h3,h4.below hb lz⟩,h5⟩
theorem Fj(w:World)(g:Nat)(s:ByteArray)(k:Nat)(l:List UInt8)(h:cz w g s (k+2) l)(hk:k+2<=s.size)(hs:s.size<=1048576)(hl:l.length<=9000000) :
  Calls Tryz.prog 208 #[.pointer (some ⟨g,0,none⟩)] w (NL g s w (.tuple #[]) k l (aN ((bs s).drop (k+2)))):=by
 have h4:=DN w g s (k+2) l h hk hs;have Aq:g<=w.heap.size:=Nat.le_of_lt h.lt;obtain⟨r,hr⟩:=exq ((bs s).drop (k+2));rw[<-hr] at h4 ⊢
 by_cases hu:(aJ r).2=0
 ·obtain⟨Ak,Ar⟩:=jl hu
  obtain⟨n,hn⟩:=exq ((aJ r).1);have Au:k+6<=s.size:=by rw[hr] at Ak;simp[ax] at Ak;omega
  rw[<-hn] at Ar
  have Ab:Calls Tryz.prog 226 #[.pointer (some ⟨g,0,none⟩)] w (OH g s w (.int .i64 (n:Int)) (k+2+4) l):=h4.mono fun e w' h=>by
   rcases h with ⟨_,h⟩|⟨h,_⟩
   ·rwa [hn]
   ·exact absurd hu h
  by_cases h1:56320<=n/\n<=57343
  ·have HC:Hid (aN r=aD 3):=Hh (by unfold aN;rw[if_neg (by simp[hu]),if_pos (by rw[<-hn];exact h1)])
   clear h4 hu hn hr Ak;go_enter Tryz.func208,Tryz.ntmps208;go_wp2_with fail;refine Ab.mono ?_;rintro e w1 ⟨rfl,hR1,hb1,hB1⟩;go_wp2_with fail;refine (ig 3 _).mono ?_;rintro e w2 ⟨rfl,rfl⟩;go_wp2;exact⟨rfl,.inr ⟨by rw[HC.out];simp[aD],by rw[HC.out];rfl,hb1⟩⟩
  ·by_cases h2:n<55296\/57343<n
   ·have HC:Hid (aN r=(fM n,6,0)):=Hh (by unfold aN;rw[if_neg (by simp[hu]),if_neg (by rw[<-hn];exact h1),if_pos (by rw[<-hn];exact h2),<-hn])
    have hP:=fun W=>BO n W (by rw[dm];omega);have Av:(bf (gm n)).size<=4:=by rw[lH,jm];exact (pX n).2
    clear h4 hu hn hr Ak;rcases h2 with h2|h2
    all_goals
     go_enter Tryz.func208,Tryz.ntmps208;go_wp2_with fail;refine Ab.mono ?_;rintro e w1 ⟨rfl,hR1,hb1,hB1⟩;go_wp2_with fail;refine (hP _).mono ?_;rintro e w2 ⟨rfl,hb2⟩;have Aa:=hR1.below hb2;have Aw:=hb2.size;have An:=hR1.lt;go_wp2_with fail;refine (Pn w2 g s _ l _ Aa (by omega)).mono ?_;rintro e w3 ⟨rfl,hR3,hb3,hB3⟩;go_wp2;go_end0
     exact .inl ⟨by rw[HC.out],by rw[HC.out];exact⟨rfl,hR3,(hb1.trans (hb2.mono (by omega))).trans hb3,(hB1.trans (bD.of_below hb2)).trans hB3⟩⟩
   ·have Ag:Hid (aN r=iR n (r.drop 4)):=Hh (by unfold aN;rw[if_neg (by simp[hu]),if_neg (by rw[<-hn];exact h1),if_neg (by rw[<-hn];exact h2),<-hn])
    have Af:r.drop 4=(bs s).drop (k+6):=by rw[hr,List.drop_drop]
    have Am:55296<=n/\n<=56319:=by omega
    have b1:decide ((56320:Int)<=(n:Int))=false:=by simp;omega
    have b2:decide ((55296:Int)<=(n:Int))=true:=by simp;omega
    have b3:decide ((n:Int)<=56319)=true:=by simp;omega
    have Ap:=Hh Am;clear h4 hu hn Ak h1 h2 Ar;have HR:=Hh hr;clear hr Am
    cases hq:(bs s).drop (k+6) with
    |nil=>
     have HC:Hid (aN r=aD 2):=Hh (by rw[Ag.out,Af,hq];rfl);have hN:=fun W h=>lw W g s (k+2+4) l h (by omega) hq hs;clear hq Af;go_enter Tryz.func208,Tryz.ntmps208;go_wp2_with fail;refine Ab.mono ?_;rintro e w1 ⟨rfl,hR1,hb1,hB1⟩;go_wp2_with fail;refine (hN _ hR1).mono ?_;rintro e w2 ⟨rfl,hb2⟩;go_wp2;exact⟨rfl,.inr ⟨by rw[HC.out];simp[aD],by rw[HC.out];rfl,hb1.trans hb2⟩⟩
    |cons c t=>
     have hN:=fun W h=>jX W g s (k+2+4) l h hq hs;have hc:c<256:=fI c (List.mem_of_mem_drop (by rw[hq];simp))
     by_cases hc92:c=92
     ·subst hc92
      obtain⟨hd,As⟩:=gK hq;rw[ax] at As;have Ac:r.drop 4=92::t:=by rw[Af,hq]
      cases ht:t with
      |nil=>
       have HC:Hid (aN r=aD 2):=Hh (by rw[Ag.out,Ac,ht];rfl);have Ai:=fun W h=>lw W g s (k+2+4+1) l h (by omega) (by rw[<-ht];exact hd) hs;clear hq Af Ac ht hd;go_enter Tryz.func208,Tryz.ntmps208;go_wp2_with fail;refine Ab.mono ?_;rintro e w1 ⟨rfl,hR1,hb1,hB1⟩;go_wp2_with fail;refine (hN _ hR1).mono ?_;rintro e w2 ⟨rfl,Aa,hb2,hB2⟩;go_wp2_with fail;refine (Ai _ Aa).mono ?_;rintro e w3 ⟨rfl,hb3⟩;go_wp2;exact⟨rfl,.inr ⟨by rw[HC.out];simp[aD],by rw[HC.out];rfl,(hb1.trans hb2).trans hb3⟩⟩
      |cons d u=>
       subst ht;have Ai:=fun W h=>jX W g s (k+2+4+1) l h hd hs;have A1:d<256:=fI d (List.mem_of_mem_drop (by rw[hd];simp));obtain⟨he,At⟩:=gK hd;rw[ax] at At
       by_cases hd117:d=117
       ·subst hd117
        have hF:=fun W h=>DN W g s (k+2+4+1+1) l h (by omega) hs;rw[show (bs s).drop (k+2+4+1+1)=u from he] at hF;clear hq Af he hd
        by_cases hm:(aJ u).2=0
        ·obtain⟨A2,Ao⟩:=jl hm
         obtain⟨m,Ah⟩:=exq ((aJ u).1)
         have Al:∀W,cz W g s (k+2+4+1+1) l->Calls Tryz.prog 226 #[.pointer (some ⟨g,0,none⟩)] W (OH g s W (.int .i64 (m:Int)) (k+2+4+1+1+4) l):=fun W h=>(hF W h).mono fun e w' h=>by
          rcases h with ⟨_,h⟩|⟨h,_⟩
          ·rwa [Ah]
          ·exact absurd hm h
         rw[<-Ah] at Ao;clear hF
         by_cases hlow:m<56320\/57343<m
         ·have HC:Hid (aN r=aD 3):=Hh (by rw[Ag.out,Ac];simp only[iR];rw[if_neg (by simp),if_neg (by simp),if_neg (by simp[hm]),if_pos (by rw[<-Ah];exact hlow)])
          clear Ac hm Ah;have Ad:=Hh hlow;clear hlow Ao
          ·go_enter Tryz.func208,Tryz.ntmps208
           go_wp2_with fail;refine Ab.mono ?_;rintro e w1 ⟨rfl,hR1,hb1,hB1⟩;go_wp2_with fail;refine (hN _ hR1).mono ?_;rintro e w2 ⟨rfl,Aa,hb2,hB2⟩;go_wp2_with fail;refine (Ai _ Aa).mono ?_;rintro e w3 ⟨rfl,hR3,hb3,hB3⟩;go_wp2_with fail;refine (Al _ hR3).mono ?_;rintro e w4 ⟨rfl,hR4,hb4,hB4⟩
           have Aj:(decide ((m:Int)<56320)=true)\/(decide ((m:Int)<56320)=false/\decide ((57343:Int)<(m:Int))=true):=by
            rcases Ad.out with hlow|hlow
            ·exact .inl (by simp;omega)
            ·exact .inr ⟨by simp;omega,by simp;omega⟩
           rcases Aj with hlow|⟨hlow,hlow3⟩
           all_goals
            go_wp2_with fail;refine (ig 3 _).mono ?_;rintro e w5 ⟨rfl,rfl⟩;go_wp2;exact⟨rfl,.inr ⟨by rw[HC.out];simp[aD],by rw[HC.out];rfl,((hb1.trans hb2).trans hb3).trans hb4⟩⟩
         ·obtain⟨x,hx⟩:=exq (65536+(n-55296)*1024+(m-56320))
          have HC:Hid (aN r=(fM x,12,0)):=Hh (by rw[Ag.out,Ac];simp only[iR];rw[if_neg (by simp),if_neg (by simp),if_neg (by simp[hm]),if_neg (by rw[<-Ah];exact hlow),hx,Ah]);have hP:=fun W=>BO x W (by have:=Ap.out;rw[dm];omega);have Av:(bf (gm x)).size<=4:=by rw[lH,jm];exact (pX x).2
          have Ae:56320<=m/\m<=57343:=by omega
          have Ad:=Hh Ae;have Am:=Ap.out;have E1:=Jh (show (0:Int)<=(n:Int)-55296/\(n:Int)-55296<=1023 by omega) (And.intro (show (0:Int)<=(m:Int)-56320/\(m:Int)-56320<=1023 by omega) (show (65536:Int)+1024*((n:Int)-55296)+((m:Int)-56320)=(x:Int) by omega));clear Ac hm Ah hx hlow Ae Ao Am;go_enter Tryz.func208,Tryz.ntmps208;go_wp2_with fail;refine Ab.mono ?_;rintro e w1 ⟨rfl,hR1,hb1,hB1⟩;go_wp2_with fail;refine (hN _ hR1).mono ?_;rintro e w20 ⟨rfl,hR20,hb20,hB20⟩;go_wp2_with fail;refine (Ai _ hR20).mono ?_;rintro e w30 ⟨rfl,hR30,hb30,hB30⟩;go_wp2_with fail;refine (Al _ hR30).mono ?_;rintro e w40 ⟨rfl,hR40,hb40,hB40⟩;have Az:decide ((m:Int)<56320)=false:=by have:=Ad.out;simp;omega
          have A0:decide ((57343:Int)<(m:Int))=false:=by have:=Ad.out;simp;omega
          obtain⟨e1,e2,A3⟩:=E1.out;go_wp2_with fail;refine (hP _).mono ?_;rintro e w2 ⟨rfl,hb2⟩;have Aa:=hR40.below hb2;have Aw:=hb2.size;have An:=hR40.lt;go_wp2_with fail;refine (Pn w2 g s _ l _ Aa (by omega)).mono ?_;rintro e w3 ⟨rfl,hR3,hb3,hB3⟩;go_wp2;go_end0
          exact .inl ⟨by rw[HC.out],by rw[HC.out];exact⟨rfl,hR3,((((hb1.trans hb20).trans hb30).trans hb40).trans (hb2.mono (by omega))).trans hb3,((((hB1.trans hB20).trans hB30).trans hB40).trans (bD.of_below hb2)).trans hB3⟩⟩
        ·have HC:Hid (aN r=aD (aJ u).2):=Hh (by rw[Ag.out,Ac];simp only[iR];rw[if_neg (by simp),if_neg (by simp),if_pos (by simpa using hm)])
         have Al:∀W,cz W g s (k+2+4+1+1) l->Calls Tryz.prog 226 #[.pointer (some ⟨g,0,none⟩)] W (El g W ((aJ u).2:Nat)):=fun W h=>(hF W h).mono fun e w' h=>by
          rcases h with ⟨h,_⟩|⟨_,h⟩
          ·exact absurd h hm
          ·exact h
         clear hF Ac;go_enter Tryz.func208,Tryz.ntmps208;go_wp2_with fail;refine Ab.mono ?_;rintro e w1 ⟨rfl,hR1,hb1,hB1⟩;go_wp2_with fail;refine (hN _ hR1).mono ?_;rintro e w2 ⟨rfl,Aa,hb2,hB2⟩;go_wp2_with fail;refine (Ai _ Aa).mono ?_;rintro e w3 ⟨rfl,hR3,hb3,hB3⟩;go_wp2_with fail;refine (Al _ hR3).mono ?_;rintro e w4 ⟨rfl,hb4⟩;go_wp2;exact⟨rfl,.inr ⟨by rw[HC.out];exact hm,by rw[HC.out];rfl,((hb1.trans hb2).trans hb3).trans hb4⟩⟩
       ·have HC:Hid (aN r=aD 3):=Hh (by rw[Ag.out,Ac];simp only[iR];rw[if_neg (by simp),if_pos (by simpa using hd117)])
        have Ay:((d:Int) != 117)=true:=by rw[bne_iff_ne];omega
        clear hq Af Ac hd he hd117;go_enter Tryz.func208,Tryz.ntmps208;go_wp2_with fail;refine Ab.mono ?_;rintro e w1 ⟨rfl,hR1,hb1,hB1⟩;go_wp2_with fail;refine (hN _ hR1).mono ?_;rintro e w2 ⟨rfl,Aa,hb2,hB2⟩;go_wp2_with fail;refine (Ai _ Aa).mono ?_;rintro e w3 ⟨rfl,hR3,hb3,hB3⟩;go_wp2_with fail;refine (ig 3 _).mono ?_;rintro e w4 ⟨rfl,rfl⟩;go_wp2;exact⟨rfl,.inr ⟨by rw[HC.out];simp[aD],by rw[HC.out];rfl,(hb1.trans hb2).trans hb3⟩⟩
     ·have HC:Hid (aN r=aD 3):=Hh (by rw[Ag.out,Af,hq];simp only[iR];rw[if_pos (by simpa using hc92)])
      have Ax:((c:Int) != 92)=true:=by rw[bne_iff_ne];omega
      clear hq Af hc92;go_enter Tryz.func208,Tryz.ntmps208;go_wp2_with fail;refine Ab.mono ?_;rintro e w1 ⟨rfl,hR1,hb1,hB1⟩;go_wp2_with fail;refine (hN _ hR1).mono ?_;rintro e w2 ⟨rfl,Aa,hb2,hB2⟩;go_wp2_with fail;refine (ig 3 _).mono ?_;rintro e w3 ⟨rfl,rfl⟩;go_wp2;exact⟨rfl,.inr ⟨by rw[HC.out];simp[aD],by rw[HC.out];rfl,hb1.trans hb2⟩⟩
 ·have Ab:Calls Tryz.prog 226 #[.pointer (some ⟨g,0,none⟩)] w (El g w ((aJ r).2:Nat)):=h4.mono fun e w' h=>by
   rcases h with ⟨h,_⟩|⟨_,h⟩
   ·exact absurd h hu
   ·exact h
  have HC:Hid (aN r=aD (aJ r).2):=Hh (by unfold aN;rw[if_pos (by simpa using hu)]);clear h4;have HR:=Hh hr;clear hr;go_enter Tryz.func208,Tryz.ntmps208;go_wp2_with fail;refine Ab.mono ?_;rintro e w1 ⟨rfl,hb1⟩;go_wp2;exact⟨rfl,.inr ⟨by rw[HC.out];exact hu,by rw[HC.out];rfl,hb1⟩⟩
theorem FM(w:World)(g:Nat)(s:ByteArray)(k:Nat)(l:List UInt8)(h:cz w g s (k+1) l)(hk:k+1<=s.size)(hs:s.size<=1048576)(hl:l.length<=9000000) :
  Calls Tryz.prog 182 #[.pointer (some ⟨g,0,none⟩)] w (NL g s w (.tuple #[]) k l (lW ((bs s).drop (k+1)))):=by
 obtain⟨r,hr⟩:=exq ((bs s).drop (k+1));rw[<-hr]
 cases hq:r with
 |nil=>
  have hN:=fun W h=>lw W g s (k+1) l h hk (by rw[<-hr];exact hq) hs;have HC:Hid (lW r=aD 2):=Hh (by rw[hq];rfl);rw[<-hq];have HR:=Hh hr;clear hq hr;go_enter Tryz.func182,Tryz.ntmps182;go_wp2_with fail;refine (hN _ h).mono ?_;rintro e w1 ⟨rfl,hb1⟩;go_wp2;exact⟨rfl,.inr ⟨by rw[HC.out];simp[aD],by rw[HC.out];rfl,hb1⟩⟩
 |cons c t=>
  rw[<-hq];have Aa:(bs s).drop (k+1)=c::t:=by rw[<-hr];exact hq
  have hN:=fun W h=>jX W g s (k+1) l h Aa hs;have hc:c<256:=fI c (List.mem_of_mem_drop (by rw[Aa];simp));have HR:=Hh hr;clear hr
  by_cases hc34:c=34
  ·subst hc34
   have HC:Hid (lW r=([34],2,0)):=Hh (by rw[hq];rfl);clear hq Aa;go_enter Tryz.func182,Tryz.ntmps182;go_wp2_with fail;refine (hN _ h).mono ?_;rintro e w1 ⟨rfl,hR1,hb1,hB1⟩;go_wp2_with fail;refine (Mv w1 g s _ l 34 _ (by first|rfl|decide) (by omega) hR1 (by omega)).mono ?_;rintro e w2 ⟨rfl,hR2,hb2,hB2⟩;go_wp2;go_end0
   exact .inl ⟨by rw[HC.out],by rw[HC.out];exact⟨rfl,hR2,hb1.trans hb2,hB1.trans hB2⟩⟩
  by_cases hc92:c=92
  ·subst hc92
   have HC:Hid (lW r=([92],2,0)):=Hh (by rw[hq];rfl);clear hq Aa;go_enter Tryz.func182,Tryz.ntmps182;go_wp2_with fail;refine (hN _ h).mono ?_;rintro e w1 ⟨rfl,hR1,hb1,hB1⟩;go_wp2_with fail;refine (Mv w1 g s _ l 92 _ (by first|rfl|decide) (by omega) hR1 (by omega)).mono ?_;rintro e w2 ⟨rfl,hR2,hb2,hB2⟩;go_wp2;go_end0
   exact .inl ⟨by rw[HC.out],by rw[HC.out];exact⟨rfl,hR2,hb1.trans hb2,hB1.trans hB2⟩⟩
  by_cases hc47:c=47
  ·subst hc47
   have HC:Hid (lW r=([47],2,0)):=Hh (by rw[hq];rfl);clear hq Aa;go_enter Tryz.func182,Tryz.ntmps182;go_wp2_with fail;refine (hN _ h).mono ?_;rintro e w1 ⟨rfl,hR1,hb1,hB1⟩;go_wp2_with fail;refine (Mv w1 g s _ l 47 _ (by first|rfl|decide) (by omega) hR1 (by omega)).mono ?_;rintro e w2 ⟨rfl,hR2,hb2,hB2⟩;go_wp2;go_end0
   exact .inl ⟨by rw[HC.out],by rw[HC.out];exact⟨rfl,hR2,hb1.trans hb2,hB1.trans hB2⟩⟩
  by_cases hc98:c=98
  ·subst hc98
   have HC:Hid (lW r=([8],2,0)):=Hh (by rw[hq];rfl);clear hq Aa;go_enter Tryz.func182,Tryz.ntmps182;go_wp2_with fail;refine (hN _ h).mono ?_;rintro e w1 ⟨rfl,hR1,hb1,hB1⟩;go_wp2_with fail;refine (Mv w1 g s _ l 8 _ (by first|rfl|decide) (by omega) hR1 (by omega)).mono ?_;rintro e w2 ⟨rfl,hR2,hb2,hB2⟩;go_wp2;go_end0
   exact .inl ⟨by rw[HC.out],by rw[HC.out];exact⟨rfl,hR2,hb1.trans hb2,hB1.trans hB2⟩⟩
  by_cases hc102:c=102
  ·subst hc102
   have HC:Hid (lW r=([12],2,0)):=Hh (by rw[hq];rfl);clear hq Aa;go_enter Tryz.func182,Tryz.ntmps182;go_wp2_with fail;refine (hN _ h).mono ?_;rintro e w1 ⟨rfl,hR1,hb1,hB1⟩;go_wp2_with fail;refine (Mv w1 g s _ l 12 _ (by first|rfl|decide) (by omega) hR1 (by omega)).mono ?_;rintro e w2 ⟨rfl,hR2,hb2,hB2⟩;go_wp2;go_end0
   exact .inl ⟨by rw[HC.out],by rw[HC.out];exact⟨rfl,hR2,hb1.trans hb2,hB1.trans hB2⟩⟩
  by_cases hc110:c=110
  ·subst hc110
   have HC:Hid (lW r=([10],2,0)):=Hh (by rw[hq];rfl);clear hq Aa;go_enter Tryz.func182,Tryz.ntmps182;go_wp2_with fail;refine (hN _ h).mono ?_;rintro e w1 ⟨rfl,hR1,hb1,hB1⟩;go_wp2_with fail;refine (Mv w1 g s _ l 10 _ (by first|rfl|decide) (by omega) hR1 (by omega)).mono ?_;rintro e w2 ⟨rfl,hR2,hb2,hB2⟩;go_wp2;go_end0
   exact .inl ⟨by rw[HC.out],by rw[HC.out];exact⟨rfl,hR2,hb1.trans hb2,hB1.trans hB2⟩⟩
  by_cases hc114:c=114
  ·subst hc114
   have HC:Hid (lW r=([13],2,0)):=Hh (by rw[hq];rfl);clear hq Aa;go_enter Tryz.func182,Tryz.ntmps182;go_wp2_with fail;refine (hN _ h).mono ?_;rintro e w1 ⟨rfl,hR1,hb1,hB1⟩;go_wp2_with fail;refine (Mv w1 g s _ l 13 _ (by first|rfl|decide) (by omega) hR1 (by omega)).mono ?_;rintro e w2 ⟨rfl,hR2,hb2,hB2⟩;go_wp2;go_end0
   exact .inl ⟨by rw[HC.out],by rw[HC.out];exact⟨rfl,hR2,hb1.trans hb2,hB1.trans hB2⟩⟩
  by_cases hc116:c=116
  ·subst hc116
   have HC:Hid (lW r=([9],2,0)):=Hh (by rw[hq];rfl);clear hq Aa;go_enter Tryz.func182,Tryz.ntmps182;go_wp2_with fail;refine (hN _ h).mono ?_;rintro e w1 ⟨rfl,hR1,hb1,hB1⟩;go_wp2_with fail;refine (Mv w1 g s _ l 9 _ (by first|rfl|decide) (by omega) hR1 (by omega)).mono ?_;rintro e w2 ⟨rfl,hR2,hb2,hB2⟩;go_wp2;go_end0
   exact .inl ⟨by rw[HC.out],by rw[HC.out];exact⟨rfl,hR2,hb1.trans hb2,hB1.trans hB2⟩⟩
  have Ac:yf c=none:=by
   unfold yf;rw[if_neg (by omega),if_neg hc98,if_neg hc102,if_neg hc110,if_neg hc114,if_neg hc116]
  by_cases hc117:c=117
  ·subst hc117
   obtain⟨Ad,Ae⟩:=gK Aa;rw[ax] at Ae;have Ab:=fun W h=>Fj W g s k l h (by omega) hs hl;rw[show (bs s).drop (k+2)=t from Ad] at Ab;have HC:Hid (lW r=aN t):=Hh (by rw[hq];rfl);clear hq Aa Ac Ad hc34 hc92 hc47 hc98 hc102 hc110 hc114 hc116;go_enter Tryz.func182,Tryz.ntmps182;go_wp2_with fail;refine (hN _ h).mono ?_;rintro e w1 ⟨rfl,hR1,hb1,hB1⟩;go_wp2_with fail;refine (Ab _ hR1).mono ?_;rintro e w2 (⟨h0,rfl,hR2,hb2,hB2⟩|⟨h0,rfl,hb2⟩)
   ·have H0:=Hh h0
    clear h0;go_wp2;go_end0
    exact .inl ⟨by rw[HC.out];exact H0.out,by rw[HC.out];exact⟨rfl,hR2,hb1.trans hb2,hB1.trans hB2⟩⟩
   ·have H0:=Hh h0
    clear h0;go_wp2;exact⟨rfl,.inr ⟨by rw[HC.out];exact H0.out,by rw[HC.out];exact⟨rfl,hb1.trans hb2⟩⟩⟩
  ·have HC:Hid (lW r=aD 3):=Hh (by rw[hq];simp only[lW,Ac,if_neg hc117])
   have b1:((c:Int)==34)=false:=by rw[beq_eq_false_iff_ne];omega
   have b2:((c:Int)==92)=false:=by rw[beq_eq_false_iff_ne];omega
   have b3:((c:Int)==47)=false:=by rw[beq_eq_false_iff_ne];omega
   have b4:((c:Int)==98)=false:=by rw[beq_eq_false_iff_ne];omega
   have b5:((c:Int)==102)=false:=by rw[beq_eq_false_iff_ne];omega
   have b6:((c:Int)==110)=false:=by rw[beq_eq_false_iff_ne];omega
   have b7:((c:Int)==114)=false:=by rw[beq_eq_false_iff_ne];omega
   have b8:((c:Int)==116)=false:=by rw[beq_eq_false_iff_ne];omega
   have b9:((c:Int)==117)=false:=by rw[beq_eq_false_iff_ne];omega
   clear hq Aa Ac hc34 hc92 hc47 hc98 hc102 hc110 hc114 hc116 hc117;go_enter Tryz.func182,Tryz.ntmps182;go_wp2_with fail;refine (hN _ h).mono ?_;rintro e w1 ⟨rfl,hR1,hb1,hB1⟩;go_wp2_with fail;refine (ig 3 _).mono ?_;rintro e w2 ⟨rfl,rfl⟩;go_wp2;exact⟨rfl,.inr ⟨by rw[HC.out];simp[aD],by rw[HC.out];rfl,hb1⟩⟩
def uG(n:Nat):Int:=if n=0 then 0 else if n=1 then 192 else if n=2 then 224 else 240
def rU:List Nat->Int->Int
 |[],c=>c
 |b::r,c=>rU r (c*64+b-128)
def iH:List Nat->Int
 |[]=>0
 |a::r=>rU r (a-uG r.length)
theorem zY{c:Nat}(h:j4 c=true):iH (fM c)=c:=by
 rw[dm] at h;unfold fM
 by_cases h1:c<128
 ·simp[h1,iH,rU,uG]
 by_cases h2:c<2048
 ·rw[if_neg h1,if_pos h2]
  show (((192+c / 64:Nat):Int)-192)*64+((128+c % 64:Nat):Int)-128=c;omega
 by_cases h3:c<65536
 ·rw[if_neg h1,if_neg h2,if_pos h3]
  show ((((224+c / 4096:Nat):Int)-224)*64+((128+c / 64 % 64:Nat):Int)-128)*64+((128+c % 64:Nat):Int)-128=c;omega
 ·rw[if_neg h1,if_neg h2,if_neg h3]
  show (((((240+c / 262144:Nat):Int)-240)*64+((128+c / 4096 % 64:Nat):Int)-128)*64+((128+c / 64 % 64:Nat):Int)-128)*64+((128+c % 64:Nat):Int)-128=c;omega
theorem Jg{l:List Nat}(hl:∀x∈l,x<256){n:Nat}(h1:1<=n)(h2:n<=l.length):((aF l).2=n)↔(kE (iH (l.take n))=true/\fM (iH (l.take n)).toNat=l.take n):=by
 constructor
 ·intro h
  obtain⟨c,m,h3⟩:∃c m,aF l=(c,m):=⟨_,_,rfl⟩;rw[h3] at h;simp only at h;subst h;obtain⟨g1,g2,g3,g4⟩:=kw hl h3 (by omega);have hg:iH (l.take m)=c:=by rw[<-g3];exact zY g1
  rw[hg,fo];exact⟨g1,by simpa using g3⟩
 ·rintro⟨g1,g2⟩
  obtain⟨c,hc⟩:∃c:Nat,iH (l.take n)=c:=by
   refine⟨(iH (l.take n)).toNat,?_⟩;unfold kE at g1;simp at g1
   omega
  rw[hc] at g1 g2;rw[fo] at g1;simp only[Int.toNat_natCast] at g2;have hw:pY c=n:=by rw[<-wX,g2];simp;omega
  have:=Da g1 (l.drop n);rw[g2,List.take_append_drop] at this;rw[this,hw]
theorem Lb{l:List Nat}(hl:∀x∈l,x<256){n:Nat}(h1:1<=n)(h:(aF l).2=n):iH (l.take n)=(aF l).1:=by
 obtain⟨c,m,h3⟩:∃c m,aF l=(c,m):=⟨_,_,rfl⟩;rw[h3] at h ⊢;simp only at h ⊢;subst h;obtain⟨g1,g2,g3,g4⟩:=kw hl h3 (by omega);rw[<-g3];exact zY g1
def sJ(c:Int):List UInt8:=if kE c then gm c.toNat else []
theorem Iy(c:Int)(w:World)(h:kE c=false) :
  Calls Tryz.prog 150 #[.int .i64 c] w fun e w'=>e=.returned (.string (bf []))/\w=w':=by
 unfold kE at h
 by_cases h0:c<0
 ·clear h
  go_enter Tryz.func150,Tryz.ntmps150;go_wp2;go_ret;exact⟨rfl,rfl⟩
 ·by_cases h1:1114111<c
  ·have d0:decide (c<0)=false:=by simp;omega
   have d1:decide (1114111<c)=true:=by simp;omega
   clear h h0 h1;go_enter Tryz.func150,Tryz.ntmps150;go_wp2;go_ret;exact⟨rfl,rfl⟩
  ·have d0:decide (c<0)=false:=by simp;omega
   have d1:decide (1114111<c)=false:=by simp;omega
   have d2:decide (55296<=c)=true:=by simp at h;simp;omega
   have d3:decide (c<=57343)=true:=by simp at h;simp;omega
   clear h h0 h1;go_enter Tryz.func150,Tryz.ntmps150;go_wp2;go_ret;exact⟨rfl,rfl⟩
theorem Kj(c:Nat)(w:World)(h:j4 c=true) :
  Calls Tryz.prog 150 #[.int .i64 c] w fun e w'=>e=.returned (.string (bf (gm c)))/\Below w.heap.size w w':=by
 rw[dm] at h;have d0:decide ((c:Int)<0)=false:=by rw[decide_eq_false_iff_not];omega
 have d1:decide (1114111<(c:Int))=false:=by simp;omega
 have hg:decide (55296<=(c:Int))=false\/decide (55296<=(c:Int))=true/\decide ((c:Int)<=57343)=false:=by
  rcases h.2 with h|h
  ·exact .inl (by simp;omega)
  ·exact .inr ⟨by simp;omega,by simp;omega⟩
 by_cases h1:c<128
 ·have hp:gm c=[UInt8.ofNat c]:=by simp[gm,fM,h1]
  have Aa:=jw w [UInt8.ofNat c] #[.int .u8 c] 1 (gm c) hp (by simp[kV];omega) rfl;have e1:decide ((c:Int)<128)=true:=by simp;omega
  have hb:c<=127:=by omega
  clear hp h h1;rcases hg with d2|⟨d2,d3⟩
  all_goals
   go_enter Tryz.func150,Tryz.ntmps150;go_wp2;go_ret;exact⟨rfl,(Below.refl _ _).alloc lz _⟩
 have e1:decide ((c:Int)<128)=false:=by simp;omega
 by_cases h2:c<2048
 ·have hp:gm c=[UInt8.ofNat (192+c / 64),UInt8.ofNat (128+c % 64)]:=by simp[gm,fM,h1,h2]
  have Aa:=jw w [UInt8.ofNat (192+c / 64),UInt8.ofNat (128+c % 64)] #[.int .u8 (192+(c:Int) / 64),.int .u8 (128+(c:Int) % 64)] 2 (gm c) hp (by simp[kV];omega) rfl;have e2:decide ((c:Int)<2048)=true:=by simp;omega
  have hb:c / 64<=31:=by omega
  clear hp h h1 h2;rcases hg with d2|⟨d2,d3⟩
  all_goals
   go_enter Tryz.func150,Tryz.ntmps150;go_wp2;go_ret;exact⟨rfl,(Below.refl _ _).alloc lz _⟩
 have e2:decide ((c:Int)<2048)=false:=by simp;omega
 by_cases h3:c<65536
 ·have hp:gm c=[UInt8.ofNat (224+c / 4096),UInt8.ofNat (128+c / 64 % 64),UInt8.ofNat (128+c % 64)]:=by simp[gm,fM,h1,h2,h3]
  have Aa:=jw w [UInt8.ofNat (224+c / 4096),UInt8.ofNat (128+c / 64 % 64),UInt8.ofNat (128+c % 64)] #[.int .u8 (224+(c:Int) / 4096),.int .u8 (128+(c:Int) / 64 % 64),.int .u8 (128+(c:Int) % 64)] 3 (gm c) hp (by simp[kV];omega) rfl;have e3:decide ((c:Int)<65536)=true:=by simp;omega
  have hb:c / 4096<=15:=by omega
  clear hp h h1 h2 h3;rcases hg with d2|⟨d2,d3⟩
  all_goals
   go_enter Tryz.func150,Tryz.ntmps150;go_wp2;go_ret;exact⟨rfl,(Below.refl _ _).alloc lz _⟩
 ·have e3:decide ((c:Int)<65536)=false:=by simp;omega
  have hp:gm c=[UInt8.ofNat (240+c / 262144),UInt8.ofNat (128+c / 4096 % 64),UInt8.ofNat (128+c / 64 % 64),UInt8.ofNat (128+c % 64)]:=by simp[gm,fM,h1,h2,h3]
  have Aa:=jw w [UInt8.ofNat (240+c / 262144),UInt8.ofNat (128+c / 4096 % 64),UInt8.ofNat (128+c / 64 % 64),UInt8.ofNat (128+c % 64)] #[.int .u8 (240+(c:Int) / 262144),.int .u8 (128+(c:Int) / 4096 % 64),.int .u8 (128+(c:Int) / 64 % 64),.int .u8 (128+(c:Int) % 64)] 4 (gm c) hp (by simp[kV];omega) rfl;have hb:c / 262144<=4:=by omega
  clear hp h h1 h2 h3;rcases hg with d2|⟨d2,d3⟩
  all_goals
   go_enter Tryz.func150,Tryz.ntmps150;go_wp2;go_ret;exact⟨rfl,(Below.refl _ _).alloc lz _⟩
theorem wV(c:Int)(w:World) :
  Calls Tryz.prog 150 #[.int .i64 c] w fun e w'=>e=.returned (.string (bf (sJ c)))/\Below w.heap.size w w':=by
 unfold sJ
 cases h:kE c with
 |false=>exact (Iy c w h).mono fun e w' ⟨h1,h2⟩=>⟨by rw[h1];rfl,by rw[<-h2];exact Below.refl _ _⟩
 |true=>
  obtain⟨n,rfl⟩:∃n:Nat,c=n:=⟨c.toNat,by unfold kE at h;simp at h;omega⟩;rw[fo] at h
  simpa using Kj n w h
theorem Ji(s:ByteArray)(l:List Nat)(w:World)(hl:bs s=l)(h1:1<=l.length)(h4:l.length<=4) :
  Calls Tryz.prog 149 #[.string s] w fun e w'=>e=.returned (.int .i64 (iH l))/\Below w.heap.size w w':=by
 have Ac:s.size=l.length:=by rw[<-ax,hl]
 have Aa:∀j (hj:j<l.length),∃h':j<s.size,(s[j]'h').toNat=l[j]:=fun j hj=>by
  have:=Am (s:=s) (i:=0) (l:=l) (by simpa using hl) hj
  simpa using this
 have Ab:∀x∈l,x<256:=by rw[<-hl];exact fI
 clear hl;rcases l with _|⟨a,_|⟨b,_|⟨c,_|⟨d,_|⟨f,r⟩⟩⟩⟩⟩
 ·simp at h1
 ·obtain⟨i0,e0⟩:=Aa 0 (by simp)
  simp only[List.getElem_cons_zero] at e0;have b0:=Ab a (by simp);simp only[List.length_cons,List.length_nil] at Ac;clear Aa Ab h1 h4;go_enter Tryz.func149,Tryz.ntmps149;go_wp2_with fail;go_quiet (fail)
  go_wp2_with fail;refine wp_loop_rounds 1 ?_;rw[rounds_succ];go_wp2;go_ret;refine⟨dW (by simp[iH,rU,uG]),?_⟩;exact ((Below.refl _ _).alloc lz _).trans (bL _ _ _)
 ·obtain⟨i0,e0⟩:=Aa 0 (by simp)
  obtain⟨i1,e1⟩:=Aa 1 (by simp);simp only[List.getElem_cons_zero,List.getElem_cons_succ] at e0 e1;have b0:=Ab a (by simp);have b1:=Ab b (by simp);simp only[List.length_cons,List.length_nil] at Ac;clear Aa Ab h1 h4;go_enter Tryz.func149,Tryz.ntmps149;go_wp2_with fail;go_quiet (fail)
  go_wp2_with fail;refine wp_loop_rounds 2 ?_;rw[rounds_succ];go_wp2_with fail;rw[rounds_succ];go_wp2;go_ret;refine⟨dW (by simp[iH,rU,uG]),?_⟩;exact ((Below.refl _ _).alloc lz _).trans (bL _ _ _)
 ·obtain⟨i0,e0⟩:=Aa 0 (by simp)
  obtain⟨i1,e1⟩:=Aa 1 (by simp);obtain⟨i2,e2⟩:=Aa 2 (by simp);simp only[List.getElem_cons_zero,List.getElem_cons_succ] at e0 e1 e2;have b0:=Ab a (by simp);have b1:=Ab b (by simp);have b2:=Ab c (by simp);simp only[List.length_cons,List.length_nil] at Ac;clear Aa Ab h1 h4;go_enter Tryz.func149,Tryz.ntmps149;go_wp2_with fail;go_quiet (fail)
  go_wp2_with fail;refine wp_loop_rounds 3 ?_;rw[rounds_succ];go_wp2_with fail;rw[rounds_succ];go_wp2_with fail;rw[rounds_succ];go_wp2;go_ret;refine⟨dW (by simp[iH,rU,uG]),?_⟩;exact ((Below.refl _ _).alloc lz _).trans (bL _ _ _)
 ·obtain⟨i0,e0⟩:=Aa 0 (by simp)
  obtain⟨i1,e1⟩:=Aa 1 (by simp);obtain⟨i2,e2⟩:=Aa 2 (by simp);obtain⟨i3,e3⟩:=Aa 3 (by simp);simp only[List.getElem_cons_zero,List.getElem_cons_succ] at e0 e1 e2 e3;have b0:=Ab a (by simp);have b1:=Ab b (by simp);have b2:=Ab c (by simp);have b3:=Ab d (by simp);simp only[List.length_cons,List.length_nil] at Ac;clear Aa Ab h1 h4;go_enter Tryz.func149,Tryz.ntmps149;go_wp2_with fail;go_quiet (fail)
  go_wp2_with fail;refine wp_loop_rounds 4 ?_;rw[rounds_succ];go_wp2_with fail;rw[rounds_succ];go_wp2_with fail;rw[rounds_succ];go_wp2_with fail;rw[rounds_succ];go_wp2;go_ret;refine⟨dW (by simp[iH,rU,uG]),?_⟩;exact ((Below.refl _ _).alloc lz _).trans (bL _ _ _)
 ·simp at h4
theorem FR{a b:ByteArray}(h:bs a=bs b):a=b:=by
 have h1:a.data.toList=b.data.toList:=by
  unfold bs at h;exact (List.map_inj_right (fun _ _=>UInt8.toNat_inj.1)).1 h
 exact ByteArray.ext (Array.toList_inj.1 h1)
theorem wC{a b:ByteArray}:(a.toList==b.toList)=true↔a=b:=by
 constructor
 ·intro h
  have h1:=beq_iff_eq.1 h;rw[ByteArray.toList_eq,ByteArray.toList_eq] at h1;exact ByteArray.ext (Array.toList_inj.1 h1)
 ·rintro rfl;simp
theorem rW(s:ByteArray)(i j:Nat):bs (s.extract i j)=((bs s).take j).drop i:=by
 unfold bs;rw[ByteArray.data_extract,Array.toList_extract,List.extract_eq_drop_take',<-List.map_take,<-List.map_drop]
theorem yw(l:List UInt8):bs (bf l)=l.map UInt8.toNat:=by simp[bs,bf]
theorem Mx{c:Nat}(h:c<=1114111):∀x∈fM c,x<256:=by
 intro x hx;unfold fM at hx;split at hx
 ·simp at hx;omega
 split at hx
 ·simp at hx;omega
 split at hx
 ·simp at hx;omega
 ·simp at hx;omega
theorem GV{c:Nat}(h:j4 c=true):bs (bf (gm c))=fM c:=by
 rw[dm] at h;have hp:=Mx h.1;rw[yw];unfold gm;rw[List.map_map]
 conv=>rhs;rw[<-List.map_id (fM c)]
 apply List.map_congr_left
 intro x hx;have:=hp x hx;simp[UInt8.toNat_ofNat']
 omega
theorem FI{s:ByteArray}{i k:Nat}(h1:1<=k)(h2:i+k<=s.size) :
  (bf (sJ (iH (((bs s).drop i).take k)))=s.extract i (i+k))↔(aF ((bs s).drop i)).2=k:=by
 have hl:∀x∈(bs s).drop i,x<256:=fun x hx=>fI x (List.mem_of_mem_drop hx);have Aa:k<=((bs s).drop i).length:=by simp[ax];omega
 have Ab:bs (s.extract i (i+k))=((bs s).drop i).take k:=by
  rw[rW,List.drop_take];congr 1;omega
 rw[Jg hl h1 Aa];generalize iH (((bs s).drop i).take k)=g;constructor
 ·intro h
  have h3:=congrArg bs h;rw[Ab] at h3;unfold sJ at h3
  cases hg:kE g with
  |false=>
   rw[hg] at h3;have:=congrArg List.length h3;simp[yw,ax] at this
   omega
  |true=>
   obtain⟨n,rfl⟩:∃n:Nat,g=n:=⟨g.toNat,by unfold kE at hg;simp at hg;omega⟩;rw[hg] at h3;rw[fo] at hg;simp only[if_true,Int.toNat_natCast] at h3 ⊢;rw[GV hg] at h3;exact⟨trivial,h3⟩
 ·rintro⟨hg,h3⟩
  apply FR
  rw[Ab,<-h3];unfold sJ;rw[hg];obtain⟨n,rfl⟩:∃n:Nat,g=n:=⟨g.toNat,by unfold kE at hg;simp at hg;omega⟩;rw[fo] at hg;simp only[if_true,Int.toNat_natCast];exact GV hg
theorem G8(s:ByteArray)(i:Nat)(w:World)(hs:s.size<=1048576)(hi:i<=s.size) :
  Calls Tryz.prog 120 #[.string s,.int .i64 i] w fun e w'=>e=.returned (.tuple #[.int .i64 (aF ((bs s).drop i)).1,.int .i64 (aF ((bs s).drop i)).2])/\Below w.heap.size w w':=by
 have Ad:∀x∈(bs s).drop i,x<256:=fun x hx=>fI x (List.mem_of_mem_drop hx);have Ac:=ko _ Ad;simp only[List.length_drop,ax] at Ac;have Ae:=Hh Ac;have Ak:=Hh Ad;clear Ac Ad;go_enter Tryz.func120,Tryz.ntmps120;go_wp2_with fail;go_loopw [6] (fun n wr=>∃k:Nat,n=.int .i64 k/\1<=k/\k<=5/\(∀m,1<=m->m<k->(aF ((bs s).drop i)).2≠m)/\Below w.heap.size w wr) (fun n _=>6-(intOf n).toNat)
 case atStart=>exact⟨1,rfl,by omega,by omega,fun m h1 h2=>by omega,Below.refl _ _⟩
 case round=>
  obtain⟨k,rfl,h1,h5,Ah,hb⟩:=hrel;have HN:=Hh Ah;clear Ah
  by_cases hk:k=5
  ·subst hk
   have h0:(aF ((bs s).drop i)).2=0:=by
    have h2:=Ae.out.2;have h3:=HN.out;rcases Nat.lt_or_ge (aF ((bs s).drop i)).2 1 with h|h
    ·omega
    ·exact absurd rfl (h3 _ h (by omega))
   have hc:=zJ (l:=(bs s).drop i) (c:=(aF ((bs s).drop i)).1) (n:=(aF ((bs s).drop i)).2) rfl h0;have H0:=Hh h0;have HC:=Hh hc;clear h0 hc;go_wp2;go_ret2
   rw[H0.out,HC.out];exact⟨rfl,hb⟩
  by_cases hsz:s.size<i+k
  ·have h0:(aF ((bs s).drop i)).2=0:=by
    have h2:=Ae.out.1;have h3:=HN.out;rcases Nat.lt_or_ge (aF ((bs s).drop i)).2 1 with h|h
    ·omega
    ·exact absurd rfl (h3 _ h (by omega))
   have hc:=zJ (l:=(bs s).drop i) (c:=(aF ((bs s).drop i)).1) (n:=(aF ((bs s).drop i)).2) rfl h0;have H0:=Hh h0;have HC:=Hh hc;have Ao:k<=4:=by omega
   clear h0 hc;go_wp2;go_ret2
   rw[H0.out,HC.out];exact⟨rfl,hb⟩
  have Ao:k<=4:=by omega
  have An:i+k<=s.size:=by omega
  clear hk hsz h5;have hz:=hb.size
  have Af:bs (s.extract i (i+k))=((bs s).drop i).take k:=by
   rw[rW,List.drop_take];congr 1;omega
  have hG:=Ji (s.extract i (i+k)) (((bs s).drop i).take k) wr Af (by simp[ax];omega) (by simp;omega);have Ai:=Hh (FI h1 An);have Am:=Hh (fun h=>Lb Ak.out h1 (n:=k) h);clear Af;go_wp2_with fail;refine hG.mono ?_;clear hG;rintro e w2 ⟨rfl,hb2'⟩;have Aa:=hb.trans (hb2'.mono hz);have Aj:=Aa.size;clear hb2';generalize iH (((bs s).drop i).take k)=g at *;go_wp2_with fail;refine oC w2 (by kernel_rfl) (by kernel_rfl) (Below.refl _ _) ?_;repeat (go_big_quiet_step ((go_at_call 150;exact jK.call _ (wV g _))))
  by_cases hyes:(aF ((bs s).drop i)).2=k
  ·have hq:((bf (sJ g)).toList==(s.extract i (i+k)).toList)=true:=wC.2 (Ai.out.2 hyes)
   have Ag:=Am.out hyes;have HY:=Hh hyes;have HG:=Hh Ag;rw[hq];refine wpQuiet_nil ?_;rintro _ ⟨x,rfl⟩;have Ab:=Aa.trans (x.below.mono Aj);clear hyes Ag hq;go_wp2;go_ret2
   rw[HY.out];exact⟨by rw[HG.out];rfl,Ab⟩
  ·have hq:((bf (sJ g)).toList==(s.extract i (i+k)).toList)=false:=by
    rw[Bool.eq_false_iff];exact fun h=>hyes (Ai.out.1 (wC.1 h))
   have Al:Hid (∀m,1<=m->m<k+1->(aF ((bs s).drop i)).2≠m):=by
    refine Hh (fun m m1 m2=>?_)
    by_cases hm:m=k
    ·subst hm;exact hyes
    ·exact HN.out m m1 (by omega)
   rw[hq];refine wpQuiet_nil ?_;rintro _ ⟨x,rfl⟩;have Ab:=Aa.trans (x.below.mono Aj);clear hyes hq;go_wp2;go_roundw
   case rel=>exact⟨k+1,by go_num,by omega,by omega,Al.out,Ab⟩
   case measure=>simp[intOf];omega
section
variable {w:World} {ops:Array Oper} {rest:List Oper} {o:Oper} {a:Act} {Q:Exit->Act->World->Prop}
end
end Go.Proofs.YtbcdaaobbebooaaGreatDoor
