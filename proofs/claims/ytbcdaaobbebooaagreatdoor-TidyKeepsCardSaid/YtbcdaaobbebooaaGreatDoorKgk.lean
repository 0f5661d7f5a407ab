import Derived.Test.YtbcdaaobbebooaaGreatDoorKgj
set_option linter.unusedSimpArgs false
set_option linter.unusedVariables false
set_option maxRecDepth 100000
set_option maxHeartbeats 20000000
namespace Go.Proofs.YtbcdaaobbebooaaGreatDoor
open Go.RowKit Go.Tab
theorem p8(w:World)(a b:Array Value)(T:TypeId):ae (((w.alloc (.cells a T)).alloc (.cells b T)).drew) w.heap.size a T/\ae (((w.alloc (.cells a T)).alloc (.cells b T)).drew) (w.heap.size+1) b T/\Below w.heap.size w (((w.alloc (.cells a T)).alloc (.cells b T)).drew):=by
 refine⟨((ae.new w a T).alloc _).drew,?_,((((Below.refl _ _).alloc lz _).alloc (by simp) _)).drew⟩;have h:=ae.new (w.alloc (.cells a T)) b T;simp only[World.size_alloc] at h;exact h.drew
theorem Stop.into{p:Prop}(h:Stop p):p:=h
theorem Jv(l:List ag):yC l 0=false:=rfl
theorem Jw{l:List ag}{k:Nat}(h:k<l.length):yC l (k+1)=if dB l[k] then yC l k else decide (l[k].kind=4)&&!aM l[k] [41,93]:=by
 unfold yC;rw[List.take_succ_eq_append_getElem h,List.reverse_append];rfl
theorem aQ{w w1 w2:World}(h:Below w.heap.size w w1)(h2:Below w1.heap.size w1 w2):Below w.heap.size w w2:=h.trans (h2.mono h.size)
theorem gZ(w:World)(t:ag):Below w.heap.size w (w.alloc (l5 t)):=(Below.refl _ w).alloc lz _
theorem FT(w:World)(lv:Value)(l:List ag)(h:aH w lv l)(i:Nat)(hi:i<=l.length)(hl:l.length<=1000000) :
  Calls Tryz.prog 35 #[lv,.int .i64 (i:Nat)] w fun e w'=>e=.returned (.bool (yC l i))/\Below w.heap.size w w':=by
 obtain⟨a,c,rfl,h1,h2,-⟩:=h.len;unfold maxLen at h2;have HT:=Hh h;clear h;go_enter Tryz.func35,Tryz.ntmps35;go_wp2_with fail;go_loopw [1] (fun v wr=>∃k:Nat,k<=i/\v=.int .i64 ((k:Int)-1)/\Hid (yC l k=yC l i)/\Below w.heap.size w wr) (fun v _=>(intOf v+1).toNat)
 case atStart=>exact⟨i,Nat.le_refl _,by go_num,Hh rfl,Below.refl _ _⟩
 case round=>
  obtain⟨k,hk,rfl,HA,hb⟩:=hrel;have HB:=Hh hb
  cases k with
  |zero=>
   clear hb;go_wp2_with fail;go_ret;rw[<-HA.out,Jv];exact⟨rfl,HB.out⟩
  |succ k=>
   have Ab:k<l.length:=by omega
   obtain⟨b,Ag,rfl,Af,q0,q1,q2⟩:=aH.get (HT.out.below hb lz) Ab;have hS:=Jw Ab;have Ae:IntKind.i64.wrap ((k:Int)-1)=(k:Int)-1:=IntWalk.i64_in _ (by omega);have Aa:((k+1:Nat):Int)-1=(k:Int):=by omega
   rw[Aa];generalize l[k]=t at *;have hC:=nI t wr;have hM:=fun W=>fq t ⟨#[41,93]⟩ W (by decide);have Ad:=jF t.kind 4;obtain⟨kd,tx,ps⟩:=t;simp only[jb] at hC hM q0 q1 q2 Ad;change ∀W,Calls Tryz.prog 33 _ W (fun e w'=>e=.returned (.bool (aM ⟨kd,tx,ps⟩ [41,93]))/\Below W.heap.size W w') at hM;simp only at hS;generalize dB ⟨kd,tx,ps⟩=cb at *;generalize aM ⟨kd,tx,ps⟩ [41,93]=ab at *;generalize decide (kd=4)=db at *;have HS:=Hh hS;clear hS hb Aa
   cases cb with
   |true=>
    go_wp2_with fail;refine hC.mono ?_;rintro _ _ ⟨rfl,rfl⟩;clear hC hM;go_wp2_with fail;go_roundw
    case rel=>exact⟨k,by omega,rfl,Hh (by rw[<-HA.out,HS.out];try rfl),HB.out.alloc HB.out.size _⟩
    case measure=>simp[intOf]<;>omega
   |false=>
    go_wp2_with fail;refine hC.mono ?_;rintro _ _ ⟨rfl,rfl⟩;clear hC
    cases db with
    |false=>
     go_wp2_with fail;go_ret;rw[<-HA.out,HS.out];exact⟨rfl,HB.out.alloc HB.out.size _⟩
    |true=>
     go_wp2_with fail;refine (hM _).mono ?_;rintro _ w4 ⟨rfl,hb4⟩;have Ac:=Hh (aQ (HB.out.alloc HB.out.size _) hb4);clear hM hb4;cases ab
     all_goals
      go_wp2_with fail;go_ret;rw[<-HA.out,HS.out];exact⟨rfl,Ac.out⟩
def PQ(w:World)(g h:Nat)(ka:Int)(ta:ByteArray)(pa kb:Int)(tb:ByteArray)(pb:Int):Prop:=∀W,Below w.heap.size w W->W.cell? ⟨g,0,none⟩=some (.int .i64 ka)/\W.cell? ⟨g,1,none⟩=some (.string ta)/\W.cell? ⟨g,2,none⟩=some (.int .i64 pa)/\
 W.cell? ⟨h,0,none⟩=some (.int .i64 kb)/\W.cell? ⟨h,1,none⟩=some (.string tb)/\W.cell? ⟨h,2,none⟩=some (.int .i64 pb)/\g<W.heap.size/\h<W.heap.size
theorem PQ.of{w:World}{g h:Nat}{ka:Int}{ta:ByteArray}{pa kb:Int}{tb:ByteArray}{pb:Int}(hA:ae w g #[.int .i64 ka,.string ta,.int .i64 pa] 63)(hB:ae w h #[.int .i64 kb,.string tb,.int .i64 pb] 63):PQ w g h ka ta pa kb tb pb:=fun W hW=>by
 have h1:=hA.below hW hA.lt;have h2:=hB.below hW hB.lt;exact⟨h1.cell 0 _ rfl,h1.cell 1 _ rfl,h1.cell 2 _ rfl,h2.cell 0 _ rfl,h2.cell 1 _ rfl,h2.cell 2 _ rfl,h1.lt,h2.lt⟩
abbrev kP(f:FuncId)(args:Array Value)(w:World)(v:Value):Prop:=∀W,Below w.heap.size w W->Calls Tryz.prog f args W fun e w'=>e=.returned v/\Below w.heap.size w w'
theorem kP.of{f:FuncId}{args:Array Value}{w:World}{v:Value}(h:∀W,Below w.heap.size w W->Calls Tryz.prog f args W fun e w'=>e=.returned v/\Below W.heap.size W w'):kP f args w v:=fun W hW=>(h W hW).mono fun e w' ⟨he,hb⟩=>⟨he,aQ hW hb⟩
theorem kP.tok{f:FuncId}{args:Array Value}{w:World}{v:Value}{t:ag}(h:∀W,Calls Tryz.prog f args W fun e w'=>e=.returned v/\w'=W.alloc (l5 t)):kP f args w v:=.of fun W _=>(h W).mono fun e w' ⟨he,hb⟩=>⟨he,by rw[hb];exact gZ _ _⟩
theorem Lc{l:List ag}{i:Nat}(h:l.length<=i):qE l i=0:=by
 cases i with
 |zero=>rfl
 |succ i=>
  rw[qE,List.getElem?_eq_none h];cases l[i]?<;>rfl
theorem Na{l:List ag}{i:Nat}(h:i+1<l.length):qE l (i+1)=DF (l[i]'(by omega)) l[i+1] (yC l i):=by
 rw[qE,List.getElem?_eq_getElem h,List.getElem?_eq_getElem (by omega)]
theorem IV(w:World)(lv:Value)(l:List ag)(h:aH w lv l)(hl:l.length<=1000000)(z:Int)(hz:(Lit.int .i64 z).wf=true) :
  Calls Tryz.prog 10 #[lv,.int .i64 z] w fun e w'=>e=.returned (.int .i64 (qE l z.toNat:Nat))/\Below w.heap.size w w':=by
 obtain⟨a,c,rfl,h1,h2,-⟩:=h.len;unfold maxLen at h2
 by_cases hz0:z<=0
 ·rw[show z.toNat=0 by omega]
  clear hz;go_enter Tryz.func10,Tryz.ntmps10;go_wp2_with fail;go_ret;exact⟨rfl,Below.refl _ _⟩
 ·by_cases hz1:(l.length:Int)<=z
  ·rw[Lc (by omega)]
   clear hz;go_enter Tryz.func10,Tryz.ntmps10;go_wp2_with fail;go_ret;exact⟨rfl,Below.refl _ _⟩
  ·obtain⟨i,rfl⟩:∃i:Nat,z=i+1:=⟨(z-1).toNat,by omega⟩
   have hi:i+1<l.length:=by omega
   rw[show ((i:Int)+1).toNat=i+1 by omega,Na hi];clear hz;obtain⟨b,As,rfl,Aq,q0,q1,q2⟩:=h.get (j:=i) (by omega);obtain⟨b',Ar,e',-,r0,r1,r2⟩:=h.get hi;cases e'
   have Al:=fun W hW=>FT W _ l (h.below hW lz) i (by omega) hl;have kq:IntKind.i64.wrap ((i:Int)+1-1)=(i:Int):=by rw[IntWalk.i64_in _ (by omega)];omega
   generalize yC l i=m at *;generalize l[i]=xa at *;generalize l[i+1]=xb at *;obtain⟨ka,ta,pa⟩:=xa;obtain⟨kb,tb,pb⟩:=xb;simp only at q0 q1 q2 r0 r1 r2;clear h;obtain⟨G,hG⟩:=exq (DF ⟨ka,ta,pa⟩ ⟨kb,tb,pb⟩ m);rw[<-hG];go_enter Tryz.func10,Tryz.ntmps10;go_upto_region 3 with fail
   go_cut [5,6] (fun x y wc=>∃p5 p6:Nat,x=.pointer (some ⟨p5,0,none⟩)/\y=.pointer (some ⟨p6,0,none⟩)/\
    ae wc p5 #[.int .i64 ka,.string ta,.int .i64 pa] 63/\ae wc p6 #[.int .i64 kb,.string tb,.int .i64 pb] 63/\Below w.heap.size w wc)
   case first=>
    go_region
    all_goals go_wp2_with fail
    all_goals go_meet
    all_goals
     first
      |exact⟨_,_,rfl,rfl,(p8 _ _ _ _).1,(p8 _ _ _ _).2.1,(p8 _ _ _ _).2.2⟩
      |exact⟨_,_,rfl,rfl,(p8 _ _ _ _).2.1,(p8 _ _ _ _).1,(p8 _ _ _ _).2.2⟩
   case rest=>
    obtain⟨p5,p6,rfl,rfl,hA,hB,Ab⟩:=hcut;have HX:=Hh (PQ.of hA hB);have Aa:=Hh Ab;have Am:kP 32 _ wc _:=.tok (nI ⟨ka,ta,pa⟩);have An:kP 32 _ wc _:=.tok (nI ⟨kb,tb,pb⟩);have Ac:kP 33 _ wc _:=.of fun W _=>fq ⟨ka,ta,pa⟩ ⟨#[40,91,46]⟩ W (by decide);have Ad:kP 33 _ wc _:=.of fun W _=>fq ⟨kb,tb,pb⟩ ⟨#[41,93,44,46]⟩ W (by decide);have Ae:kP 33 _ wc _:=.of fun W _=>fq ⟨kb,tb,pb⟩ ⟨#[40]⟩ W (by decide);have Af:kP 33 _ wc _:=.of fun W _=>fq ⟨kb,tb,pb⟩ ⟨#[91]⟩ W (by decide);have Ag:kP 33 _ wc _:=.of fun W _=>fq ⟨ka,ta,pa⟩ ⟨#[41,93]⟩ W (by decide);have Ah:kP 33 _ wc _:=.of fun W _=>fq ⟨ka,ta,pa⟩ ⟨#[33]⟩ W (by decide);have Ai:kP 33 _ wc _:=.of fun W _=>fq ⟨ka,ta,pa⟩ ⟨#[45]⟩ W (by decide);have Aj:kP 33 _ wc _:=.of fun W _=>fq ⟨ka,ta,pa⟩ ⟨#[123]⟩ W (by decide);have Ak:kP 33 _ wc _:=.of fun W _=>fq ⟨kb,tb,pb⟩ ⟨#[125]⟩ W (by decide);have Ao:kP 34 _ wc _:=.tok (Eo ⟨ka,ta,pa⟩);have Ap:kP 35 _ wc _:=.of fun W hW=>Al W (Ab.trans (hW.mono Ab.size));have hK:=jF ka 1;simp only[jb] at Am An Ac Ad Ae Af Ag Ah Ai Aj Ak Ao;unfold DF at hG;simp only at hG;have HG:=Hh hG;clear hG;obtain⟨c0,c1,c2,d0,d1,d2,l1,l2⟩:=HX.out wc (Below.refl _ _);have hb:=Below.refl wc.heap.size wc
    clear q0 q1 q2 r0 r1 r2 hi Aq hl;change ∀W,_->Calls _ _ _ _ (fun e w'=>e=.returned (.bool (aM ⟨ka,ta,pa⟩ [40,91,46]))/\_) at Ac;change ∀W,_->Calls _ _ _ _ (fun e w'=>e=.returned (.bool (aM ⟨kb,tb,pb⟩ [41,93,44,46]))/\_) at Ad;change ∀W,_->Calls _ _ _ _ (fun e w'=>e=.returned (.bool (aM ⟨kb,tb,pb⟩ [40]))/\_) at Ae;change ∀W,_->Calls _ _ _ _ (fun e w'=>e=.returned (.bool (aM ⟨kb,tb,pb⟩ [91]))/\_) at Af;change ∀W,_->Calls _ _ _ _ (fun e w'=>e=.returned (.bool (aM ⟨ka,ta,pa⟩ [41,93]))/\_) at Ag;change ∀W,_->Calls _ _ _ _ (fun e w'=>e=.returned (.bool (aM ⟨ka,ta,pa⟩ [33]))/\_) at Ah;change ∀W,_->Calls _ _ _ _ (fun e w'=>e=.returned (.bool (aM ⟨ka,ta,pa⟩ [45]))/\_) at Ai;change ∀W,_->Calls _ _ _ _ (fun e w'=>e=.returned (.bool (aM ⟨ka,ta,pa⟩ [123]))/\_) at Aj;change ∀W,_->Calls _ _ _ _ (fun e w'=>e=.returned (.bool (aM ⟨kb,tb,pb⟩ [125]))/\_) at Ak;generalize dB ⟨ka,ta,pa⟩=xc1 at *;generalize dB ⟨kb,tb,pb⟩=xc2 at *;generalize aM ⟨ka,ta,pa⟩ [40,91,46]=x1 at *;generalize aM ⟨kb,tb,pb⟩ [41,93,44,46]=x2 at *;generalize aM ⟨kb,tb,pb⟩ [40]=x3 at *;generalize aM ⟨kb,tb,pb⟩ [91]=x4 at *;generalize aM ⟨ka,ta,pa⟩ [41,93]=x5 at *;generalize aM ⟨ka,ta,pa⟩ [33]=x6 at *;generalize aM ⟨ka,ta,pa⟩ [45]=x7 at *;generalize aM ⟨ka,ta,pa⟩ [123]=x8 at *;generalize aM ⟨kb,tb,pb⟩ [125]=x9 at *
    generalize gX ⟨ka,ta,pa⟩=xw at *;generalize decide (ka=1)=xk at *;clear hA hB;clear Al Ab
    focus (go_wp2_with (go_at_call 32;(with_reducible refine (Am _ hb).mono ?_);clear c0 c1 c2 d0 d1 d2 l1 l2;rintro _ W ⟨rfl,hb⟩;obtain⟨c0,c1,c2,d0,d1,d2,l1,l2⟩:=HX.out W hb;refine Stop.into ?_);refine Stop.out ?_)
    cases xc1
    rotate_left
    ·(go_wp2_with fail;go_ret;exact⟨by rw[HG.out];rfl,Aa.out.trans (hb.mono Aa.out.size)⟩)
    focus (go_wp2_with (go_at_call 32;(with_reducible refine (An _ hb).mono ?_);clear c0 c1 c2 d0 d1 d2 l1 l2;rintro _ W ⟨rfl,hb⟩;obtain⟨c0,c1,c2,d0,d1,d2,l1,l2⟩:=HX.out W hb;refine Stop.into ?_);refine Stop.out ?_)
    cases xc2
    rotate_left
    ·(go_wp2_with fail;go_ret;exact⟨by rw[HG.out];rfl,Aa.out.trans (hb.mono Aa.out.size)⟩)
    focus (go_wp2_with (go_at_call 33;(with_reducible refine (Ac _ hb).mono ?_);clear c0 c1 c2 d0 d1 d2 l1 l2;rintro _ W ⟨rfl,hb⟩;obtain⟨c0,c1,c2,d0,d1,d2,l1,l2⟩:=HX.out W hb;refine Stop.into ?_);refine Stop.out ?_)
    cases x1
    rotate_left
    ·(go_wp2_with fail;go_ret;exact⟨by rw[HG.out];rfl,Aa.out.trans (hb.mono Aa.out.size)⟩)
    focus (go_wp2_with (go_at_call 33;(with_reducible refine (Ad _ hb).mono ?_);clear c0 c1 c2 d0 d1 d2 l1 l2;rintro _ W ⟨rfl,hb⟩;obtain⟨c0,c1,c2,d0,d1,d2,l1,l2⟩:=HX.out W hb;refine Stop.into ?_);refine Stop.out ?_)
    cases x2
    rotate_left
    ·(go_wp2_with fail;go_ret;exact⟨by rw[HG.out];rfl,Aa.out.trans (hb.mono Aa.out.size)⟩)
    focus (go_wp2_with (go_at_call 33;(with_reducible refine (Ae _ hb).mono ?_);clear c0 c1 c2 d0 d1 d2 l1 l2;rintro _ W ⟨rfl,hb⟩;obtain⟨c0,c1,c2,d0,d1,d2,l1,l2⟩:=HX.out W hb;refine Stop.into ?_);refine Stop.out ?_)
    cases x3
    rotate_left
    cases xk
    rotate_left
    ·(go_wp2_with fail;go_ret;exact⟨by rw[HG.out];rfl,Aa.out.trans (hb.mono Aa.out.size)⟩)
    all_goals
     focus (go_wp2_with (go_at_call 33;(with_reducible refine (Af _ hb).mono ?_);clear c0 c1 c2 d0 d1 d2 l1 l2;rintro _ W ⟨rfl,hb⟩;obtain⟨c0,c1,c2,d0,d1,d2,l1,l2⟩:=HX.out W hb;refine Stop.into ?_);refine Stop.out ?_)
     cases x4
     rotate_left
     focus (go_wp2_with (go_at_call 34;(with_reducible refine (Ao _ hb).mono ?_);clear c0 c1 c2 d0 d1 d2 l1 l2;rintro _ W ⟨rfl,hb⟩;obtain⟨c0,c1,c2,d0,d1,d2,l1,l2⟩:=HX.out W hb;refine Stop.into ?_);refine Stop.out ?_)
     cases xw
     rotate_left
     ·(go_wp2_with fail;go_ret;exact⟨by rw[HG.out];rfl,Aa.out.trans (hb.mono Aa.out.size)⟩)
     rotate_left
     focus (go_wp2_with (go_at_call 33;(with_reducible refine (Ag _ hb).mono ?_);clear c0 c1 c2 d0 d1 d2 l1 l2;rintro _ W ⟨rfl,hb⟩;obtain⟨c0,c1,c2,d0,d1,d2,l1,l2⟩:=HX.out W hb;refine Stop.into ?_);refine Stop.out ?_)
     cases x5
     rotate_left
     ·(go_wp2_with fail;go_ret;exact⟨by rw[HG.out];rfl,Aa.out.trans (hb.mono Aa.out.size)⟩)
     all_goals
      focus (go_wp2_with (go_at_call 33;(with_reducible refine (Ah _ hb).mono ?_);clear c0 c1 c2 d0 d1 d2 l1 l2;rintro _ W ⟨rfl,hb⟩;obtain⟨c0,c1,c2,d0,d1,d2,l1,l2⟩:=HX.out W hb;refine Stop.into ?_);refine Stop.out ?_)
      cases x6
      rotate_left
      ·(go_wp2_with fail;go_ret;exact⟨by rw[HG.out];rfl,Aa.out.trans (hb.mono Aa.out.size)⟩)
      focus (go_wp2_with (go_at_call 33;(with_reducible refine (Ai _ hb).mono ?_);clear c0 c1 c2 d0 d1 d2 l1 l2;rintro _ W ⟨rfl,hb⟩;obtain⟨c0,c1,c2,d0,d1,d2,l1,l2⟩:=HX.out W hb;refine Stop.into ?_);refine Stop.out ?_)
      cases x7
      rotate_left
      focus (go_wp2_with (go_at_call 35;(with_reducible refine (Ap _ hb).mono ?_);clear c0 c1 c2 d0 d1 d2 l1 l2;rintro _ W ⟨rfl,hb⟩;obtain⟨c0,c1,c2,d0,d1,d2,l1,l2⟩:=HX.out W hb;refine Stop.into ?_);refine Stop.out ?_)
      cases m
      rotate_left
      ·(go_wp2_with fail;go_ret;exact⟨by rw[HG.out];rfl,Aa.out.trans (hb.mono Aa.out.size)⟩)
      all_goals
       focus (go_wp2_with (go_at_call 33;(with_reducible refine (Aj _ hb).mono ?_);clear c0 c1 c2 d0 d1 d2 l1 l2;rintro _ W ⟨rfl,hb⟩;obtain⟨c0,c1,c2,d0,d1,d2,l1,l2⟩:=HX.out W hb;refine Stop.into ?_);refine Stop.out ?_)
       cases x8
       rotate_left
       focus (go_wp2_with (go_at_call 33;(with_reducible refine (Ak _ hb).mono ?_);clear c0 c1 c2 d0 d1 d2 l1 l2;rintro _ W ⟨rfl,hb⟩;obtain⟨c0,c1,c2,d0,d1,d2,l1,l2⟩:=HX.out W hb;refine Stop.into ?_);refine Stop.out ?_)
       cases x9
       all_goals (go_wp2_with fail;go_ret;exact⟨by rw[HG.out];rfl,Aa.out.trans (hb.mono Aa.out.size)⟩)
def Iq:Option Nat->Int
 |some i=>(i:Int)
 |none=>-1
theorem xf{l:List ag}{k n:Nat}(h:l.length<=k):oQ (l.drop k) k n=none:=by rw[List.drop_eq_nil_of_le h];cases n<;>rfl
theorem A8{l:List ag}{k n:Nat}(h:k<l.length)(hc:dB l[k]=true):oQ (l.drop k) k n=oQ (l.drop (k+1)) (k+1) n:=by
 rw[List.drop_eq_getElem_cons h];cases n<;>rw[oQ,if_pos hc]
theorem A7{l:List ag}{k:Nat}(h:k<l.length)(hc:dB l[k]=false):oQ (l.drop k) k 0=some k:=by
 rw[List.drop_eq_getElem_cons h,oQ,if_neg (by rw[hc];decide)]
theorem xg{l:List ag}{k n:Nat}(h:k<l.length)(hc:dB l[k]=false):oQ (l.drop k) k (n+1)=oQ (l.drop (k+1)) (k+1) n:=by
 rw[List.drop_eq_getElem_cons h,oQ,if_neg (by rw[hc];decide)]
theorem zI:∀(l:List ag) (i:Nat),match oQ l i 0 with
  |some j=>∃h:j-i<l.length,i<=j/\(fw l).head?=some l[j-i]
  |none=>fw l=[]
 |[],i=>by simp[oQ,fw]
 | t::l,i=>by
  by_cases hc:dB t=true
  ·rw[oQ,if_pos hc]
   have ih:=zI l (i+1);have hp:fw (t::l)=fw l:=by unfold fw;rw[List.filter_cons_of_neg (by rw[hc];decide)]
   rw[hp];split at ih
   ·next j hj=>
    obtain⟨h1,h2,h3⟩:=ih;obtain⟨m,rfl⟩:∃m,j=i+1+m:=⟨j-(i+1),by omega⟩;have e1:i+1+m-(i+1)=m:=by omega
    have e2:i+1+m-i=m+1:=by omega
    simp only[e1,e2] at *;exact⟨by simp;omega,by omega,h3⟩
   ·exact ih
  ·rw[oQ,if_neg hc]
   have hp:fw (t::l)=t::fw l:=by unfold fw;rw[List.filter_cons_of_pos (by simpa using hc)]
   rw[hp];simp
theorem LC(l:List ag):oN l=match oQ l 0 0 with
  |some j=>gH (l[j]?.getD ⟨0,⟨#[]⟩,0⟩) nW
  |none=>false:=by
 have h:=zI l 0;unfold oN;split at h
 ·next j hj=>
  obtain⟨h1,-,h3⟩:=h;simp only[Nat.sub_zero] at h1 h3;rw[List.getElem?_eq_getElem h1]
  cases hp:fw l with
  |nil=>rw[hp] at h3;cases h3
  |cons t r=>rw[hp] at h3;cases h3;rfl
 ·rw[h]
theorem C9{l:List ag}{k:Nat}(h:k<l.length):mq (l.take (k+1))=if dB l[k] then mq (l.take k) else gH l[k] ut:=by
 unfold mq fw;rw[List.take_succ_eq_append_getElem h,List.filter_append]
 by_cases hc:dB l[k]=true
 ·rw[if_pos hc,List.filter_cons_of_neg (by rw[hc];decide),List.filter_nil,List.append_nil]
 ·rw[if_neg hc,List.filter_cons_of_pos (by simpa using hc),List.filter_nil,List.getLast?_concat]
abbrev NW(v:Value)(lo hi d:Int):Value:=.agg #[v,.int .i64 lo,.int .i64 hi,.int .i64 d]
theorem mh{w:World}{a:Option Addr}{n c:Nat}{l:List ag}(h:aH w (.slice a n c) l){k:Nat}(hk:k<l.length) :
  ∃b off,a=some ⟨b,off,none⟩/\b<w.heap.size/\∀W,Below w.heap.size w W->W.cell? ⟨b,off+k*3,none⟩=some (.int .i64 l[k].kind)/\W.cell? ⟨b,off+k*3+1,none⟩=some (.string l[k].text)/\W.cell? ⟨b,off+k*3+2,none⟩=some (.int .i64 l[k].pos):=by
 obtain⟨b,off,rfl,Aa,q0,q1,q2⟩:=h.get hk;exact⟨b,off,rfl,Aa,fun W hW=>⟨(hW.cell (p:=⟨b,off+k*3,none⟩) Aa).trans q0,(hW.cell (p:=⟨b,off+k*3+1,none⟩) Aa).trans q1,(hW.cell (p:=⟨b,off+k*3+2,none⟩) Aa).trans q2⟩⟩
theorem Dp(w:World)(lv:Value)(l:List ag)(lo hi d:Int)(n:Nat)(h:aH w lv l)(hl:l.length<=1000000)(hn:n<=10) :
  Calls Tryz.prog 136 #[NW lv lo hi d,.int .i64 (n:Nat)] w fun e w'=>e=.returned (.int .i64 (Iq (oQ l 0 n)))/\Below w.heap.size w w':=by
 obtain⟨a,c,rfl,h1,h2,-⟩:=h.len;unfold maxLen at h2;have Aa:Below w.heap.size w (w.alloc (.cells #[.slice a l.length c,.int .i64 lo,.int .i64 hi,.int .i64 d] 110)):=(Below.refl _ w).alloc lz _;have Ab:=Hh Aa;have HT:=Hh h;clear h Aa;go_enter Tryz.func136,Tryz.ntmps136;go_wp2_with fail;go_loopw [1,10] (fun nn i wr=>∃(k m:Nat),k<=l.length/\i=.int .i64 (k:Int)/\nn=.int .i64 (m:Int)/\m<=10/\Hid (oQ (l.drop k) k m=oQ l 0 n)/\Below w.heap.size w wr) (fun _ i _=>l.length-(intOf i).toNat)
 case atStart=>exact⟨0,n,Nat.zero_le _,rfl,rfl,hn,Hh rfl,Ab.out⟩
 case round=>
  obtain⟨k,m,hk,rfl,rfl,hm,HA,hb⟩:=hrel;have HB:=Hh hb
  by_cases hkl:k<l.length
  ·obtain⟨b,Af,rfl,Ac,hq⟩:=mh (HT.out.below hb lz) hkl
   obtain⟨q0,q1,q2⟩:=hq wr (Below.refl _ _);have hX:=gZ wr l[k];have hC:=nI l[k] (wr.alloc (l5 l[k]));have H1:=Hh (fun hc=>A8 (n:=m) hkl hc);have H2:=Hh (fun hc=>A7 hkl hc);have H3:=Hh (fun hc n=>xg (n:=n) hkl hc);generalize l[k]=t at *;obtain⟨kd,tx,ps⟩:=t;simp only[jb] at hC q0 q1 q2;generalize dB ⟨kd,tx,ps⟩=cb at *;have HX:=Hh ((HB.out.trans (hX.mono HB.out.size)).alloc (by have:=HB.out.size;simp;omega) (l5 ⟨kd,tx,ps⟩));clear hX hb hq
   cases cb with
   |true=>
    go_wp2_with fail;refine hC.mono ?_;rintro _ _ ⟨rfl,rfl⟩;clear hC;go_wp2_with fail;go_roundw
    case rel=>exact⟨k+1,m,hkl,by go_num,rfl,hm,Hh (by rw[<-HA.out,H1.out (by trivial)]),HX.out⟩
    case measure=>simp[intOf]<;>omega
   |false=>
    go_wp2_with fail;refine hC.mono ?_;rintro _ _ ⟨rfl,rfl⟩;clear hC
    cases m with
    |zero=>
     go_wp2_with fail;go_ret;rw[<-HA.out,H2.out (by trivial)];exact⟨rfl,HX.out⟩
    |succ m=>
     have Ad:(((m+1:Nat):Int)==0)=false:=by simp;omega
     have Ae:((m+1:Nat):Int)-1=(m:Int):=by omega
     go_wp2_with fail;go_roundw
     case rel=>exact⟨k+1,m,hkl,by go_num,by go_num,by omega,Hh (by rw[<-HA.out,H3.out (by trivial)]),HX.out⟩
     case measure=>simp[intOf]<;>omega
  ·obtain rfl:k=l.length:=by omega
   have hE:=xf (l:=l) (n:=m) lz;have HE:=Hh hE;clear hE hb;go_wp2_with fail;go_ret;rw[<-HA.out,HE.out];exact⟨rfl,HB.out⟩
theorem Bq(w:World)(lv:Value)(l:List ag)(lo hi d:Int)(h:aH w lv l)(hl:l.length<=1000000) :
  Calls Tryz.prog 101 #[NW lv lo hi d] w fun e w'=>e=.returned (.bool (oN l))/\Below w.heap.size w w':=by
 obtain⟨a,c,rfl,h1,h2,-⟩:=h.len;unfold maxLen at h2;have Aa:Below w.heap.size w (w.alloc (.cells #[.slice a l.length c,.int .i64 lo,.int .i64 hi,.int .i64 d] 110)):=(Below.refl _ w).alloc lz _;have hR:=LC l;have hP:=Dp _ _ l lo hi d 0 (h.below Aa lz) hl (by omega);have hc:=(ae.new w #[.slice a l.length c,.int .i64 lo,.int .i64 hi,.int .i64 d] 110)
 cases hp:oQ l 0 0 with
 |none=>
  rw[hp] at hR hP;rw[hR];simp only[Iq] at hP;clear h hR hp hc;go_enter Tryz.func101,Tryz.ntmps101;go_wp2_with fail;refine hP.mono ?_;rintro _ w2 ⟨rfl,hb2⟩;have HB:=Hh (Aa.trans (hb2.mono Aa.size));clear hP Aa hb2;go_wp2_with fail;go_ret;exact⟨rfl,HB.out⟩
 |some j=>
  have hj:=(xh l 0 0 j hp).2;rw[Nat.zero_add] at hj;rw[hp] at hR hP;simp only[List.getElem?_eq_getElem hj,Option.getD_some] at hR;rw[hR];simp only[Iq] at hP;obtain⟨b,Ao,rfl,Am,hq⟩:=mh h hj;have hM:=fun W=>fq l[j] ⟨#[125]⟩ W (by decide);have Ak:gH l[j] nW=aM l[j] [125]:=(uM l[j] 125).symm;have HQ:=Hh hq;generalize l[j]=t at *;obtain⟨kd,tx,ps⟩:=t;simp only[jb] at hM HQ;rw[Ak];change ∀W,Calls _ _ _ _ (fun e w'=>e=.returned (.bool (aM ⟨kd,tx,ps⟩ [125]))/\_) at hM;generalize aM ⟨kd,tx,ps⟩ [125]=ab at *;have HC:=Hh hc;clear h hR hp hq hc Ak;go_enter Tryz.func101,Tryz.ntmps101;go_wp2_with fail;refine hP.mono ?_;rintro _ w2 ⟨rfl,hb2⟩;have Ab:=HC.out.below hb2 HC.out.lt;obtain⟨q0,q1,q2⟩:=HQ.out w2 (Aa.trans (hb2.mono Aa.size));have An:=Ab.lt;have HB:=Hh (Aa.trans (hb2.mono Aa.size));obtain⟨Ac,Ag,Ad,Ah,Ae,Ai,Af,Aj⟩:=Ab.n4 rfl;clear hP Aa hb2 Ab;go_wp2_with fail;refine (hM _).mono ?_;rintro _ w3 ⟨rfl,hb3⟩;have Al:=Hh (HB.out.trans (hb3.mono HB.out.size));clear hM hb3;go_wp2_with fail;go_ret;exact⟨rfl,Al.out⟩
theorem uT(w:World)(lv:Value)(l:List ag)(lo hi d:Int)(h:aH w lv l)(hl:l.length<=1000000) :
  Calls Tryz.prog 102 #[NW lv lo hi d] w fun e w'=>e=.returned (.bool (mq l))/\Below w.heap.size w w':=by
 obtain⟨a,c,rfl,h1,h2,-⟩:=h.len;unfold maxLen at h2;have Aj:Below w.heap.size w (w.alloc (.cells #[.slice a l.length c,.int .i64 lo,.int .i64 hi,.int .i64 d] 110)):=(Below.refl _ w).alloc lz _;have HC:=Hh (ae.new w #[.slice a l.length c,.int .i64 lo,.int .i64 hi,.int .i64 d] 110);have Am:=Hh Aj;have HT:=Hh h;have kq:IntKind.i64.wrap ((l.length:Int)-1)=(l.length:Int)-1:=IntWalk.i64_in _ (by omega);clear h Aj;go_enter Tryz.func102,Tryz.ntmps102;go_wp2_with fail;go_loopw [3] (fun v wr=>∃k:Nat,k<=l.length/\v=.int .i64 ((k:Int)-1)/\Hid (mq (l.take k)=mq l)/\Below w.heap.size w wr/\ae wr w.heap.size #[.slice a l.length c,.int .i64 lo,.int .i64 hi,.int .i64 d] 110) (fun v _=>(intOf v+1).toNat)
 case atStart=>exact⟨l.length,Nat.le_refl _,by go_num,Hh (by rw[List.take_length]),Am.out,HC.out⟩
 case round=>
  obtain⟨k,hk,rfl,HA,hb,Aa⟩:=hrel;have HB:=Hh hb;have Ao:=Hh Aa;have Aq:=Aa.lt
  cases k with
  |zero=>
   clear hb;obtain⟨Ab,Af,Ac,Ag,Ad,Ah,Ae,Ai⟩:=Aa.n4 rfl;clear Aa;go_wp2_with fail;go_ret;rw[<-HA.out];exact⟨rfl,HB.out⟩
  |succ k=>
   have Al:k<l.length:=by omega
   obtain⟨b,As,rfl,Ap,hq⟩:=mh (HT.out.below hb lz) Al;obtain⟨q0,q1,q2⟩:=hq wr (Below.refl _ _);have hS:=C9 Al;have Ar:IntKind.i64.wrap ((k:Int)-1)=(k:Int)-1:=IntWalk.i64_in _ (by omega);have Ak:((k+1:Nat):Int)-1=(k:Int):=by omega
   rw[Ak];have HQ:=Hh hq;generalize l[k]=t at *;have hC:=nI t wr;have hM:=fun W=>fq t ⟨#[123]⟩ W (by decide);rw[show gH t ut=aM t [123] from (uM t 123).symm] at hS;obtain⟨kd,tx,ps⟩:=t;simp only[jb] at hC hM q0 q1 q2 HQ;change ∀W,Calls _ _ _ _ (fun e w'=>e=.returned (.bool (aM ⟨kd,tx,ps⟩ [123]))/\_) at hM;generalize dB ⟨kd,tx,ps⟩=cb at *;generalize aM ⟨kd,tx,ps⟩ [123]=ab at *;have HS:=Hh hS;have HX:=Hh (HB.out.alloc HB.out.size (l5 ⟨kd,tx,ps⟩));have HD:=Hh (Ao.out.alloc (l5 ⟨kd,tx,ps⟩));obtain⟨Ab,Af,Ac,Ag,Ad,Ah,Ae,Ai⟩:=Aa.n4 rfl;clear hS hb Ak hq Aa
   cases cb with
   |true=>
    go_wp2_with fail;refine hC.mono ?_;rintro _ _ ⟨rfl,rfl⟩;clear hC hM;go_wp2_with fail;go_roundw
    case rel=>exact⟨k,by omega,rfl,Hh (by rw[<-HA.out,HS.out];try rfl),HX.out,HD.out⟩
    case measure=>simp[intOf]<;>omega
   |false=>
    go_wp2_with fail;refine hC.mono ?_;rintro _ _ ⟨rfl,rfl⟩;clear hC;go_wp2_with fail;refine (hM _).mono ?_;rintro _ w4 ⟨rfl,hb4⟩;have An:=Hh (aQ HX.out hb4);clear hM hb4;go_wp2_with fail;go_ret;rw[<-HA.out,HS.out];exact⟨rfl,An.out⟩
abbrev Cs(v:Value)(d:Int):Value:=.agg #[v,.int .i64 d]
def JZ(l:List ag):Option Nat->ag
 |some i=>l[i]?.getD ⟨0,⟨#[]⟩,0⟩
 |none=>⟨0,⟨#[]⟩,0⟩
theorem Nj(l:List ag):gH (JZ l (oQ l 0 0)) nW=oN l:=by
 rw[LC];cases oQ l 0 0<;>rfl
theorem oZ(w:World)(lv:Value)(l:List ag)(d:Int)(h:aH w lv l)(hl:l.length<=1000000) :
  Calls Tryz.prog 71 #[Cs lv d] w fun e w'=>e=.returned (.bool (mq l))/\Below w.heap.size w w':=by
 obtain⟨a,c,rfl,h1,h2,-⟩:=h.len;unfold maxLen at h2;have Af:Below w.heap.size w (w.alloc (.cells #[.slice a l.length c,.int .i64 d] 103)):=(Below.refl _ w).alloc lz _;have HC:=Hh (ae.new w #[.slice a l.length c,.int .i64 d] 103);have Ai:=Hh Af;have HT:=Hh h;have kq:IntKind.i64.wrap ((l.length:Int)-1)=(l.length:Int)-1:=IntWalk.i64_in _ (by omega);clear h Af;go_enter Tryz.func71,Tryz.ntmps71;go_wp2_with fail;go_loopw [3] (fun v wr=>∃k:Nat,k<=l.length/\v=.int .i64 ((k:Int)-1)/\Hid (mq (l.take k)=mq l)/\Below w.heap.size w wr/\ae wr w.heap.size #[.slice a l.length c,.int .i64 d] 103) (fun v _=>(intOf v+1).toNat)
 case atStart=>exact⟨l.length,Nat.le_refl _,by go_num,Hh (by rw[List.take_length]),Ai.out,HC.out⟩
 case round=>
  obtain⟨k,hk,rfl,HA,hb,Aa⟩:=hrel;have HB:=Hh hb;have Ak:=Hh Aa;have Am:=Aa.lt
  cases k with
  |zero=>
   clear hb;obtain⟨Ab,Ad,Ac,Ae⟩:=Aa.n2 rfl;clear Aa;go_wp2_with fail;go_ret;rw[<-HA.out];exact⟨rfl,HB.out⟩
  |succ k=>
   have Ah:k<l.length:=by omega
   obtain⟨b,Ao,rfl,Al,hq⟩:=mh (HT.out.below hb lz) Ah;obtain⟨q0,q1,q2⟩:=hq wr (Below.refl _ _);have hS:=C9 Ah;have An:IntKind.i64.wrap ((k:Int)-1)=(k:Int)-1:=IntWalk.i64_in _ (by omega);have Ag:((k+1:Nat):Int)-1=(k:Int):=by omega
   rw[Ag];have HQ:=Hh hq;generalize l[k]=t at *;have hC:=uk t wr;have hM:=fun W=>mY t ut W;obtain⟨kd,tx,ps⟩:=t;simp only[jb] at hC hM q0 q1 q2 HQ;generalize dB ⟨kd,tx,ps⟩=cb at *;generalize gH ⟨kd,tx,ps⟩ ut=ab at *;have HS:=Hh hS;have HX:=Hh (HB.out.alloc HB.out.size (l5 ⟨kd,tx,ps⟩));have HD:=Hh (Ak.out.alloc (l5 ⟨kd,tx,ps⟩));obtain⟨Ab,Ad,Ac,Ae⟩:=Aa.n2 rfl;clear hS hb Ag hq Aa
   cases cb with
   |true=>
    go_wp2_with fail;refine hC.mono ?_;rintro _ _ ⟨rfl,rfl⟩;clear hC hM;go_wp2_with fail;go_roundw
    case rel=>exact⟨k,by omega,rfl,Hh (by rw[<-HA.out,HS.out];try rfl),HX.out,HD.out⟩
    case measure=>simp[intOf]<;>omega
   |false=>
    go_wp2_with fail;refine hC.mono ?_;rintro _ _ ⟨rfl,rfl⟩;clear hC;go_wp2_with fail;refine (hM _).mono ?_;rintro _ _ ⟨rfl,rfl⟩;have Aj:=Hh (HX.out.alloc HX.out.size (l5 ⟨kd,tx,ps⟩));clear hM;go_wp2_with fail;go_ret;rw[<-HA.out,HS.out];exact⟨rfl,Aj.out⟩
theorem Ck(w:World)(lv:Value)(l:List ag)(d:Int)(n:Nat)(h:aH w lv l)(hl:l.length<=1000000)(hn:n<=10) :
  Calls Tryz.prog 70 #[Cs lv d,.int .i64 (n:Nat)] w fun e w'=>e=.returned (jb (JZ l (oQ l 0 n)))/\Below w.heap.size w w':=by
 obtain⟨a,c,rfl,h1,h2,-⟩:=h.len;unfold maxLen at h2;have Al:Below w.heap.size w (w.alloc (.cells #[.slice a l.length c,.int .i64 d] 103)):=(Below.refl _ w).alloc lz _;have Am:=Al.alloc (by simp) (.cells #[.int .i64 0,.string ⟨#[]⟩,.int .i64 0] 63);have Ah:=ae.new (w.alloc (.cells #[.slice a l.length c,.int .i64 d] 103)) #[.int .i64 0,.string ⟨#[]⟩,.int .i64 0] 63;simp only[World.size_alloc] at Ah;have An:=Jh Am Ah;have HT:=Hh h;clear h Al Am Ah;go_enter Tryz.func70,Tryz.ntmps70;go_wp2_with fail;go_loopw [1,10] (fun nn i wr=>∃(k m:Nat),k<=l.length/\i=.int .i64 (k:Int)/\nn=.int .i64 (m:Int)/\m<=10/\Hid (oQ (l.drop k) k m=oQ l 0 n)/\Below w.heap.size w wr/\ae wr (w.heap.size+1) #[.int .i64 0,.string ⟨#[]⟩,.int .i64 0] 63) (fun _ i _=>l.length-(intOf i).toNat)
 case atStart=>exact⟨0,n,Nat.zero_le _,rfl,rfl,hn,Hh rfl,An.out⟩
 case round=>
  obtain⟨k,m,hk,rfl,rfl,hm,HA,hb,Aa⟩:=hrel;have HB:=Hh hb;have HC:=Hh Aa;have Av:=Aa.lt
  by_cases hkl:k<l.length
  ·obtain⟨b,Ay,rfl,Au,hq⟩:=mh (HT.out.below hb lz) hkl
   obtain⟨q0,q1,q2⟩:=hq wr (Below.refl _ _);have hX:=gZ wr l[k];have hM:=uk l[k] (wr.alloc (l5 l[k]));have H1:=Hh (fun hc=>A8 (n:=m) hkl hc);have H2:=Hh (fun hc=>A7 hkl hc);have H3:=Hh (fun hc n=>xg (n:=n) hkl hc);have H4:Hid (JZ l (some k)=l[k]):=Hh (by show (l[k]?).getD _=_;rw[List.getElem?_eq_getElem hkl];rfl);generalize l[k]=t at *;obtain⟨kd,tx,ps⟩:=t;simp only[jb] at hM q0 q1 q2;generalize dB ⟨kd,tx,ps⟩=cb at *;have HX:=Hh ((HB.out.trans (hX.mono HB.out.size)).alloc (by have:=HB.out.size;simp;omega) (l5 ⟨kd,tx,ps⟩));have HD:=Hh ((HC.out.alloc (l5 ⟨kd,tx,ps⟩)).alloc (l5 ⟨kd,tx,ps⟩));obtain⟨Ab,Ae,Ac,Af,Ad,Ag⟩:=Aa.n3 rfl;clear hX hb hq Aa
   cases cb with
   |true=>
    go_wp2_with fail;refine hM.mono ?_;rintro _ _ ⟨rfl,rfl⟩;clear hM;go_wp2_with fail;go_roundw
    case rel=>exact⟨k+1,m,hkl,by go_num,rfl,hm,Hh (by rw[<-HA.out,H1.out (by trivial)]),HX.out,HD.out⟩
    case measure=>simp[intOf]<;>omega
   |false=>
    go_wp2_with fail;refine hM.mono ?_;rintro _ _ ⟨rfl,rfl⟩;clear hM
    cases m with
    |zero=>
     obtain⟨Ao,Ar,Ap,As,Aq,At⟩:=HD.out.n3 rfl;go_wp2_with fail;have hq:=(((HD.out.setI 0 (.int .i64 kd)).setI 1 (.string tx)).setI 2 (.int .i64 ps));obtain⟨Ai,Aj,Ak⟩:=hq.m3 rfl;refine bodyPost_ret (v:=.agg #[.int .i64 kd,.string tx,.int .i64 ps]) (by simp[results,Tryz.results70,go_sem,Ai,Aj,Ak]) rfl ?_;rw[<-HA.out,H2.out (by trivial),H4.out];exact⟨rfl,((HX.out.setCell (by show w.heap.size<=w.heap.size+1;omega) _).setCell (by show w.heap.size<=w.heap.size+1;omega) _).setCell (by show w.heap.size<=w.heap.size+1;omega) _⟩
    |succ m=>
     have Aw:(((m+1:Nat):Int)==0)=false:=by simp;omega
     have Ax:((m+1:Nat):Int)-1=(m:Int):=by omega
     go_wp2_with fail;go_roundw
     case rel=>exact⟨k+1,m,hkl,by go_num,by go_num,by omega,Hh (by rw[<-HA.out,H3.out (by trivial)]),HX.out,HD.out⟩
     case measure=>simp[intOf]<;>omega
  ·obtain rfl:k=l.length:=by omega
   have hE:=xf (l:=l) (n:=m) lz;have HE:=Hh hE;obtain⟨Ab,Ae,Ac,Af,Ad,Ag⟩:=Aa.n3 rfl;clear hE hb Aa;go_wp2_with fail;have hq:=(((HC.out.setI 0 (.int .i64 0)).setI 1 (.string ⟨#[]⟩)).setI 2 (.int .i64 0));obtain⟨Ai,Aj,Ak⟩:=hq.m3 rfl;refine bodyPost_ret (v:=.agg #[.int .i64 0,.string ⟨#[]⟩,.int .i64 0]) (by simp[results,Tryz.results70,go_sem,Ai,Aj,Ak]) rfl ?_;rw[<-HA.out,HE.out];exact⟨rfl,((HB.out.setCell (by show w.heap.size<=w.heap.size+1;omega) _).setCell (by show w.heap.size<=w.heap.size+1;omega) _).setCell (by show w.heap.size<=w.heap.size+1;omega) _⟩
theorem Ni{l:List ag}{k:Nat}(h:oQ l 0 1=some k)(hk:k<l.length):rV l=if gH l[k] Ie then some k else none:=by
 unfold rV;rw[h];simp only[List.getElem?_eq_getElem hk,Option.getD_some]
theorem Lj{l:List ag}(h:oQ l 0 1=none):rV l=none:=by
 unfold rV;rw[h]
theorem wF(w:World)(lv:Value)(l:List ag)(d:Int)(h:aH w lv l)(hl:l.length<=1000000) :
  Calls Tryz.prog 65 #[Cs lv d] w fun e w'=>e=.returned (.int .i64 (Iq (rV l)))/\Below w.heap.size w w':=by
 obtain⟨a,c,rfl,h1,h2,-⟩:=h.len;unfold maxLen at h2;have Aa:Below w.heap.size w (w.alloc (.cells #[.slice a l.length c,.int .i64 d] 103)):=(Below.refl _ w).alloc lz _;have Ab:=Hh Aa;have HT:=Hh h;clear h Aa;go_enter Tryz.func65,Tryz.ntmps65;go_wp2_with fail;go_loopw [3,9] (fun nn i wr=>∃(k m:Nat),k<=l.length/\i=.int .i64 (k:Int)/\nn=.int .i64 (m:Int)/\m<=1/\Hid (oQ (l.drop k) k (1-m)=oQ l 0 1)/\Below w.heap.size w wr) (fun _ i _=>l.length-(intOf i).toNat)
 case atStart=>exact⟨0,0,Nat.zero_le _,rfl,rfl,by omega,Hh rfl,Ab.out⟩
 case round=>
  obtain⟨k,m,hk,rfl,rfl,hm,HA,hb⟩:=hrel;have HB:=Hh hb
  by_cases hkl:k<l.length
  ·obtain⟨b,Ae,rfl,Ad,hq⟩:=mh (HT.out.below hb lz) hkl
   obtain⟨q0,q1,q2⟩:=hq wr (Below.refl _ _);have hX:=gZ wr l[k];have hC:=uk l[k] (wr.alloc (l5 l[k]));have hS:=fun W=>mY l[k] Ie W;have H1:=Hh (fun hc n=>A8 (n:=n) hkl hc);have H2:=Hh (fun hc=>A7 hkl hc);have H3:=Hh (fun hc n=>xg (n:=n) hkl hc);have H4:=Hh (fun h=>Ni (l:=l) (k:=k) h hkl);generalize l[k]=t at *;obtain⟨kd,tx,ps⟩:=t;simp only[jb] at hC hS q0 q1 q2;generalize dB ⟨kd,tx,ps⟩=cb at *;generalize gH ⟨kd,tx,ps⟩ Ie=sb at *;have HX:=Hh ((HB.out.trans (hX.mono HB.out.size)).alloc (by have:=HB.out.size;simp;omega) (l5 ⟨kd,tx,ps⟩));have Ac:=Hh (HX.out.alloc HX.out.size (l5 ⟨kd,tx,ps⟩));clear hX hb hq
   cases cb with
   |true=>
    go_wp2_with fail;refine hC.mono ?_;rintro _ _ ⟨rfl,rfl⟩;clear hC hS;go_wp2_with fail;go_roundw
    case rel=>exact⟨k+1,m,hkl,by go_num,rfl,hm,Hh (by rw[<-HA.out,H1.out (by trivial)]),HX.out⟩
    case measure=>simp[intOf]<;>omega
   |false=>
    go_wp2_with fail;refine hC.mono ?_;rintro _ _ ⟨rfl,rfl⟩;clear hC
    by_cases hm1:m=1
    ·subst hm1
     have HE:Hid (rV l=if sb then some k else none):=Hh (H4.out (by rw[<-HA.out];exact H2.out (by trivial)));go_wp2_with fail;refine (hS _).mono ?_;rintro _ _ ⟨rfl,rfl⟩;clear hS;cases sb
     all_goals
      go_wp2_with fail;go_ret;rw[HE.out];exact⟨rfl,Ac.out⟩
    ·obtain rfl:m=0:=by omega
     go_wp2_with fail;go_roundw
     case rel=>exact⟨k+1,1,hkl,by go_num,by go_num,by omega,Hh (by rw[<-HA.out,H3.out (by trivial)]),HX.out⟩
     case measure=>simp[intOf]<;>omega
  ·obtain rfl:k=l.length:=by omega
   have hE:=xf (l:=l) (n:=1-m) lz;have HE:Hid (rV l=none):=Hh (Lj (by rw[<-HA.out,hE]));clear hE hb;go_wp2_with fail;go_ret;rw[HE.out];exact⟨rfl,HB.out⟩
def JK(n:Nat):ByteArray:=ay (nS n)
theorem wH(n:Nat):(JK n).size=n:=by unfold JK nS;show (List.replicate n _).toArray.size=n;simp
theorem EJ(n:Nat):Lib.repeatL [32] n=nS n:=by
 unfold nS
 induction n with
 |zero=>rfl
 |succ n ih=>rw[Lib.repeatL,ih,List.replicate_succ];rfl
theorem ED(n:Nat)(w:World)(hn:n<=1000000000):Calls Tryz.prog 111 #[.string ⟨#[32]⟩,.int .i64 n] w fun e w'=>e=.returned (.string (JK n))/\Below w.heap.size w w':=by
 have:=Go.Proofs.Tryz.strings_Repeat ⟨#[32]⟩ n w (by omega) (by show 1*n<=_;omega);rw[show (⟨#[32]⟩:ByteArray).data.toList=[32] from rfl,EJ] at this;exact this
theorem Px:Ay 69 2 0:=⟨by decide,by kernel_rfl,by decide⟩
def BW(B:Nat)(w:World)(g:Nat)(l:Bs):Prop:=B<=g/\∃cs,cs.size=2/\F5 69 B w g 0 cs l
theorem BW.lt{B g:Nat}{w:World}{l:Bs}(h:BW B w g l):g<w.heap.size:=by
 obtain⟨-,cs,-,hb⟩:=h;exact hb.cells.lt
structure oO(B g:Nat)(w w':World):Prop where
 b:Below B w w'
 s:bD 5 g w w'
theorem oO.refl(B g:Nat)(w:World):oO B g w w:=⟨Below.refl _ _,bD.refl⟩
theorem oO.trans{B g:Nat}{w w' w'':World}(h:oO B g w w')(h2:oO B g w' w''):oO B g w w'':=⟨h.b.trans h2.b,h.s.trans h2.s⟩
theorem oO.of{B g:Nat}{w w':World}(h:Below w.heap.size w w')(hB:B<=w.heap.size):oO B g w w':=⟨h.mono hB,h.size,fun k o _ ho _=>(h.block k (Array.getElem?_eq_some_iff.1 ho).1).trans ho⟩
theorem oO.cells{B g:Nat}{w w':World}(h:oO B g w w'){k:Nat}{cs:Array Value}{t:TypeId}(hc:ae w k cs t)(hk:k≠g)(ht:t≠5):ae w' k cs t:=h.s.cells hc hk ht
theorem BW.below{B g:Nat}{w w':World}{l:Bs}(h:BW B w g l)(hb:Below w.heap.size w w'):BW B w' g l:=by
 obtain⟨h1,cs,h2,hc,ha,v,hv,ho⟩:=h;exact⟨h1,cs,h2,hc.below hb hc.lt,ha,v,hv,ho.below hb lz⟩
theorem BW.write{B g:Nat}{w:World}{l:Bs}(h:BW B w g l)(s:ByteArray)(hl:l.length+s.size<=1000000000) :
  Calls Tryz.prog 113 #[.pointer (some ⟨g,0,none⟩),.string s] w fun e w'=>e=.returned (.tuple #[.int .i64 s.size,.nilIface])/\BW B w' g (l++s.data.toList)/\oO B g w w':=by
 obtain⟨h1,cs,h2,hb⟩:=h;refine (oJ w s hb (by rw[h2];exact Px) h1 hl).mono ?_;rintro e w' ⟨rfl,cs',h3,h4,h5,h6⟩;exact⟨rfl,⟨h1,cs',h4.1.trans h2,h3⟩,h5,h6⟩
theorem BW.ne{B g k:Nat}{w:World}{l:Bs}{cs:Array Value}{t:TypeId}(h:BW B w g l)(hc:ae w k cs t)(ht:t≠69):k≠g:=by
 rintro rfl;obtain⟨-,Aa,-,hb⟩:=h;have h1:w.heap[k]?=some (.cells cs t (0,0)):=hc;have h2:w.heap[k]?=some (.cells Aa 69 (0,0)):=hb.cells;rw[h1] at h2;simp only[Option.some.injEq,Obj.cells.injEq] at h2;exact ht h2.2.1
def iI(ps:List ByteArray):Bs:=ps.flatMap (fun s=>s.data.toList)
theorem Jq{ps:List ByteArray}{k:Nat}(hk:k<ps.length):iI (ps.take (k+1))=iI (ps.take k)++ps[k].data.toList:=by
 unfold iI;rw[List.take_succ_eq_append_getElem hk,List.flatMap_append];simp
theorem Nl(ps:List ByteArray)(k:Nat):(iI (ps.take k)).length<=(iI ps).length:=by
 have:iI ps=iI (ps.take k)++iI (ps.drop k):=by unfold iI;rw[<-List.flatMap_append,List.take_append_drop]
 rw[this,List.length_append];omega
theorem vP{B g b:Nat}{w:World}{l:Bs}(ps:List ByteArray)(h:BW B w g l)(hp:ae w b (ps.map Value.string).toArray 9)(hl:l.length+(iI ps).length<=1000000000)(hn:ps.length<=10) :
  Calls Tryz.prog 66 #[.pointer (some ⟨g,0,none⟩),.slice (some ⟨b,0,none⟩) ps.length ps.length] w fun e w'=>e=.returned (.tuple #[])/\BW B w' g (l++iI ps)/\oO B g w w':=by
 have Ab:=h.ne hp (by decide);have HP:=Jh h hp;clear h hp;go_enter Tryz.func66,Tryz.ntmps66;go_wp2_with fail;go_loopw [8] (fun i wr=>∃k:Nat,k<=ps.length/\i=.int .i64 (k:Int)/\BW B wr g (l++iI (ps.take k))/\oO B g w wr) (fun i _=>ps.length-(intOf i).toNat)
 case atStart=>exact⟨0,Nat.zero_le _,rfl,by rw[List.take_zero];simpa [iI] using HP.out.1,oO.refl _ _ _⟩
 case round=>
  obtain⟨k,hk,rfl,hW,hR⟩:=hrel
  by_cases hkl:k<ps.length
  ·have hc:=hR.cells HP.out.2 Ab (by decide)
   have Ac:=hc.lt;have q0:=hc.cell k (.string ps[k]) (by simp[hkl]);have hT:=Jq hkl;have Aa:=Nl ps (k+1);rw[hT] at Aa
   have hC:=hW.write ps[k] (by
    have e:(ps[k].data.toList).length=ps[k].size:=jc _;rw[List.length_append] at Aa ⊢
    omega)
   have HT:=Hh hT;have HR:=Hh hR;generalize ps[k]=s at *;clear hc hW hR hT Aa;go_wp2_with fail;refine hC.mono ?_;rintro _ w3 ⟨rfl,h3,hr3⟩;have HN:Hid (BW B w3 g (l++iI (ps.take (k+1)))/\oO B g w w3):=Hh ⟨by rw[HT.out,<-List.append_assoc];exact h3,HR.out.trans hr3⟩;clear hC h3 hr3;go_wp2_with fail;go_roundw
   case rel=>exact⟨k+1,hkl,by go_num,HN.out.1,HN.out.2⟩
   case measure=>simp[intOf];omega
  ·obtain rfl:k=ps.length:=by omega
   rw[List.take_length] at hW;have HN:=Jh hW hR;clear hW hR;go_wp2_with fail;refine bodyPost_end (v:=.tuple #[]) (by simp[results,Tryz.results66,go_sem]) rfl ?_;exact⟨rfl,HN.out.1,HN.out.2⟩
theorem NQ{k:Nat}(h:k<=1000000000):(Lit.int .i64 (k:Int)).wf=true:=by
 rw[Lit.wf,Bool.and_eq_true,decide_eq_true_eq,decide_eq_true_eq];have e1:IntKind.i64.min = -9223372036854775808:=rfl;have e2:IntKind.i64.max=9223372036854775807:=rfl;omega
theorem vY(l:List ag)(i:Nat):qE l i<=1:=by
 cases i with
 |zero=>exact Nat.zero_le _
 |succ i=>
  rw[qE];split
  ·unfold DF
   repeat' split
   all_goals omega
  ·exact Nat.zero_le _
theorem BW.start(w:World)(B:Nat)(hB:B<=w.heap.size):BW B (w.alloc (.cells #[.pointer none,.slice none 0 0] 69)) w.heap.size []:=
 ⟨hB,_,rfl,ae.new _ _ _,.inl rfl,_,rfl,aT.nil⟩
theorem CX{row:List ag}{ind fr k en:Nat}(h:k<=en):(cu row ind fr k).length<=(cu row ind fr en).length:=by
 unfold cu
 have e:((yX row ind).take k).drop fr=(((yX row ind).take en).drop fr).take (k-fr):=by
  rw[<-List.drop_take,List.take_take]
  congr 2
  omega
 rw[e]
 conv=>rhs;rw[<-List.take_append_drop (k-fr) (((yX row ind).take en).drop fr),tQ,List.length_append]
 omega
theorem ry(w:World)(lv:Value)(l:List ag)(d:Int)(fr en:Nat)(h:aH w lv l)(hd:0<=d/\d<=1000000)(hfe:fr<=en)(hen:en<=l.length)(hl:l.length<=1000000)(hsz:(cu l (2*d).toNat fr en).length<=500000000) :
  Calls Tryz.prog 67 #[Cs lv d,.int .i64 (fr:Nat),.int .i64 (en:Nat)] w fun e w'=>e=.returned (.string (ay (cu l (2*d).toNat fr en)))/\Below w.heap.size w w':=by
 obtain⟨a,c,rfl,h1,h2,-⟩:=h.len;unfold maxLen at h2;have Au:Below w.heap.size w (w.alloc (.cells #[.slice a l.length c,.int .i64 d] 103)):=(Below.refl _ w).alloc lz _;have Av:=Au.alloc (by simp) (.cells #[.pointer none,.slice none 0 0] 69);have Aw:=(ae.new w #[.slice a l.length c,.int .i64 d] 103).alloc (.cells #[.pointer none,.slice none 0 0] 69);have At:=BW.start (w.alloc (.cells #[.slice a l.length c,.int .i64 d] 103)) w.heap.size (by simp);simp only[World.size_alloc] at At;have H0:=Jh Av (And.intro Aw At);have HT:=Hh h;have k2:IntKind.i64.wrap (2*d)=2*d:=IntWalk.i64_in _ (by omega);have k3:(((2*d).toNat:Nat):Int)=2*d:=by omega
 have K3:=Hh k3;have Ar:=Hh hsz;clear h Au Av Aw At k3 hsz;go_enter Tryz.func67,Tryz.ntmps67;go_wp2_with fail;go_loopw [8] (fun i wr=>∃k:Nat,fr<=k/\k<=en/\i=.int .i64 (k:Int)/\BW w.heap.size wr (w.heap.size+1) (cu l (2*d).toNat fr k)/\ae wr w.heap.size #[.slice a l.length c,.int .i64 d] 103/\Below w.heap.size w wr) (fun i _=>en-(intOf i).toNat)
 case atStart=>exact⟨fr,Nat.le_refl _,hfe,rfl,by rw[uA];exact H0.out.2.2,H0.out.2.1,H0.out.1⟩
 case round=>
  clear H0;obtain⟨k,A0,hk,rfl,hW,Aj,hb⟩:=hrel;have HW:=Jh hW (And.intro Aj hb);have A3:=hW.lt
  by_cases hkl:k<en
  ·obtain⟨b,Ab,rfl,Az,hq⟩:=mh HT.out (k:=k) (by omega)
   have hG:=IV wr _ l (HT.out.below hb lz) hl (k:Int) (NQ (by omega));rw[Int.toNat_natCast] at hG;have As:=CY (row:=l) (ind:=(2*d).toNat) A0 (show k<l.length by omega);have Ak:=CX (row:=l) (ind:=(2*d).toNat) (fr:=fr) (show k+1<=en by omega);have Ax:oI l (2*d).toNat k=if k=0 then (2*d).toNat else qE l k:=rfl;have Ap:=vY l k;rw[As] at Ak;have HG:=Jh As (And.intro Ak Ax);clear As Ak Ax hb hW;have A1:=Aj.lt;obtain⟨Aa,Ad,Ac,Ae⟩:=Aj.n2 rfl;clear Aj;go_wp2_with fail;refine hG.mono ?_;rintro _ w4 ⟨rfl,hb4⟩;have h4:Hid (BW w.heap.size w4 (w.heap.size+1) (cu l (2*d).toNat fr k)/\ae w4 w.heap.size #[.slice (some ⟨b,Ab,none⟩) l.length c,.int .i64 d] 103/\Below w.heap.size w w4):=Hh ⟨HW.out.1.below hb4,HW.out.2.1.below hb4 HW.out.2.1.lt,aQ HW.out.2.2 hb4⟩;have HQ:Hid (∀W,Below w.heap.size w W->W.cell? ⟨b,Ab+k*3+1,none⟩=some (.string l[k].text)):=Hh fun W hW=>(hq W hW).2.1;have q1:=HQ.out w4 h4.out.2.2;have Ao:b<w4.heap.size:=Nat.lt_of_lt_of_le Az h4.out.2.2.size;have i1:(0:Int)<=(k:Int):=by omega
   have i2:(k:Int)<(l.length:Int):=by omega
   have Aj:=h4.out.2.1;have A1:=Aj.lt;have Al:Hid (mP l[k]=l[k].text.data.toList):=Hh rfl;generalize l[k].text=tx at *;clear hG hb4 hq Aa Ac Ad Ae HW;obtain⟨Aa,Ad,Ac,Ae⟩:=Aj.n2 rfl;clear Aj
   by_cases hk00:k=0
   ·have e0:((k:Int)==0)=true:=by simpa using hk00
    obtain⟨n,hn⟩:=exq ((2*d).toNat);have Ap:n<=2000000:=by omega
    have k4:IntKind.i64.wrap (2*d)=(n:Int):=by rw[k2];omega
    have HN:Hid (oI l (2*d).toNat k=n):=Hh (by rw[HG.out.2.2,if_pos hk00,hn]);clear hn hk00 k2;go_wp2_with fail;have Ag:=fun W=>ED n W (by omega);have Am:Hid ((JK n).data.toList=nS n/\(JK n).size=n):=Hh ⟨rfl,wH n⟩;generalize JK n=sp at *;have An:=Hh q1
    have H5:Hid (∀W,Below w4.drew.heap.size w4.drew W->BW w.heap.size W (w.heap.size+1) (cu l (2*d).toNat fr k)/\ae W w.heap.size #[.slice (some ⟨b,Ab,none⟩) l.length c,.int .i64 d] 103/\Below w.heap.size w W/\W.cell? ⟨b,Ab+k*3+1,none⟩=some (.string tx)):=
     Hh fun W hW=>by
      have Ai:Below w4.heap.size w4 W:=((Below.refl _ w4).drew).trans hW;exact⟨h4.out.1.below Ai,h4.out.2.1.below Ai h4.out.2.1.lt,aQ h4.out.2.2 Ai,(Ai.cell (p:=⟨b,Ab+k*3+1,none⟩) Ao).trans An.out⟩
    have Af:∀W,BW w.heap.size W (w.heap.size+1) (cu l (2*d).toNat fr k)/\ae W w.heap.size #[.slice (some ⟨b,Ab,none⟩) l.length c,.int .i64 d] 103/\Below w.heap.size w W/\W.cell? ⟨b,Ab+k*3+1,none⟩=some (.string tx)->
      Calls Tryz.prog 66 #[.pointer (some ⟨w.heap.size+1,0,none⟩),.slice (some ⟨W.heap.size,0,none⟩) 2 2] (W.alloc (.cells #[.string sp,.string tx] 9)) fun e w'=>e=.returned (.tuple #[])/\BW w.heap.size w' (w.heap.size+1) (cu l (2*d).toNat fr (k+1))/\ae w' w.heap.size #[.slice (some ⟨b,Ab,none⟩) l.length c,.int .i64 d] 103/\Below w.heap.size w w':=fun W ⟨g1,g2,g3,g4⟩=>by
     have hA:Below W.heap.size W (W.alloc (.cells #[.string sp,.string tx] 9)):=(Below.refl _ W).alloc lz _;have Ah:iI [sp,tx]=nS n++tx.data.toList:=by simp[iI,Am.out.1]
     have Ak:=HG.out.2.1;have hsz:=Ar.out;rw[HN.out] at Ak;refine (vP [sp,tx] (g1.below hA) (ae.new W #[.string sp,.string tx] 9) (by rw[Ah];rw[Al.out,List.length_append] at Ak;omega) (by simp)).mono ?_;rintro e w' ⟨rfl,h5,h6⟩;refine⟨rfl,?_,h6.cells (g2.below hA g2.lt) (by omega) (by decide),(g3.trans (hA.mono g3.size)).trans h6.b⟩;rw[HG.out.1,HN.out,Al.out,<-Ah];exact h5
    clear Ap
    go_region_held3 (fun w'=>w'.cell? ⟨w.heap.size,0,none⟩=some (.slice (some ⟨b,Ab,none⟩) l.length c)/\w'.cell? ⟨b,Ab+k*3+1,none⟩=some (.string tx)) (first|(with_reducible exact⟨Aa,q1⟩)|(with_reducible exact⟨g60,g61⟩)|(with_reducible exact⟨g50,g51⟩)|go_keep) (first
     |(go_at_call 66;(refine (Af _ hx5).mono ?_);rintro _ w6 ⟨rfl,h6⟩;have g60:=h6.2.1.cell 0 _ rfl;have g61:=HQ.out w6 h6.2.2)
     |(go_at_call 111;(with_reducible refine (Ag _).mono ?_);rintro _ w5 ⟨rfl,hb5⟩;have hx5:=H5.out w5 hb5;have g50:=hx5.2.1.cell 0 _ rfl;have g51:=hx5.2.2.2;have A2:=hx5.2.1.lt))
    all_goals
     have Aq:=Hh h6;clear h6 H5 Af Ag Am An h4 Al HN HG q1 Aa Ac Ad Ae;go_wp2_with fail;go_roundw
     case rel=>exact⟨k+1,by omega,hkl,by go_num,Aq.out⟩
     case measure=>simp[intOf];omega
   ·have e0:((k:Int)==0)=false:=by simpa using hk00
    obtain⟨n,hn⟩:=exq (qE l k);rw[<-hn] at Ap ⊢;have HN:Hid (oI l (2*d).toNat k=n):=Hh (by rw[HG.out.2.2,if_neg hk00,hn]);clear hn hk00;go_wp2_with fail;have Ag:=fun W=>ED n W (by omega);have Am:Hid ((JK n).data.toList=nS n/\(JK n).size=n):=Hh ⟨rfl,wH n⟩;generalize JK n=sp at *;have An:=Hh q1
    have H5:Hid (∀W,Below w4.drew.heap.size w4.drew W->BW w.heap.size W (w.heap.size+1) (cu l (2*d).toNat fr k)/\ae W w.heap.size #[.slice (some ⟨b,Ab,none⟩) l.length c,.int .i64 d] 103/\Below w.heap.size w W/\W.cell? ⟨b,Ab+k*3+1,none⟩=some (.string tx)):=
     Hh fun W hW=>by
      have Ai:Below w4.heap.size w4 W:=((Below.refl _ w4).drew).trans hW;exact⟨h4.out.1.below Ai,h4.out.2.1.below Ai h4.out.2.1.lt,aQ h4.out.2.2 Ai,(Ai.cell (p:=⟨b,Ab+k*3+1,none⟩) Ao).trans An.out⟩
    have Af:∀W,BW w.heap.size W (w.heap.size+1) (cu l (2*d).toNat fr k)/\ae W w.heap.size #[.slice (some ⟨b,Ab,none⟩) l.length c,.int .i64 d] 103/\Below w.heap.size w W/\W.cell? ⟨b,Ab+k*3+1,none⟩=some (.string tx)->
      Calls Tryz.prog 66 #[.pointer (some ⟨w.heap.size+1,0,none⟩),.slice (some ⟨W.heap.size,0,none⟩) 2 2] (W.alloc (.cells #[.string sp,.string tx] 9)) fun e w'=>e=.returned (.tuple #[])/\BW w.heap.size w' (w.heap.size+1) (cu l (2*d).toNat fr (k+1))/\ae w' w.heap.size #[.slice (some ⟨b,Ab,none⟩) l.length c,.int .i64 d] 103/\Below w.heap.size w w':=fun W ⟨g1,g2,g3,g4⟩=>by
     have hA:Below W.heap.size W (W.alloc (.cells #[.string sp,.string tx] 9)):=(Below.refl _ W).alloc lz _;have Ah:iI [sp,tx]=nS n++tx.data.toList:=by simp[iI,Am.out.1]
     have Ak:=HG.out.2.1;have hsz:=Ar.out;rw[HN.out] at Ak;refine (vP [sp,tx] (g1.below hA) (ae.new W #[.string sp,.string tx] 9) (by rw[Ah];rw[Al.out,List.length_append] at Ak;omega) (by simp)).mono ?_;rintro e w' ⟨rfl,h5,h6⟩;refine⟨rfl,?_,h6.cells (g2.below hA g2.lt) (by omega) (by decide),(g3.trans (hA.mono g3.size)).trans h6.b⟩;rw[HG.out.1,HN.out,Al.out,<-Ah];exact h5
    clear Ap
    go_region_held3 (fun w'=>w'.cell? ⟨w.heap.size,0,none⟩=some (.slice (some ⟨b,Ab,none⟩) l.length c)/\w'.cell? ⟨b,Ab+k*3+1,none⟩=some (.string tx)) (first|(with_reducible exact⟨Aa,q1⟩)|(with_reducible exact⟨g60,g61⟩)|(with_reducible exact⟨g50,g51⟩)|go_keep) (first
     |(go_at_call 66;(refine (Af _ hx5).mono ?_);rintro _ w6 ⟨rfl,h6⟩;have g60:=h6.2.1.cell 0 _ rfl;have g61:=HQ.out w6 h6.2.2)
     |(go_at_call 111;(with_reducible refine (Ag _).mono ?_);rintro _ w5 ⟨rfl,hb5⟩;have hx5:=H5.out w5 hb5;have g50:=hx5.2.1.cell 0 _ rfl;have g51:=hx5.2.2.2;have A2:=hx5.2.1.lt))
    all_goals
     have Aq:=Hh h6;clear h6 H5 Af Ag Am An h4 Al HN HG q1 Aa Ac Ad Ae;go_wp2_with fail;go_roundw
     case rel=>exact⟨k+1,by omega,hkl,by go_num,Aq.out⟩
     case measure=>simp[intOf];omega
  ·obtain rfl:k=en:=by omega
   obtain⟨-,cs,h2,hB⟩:=HW.out.1;have hS:=si wr hB (by omega) (by have:=Ar.out;omega);have HB:=Hh hb;clear hB hW Aj hb;go_wp2_with fail;refine hS.mono ?_;rintro _ w5 ⟨rfl,hb5,-⟩;have Ay:=Hh (HB.out.trans hb5);clear hS hb5;go_wp2_with fail;go_ret;exact⟨rfl,Ay.out⟩
structure kZ where
 x:bA
 cs:List Value
 iv:Value
def zi(B g:Nat)(rb:Option Nat)(v:Value)(C:List kZ)(b:Nat):Prop:=B<=b/\b≠g/\rb≠some b/\v.ownBlock≠some b/\∀c∈C,c.iv.ownBlock≠some b
def jT(P:Nat->Prop)(B:Nat)(w:World)(c:kZ):Prop:=
 ∃(b:Bool) (n:ByteArray) (e:dR) (ls:List ByteArray) (vo vt:ByteArray) (vk lv:Value) (L:List (bA×List Value)),c.x=.mk b n e ls (L.map (·.1))/\c.cs=[.bool b,.string n,.string vo,.string vt,vk,lv,c.iv]/\
  af P w e [.string vo,.string vt,vk]/\lZ P w lv ls/\w.ownsRow B 54 7 c.iv L.length (L.flatMap (·.2))/\∀s∈L,aP P w s.1 s.2
structure Pk(g:Nat)(rb:Option Nat)(v:Value)(C:List kZ):Prop where
 vg:v.ownBlock≠some g
 vr:∀b,v.ownBlock=some b->rb≠some b
 rg:rb≠some g
 one:∀c∈C,∀b,c.iv.ownBlock=some b->v.ownBlock≠some b/\b≠g/\rb≠some b
 two:C.Pairwise (fun c d=>∀b,c.iv.ownBlock=some b->d.iv.ownBlock≠some b)
structure mM(B g:Nat)(rb:Option Nat)(w:World)(v:Value)(C:List kZ):Prop where
 gl:g<w.heap.size
 rl:∀b,rb=some b->b<w.heap.size
 row:w.ownsRow B 54 7 v C.length (C.flatMap (·.cs))
 apart:Pk g rb v C
 all:∀c∈C,jT (zi B g rb v C) B w c
def PG(B g:Nat)(rb:Option Nat)(w:World)(v:Value)(st:List bA):Prop:=∃C,st=C.map (·.x)/\mM B g rb w v C
theorem bZ{base size n:Nat}{e:TypeId}{w w':World}{v:Value}{xs:List Value}(h:w.ownsRow base e size v n xs)(hc:∀k,v.ownBlock=some k->w'.heap[k]?=w.heap[k]?):w'.ownsRow base e size v n xs:=by
 obtain⟨h1,h2⟩:=h;refine⟨h1,?_⟩;rcases h2 with h2|⟨g,cap,cur,rfl,hg0,hg,r⟩
 ·exact .inl h2
 ·exact .inr ⟨g,cap,cur,rfl,hg0,by rw[hc g rfl];exact hg,r⟩
theorem jT.move{P Q:Nat->Prop}{B:Nat}{w w':World}{c:kZ}(hs:w.heap.size<=w'.heap.size)(hb:∀k,P k->k<w.heap.size->w'.heap[k]?=w.heap[k]?)(hq:∀k,P k->k<w.heap.size->Q k)
  (hi:∀k,c.iv.ownBlock=some k->w'.heap[k]?=w.heap[k]?) (h:jT P B w c):jT Q B w' c:=by
 obtain⟨b,n,e,ls,vo,vt,vk,lv,L,h1,h2,h3,h4,h5,h6⟩:=h;exact⟨b,n,e,ls,vo,vt,vk,lv,L,h1,h2,af.move hs hb hq e _ h3,h4.move hs hb hq,bZ h5 hi,fun s hm=>aP.move hs hb hq _ _ (h6 s hm)⟩
theorem Ku{base:Nat}{e:TypeId}{w:World}{v:Value}{n m:Nat}{xs ys:List Value}(h1:w.ownsRow base e 7 v n xs)(h2:w.ownsRow base e 7 v m ys):n=m/\xs=ys:=by
 obtain⟨a1,a2⟩:=h1;obtain⟨b1,b2⟩:=h2;rcases a2 with ⟨rfl,rfl⟩|⟨g,cap,cur,rfl,-,hg,-,-,-,r⟩
 ·rcases b2 with ⟨-,rfl⟩|⟨g',cap',cur',he,-⟩
  ·exact⟨rfl,(List.eq_nil_of_length_eq_zero (by simpa using a1)).trans (List.eq_nil_of_length_eq_zero (by simpa using b1)).symm⟩
  ·cases he
 ·rcases b2 with ⟨he,-⟩|⟨g',cap',cur',he,-,hg',-,-,-,r'⟩
  ·cases he
  ·cases he
   rw[hg] at hg';cases hg'
   exact⟨rfl,r.symm.trans r'⟩
theorem jT.len{P:Nat->Prop}{B:Nat}{w:World}{c:kZ}(h:jT P B w c):c.cs.length=7:=by
 obtain⟨b,n,e,ls,vo,vt,vk,lv,L,h1,h2,-⟩:=h;rw[h2];rfl
theorem jT.cell6{P:Nat->Prop}{B:Nat}{w:World}{c:kZ}(h:jT P B w c):c.cs[6]?=some c.iv:=by
 obtain⟨b,n,e,ls,vo,vt,vk,lv,L,h1,h2,-⟩:=h;rw[h2];rfl
theorem mM.lt{B g:Nat}{rb:Option Nat}{w:World}{v:Value}{C:List kZ}(h:mM B g rb w v C){b:Nat}(hb:v.ownBlock=some b\/∃c∈C,c.iv.ownBlock=some b):B<=b/\b<w.heap.size:=by
 rcases hb with hb|⟨c,hc,hb⟩
 ·exact World.ownsRow.lt h.row b hb
 ·obtain⟨_,_,_,_,_,_,_,_,_,-,-,-,-,h5,-⟩:=h.all c hc
  exact World.ownsRow.lt h5 b hb
theorem mM.keep{B g:Nat}{rb rb':Option Nat}{w w':World}{v:Value}{C:List kZ}(h:mM B g rb w v C)(hs:w.heap.size<=w'.heap.size)(hk:∀b,b<w.heap.size->b≠g->rb≠some b->w'.heap[b]?=w.heap[b]?)
  (hr:∀b,rb'=some b->(rb=some b\/w.heap.size<=b)/\b<w'.heap.size):mM B g rb' w' v C:=by
 have Aa:∀b,b<w.heap.size->rb≠some b->rb'≠some b:=fun b hl hn e=>(hr b e).1.elim hn (fun q=>by omega);refine⟨Nat.lt_of_lt_of_le h.gl hs,fun b e=>(hr b e).2,bZ h.row (fun k e=>hk k (h.lt (.inl e)).2 (fun q=>h.apart.vg (by rw[e,q])) (h.apart.vr k e)),⟨h.apart.vg,fun b e=>Aa b (h.lt (.inl e)).2 (h.apart.vr b e),Aa g h.gl h.apart.rg,fun c hc b e=>?_,h.apart.two⟩,fun c hc=>?_⟩
 ·obtain⟨q1,q2,q3⟩:=h.apart.one c hc b e
  exact⟨q1,q2,Aa b (h.lt (.inr ⟨c,hc,e⟩)).2 q3⟩
 ·refine (h.all c hc).move hs (fun k hP hl=>hk k hl hP.2.1 hP.2.2.1) (fun k hP hl=>⟨hP.1,hP.2.1,Aa k hl hP.2.2.1,hP.2.2.2⟩) (fun k e=>?_)
  obtain⟨q1,q2,q3⟩:=h.apart.one c hc k e;exact hk k (h.lt (.inr ⟨c,hc,e⟩)).2 q2 q3
theorem kH:∀(C:List kZ),(∀c∈C,c.cs.length=7)->(C.flatMap (·.cs)).length=C.length*7
 |[],_=>rfl
 | c::r,h=>by
  have h1:=h c (by simp);have h2:=kH r (fun d hd=>h d (by simp[hd]));simp only[List.flatMap_cons,List.length_append,List.length_cons,h1,h2];omega
theorem DR(C:List kZ)(c:kZ)(h:∀d∈C,d.cs.length=7)(j:Nat):((C++[c]).flatMap (·.cs))[C.length*7+j]?=c.cs[j]?:=by
 rw[List.flatMap_append,List.getElem?_append_right (by rw[kH C h];omega),kH C h,show C.length*7+j-C.length*7=j by omega];simp
theorem Lf(C:List kZ)(c:kZ)(h:∀d∈C,d.cs.length=7)(j:Nat)(u iv:Value)(x:bA):((C++[c]).flatMap (·.cs)).set (C.length*7+j) u=(C++[kZ.mk x (c.cs.set j u) iv]).flatMap (·.cs):=by
 rw[List.flatMap_append,List.flatMap_append,List.set_append_right _ _ (by rw[kH C h];omega),kH C h,show C.length*7+j-C.length*7=j by omega];simp
theorem mM.add{B g g2 cap2:Nat}{rb:Option Nat}{w w':World}{v:Value}{C:List kZ}{c:kZ}{k:Nat}{ts xs:List Value}{x:bA}(h:mM B g rb w v (C++[c]))(hx:aP (zi B g rb v (C++[c])) w x xs)
  (ht:w.ownsRow B 54 7 c.iv k ts) (h1:w'.ownsRow B 54 7 (.slice (some ⟨g2,0,none⟩) (k+1) cap2) (k+1) (ts++xs))
  (h2:w'.ownsRow B 54 7 v (C.length+1) (((C++[c]).flatMap (·.cs)).set (C.length*7+6) (.slice (some ⟨g2,0,none⟩) (k+1) cap2)))
  (h3:c.iv.ownBlock=some g2\/w.heap.size<=g2) (hs:w.heap.size<=w'.heap.size) (hf:∀b,b<w.heap.size->v.ownBlock≠some b->c.iv.ownBlock≠some b->w'.heap[b]?=w.heap[b]?) :
  mM B g rb w' v (C++[⟨c.x.add x,c.cs.set 6 (.slice (some ⟨g2,0,none⟩) (k+1) cap2),.slice (some ⟨g2,0,none⟩) (k+1) cap2⟩]):=by
 have h7:∀d∈C,d.cs.length=7:=fun d hd=>(h.all d (by simp[hd])).len
 have hP:∀b,zi B g rb v (C++[c]) b->b<w.heap.size->zi B g rb v (C++[⟨c.x.add x,c.cs.set 6 (.slice (some ⟨g2,0,none⟩) (k+1) cap2),.slice (some ⟨g2,0,none⟩) (k+1) cap2⟩]) b:=fun b hb hl=>by
  refine⟨hb.1,hb.2.1,hb.2.2.1,hb.2.2.2.1,fun d hd=>?_⟩;rcases List.mem_append.1 hd with hd|hd
  ·exact hb.2.2.2.2 d (by simp[hd])
  ·simp at hd
   subst hd;intro e;simp only[Value.ownBlock,Option.some.injEq] at e;subst e;exact h3.elim (fun q=>hb.2.2.2.2 c (by simp) q) (fun q=>by omega)
 have hC:∀b,zi B g rb v (C++[c]) b->b<w.heap.size->w'.heap[b]?=w.heap[b]?:=fun b hb hl=>hf b hl hb.2.2.2.1 (hb.2.2.2.2 c (by simp));have Aa:=h.apart.one c (by simp);have Ab:v.ownBlock≠some g2/\g2≠g/\rb≠some g2\/w.heap.size<=g2:=h3.imp (fun e=>Aa g2 e) id;refine⟨Nat.lt_of_lt_of_le h.gl hs,fun b e=>Nat.lt_of_lt_of_le (h.rl b e) hs,by rw[List.length_append];rw[Lf C c h7 6 _ (.slice (some ⟨g2,0,none⟩) (k+1) cap2) (c.x.add x)] at h2;exact h2,⟨h.apart.vg,h.apart.vr,h.apart.rg,fun d hd b e=>?_,?_⟩,fun d hd=>?_⟩
 ·rcases List.mem_append.1 hd with hd|hd
  ·exact h.apart.one d (by simp[hd]) b e
  ·simp at hd
   subst hd;simp only[Value.ownBlock,Option.some.injEq] at e;subst e;refine Ab.elim id (fun q=>⟨fun e=>?_,fun e=>?_,fun e=>?_⟩)
   ·have:=(h.lt (.inl e)).2;omega
   ·have:=h.gl;omega
   ·have:=h.rl _ e;omega
 ·have h2:=h.apart.two
  rw[List.pairwise_append] at h2 ⊢;refine⟨h2.1,by simp,fun d hd d2 hd2 b e=>?_⟩;simp at hd2
  subst hd2;intro e2;simp only[Value.ownBlock,Option.some.injEq] at e2;subst e2;exact h3.elim (fun q=>h2.2.2 d hd c (by simp) _ e q) (fun q=>by have:=(h.lt (.inr ⟨d,by simp[hd],e⟩)).2;omega)
 ·rcases List.mem_append.1 hd with hd|hd
  ·refine (h.all d (by simp[hd])).move hs hC hP (fun b e=>?_)
   have h2:=h.apart.two;rw[List.pairwise_append] at h2;exact hf b (h.lt (.inr ⟨d,by simp[hd],e⟩)).2 (h.apart.one d (by simp[hd]) b e).1 (h2.2.2 d hd c (by simp) b e)
  ·simp at hd
   subst hd;obtain⟨bb,n,e,ls,vo,vt,vk,lv,L,q1,q2,q3,q4,q5,q6⟩:=h.all c (by simp);obtain⟨rfl,rfl⟩:L.length=k/\L.flatMap (·.2)=ts:=Ku q5 ht;refine⟨bb,n,e,ls,vo,vt,vk,lv,L++[(x,xs)],?_,?_,af.move hs hC hP e _ q3,q4.move hs hC hP,by simpa using h1,fun s hm=>?_⟩
   ·rw[q1];simp[bA.add]
   ·rw[q2];rfl
   ·rcases List.mem_append.1 hm with hm|hm
    ·exact aP.move hs hC hP _ _ (q6 s hm)
    ·simp at hm
     subst hm;exact aP.move hs hC hP _ _ hx
abbrev j5:=Option Addr×Nat×Nat
def eO(s:j5):Value:=.slice s.1 s.2.1 s.2.2
def ny(d:j5×j6):List Value:=[eO d.1,.int .i64 d.2.lo,.int .i64 d.2.hi,.int .i64 d.2.dep]
theorem Tryz.infoRowL:(Tryz.prog.info? 110).map (fun i=>(i.zero,i.size,i.bytes))=some (some (.agg #[.slice none 0 0,.int .i64 0,.int .i64 0,.int .i64 0]),4,48):=by kernel_rfl
theorem Bb{base n sz:Nat}{E:TypeId}{w:World}{v:Value}{xs:List Value}(h:w.ownsRow base E sz v n xs):∀k,v.ownBlock=some k->∃cs,w.heap[k]?=some (.cells cs E (0,0)):=by
 intro k hk;rcases h.2 with ⟨rfl,-⟩|⟨g,cap,cur,rfl,-,hg,-⟩
 ·cases hk
 ·cases hk;exact⟨cur,hg⟩
theorem dC{base n sz g:Nat}{E t:TypeId}{w:World}{v:Value}{xs:List Value}{cs:Array Value}(h:w.ownsRow base E sz v n xs)(hc:ae w g cs t)(ht:E≠t):∀k,v.ownBlock=some k->k≠g:=by
 rintro k hk rfl;obtain⟨Aa,h2⟩:=Bb h k hk;have h3:w.heap[k]?=some (.cells cs t (0,0)):=hc;rw[h2] at h3;simp only[Option.some.injEq,Obj.cells.injEq] at h3;exact ht h3.2.1
theorem nY{base base2 n n2 sz sz2:Nat}{E t:TypeId}{w:World}{v u:Value}{xs ys:List Value}(h:w.ownsRow base E sz v n xs)(h2:w.ownsRow base2 t sz2 u n2 ys)(ht:E≠t):∀k,v.ownBlock=some k->u.ownBlock≠some k:=by
 intro k hk hk2;obtain⟨cs,h3⟩:=Bb h k hk;obtain⟨Aa,h4⟩:=Bb h2 k hk2;rw[h3] at h4;simp only[Option.some.injEq,Obj.cells.injEq] at h4;exact ht h4.2.1
structure qJ(B gr go gl:Nat)(w:World)(lv:Value)(D:List (j5×j6))(cur:j5)(toks:List ag)(fr hi dp o:Int):Prop where
 r:ae w gr #[eO cur,.int .i64 fr,.int .i64 hi,.int .i64 dp] 110
 o:ae w go #[.int .i64 o] 3
 l:ae w gl #[lv] 95
 own:w.ownsRow B 110 4 lv D.length (D.flatMap ny)
 lg:lv.ownBlock≠some gr
 tk:aO B w (eO cur) toks
 fin:∀d∈D,aO B w (eO d.1) d.2.toks/\∀k,(eO d.1).ownBlock=some k->(eO cur).ownBlock≠some k
 le:B<=gr/\B<=go/\B<=gl
section
variable {B gr go gl:Nat} {w w':World} {lv:Value} {D:List (j5×j6)} {cur:j5} {toks:List ag} {fr hi dp o:Int}
theorem sU{v:Value}{l:List ag}(h:aO B w v l):∀k,v.ownBlock=some k->k<w.heap.size:=fun k hk=>(World.ownsRow.lt h k hk).2
theorem qJ.moved(h:qJ B gr go gl w lv D cur toks fr hi dp o)(hk:∀k,k<w.heap.size->k≠gr->k≠go->k≠gl->w'.heap[k]?=w.heap[k]?){fr' hi' dp' o':Int}
  (hr:ae w' gr #[eO cur,.int .i64 fr',.int .i64 hi',.int .i64 dp'] 110) (ho:ae w' go #[.int .i64 o'] 3) (hl:ae w' gl #[lv] 95):qJ B gr go gl w' lv D cur toks fr' hi' dp' o':=by
 have hT:∀v l,aO B w v l->aO B w' v l:=fun v l hv=>hv.moved fun k e=>hk k (sU hv k e) (dC hv h.r (by decide) k e) (dC hv h.o (by decide) k e) (dC hv h.l (by decide) k e);refine⟨hr,ho,hl,bZ h.own (fun k e=>hk k (World.ownsRow.lt h.own k e).2 (fun q=>h.lg (by rw[e,q])) (dC h.own h.o (by decide) k e) (dC h.own h.l (by decide) k e)),h.lg,hT _ _ h.tk,fun d hd=>⟨hT _ _ (h.fin d hd).1,(h.fin d hd).2⟩,h.le⟩
theorem qJ.below(h:qJ B gr go gl w lv D cur toks fr hi dp o)(hb:Below w.heap.size w w'):qJ B gr go gl w' lv D cur toks fr hi dp o:=
 h.moved (fun k hk _ _ _=>hb.block k hk) (h.r.below hb h.r.lt) (h.o.below hb h.o.lt) (h.l.below hb h.l.lt)
theorem qJ.ne(h:qJ B gr go gl w lv D cur toks fr hi dp o):gr≠go/\gr≠gl/\go≠gl:=by
 have hd:∀{g g2:Nat} {cs cs2:Array Value} {t t2:TypeId},ae w g cs t->ae w g2 cs2 t2->t≠t2->g≠g2:=by
  rintro g g2 cs cs2 t t2 h1 h2 ht rfl;have Ab:w.heap[g]?=some (.cells cs t (0,0)):=h1;have Aa:w.heap[g]?=some (.cells cs2 t2 (0,0)):=h2;rw[Ab] at Aa;simp only[Option.some.injEq,Obj.cells.injEq] at Aa;exact ht Aa.2.1
 exact⟨hd h.r h.o (by decide),hd h.r h.l (by decide),hd h.o h.l (by decide)⟩
theorem qJ.setHi(h:qJ B gr go gl w lv D cur toks fr hi dp o)(x:Int):qJ B gr go gl (w.setCell ⟨gr,2,none⟩ (.int .i64 x)) lv D cur toks fr x dp o:=by
 obtain⟨n1,n2,n3⟩:=h.ne;exact h.moved (fun k _ hk _ _=>Below.heap_setCell _ _ _ _ hk) (h.r.set 2 (by simp) (.int .i64 x)) (h.o.setOther _ _ n1) (h.l.setOther _ _ n2)
theorem qJ.setDp(h:qJ B gr go gl w lv D cur toks fr hi dp o)(x:Int):qJ B gr go gl (w.setCell ⟨gr,3,none⟩ (.int .i64 x)) lv D cur toks fr hi x o:=by
 obtain⟨n1,n2,n3⟩:=h.ne;exact h.moved (fun k _ hk _ _=>Below.heap_setCell _ _ _ _ hk) (h.r.set 3 (by simp) (.int .i64 x)) (h.o.setOther _ _ n1) (h.l.setOther _ _ n2)
theorem qJ.setO(h:qJ B gr go gl w lv D cur toks fr hi dp o)(x:Int):qJ B gr go gl (w.setCell ⟨go,0,none⟩ (.int .i64 x)) lv D cur toks fr hi dp x:=by
 obtain⟨n1,n2,n3⟩:=h.ne;exact h.moved (fun k _ _ hk _=>Below.heap_setCell _ _ _ _ hk) (h.r.setOther _ _ n1.symm) (h.o.set 0 (by simp) (.int .i64 x)) (h.l.setOther _ _ n3)
theorem fZ{w:World}{ops:Array Oper}{rest:List Oper}{p:Oper}{a:Act}{Q:Exit->Act->World->Prop}(hgd:p.guard=none)(s x:Operand)
  (hop:p.op=.call { callee:=.builtin .append,args:=#[s,x],argTypes:=#[95,95] }) (B:Nat) (lv:Value) (D:List (j5×j6)) (d:j5×j6) (hs:a.eval s=lv)
  (hown:w.ownsRow B 110 4 lv D.length (D.flatMap ny)) (g:Nat) (hx:a.eval x=.slice (some ⟨g,0,none⟩) 1 1) (hc:ae w g #[eO d.1,.int .i64 d.2.lo,.int .i64 d.2.hi,.int .i64 d.2.dep] 110)
  (hD:D.length<=1000000) (hbase:B<=w.heap.size) (H:Nat) (hH:w.heap.size=H)
  (hK:∀g2 c2 w',w'.ownsRow B 110 4 (.slice (some ⟨g2,0,none⟩) (D.length+1) c2) (D.length+1) (D.flatMap ny++ny d)->w.grownBy w' lv.ownBlock->(lv.ownBlock=some g2\/g2=H)->g2<w'.heap.size->
   wpList Tryz.prog ops Q rest (a.put p.dst (.slice (some ⟨g2,0,none⟩) (D.length+1) c2)) w'):wpList Tryz.prog ops Q (p::rest) a w:=by
 obtain⟨i,Aa,Ab,Ac,Ad⟩:=info_parts Tryz.infoRowL;refine wpList_append_lies w hgd s x 95 hop B 110 i _ 4 48 Tryz.underlying95 Aa Ab Ac Ad rfl (by decide) lv D.length (D.flatMap ny) hs hown ⟨g,0,none⟩ 1 1 (ny d) hx rfl ?_ ?_ (by omega) (by unfold maxLen;omega) (by omega) hbase H hH hK
 ·intro j u hu
  rw[Addr.add_lit,Nat.zero_add];exact hc.cell _ _ (by simpa [ny] using hu)
 ·intro u hu
  simp only[ny,List.mem_cons,List.not_mem_nil,or_false] at hu;rcases hu with rfl|rfl|rfl|rfl<;>rfl
theorem qJ.cur_fresh(h:qJ B gr go gl w lv D cur toks fr hi dp o):∀k,(eO cur).ownBlock=some k->k<w.heap.size/\k≠gr/\k≠go/\k≠gl/\lv.ownBlock≠some k:=fun k e=>
 ⟨sU h.tk k e,dC h.tk h.r (by decide) k e,dC h.tk h.o (by decide) k e,dC h.tk h.l (by decide) k e,nY h.tk h.own (by decide) k e⟩
theorem Jj(D:List (j5×j6))(x:j5×j6):(D++[x]).flatMap ny=D.flatMap ny++ny x:=by simp
theorem qJ.push(h:qJ B gr go gl w lv D cur toks fr hi dp o){g2 c2:Nat}(hg:w.grownBy w' lv.ownBlock)(hown:w'.ownsRow B 110 4 (.slice (some ⟨g2,0,none⟩) (D.length+1) c2) (D.length+1) (D.flatMap ny++ny (cur,⟨toks,fr,hi,dp⟩)))
  (hat:lv.ownBlock=some g2\/w.heap.size<=g2) (x:Int) :
  qJ B gr go gl (((((w'.setCell ⟨gl,0,none⟩ (.slice (some ⟨g2,0,none⟩) (D.length+1) c2)).setCell ⟨gr,0,none⟩ (.slice none 0 0)).setCell ⟨gr,1,none⟩ (.int .i64 x)).setCell ⟨gr,2,none⟩ (.int .i64 0)).setCell ⟨gr,3,none⟩ (.int .i64 0))
   (.slice (some ⟨g2,0,none⟩) (D.length+1) c2) (D++[(cur,⟨toks,fr,hi,dp⟩)]) (none,0,0) [] x 0 0 o:=by
 obtain⟨n1,n2,n3⟩:=h.ne;have Ab:lv.ownBlock≠some gr:=h.lg;have Ae:ae w' gr _ _:=h.r.kept hg (fun e=>Ab e.symm);have Ad:ae w' go _ _:=h.o.kept hg (fun e=>dC h.own h.o (by decide) go e.symm rfl);have Ac:ae w' gl _ _:=h.l.kept hg (fun e=>dC h.own h.l (by decide) gl e.symm rfl)
 have Aa:g2≠gr:=by
  rcases hat with e|e
  ·rintro rfl;exact Ab e
  ·have:=h.r.lt;omega
 have hT:∀v l,aO B w v l->aO B (((((w'.setCell ⟨gl,0,none⟩ (.slice (some ⟨g2,0,none⟩) (D.length+1) c2)).setCell ⟨gr,0,none⟩ (.slice none 0 0)).setCell ⟨gr,1,none⟩ (.int .i64 x)).setCell ⟨gr,2,none⟩ (.int .i64 0)).setCell ⟨gr,3,none⟩ (.int .i64 0)) v l:=fun v l hv=>
  hv.moved fun k e=>by
   have e1:k≠gr:=dC hv h.r (by decide) k e;have e2:k≠gl:=dC hv h.l (by decide) k e;have e3:=nY hv h.own (by decide) k e;rw[Below.heap_setCell _ _ _ _ (by exact e1),Below.heap_setCell _ _ _ _ (by exact e1),Below.heap_setCell _ _ _ _ (by exact e1),Below.heap_setCell _ _ _ _ (by exact e1),Below.heap_setCell _ _ _ _ (by exact e2)];exact hg.block k (sU hv k e) (fun q=>e3 q.symm)
 have s0:=(Ae.setOther ⟨gl,0,none⟩ (.slice (some ⟨g2,0,none⟩) (D.length+1) c2) (by exact n2.symm));refine⟨(((s0.set 0 (by simp) (.slice none 0 0)).set 1 (by simp) (.int .i64 x)).set 2 (by simp) (.int .i64 0)).set 3 (by simp) (.int .i64 0),?_,?_,?_,?_,aO.nil,?_,h.le⟩
 ·exact ((((Ad.setOther _ _ n3.symm).setOther _ _ n1).setOther _ _ n1).setOther _ _ n1).setOther _ _ n1
 ·exact ((((Ac.set 0 (by simp) _).setOther _ _ n2).setOther _ _ n2).setOther _ _ n2).setOther _ _ n2
 ·rw[Jj,List.length_append,List.length_singleton]
  refine bZ hown (fun k e=>?_);cases e
  have e2:g2≠gl:=dC hown Ac (by decide) g2 rfl;rw[Below.heap_setCell _ _ _ _ (by exact Aa),Below.heap_setCell _ _ _ _ (by exact Aa),Below.heap_setCell _ _ _ _ (by exact Aa),Below.heap_setCell _ _ _ _ (by exact Aa),Below.heap_setCell _ _ _ _ (by exact e2)]
 ·intro e
  exact Aa (by simpa [Value.ownBlock] using e)
 ·intro d hd
  rcases List.mem_append.1 hd with hd|hd
  ·exact⟨hT _ _ (h.fin d hd).1,fun k _ e=>by cases e⟩
  ·rw[List.mem_singleton.1 hd]
   exact⟨hT _ _ h.tk,fun k _ e=>by cases e⟩
theorem qJ.tok(h:qJ B gr go gl w lv D cur toks fr hi dp o){t:ag}{gb cap:Nat}(hg:w.grownBy w' (eO cur).ownBlock)(hown:aO B w' (.slice (some ⟨gb,0,none⟩) (toks.length+1) cap) (toks++[t]))(hat:(eO cur).ownBlock=some gb\/w.heap.size<=gb) :
  qJ B gr go gl (w'.setCell ⟨gr,0,none⟩ (.slice (some ⟨gb,0,none⟩) (toks.length+1) cap)) lv D (some ⟨gb,0,none⟩,toks.length+1,cap) (toks++[t]) fr hi dp o:=by
 obtain⟨n1,n2,n3⟩:=h.ne;have hc:=h.cur_fresh;have Aa:ae w' gr _ _:=h.r.kept hg (fun e=>(hc gr e.symm).2.1 rfl);have Ad:ae w' go _ _:=h.o.kept hg (fun e=>(hc go e.symm).2.2.1 rfl);have Ac:ae w' gl _ _:=h.l.kept hg (fun e=>(hc gl e.symm).2.2.2.1 rfl);have Ab:gb≠gr:=dC hown Aa (by decide) gb rfl;refine⟨Aa.set 0 (by simp) _,Ad.setOther _ _ n1,Ac.setOther _ _ n2,?_,h.lg,?_,?_,h.le⟩
 ·refine bZ h.own (fun k e=>?_)
  rw[Below.heap_setCell _ _ _ _ (by intro q;exact h.lg (by rw[e];exact congrArg some q))];exact hg.block k (World.ownsRow.lt h.own k e).2 (fun q=>(hc k q.symm).2.2.2.2 e)
 ·refine hown.moved (fun k e=>?_)
  cases e
  exact Below.heap_setCell _ _ _ _ (by exact Ab)
 ·intro d hd
  obtain⟨f1,f2⟩:=h.fin d hd;refine⟨f1.moved fun k e=>?_,fun k e q=>?_⟩
  ·rw[Below.heap_setCell _ _ _ _ (by exact dC f1 h.r (by decide) k e)]
   exact hg.block k (sU f1 k e) (fun q=>f2 k e q.symm)
  ·have q:gb=k:=by simpa [eO,Value.ownBlock] using q
   subst q;rcases hat with hat|hat
   ·exact f2 _ e hat
   ·have:=sU f1 _ e;omega
end
def PP(B gr go gl:Nat)(D:List (j5×j6))(o:Int)(x:Int)(w:World)(e:Ending)(w':World):Prop:=
 e=.returned (.tuple #[])/\(∃lv,qJ B gr go gl w' lv D (none,0,0) [] (x+1) 0 0 o)/\Below B w w'
theorem uQ{B gr go gl:Nat}{w:World}{lv:Value}{D:List (j5×j6)}{cur:j5}{toks:List ag}{fr hi dp o:Int}(h:qJ B gr go gl w lv D cur toks fr hi dp o)(x:Int)
  (hx : -1<=x/\x<=1000000000) (ho : -1000000<=o/\o<=1000000) (hD:D.length<=1000000) (hT:toks.length<=1000000) :
  Calls Tryz.prog 100 #[.int .i64 x,.pointer (some ⟨gr,0,none⟩),.pointer (some ⟨go,0,none⟩),.pointer (some ⟨gl,0,none⟩)] w (PP B gr go gl (D++[(cur,qF o toks fr x)]) (eZ o toks) x w):=by
 have Ar:B<=w.heap.size:=by have:=h.le;have:=h.r.lt;omega
 have h1:=h.setHi x;have b1:Below B w (w.setCell ⟨gr,2,none⟩ (.int .i64 x)):=(Below.refl _ _).setCell (by exact h.le.1) _;have Ap:=Bq _ _ toks fr x dp h1.tk.toks hT;obtain⟨n1,n2,n3⟩:=h.ne;have As:=n1.symm;have At:=n2.symm;have Au:=n3.symm;have k1:IntKind.i64.wrap (o-1)=o-1:=IntWalk.i64_in _ (by omega);have k2:IntKind.i64.wrap (o+1)=o+1:=IntWalk.i64_in _ (by omega);have k3:IntKind.i64.wrap (o-1+1)=o:=by rw[IntWalk.i64_in _ (by omega)];omega
 have k4:IntKind.i64.wrap (x+1)=x+1:=IntWalk.i64_in _ (by omega);obtain⟨a,n,c⟩:=cur
 have Aq:oN toks=true/\gD o toks=o-1\/oN toks=false/\gD o toks=o:=by
  unfold gD;cases oN toks
  ·exact .inr ⟨rfl,rfl⟩
  ·exact .inl ⟨rfl,rfl⟩
 have Ao:mq toks=true/\eZ o toks=gD o toks+1\/mq toks=false/\eZ o toks=gD o toks:=by
  unfold eZ;cases mq toks
  ·exact .inr ⟨rfl,rfl⟩
  ·exact .inl ⟨rfl,rfl⟩
 unfold qF;have H1:=Jh h1 b1;have hr:=h.r;have ho:=h.o;have hl:=h.l;have lr:=hr.lt;have lo:=ho.lt;have ll:=hl.lt;obtain⟨Aa,Ag,Ad,Ah,Ae,Ai,Af,Aj⟩:=hr.n4 rfl;obtain⟨Ak,Al⟩:=ho.n1 rfl;obtain⟨Ab,Ac⟩:=hl.n1 rfl;clear hr ho hl;simp only[eO] at Ap Aa;clear h h1 b1;go_enter Tryz.func100,Tryz.ntmps100;go_wp2_with fail;refine Ap.mono ?_;rintro _ w2 ⟨rfl,hb2⟩;have H2:=Jh (H1.out.1.below hb2) (H1.out.2.trans (hb2.mono (by have:=H1.out.2.size;omega)));clear Ap hb2 H1;clear Aa Ad Ae Af Ag Ah Ai Aj Ak Al Ab Ac lr lo ll;rcases Aq with ⟨ec,ed⟩|⟨ec,ed⟩
 ·rw[ed] at Ao
  have H3:=Jh ((H2.out.1.setO (o-1)).setDp (o-1)) ((H2.out.2.setCell (p:=⟨go,0,none⟩) H2.out.1.le.2.1 (.int .i64 (o-1))).setCell (p:=⟨gr,3,none⟩) H2.out.1.le.1 (.int .i64 (o-1)));have An:=uT _ _ toks fr x (o-1) H3.out.1.tk.toks hT;have HD:=Hh ed;have hr:=H2.out.1.r;have ho:=H2.out.1.o;have hl:=H2.out.1.l;have lr:=hr.lt;have lo:=ho.lt;have ll:=hl.lt;obtain⟨Aa,Ag,Ad,Ah,Ae,Ai,Af,Aj⟩:=hr.n4 rfl;obtain⟨Ak,Al⟩:=ho.n1 rfl;obtain⟨Ab,Ac⟩:=hl.n1 rfl;clear hr ho hl;simp only[eO] at An Aa;rw[ec];clear ed ec;go_wp2_with fail;refine An.mono ?_;rintro _ w4 ⟨rfl,hb4⟩;have H4:=Jh (H3.out.1.below hb4) (H3.out.2.trans (hb4.mono (by have:=H3.out.2.size;omega)));clear An hb4 H3 H2;clear Aa Ad Ae Af Ag Ah Ai Aj Ak Al Ab Ac lr lo ll;rcases Ao with ⟨ec,ed⟩|⟨ec,ed⟩
  ·have H5:=Jh (H4.out.1.setO o) (H4.out.2.setCell (p:=⟨go,0,none⟩) H4.out.1.le.2.1 (.int .i64 o))
   have HE:Hid (gD o toks=o-1/\eZ o toks=o):=Hh ⟨HD.out,by omega⟩;have hr:=H4.out.1.r;have ho:=H4.out.1.o;have hl:=H4.out.1.l;have lr:=hr.lt;have lo:=ho.lt;have ll:=hl.lt;obtain⟨Aa,Ag,Ad,Ah,Ae,Ai,Af,Aj⟩:=hr.n4 rfl;obtain⟨Ak,Al⟩:=ho.n1 rfl;obtain⟨Ab,Ac⟩:=hl.n1 rfl;clear hr ho hl;rw[ec];clear ec ed;go_wp2_with (with_reducible first|refine aK ?_)
   refine Stop.out ?_;refine fZ rfl _ _ rfl B lv D ((a,n,c),⟨toks,fr,x,o-1⟩) rfl (by exact H5.out.1.own.alloc _) w4.heap.size (by rfl) (by have q:=ae.new (w4.setCell ⟨go,0,none⟩ (.int .i64 o)) #[eO (a,n,c),.int .i64 fr,.int .i64 x,.int .i64 (o-1)] 110;(try simp only[World.size_setCell] at q);exact q) hD (by have:=H5.out.1.r.lt;have:=H5.out.1.le;simp only[World.size_alloc,World.size_setCell] at *;omega) ((w4.setCell ⟨go,0,none⟩ (.int .i64 o)).heap.size+1) (by simp) ?_;intro g2 c2 w6 ho6 hg6 hat6 hlt6;have Am:=(World.grownBy_alloc (w4.setCell ⟨go,0,none⟩ (.int .i64 o)) (.cells #[eO (a,n,c),.int .i64 fr,.int .i64 x,.int .i64 (o-1)] 110) lv.ownBlock).trans hg6;have HP:=Hh (H5.out.1.push Am ho6 (hat6.imp id (fun q=>by omega)) (x+1));have hr:=H5.out.1.r.kept Am (fun e=>H5.out.1.lg e.symm);have hl:=H5.out.1.l.kept Am (fun e=>dC H5.out.1.own H5.out.1.l (by decide) gl e.symm rfl);have HB:=Hh (H5.out.2.grown Am (by have:=H5.out.1.r.lt;have:=H5.out.1.le;omega) (fun k e=>(World.ownsRow.lt H5.out.1.own k e).1));have HL:=Hh H5.out.1.le;clear Aa Ad Ae Af Ag Ah Ai Aj Ak Al Ab Ac lr lo ll;have lr:=hr.lt;have ll:=hl.lt;obtain⟨Aa,Ag,Ad,Ah,Ae,Ai,Af,Aj⟩:=hr.n4 rfl
   obtain⟨Ab,Ac⟩:=hl.n1 rfl;clear hr hl Am ho6 hg6 hat6 hlt6;go_wp2_with fail;refine bodyPost_end (v:=.tuple #[]) (by simp[results,Tryz.results100,go_sem]) rfl ?_;rw[HE.out.1,HE.out.2];exact⟨rfl,⟨_,HP.out⟩,((((HB.out.setCell (by exact HL.out.2.2) _).setCell (by exact HL.out.1) _).setCell (by exact HL.out.1) _).setCell (by exact HL.out.1) _).setCell (by exact HL.out.1) _⟩
  ·have H5:=H4
   have HE:Hid (gD o toks=o-1/\eZ o toks=o-1):=Hh ⟨HD.out,ed⟩;have hr:=H4.out.1.r;have ho:=H4.out.1.o;have hl:=H4.out.1.l;have lr:=hr.lt;have lo:=ho.lt;have ll:=hl.lt;obtain⟨Aa,Ag,Ad,Ah,Ae,Ai,Af,Aj⟩:=hr.n4 rfl;obtain⟨Ak,Al⟩:=ho.n1 rfl;obtain⟨Ab,Ac⟩:=hl.n1 rfl;clear hr ho hl;rw[ec];clear ec ed;go_wp2_with (with_reducible first|refine aK ?_)
   refine Stop.out ?_;refine fZ rfl _ _ rfl B lv D ((a,n,c),⟨toks,fr,x,o-1⟩) rfl (by exact H5.out.1.own.alloc _) w4.heap.size (by rfl) (by have q:=ae.new (w4) #[eO (a,n,c),.int .i64 fr,.int .i64 x,.int .i64 (o-1)] 110;(try simp only[World.size_setCell] at q);exact q) hD (by have:=H5.out.1.r.lt;have:=H5.out.1.le;simp only[World.size_alloc,World.size_setCell] at *;omega) ((w4).heap.size+1) (by simp) ?_;intro g2 c2 w6 ho6 hg6 hat6 hlt6;have Am:=(World.grownBy_alloc (w4) (.cells #[eO (a,n,c),.int .i64 fr,.int .i64 x,.int .i64 (o-1)] 110) lv.ownBlock).trans hg6;have HP:=Hh (H5.out.1.push Am ho6 (hat6.imp id (fun q=>by omega)) (x+1));have hr:=H5.out.1.r.kept Am (fun e=>H5.out.1.lg e.symm);have hl:=H5.out.1.l.kept Am (fun e=>dC H5.out.1.own H5.out.1.l (by decide) gl e.symm rfl);have HB:=Hh (H5.out.2.grown Am (by have:=H5.out.1.r.lt;have:=H5.out.1.le;omega) (fun k e=>(World.ownsRow.lt H5.out.1.own k e).1));have HL:=Hh H5.out.1.le;clear Aa Ad Ae Af Ag Ah Ai Aj Ak Al Ab Ac lr lo ll;have lr:=hr.lt;have ll:=hl.lt;obtain⟨Aa,Ag,Ad,Ah,Ae,Ai,Af,Aj⟩:=hr.n4 rfl;obtain⟨Ab,Ac⟩:=hl.n1 rfl;clear hr hl Am ho6 hg6 hat6 hlt6;go_wp2_with fail
   refine bodyPost_end (v:=.tuple #[]) (by simp[results,Tryz.results100,go_sem]) rfl ?_;rw[HE.out.1,HE.out.2];exact⟨rfl,⟨_,HP.out⟩,((((HB.out.setCell (by exact HL.out.2.2) _).setCell (by exact HL.out.1) _).setCell (by exact HL.out.1) _).setCell (by exact HL.out.1) _).setCell (by exact HL.out.1) _⟩
 ·rw[ed] at Ao
  have H3:=Jh (H2.out.1.setDp o) (H2.out.2.setCell (p:=⟨gr,3,none⟩) H2.out.1.le.1 (.int .i64 o));have An:=uT _ _ toks fr x o H3.out.1.tk.toks hT;have HD:=Hh ed;have hr:=H2.out.1.r;have ho:=H2.out.1.o;have hl:=H2.out.1.l;have lr:=hr.lt;have lo:=ho.lt;have ll:=hl.lt;obtain⟨Aa,Ag,Ad,Ah,Ae,Ai,Af,Aj⟩:=hr.n4 rfl;obtain⟨Ak,Al⟩:=ho.n1 rfl;obtain⟨Ab,Ac⟩:=hl.n1 rfl;clear hr ho hl;simp only[eO] at An Aa;rw[ec];clear ed ec;go_wp2_with fail;refine An.mono ?_;rintro _ w4 ⟨rfl,hb4⟩;have H4:=Jh (H3.out.1.below hb4) (H3.out.2.trans (hb4.mono (by have:=H3.out.2.size;omega)));clear An hb4 H3 H2;clear Aa Ad Ae Af Ag Ah Ai Aj Ak Al Ab Ac lr lo ll;rcases Ao with ⟨ec,ed⟩|⟨ec,ed⟩
  ·have H5:=Jh (H4.out.1.setO (o+1)) (H4.out.2.setCell (p:=⟨go,0,none⟩) H4.out.1.le.2.1 (.int .i64 (o+1)))
   have HE:Hid (gD o toks=o/\eZ o toks=o+1):=Hh ⟨HD.out,ed⟩;have hr:=H4.out.1.r;have ho:=H4.out.1.o;have hl:=H4.out.1.l;have lr:=hr.lt;have lo:=ho.lt;have ll:=hl.lt;obtain⟨Aa,Ag,Ad,Ah,Ae,Ai,Af,Aj⟩:=hr.n4 rfl;obtain⟨Ak,Al⟩:=ho.n1 rfl;obtain⟨Ab,Ac⟩:=hl.n1 rfl;clear hr ho hl;rw[ec];clear ec ed;go_wp2_with (with_reducible first|refine aK ?_)
   refine Stop.out ?_;refine fZ rfl _ _ rfl B lv D ((a,n,c),⟨toks,fr,x,o⟩) rfl (by exact H5.out.1.own.alloc _) w4.heap.size (by rfl) (by have q:=ae.new (w4.setCell ⟨go,0,none⟩ (.int .i64 (o+1))) #[eO (a,n,c),.int .i64 fr,.int .i64 x,.int .i64 (o)] 110;(try simp only[World.size_setCell] at q);exact q) hD (by have:=H5.out.1.r.lt;have:=H5.out.1.le;simp only[World.size_alloc,World.size_setCell] at *;omega) ((w4.setCell ⟨go,0,none⟩ (.int .i64 (o+1))).heap.size+1) (by simp) ?_;intro g2 c2 w6 ho6 hg6 hat6 hlt6;have Am:=(World.grownBy_alloc (w4.setCell ⟨go,0,none⟩ (.int .i64 (o+1))) (.cells #[eO (a,n,c),.int .i64 fr,.int .i64 x,.int .i64 (o)] 110) lv.ownBlock).trans hg6;have HP:=Hh (H5.out.1.push Am ho6 (hat6.imp id (fun q=>by omega)) (x+1));have hr:=H5.out.1.r.kept Am (fun e=>H5.out.1.lg e.symm);have hl:=H5.out.1.l.kept Am (fun e=>dC H5.out.1.own H5.out.1.l (by decide) gl e.symm rfl);have HB:=Hh (H5.out.2.grown Am (by have:=H5.out.1.r.lt;have:=H5.out.1.le;omega) (fun k e=>(World.ownsRow.lt H5.out.1.own k e).1));have HL:=Hh H5.out.1.le;clear Aa Ad Ae Af Ag Ah Ai Aj Ak Al Ab Ac lr lo ll;have lr:=hr.lt;have ll:=hl.lt;obtain⟨Aa,Ag,Ad,Ah,Ae,Ai,Af,Aj⟩:=hr.n4 rfl
   obtain⟨Ab,Ac⟩:=hl.n1 rfl;clear hr hl Am ho6 hg6 hat6 hlt6;go_wp2_with fail;refine bodyPost_end (v:=.tuple #[]) (by simp[results,Tryz.results100,go_sem]) rfl ?_;rw[HE.out.1,HE.out.2];exact⟨rfl,⟨_,HP.out⟩,((((HB.out.setCell (by exact HL.out.2.2) _).setCell (by exact HL.out.1) _).setCell (by exact HL.out.1) _).setCell (by exact HL.out.1) _).setCell (by exact HL.out.1) _⟩
  ·have H5:=H4
   have HE:Hid (gD o toks=o/\eZ o toks=o):=Hh ⟨HD.out,ed⟩;have hr:=H4.out.1.r;have ho:=H4.out.1.o;have hl:=H4.out.1.l;have lr:=hr.lt;have lo:=ho.lt;have ll:=hl.lt;obtain⟨Aa,Ag,Ad,Ah,Ae,Ai,Af,Aj⟩:=hr.n4 rfl;obtain⟨Ak,Al⟩:=ho.n1 rfl;obtain⟨Ab,Ac⟩:=hl.n1 rfl;clear hr ho hl;rw[ec];clear ec ed;go_wp2_with (with_reducible first|refine aK ?_)
   refine Stop.out ?_;refine fZ rfl _ _ rfl B lv D ((a,n,c),⟨toks,fr,x,o⟩) rfl (by exact H5.out.1.own.alloc _) w4.heap.size (by rfl) (by have q:=ae.new (w4) #[eO (a,n,c),.int .i64 fr,.int .i64 x,.int .i64 (o)] 110;(try simp only[World.size_setCell] at q);exact q) hD (by have:=H5.out.1.r.lt;have:=H5.out.1.le;simp only[World.size_alloc,World.size_setCell] at *;omega) ((w4).heap.size+1) (by simp) ?_;intro g2 c2 w6 ho6 hg6 hat6 hlt6;have Am:=(World.grownBy_alloc (w4) (.cells #[eO (a,n,c),.int .i64 fr,.int .i64 x,.int .i64 (o)] 110) lv.ownBlock).trans hg6;have HP:=Hh (H5.out.1.push Am ho6 (hat6.imp id (fun q=>by omega)) (x+1));have hr:=H5.out.1.r.kept Am (fun e=>H5.out.1.lg e.symm);have hl:=H5.out.1.l.kept Am (fun e=>dC H5.out.1.own H5.out.1.l (by decide) gl e.symm rfl);have HB:=Hh (H5.out.2.grown Am (by have:=H5.out.1.r.lt;have:=H5.out.1.le;omega) (fun k e=>(World.ownsRow.lt H5.out.1.own k e).1));have HL:=Hh H5.out.1.le;clear Aa Ad Ae Af Ag Ah Ai Aj Ak Al Ab Ac lr lo ll;have lr:=hr.lt;have ll:=hl.lt;obtain⟨Aa,Ag,Ad,Ah,Ae,Ai,Af,Aj⟩:=hr.n4 rfl;obtain⟨Ab,Ac⟩:=hl.n1 rfl;clear hr hl Am ho6 hg6 hat6 hlt6;go_wp2_with fail;refine bodyPost_end (v:=.tuple #[]) (by simp[results,Tryz.results100,go_sem]) rfl ?_
   rw[HE.out.1,HE.out.2];exact⟨rfl,⟨_,HP.out⟩,((((HB.out.setCell (by exact HL.out.2.2) _).setCell (by exact HL.out.1) _).setCell (by exact HL.out.1) _).setCell (by exact HL.out.1) _).setCell (by exact HL.out.1) _⟩
end Go.Proofs.YtbcdaaobbebooaaGreatDoor
