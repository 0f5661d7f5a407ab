import Derived.Test.YtbcdaaobbebooaaGreatDoorMgh
set_option linter.unusedSimpArgs false
set_option linter.unusedVariables false
set_option maxRecDepth 100000
set_option maxHeartbeats 20000000
namespace Go.Proofs.YtbcdaaobbebooaaGreatDoor
open Go.RowKit Go.Tab
theorem jh(w:World)(a b:Array Value)(T:TypeId):aa (((w.alloc (.cells a T)).alloc (.cells b T)).drew) w.heap.size a T/\aa (((w.alloc (.cells a T)).alloc (.cells b T)).drew) (w.heap.size+1) b T/\Below w.heap.size w (((w.alloc (.cells a T)).alloc (.cells b T)).drew):=by
 refine⟨((aa.new w a T).alloc _).drew,?_,((((Below.refl _ _).alloc lz _).alloc (by simp) _)).drew⟩;have h:=aa.new (w.alloc (.cells a T)) b T;simp only[World.size_alloc] at h;exact h.drew
theorem Stop.into{p:Prop}(h:Stop p):p:=h
theorem Ap(l:List ag):rY l 0=false:=rfl
theorem u6{l:List ag}{k:Nat}(h:k<l.length):rY l (k+1)=if dS l[k] then rY l k else decide (l[k].kind=4)&&!aZ l[k] [41,93]:=by
 unfold rY;rw[List.take_succ_eq_append_getElem h,List.reverse_append];rfl
theorem fo{w w1 w2:World}(h:Below w.heap.size w w1)(h2:Below w1.heap.size w1 w2):Below w.heap.size w w2:=h.trans (h2.mono h.size)
theorem dM(w:World)(t:ag):Below w.heap.size w (w.alloc (kg t)):=(Below.refl _ w).alloc lz _
theorem Fu(w:World)(lv:Value)(l:List ag)(h:aH w lv l)(i:Nat)(hi:i<=l.length)(hl:l.length<=1000000) :
  Calls Tryz.prog 35 #[lv,.int .i64 (i:Nat)] w fun e w'=>e=.returned (.bool (rY l i))/\Below w.heap.size w w':=by
 obtain⟨a,c,rfl,h1,h2,-⟩:=h.len;unfold maxLen at h2;have HT:=Hh h;clear h;go_enter Tryz.func35,Tryz.ntmps35;go_wp2_with fail;go_loopw [1] (fun v wr=>∃k:Nat,k<=i/\v=.int .i64 ((k:Int)-1)/\Hid (rY l k=rY l i)/\Below w.heap.size w wr) (fun v _=>(intOf v+1).toNat)
 case atStart=>exact⟨i,Nat.le_refl _,by go_num,Hh rfl,Below.refl _ _⟩
 case round=>
  obtain⟨k,hk,rfl,HA,hb⟩:=hrel;have HB:=Hh hb
  cases k with
  |zero=>
   clear hb;go_wp2_with fail;go_ret;rw[<-HA.out,Ap];exact⟨rfl,HB.out⟩
  |succ k=>
   have Ab:k<l.length:=by omega
   obtain⟨b,Ag,rfl,Af,q0,q1,q2⟩:=aH.get (HT.out.below hb lz) Ab;have hS:=u6 Ab;have Ae:IntKind.i64.wrap ((k:Int)-1)=(k:Int)-1:=IntWalk.i64_in _ (by omega);have Aa:((k+1:Nat):Int)-1=(k:Int):=by omega
   rw[Aa];generalize l[k]=t at *;have hC:=nT t wr;have hM:=fun W=>fE t ⟨#[41,93]⟩ W (by decide);have Ad:=dY t.kind 4;obtain⟨kd,tx,ps⟩:=t;simp only[eO] at hC hM q0 q1 q2 Ad;change ∀W,Calls Tryz.prog 33 _ W (fun e w'=>e=.returned (.bool (aZ ⟨kd,tx,ps⟩ [41,93]))/\Below W.heap.size W w') at hM;simp only at hS;generalize dS ⟨kd,tx,ps⟩=cb at *;generalize aZ ⟨kd,tx,ps⟩ [41,93]=ab at *;generalize decide (kd=4)=db at *;have HS:=Hh hS;clear hS hb Aa
   cases cb with
   |true=>
    go_wp2_with fail;refine hC.mono ?_;rintro _ _ ⟨rfl,rfl⟩;clear hC hM;go_wp2_with fail;go_roundw
    case rel=>exact⟨k,by omega,rfl,Hh (by rw[<-HA.out,HS.out];try rfl),HB.out.alloc HB.out.size _⟩
    case measure=>simp[intOf]<;>omega
   |false=>
    go_wp2_with fail;refine hC.mono ?_;rintro _ _ ⟨rfl,rfl⟩;clear hC
    cases db with
    |false=>
     go_wp2_with fail;go_ret;rw[<-HA.out,HS.out];exact⟨rfl,HB.out.alloc HB.out.size _⟩
    |true=>
     go_wp2_with fail;refine (hM _).mono ?_;rintro _ w4 ⟨rfl,hb4⟩;have Ac:=Hh (fo (HB.out.alloc HB.out.size _) hb4);clear hM hb4;cases ab
     all_goals
      go_wp2_with fail;go_ret;rw[<-HA.out,HS.out];exact⟨rfl,Ac.out⟩
def O7(w:World)(g h:Nat)(ka:Int)(ta:ByteArray)(pa kb:Int)(tb:ByteArray)(pb:Int):Prop:=∀W,Below w.heap.size w W->W.cell? ⟨g,0,none⟩=some (.int .i64 ka)/\W.cell? ⟨g,1,none⟩=some (.string ta)/\W.cell? ⟨g,2,none⟩=some (.int .i64 pa)/\
 W.cell? ⟨h,0,none⟩=some (.int .i64 kb)/\W.cell? ⟨h,1,none⟩=some (.string tb)/\W.cell? ⟨h,2,none⟩=some (.int .i64 pb)/\g<W.heap.size/\h<W.heap.size
theorem O7.of{w:World}{g h:Nat}{ka:Int}{ta:ByteArray}{pa kb:Int}{tb:ByteArray}{pb:Int}(hA:aa w g #[.int .i64 ka,.string ta,.int .i64 pa] 63)(hB:aa w h #[.int .i64 kb,.string tb,.int .i64 pb] 63):O7 w g h ka ta pa kb tb pb:=fun W hW=>by
 have h1:=hA.below hW hA.lt;have h2:=hB.below hW hB.lt;exact⟨h1.cell 0 _ rfl,h1.cell 1 _ rfl,h1.cell 2 _ rfl,h2.cell 0 _ rfl,h2.cell 1 _ rfl,h2.cell 2 _ rfl,h1.lt,h2.lt⟩
abbrev dI(f:FuncId)(args:Array Value)(w:World)(v:Value):Prop:=∀W,Below w.heap.size w W->Calls Tryz.prog f args W fun e w'=>e=.returned v/\Below w.heap.size w w'
theorem dI.of{f:FuncId}{args:Array Value}{w:World}{v:Value}(h:∀W,Below w.heap.size w W->Calls Tryz.prog f args W fun e w'=>e=.returned v/\Below W.heap.size W w'):dI f args w v:=fun W hW=>(h W hW).mono fun e w' ⟨he,hb⟩=>⟨he,fo hW hb⟩
theorem dI.tok{f:FuncId}{args:Array Value}{w:World}{v:Value}{t:ag}(h:∀W,Calls Tryz.prog f args W fun e w'=>e=.returned v/\w'=W.alloc (kg t)):dI f args w v:=.of fun W _=>(h W).mono fun e w' ⟨he,hb⟩=>⟨he,by rw[hb];exact dM _ _⟩
theorem Dj{l:List ag}{i:Nat}(h:l.length<=i):tZ l i=0:=by
 cases i with
 |zero=>rfl
 |succ i=>
  rw[tZ,List.getElem?_eq_none h];cases l[i]?<;>rfl
theorem Gr{l:List ag}{i:Nat}(h:i+1<l.length):tZ l (i+1)=Fa (l[i]'(by omega)) l[i+1] (rY l i):=by
 rw[tZ,List.getElem?_eq_getElem h,List.getElem?_eq_getElem (by omega)]
theorem IM(w:World)(lv:Value)(l:List ag)(h:aH w lv l)(hl:l.length<=1000000)(z:Int)(hz:(Lit.int .i64 z).wf=true) :
  Calls Tryz.prog 10 #[lv,.int .i64 z] w fun e w'=>e=.returned (.int .i64 (tZ l z.toNat:Nat))/\Below w.heap.size w w':=by
 obtain⟨a,c,rfl,h1,h2,-⟩:=h.len;unfold maxLen at h2
 by_cases hz0:z<=0
 ·rw[show z.toNat=0 by omega]
  clear hz;go_enter Tryz.func10,Tryz.ntmps10;go_wp2_with fail;go_ret;exact⟨rfl,Below.refl _ _⟩
 ·by_cases hz1:(l.length:Int)<=z
  ·rw[Dj (by omega)]
   clear hz;go_enter Tryz.func10,Tryz.ntmps10;go_wp2_with fail;go_ret;exact⟨rfl,Below.refl _ _⟩
  ·obtain⟨i,rfl⟩:∃i:Nat,z=i+1:=⟨(z-1).toNat,by omega⟩
   have hi:i+1<l.length:=by omega
   rw[show ((i:Int)+1).toNat=i+1 by omega,Gr hi];clear hz;obtain⟨b,As,rfl,Aq,q0,q1,q2⟩:=h.get (j:=i) (by omega);obtain⟨b',Ar,e',-,r0,r1,r2⟩:=h.get hi;cases e'
   have Al:=fun W hW=>Fu W _ l (h.below hW lz) i (by omega) hl;have kq:IntKind.i64.wrap ((i:Int)+1-1)=(i:Int):=by rw[IntWalk.i64_in _ (by omega)];omega
   generalize rY l i=m at *;generalize l[i]=xa at *;generalize l[i+1]=xb at *;obtain⟨ka,ta,pa⟩:=xa;obtain⟨kb,tb,pb⟩:=xb;simp only at q0 q1 q2 r0 r1 r2;clear h;obtain⟨G,hG⟩:=exq (Fa ⟨ka,ta,pa⟩ ⟨kb,tb,pb⟩ m);rw[<-hG];go_enter Tryz.func10,Tryz.ntmps10;go_upto_region 3 with fail
   go_cut [5,6] (fun x y wc=>∃p5 p6:Nat,x=.pointer (some ⟨p5,0,none⟩)/\y=.pointer (some ⟨p6,0,none⟩)/\
    aa wc p5 #[.int .i64 ka,.string ta,.int .i64 pa] 63/\aa wc p6 #[.int .i64 kb,.string tb,.int .i64 pb] 63/\Below w.heap.size w wc)
   case first=>
    go_region
    all_goals go_wp2_with fail
    all_goals go_meet
    all_goals
     first
      |exact⟨_,_,rfl,rfl,(jh _ _ _ _).1,(jh _ _ _ _).2.1,(jh _ _ _ _).2.2⟩
      |exact⟨_,_,rfl,rfl,(jh _ _ _ _).2.1,(jh _ _ _ _).1,(jh _ _ _ _).2.2⟩
   case rest=>
    obtain⟨p5,p6,rfl,rfl,hA,hB,Ab⟩:=hcut;have HX:=Hh (O7.of hA hB);have Aa:=Hh Ab;have Am:dI 32 _ wc _:=.tok (nT ⟨ka,ta,pa⟩);have An:dI 32 _ wc _:=.tok (nT ⟨kb,tb,pb⟩);have Ac:dI 33 _ wc _:=.of fun W _=>fE ⟨ka,ta,pa⟩ ⟨#[40,91,46]⟩ W (by decide);have Ad:dI 33 _ wc _:=.of fun W _=>fE ⟨kb,tb,pb⟩ ⟨#[41,93,44,46]⟩ W (by decide);have Ae:dI 33 _ wc _:=.of fun W _=>fE ⟨kb,tb,pb⟩ ⟨#[40]⟩ W (by decide);have Af:dI 33 _ wc _:=.of fun W _=>fE ⟨kb,tb,pb⟩ ⟨#[91]⟩ W (by decide);have Ag:dI 33 _ wc _:=.of fun W _=>fE ⟨ka,ta,pa⟩ ⟨#[41,93]⟩ W (by decide);have Ah:dI 33 _ wc _:=.of fun W _=>fE ⟨ka,ta,pa⟩ ⟨#[33]⟩ W (by decide);have Ai:dI 33 _ wc _:=.of fun W _=>fE ⟨ka,ta,pa⟩ ⟨#[45]⟩ W (by decide);have Aj:dI 33 _ wc _:=.of fun W _=>fE ⟨ka,ta,pa⟩ ⟨#[123]⟩ W (by decide);have Ak:dI 33 _ wc _:=.of fun W _=>fE ⟨kb,tb,pb⟩ ⟨#[125]⟩ W (by decide);have Ao:dI 34 _ wc _:=.tok (D9 ⟨ka,ta,pa⟩);have Ap:dI 35 _ wc _:=.of fun W hW=>Al W (Ab.trans (hW.mono Ab.size));have hK:=dY ka 1;simp only[eO] at Am An Ac Ad Ae Af Ag Ah Ai Aj Ak Ao;unfold Fa at hG;simp only at hG;have HG:=Hh hG;clear hG;obtain⟨c0,c1,c2,d0,d1,d2,l1,l2⟩:=HX.out wc (Below.refl _ _);have hb:=Below.refl wc.heap.size wc
    clear q0 q1 q2 r0 r1 r2 hi Aq hl;change ∀W,_->Calls _ _ _ _ (fun e w'=>e=.returned (.bool (aZ ⟨ka,ta,pa⟩ [40,91,46]))/\_) at Ac;change ∀W,_->Calls _ _ _ _ (fun e w'=>e=.returned (.bool (aZ ⟨kb,tb,pb⟩ [41,93,44,46]))/\_) at Ad;change ∀W,_->Calls _ _ _ _ (fun e w'=>e=.returned (.bool (aZ ⟨kb,tb,pb⟩ [40]))/\_) at Ae;change ∀W,_->Calls _ _ _ _ (fun e w'=>e=.returned (.bool (aZ ⟨kb,tb,pb⟩ [91]))/\_) at Af;change ∀W,_->Calls _ _ _ _ (fun e w'=>e=.returned (.bool (aZ ⟨ka,ta,pa⟩ [41,93]))/\_) at Ag;change ∀W,_->Calls _ _ _ _ (fun e w'=>e=.returned (.bool (aZ ⟨ka,ta,pa⟩ [33]))/\_) at Ah;change ∀W,_->Calls _ _ _ _ (fun e w'=>e=.returned (.bool (aZ ⟨ka,ta,pa⟩ [45]))/\_) at Ai;change ∀W,_->Calls _ _ _ _ (fun e w'=>e=.returned (.bool (aZ ⟨ka,ta,pa⟩ [123]))/\_) at Aj;change ∀W,_->Calls _ _ _ _ (fun e w'=>e=.returned (.bool (aZ ⟨kb,tb,pb⟩ [125]))/\_) at Ak;generalize dS ⟨ka,ta,pa⟩=xc1 at *;generalize dS ⟨kb,tb,pb⟩=xc2 at *;generalize aZ ⟨ka,ta,pa⟩ [40,91,46]=x1 at *;generalize aZ ⟨kb,tb,pb⟩ [41,93,44,46]=x2 at *;generalize aZ ⟨kb,tb,pb⟩ [40]=x3 at *;generalize aZ ⟨kb,tb,pb⟩ [91]=x4 at *;generalize aZ ⟨ka,ta,pa⟩ [41,93]=x5 at *;generalize aZ ⟨ka,ta,pa⟩ [33]=x6 at *;generalize aZ ⟨ka,ta,pa⟩ [45]=x7 at *;generalize aZ ⟨ka,ta,pa⟩ [123]=x8 at *;generalize aZ ⟨kb,tb,pb⟩ [125]=x9 at *
    generalize gy ⟨ka,ta,pa⟩=xw at *;generalize decide (ka=1)=xk at *;clear hA hB;clear Al Ab
    focus (go_wp2_with (go_at_call 32;(with_reducible refine (Am _ hb).mono ?_);clear c0 c1 c2 d0 d1 d2 l1 l2;rintro _ W ⟨rfl,hb⟩;obtain⟨c0,c1,c2,d0,d1,d2,l1,l2⟩:=HX.out W hb;refine Stop.into ?_);refine Stop.out ?_)
    cases xc1
    rotate_left
    ·(go_wp2_with fail;go_ret;exact⟨by rw[HG.out];rfl,Aa.out.trans (hb.mono Aa.out.size)⟩)
    focus (go_wp2_with (go_at_call 32;(with_reducible refine (An _ hb).mono ?_);clear c0 c1 c2 d0 d1 d2 l1 l2;rintro _ W ⟨rfl,hb⟩;obtain⟨c0,c1,c2,d0,d1,d2,l1,l2⟩:=HX.out W hb;refine Stop.into ?_);refine Stop.out ?_)
    cases xc2
    rotate_left
    ·(go_wp2_with fail;go_ret;exact⟨by rw[HG.out];rfl,Aa.out.trans (hb.mono Aa.out.size)⟩)
    focus (go_wp2_with (go_at_call 33;(with_reducible refine (Ac _ hb).mono ?_);clear c0 c1 c2 d0 d1 d2 l1 l2;rintro _ W ⟨rfl,hb⟩;obtain⟨c0,c1,c2,d0,d1,d2,l1,l2⟩:=HX.out W hb;refine Stop.into ?_);refine Stop.out ?_)
    cases x1
    rotate_left
    ·(go_wp2_with fail;go_ret;exact⟨by rw[HG.out];rfl,Aa.out.trans (hb.mono Aa.out.size)⟩)
    focus (go_wp2_with (go_at_call 33;(with_reducible refine (Ad _ hb).mono ?_);clear c0 c1 c2 d0 d1 d2 l1 l2;rintro _ W ⟨rfl,hb⟩;obtain⟨c0,c1,c2,d0,d1,d2,l1,l2⟩:=HX.out W hb;refine Stop.into ?_);refine Stop.out ?_)
    cases x2
    rotate_left
    ·(go_wp2_with fail;go_ret;exact⟨by rw[HG.out];rfl,Aa.out.trans (hb.mono Aa.out.size)⟩)
    focus (go_wp2_with (go_at_call 33;(with_reducible refine (Ae _ hb).mono ?_);clear c0 c1 c2 d0 d1 d2 l1 l2;rintro _ W ⟨rfl,hb⟩;obtain⟨c0,c1,c2,d0,d1,d2,l1,l2⟩:=HX.out W hb;refine Stop.into ?_);refine Stop.out ?_)
    cases x3
    rotate_left
    cases xk
    rotate_left
    ·(go_wp2_with fail;go_ret;exact⟨by rw[HG.out];rfl,Aa.out.trans (hb.mono Aa.out.size)⟩)
    all_goals
     focus (go_wp2_with (go_at_call 33;(with_reducible refine (Af _ hb).mono ?_);clear c0 c1 c2 d0 d1 d2 l1 l2;rintro _ W ⟨rfl,hb⟩;obtain⟨c0,c1,c2,d0,d1,d2,l1,l2⟩:=HX.out W hb;refine Stop.into ?_);refine Stop.out ?_)
     cases x4
     rotate_left
     focus (go_wp2_with (go_at_call 34;(with_reducible refine (Ao _ hb).mono ?_);clear c0 c1 c2 d0 d1 d2 l1 l2;rintro _ W ⟨rfl,hb⟩;obtain⟨c0,c1,c2,d0,d1,d2,l1,l2⟩:=HX.out W hb;refine Stop.into ?_);refine Stop.out ?_)
     cases xw
     rotate_left
     ·(go_wp2_with fail;go_ret;exact⟨by rw[HG.out];rfl,Aa.out.trans (hb.mono Aa.out.size)⟩)
     rotate_left
     focus (go_wp2_with (go_at_call 33;(with_reducible refine (Ag _ hb).mono ?_);clear c0 c1 c2 d0 d1 d2 l1 l2;rintro _ W ⟨rfl,hb⟩;obtain⟨c0,c1,c2,d0,d1,d2,l1,l2⟩:=HX.out W hb;refine Stop.into ?_);refine Stop.out ?_)
     cases x5
     rotate_left
     ·(go_wp2_with fail;go_ret;exact⟨by rw[HG.out];rfl,Aa.out.trans (hb.mono Aa.out.size)⟩)
     all_goals
      focus (go_wp2_with (go_at_call 33;(with_reducible refine (Ah _ hb).mono ?_);clear c0 c1 c2 d0 d1 d2 l1 l2;rintro _ W ⟨rfl,hb⟩;obtain⟨c0,c1,c2,d0,d1,d2,l1,l2⟩:=HX.out W hb;refine Stop.into ?_);refine Stop.out ?_)
      cases x6
      rotate_left
      ·(go_wp2_with fail;go_ret;exact⟨by rw[HG.out];rfl,Aa.out.trans (hb.mono Aa.out.size)⟩)
      focus (go_wp2_with (go_at_call 33;(with_reducible refine (Ai _ hb).mono ?_);clear c0 c1 c2 d0 d1 d2 l1 l2;rintro _ W ⟨rfl,hb⟩;obtain⟨c0,c1,c2,d0,d1,d2,l1,l2⟩:=HX.out W hb;refine Stop.into ?_);refine Stop.out ?_)
      cases x7
      rotate_left
      focus (go_wp2_with (go_at_call 35;(with_reducible refine (Ap _ hb).mono ?_);clear c0 c1 c2 d0 d1 d2 l1 l2;rintro _ W ⟨rfl,hb⟩;obtain⟨c0,c1,c2,d0,d1,d2,l1,l2⟩:=HX.out W hb;refine Stop.into ?_);refine Stop.out ?_)
      cases m
      rotate_left
      ·(go_wp2_with fail;go_ret;exact⟨by rw[HG.out];rfl,Aa.out.trans (hb.mono Aa.out.size)⟩)
      all_goals
       focus (go_wp2_with (go_at_call 33;(with_reducible refine (Aj _ hb).mono ?_);clear c0 c1 c2 d0 d1 d2 l1 l2;rintro _ W ⟨rfl,hb⟩;obtain⟨c0,c1,c2,d0,d1,d2,l1,l2⟩:=HX.out W hb;refine Stop.into ?_);refine Stop.out ?_)
       cases x8
       rotate_left
       focus (go_wp2_with (go_at_call 33;(with_reducible refine (Ak _ hb).mono ?_);clear c0 c1 c2 d0 d1 d2 l1 l2;rintro _ W ⟨rfl,hb⟩;obtain⟨c0,c1,c2,d0,d1,d2,l1,l2⟩:=HX.out W hb;refine Stop.into ?_);refine Stop.out ?_)
       cases x9
       all_goals (go_wp2_with fail;go_ret;exact⟨by rw[HG.out];rfl,Aa.out.trans (hb.mono Aa.out.size)⟩)
theorem EC(t:ag)(w:World):Calls Tryz.prog 39 #[eO t] w fun e w'=>e=.returned (.bool (gy t || (bT t ⟨#[41]⟩ || bT t ⟨#[93]⟩)))/\Below w.heap.size w w':=by
 have hI:=fun s W=>dw t s W;have hB:=dM w t;obtain⟨k,tx,p⟩:=t;have e1:=dY k 1;have e2:=dY k 2;have e3:=dY k 3;have h4:=hI ⟨#[41]⟩;have h5:=hI ⟨#[93]⟩;have HB:=Hh hB;unfold gy;simp only[eO] at h4 h5 ⊢;generalize decide (k=1)=b1 at *;generalize decide (k=2)=b2 at *;generalize decide (k=3)=b3 at *;generalize bT ⟨k,tx,p⟩ ⟨#[41]⟩=b4 at *;generalize bT ⟨k,tx,p⟩ ⟨#[93]⟩=b5 at *;have Aa:=Hh (fun a b=>((HB.out.alloc HB.out.size a).alloc (by simp;have:=HB.out.size;omega) b));clear hI hB;have Ab:b1=true\/b2=true\/b3=true\/(b1=false/\b2=false/\b3=false):=by cases b1<;>cases b2<;>cases b3<;>simp
 go_enter Tryz.func39,Tryz.ntmps39;rcases Ab with rfl|rfl|rfl|⟨rfl,rfl,rfl⟩
 ·go_wp2_with fail
  go_ret;exact⟨rfl,HB.out⟩
 ·cases b1
  all_goals
   go_wp2_with fail;go_ret;exact⟨rfl,HB.out⟩
 ·cases b1<;>cases b2
  all_goals
   go_wp2_with fail;go_ret;exact⟨rfl,HB.out⟩
 ·cases b4<;>cases b5
  all_goals
   go_wp2_with (first|(go_at_call 37;(with_reducible refine (h4 _).mono ?_);rintro _ _ ⟨rfl,rfl⟩)|(go_at_call 37;(with_reducible refine (h5 _).mono ?_);rintro _ _ ⟨rfl,rfl⟩))
   go_ret
   first
    |exact⟨rfl,Aa.out _ _⟩
    |exact⟨rfl,HB.out.alloc HB.out.size _⟩
theorem M3{l:List ag}{k:Nat}(h:k<l.length)(hc:dS l[k]=false):rY l (k+1)=(decide (l[k].kind=4)&&(!bT l[k] ⟨#[41]⟩&&!bT l[k] ⟨#[93]⟩)):=by
 rw[u6 h,hc,bW,bW,vv,Bool.or_false,Bool.not_or];rfl
theorem ED(w:World)(lv:Value)(l:List ag)(h:aH w lv l)(i:Nat)(hi:i<l.length)(hl:l.length<=1000000) :
  Calls Tryz.prog 38 #[lv,.int .i64 (i:Nat)] w fun e w'=>e=.returned (.bool (bT l[i] ⟨#[45]⟩&&rY l i))/\Below w.heap.size w w':=by
 obtain⟨a,c,rfl,h1,h2,-⟩:=h.len;unfold maxLen at h2;have HT:=Hh h;obtain⟨b,Aa,rfl,Ab,q0,q1,q2⟩:=h.get hi;have Ad:=dw l[i] ⟨#[45]⟩
 have HQ:Hid (∀W,Below w.heap.size w W->W.cell? ⟨b,Aa+i*3,none⟩=some (.int .i64 l[i].kind)/\W.cell? ⟨b,Aa+i*3+1,none⟩=some (.string l[i].text)/\W.cell? ⟨b,Aa+i*3+2,none⟩=some (.int .i64 l[i].pos)):=
  Hh fun W hW=>⟨(hW.cell (p:=⟨b,Aa+i*3,none⟩) Ab).trans q0,(hW.cell (p:=⟨b,Aa+i*3+1,none⟩) Ab).trans q1,(hW.cell (p:=⟨b,Aa+i*3+2,none⟩) Ab).trans q2⟩
 clear h q0 q1 q2;generalize l[i]=x at *;obtain⟨ki,ti,pi⟩:=x;simp only[eO] at Ad HQ;generalize bT ⟨ki,ti,pi⟩ ⟨#[45]⟩=m1 at *;have Ai:dI 37 _ w _:=.tok Ad;go_enter Tryz.func38,Tryz.ntmps38;go_wp2_with fail;go_loopw [5] (fun v wr=>∃k:Nat,k<=i/\v=.int .i64 ((k:Int)-1)/\Hid (rY l k=rY l i)/\Below w.heap.size w wr) (fun v _=>(intOf v+1).toNat)
 case atStart=>exact⟨i,Nat.le_refl _,by go_num,Hh rfl,Below.refl _ _⟩
 case round=>
  obtain⟨k,hk,rfl,HA,hb⟩:=hrel;have HB:=Hh hb
  cases k with
  |zero=>
   obtain⟨q0,q1,q2⟩:=HQ.out wr hb;go_wp2_with fail;refine (Ai _ hb).mono ?_;rintro _ w3 ⟨rfl,hb3⟩;cases m1
   all_goals
    go_wp2_with fail;go_ret;rw[<-HA.out,Ap];exact⟨rfl,hb3⟩
  |succ k=>
   have Ah:k<l.length:=by omega
   obtain⟨b',An,e',-,r0,r1,r2⟩:=aH.get (HT.out.below hb lz) Ah;cases e'
   obtain⟨q0,q1,q2⟩:=HQ.out wr hb
   have HR:Hid (∀W,Below wr.heap.size wr W->W.cell? ⟨b,Aa+k*3,none⟩=some (.int .i64 l[k].kind)/\W.cell? ⟨b,Aa+k*3+1,none⟩=some (.string l[k].text)/\W.cell? ⟨b,Aa+k*3+2,none⟩=some (.int .i64 l[k].pos)):=
    Hh fun W hW=>⟨(hW.cell (p:=⟨b,Aa+k*3,none⟩) (Nat.lt_of_lt_of_le Ab hb.size)).trans r0,(hW.cell (p:=⟨b,Aa+k*3+1,none⟩) (Nat.lt_of_lt_of_le Ab hb.size)).trans r1,(hW.cell (p:=⟨b,Aa+k*3+2,none⟩) (Nat.lt_of_lt_of_le Ab hb.size)).trans r2⟩
   have hS:=u6 Ah;have Ag:=M3 Ah;have Ao:IntKind.i64.wrap ((k:Int)-1)=(k:Int)-1:=IntWalk.i64_in _ (by omega);have Al:((k+1:Nat):Int)-1=(k:Int):=by omega
   rw[Al];generalize l[k]=t at *;have hC:dI 36 #[eO t] wr (.bool (dS t)):=.tok (qm t);have Ae:dI 37 #[eO t,.string ⟨#[41]⟩] wr (.bool (bT t ⟨#[41]⟩)):=.tok (dw t _);have Af:dI 37 #[eO t,.string ⟨#[93]⟩] wr (.bool (bT t ⟨#[93]⟩)):=.tok (dw t _);have Aj:dI 37 _ wr _:=.tok Ad;have Am:=dY t.kind 4;obtain⟨kd,tx,ps⟩:=t;simp only[eO] at hC Ae Af HR r0 r1 r2 Am hS Ag;generalize dS ⟨kd,tx,ps⟩=cb at *;generalize bT ⟨kd,tx,ps⟩ ⟨#[41]⟩=j1 at *;generalize bT ⟨kd,tx,ps⟩ ⟨#[93]⟩=j2 at *;generalize decide (kd=4)=dk at *;have HS:=Jh hS Ag;have Ak:=Below.refl wr.heap.size wr;clear hS Ag hb Al Ab
   cases cb with
   |true=>
    go_wp2_with fail
    (with_reducible refine (hC _ Ak).mono ?_)
    rintro _ w3 ⟨rfl,hb3⟩;clear hC Ae Af Ai Aj;go_wp2_with fail;go_roundw
    case rel=>exact⟨k,by omega,rfl,Hh (by rw[<-HA.out,HS.out.1];try rfl),HB.out.trans (hb3.mono HB.out.size)⟩
    case measure=>simp[intOf]<;>omega
   |false=>
    go_wp2_with fail
    (with_reducible refine (hC _ Ak).mono ?_)
    rintro _ w3 ⟨rfl,hb3⟩;obtain⟨s0,s1,s2⟩:=HR.out w3 hb3;obtain⟨p0,p1,p2⟩:=HQ.out w3 (HB.out.trans (hb3.mono HB.out.size));clear hC q0 q1 q2 r0 r1 r2;go_wp2_with fail
    (with_reducible refine (Aj _ hb3).mono ?_)
    rintro _ w4 ⟨rfl,hb4⟩;obtain⟨s0,s1,s2⟩:=HR.out w4 hb4;have HE:=Hh (HS.out.2 trivial);have Ac:=Hh (fun W (hW:Below wr.heap.size wr W)=>HB.out.trans (hW.mono HB.out.size));clear p0 p1 p2
    cases m1 with
    |false=>
     go_wp2_with fail;go_ret;rw[Bool.false_and];exact⟨rfl,Ac.out _ hb4⟩
    |true=>
     cases dk with
     |false=>
      go_wp2_with fail;go_ret;rw[Bool.true_and,<-HA.out,HE.out];exact⟨rfl,Ac.out _ hb4⟩
     |true=>
      go_wp2_with fail
      (with_reducible refine (Ae _ hb4).mono ?_)
      rintro _ w5 ⟨rfl,hb5⟩;obtain⟨s0,s1,s2⟩:=HR.out w5 hb5
      cases j1 with
      |true=>
       go_wp2_with fail;go_ret;rw[Bool.true_and,<-HA.out,HE.out];exact⟨rfl,Ac.out _ hb5⟩
      |false=>
       go_wp2_with fail
       (with_reducible refine (Af _ hb5).mono ?_)
       rintro _ w6 ⟨rfl,hb6⟩;cases j2
       all_goals
        go_wp2_with fail;go_ret;rw[Bool.true_and,<-HA.out,HE.out];exact⟨rfl,Ac.out _ hb6⟩
theorem EE(w:World)(lv:Value)(l:List ag)(h:aH w lv l)(hl:l.length<=1000000)(z:Int)(hz:(Lit.int .i64 z).wf=true) :
  Calls Tryz.prog 11 #[lv,.int .i64 z] w fun e w'=>e=.returned (.int .i64 (tZ l z.toNat:Nat))/\Below w.heap.size w w':=by
 obtain⟨a,c,rfl,h1,h2,-⟩:=h.len;unfold maxLen at h2
 by_cases hz0:z<=0
 ·rw[show z.toNat=0 by omega]
  clear hz;go_enter Tryz.func11,Tryz.ntmps11;go_wp2_with fail;go_ret;exact⟨rfl,Below.refl _ _⟩
 ·by_cases hz1:(l.length:Int)<=z
  ·rw[Dj (by omega)]
   clear hz;go_enter Tryz.func11,Tryz.ntmps11;go_wp2_with fail;go_ret;exact⟨rfl,Below.refl _ _⟩
  ·obtain⟨i,rfl⟩:∃i:Nat,z=i+1:=⟨(z-1).toNat,by omega⟩
   have hi:i+1<l.length:=by omega
   rw[show ((i:Int)+1).toNat=i+1 by omega,Gr hi,KY];clear hz;obtain⟨b,At,rfl,Ar,q0,q1,q2⟩:=h.get (j:=i) (by omega);obtain⟨b',As,e',-,r0,r1,r2⟩:=h.get hi;cases e'
   have Ak:=fun W hW=>ED W _ l (h.below hW lz) i (by omega) hl;have kq:IntKind.i64.wrap ((i:Int)+1-1)=(i:Int):=by rw[IntWalk.i64_in _ (by omega)];omega
   generalize rY l i=m at *;generalize l[i]=xa at *;generalize l[i+1]=xb at *;obtain⟨ka,ta,pa⟩:=xa;obtain⟨kb,tb,pb⟩:=xb;simp only at q0 q1 q2 r0 r1 r2;clear h;obtain⟨G,hG⟩:=exq (NW ⟨ka,ta,pa⟩ ⟨kb,tb,pb⟩ m);rw[<-hG];go_enter Tryz.func11,Tryz.ntmps11;go_upto_region 3 with fail
   go_cut [5,6] (fun x y wc=>∃p5 p6:Nat,x=.pointer (some ⟨p5,0,none⟩)/\y=.pointer (some ⟨p6,0,none⟩)/\
    aa wc p5 #[.int .i64 ka,.string ta,.int .i64 pa] 63/\aa wc p6 #[.int .i64 kb,.string tb,.int .i64 pb] 63/\Below w.heap.size w wc)
   case first=>
    go_region
    all_goals go_wp2_with fail
    all_goals go_meet
    all_goals
     first
      |exact⟨_,_,rfl,rfl,(jh _ _ _ _).1,(jh _ _ _ _).2.1,(jh _ _ _ _).2.2⟩
      |exact⟨_,_,rfl,rfl,(jh _ _ _ _).2.1,(jh _ _ _ _).1,(jh _ _ _ _).2.2⟩
   case rest=>
    obtain⟨p5,p6,rfl,rfl,hA,hB,Ab⟩:=hcut;have HX:=Hh (O7.of hA hB);have Aa:=Hh Ab;have Al:dI 36 _ wc _:=.tok (qm ⟨ka,ta,pa⟩);have Am:dI 36 _ wc _:=.tok (qm ⟨kb,tb,pb⟩);have Ac:dI 37 _ wc _:=.tok (dw ⟨ka,ta,pa⟩ ⟨#[40]⟩);have Ad:dI 37 _ wc _:=.tok (dw ⟨ka,ta,pa⟩ ⟨#[91]⟩);have Ae:dI 37 _ wc _:=.tok (dw ⟨ka,ta,pa⟩ ⟨#[46]⟩);have Af:dI 37 _ wc _:=.tok (dw ⟨ka,ta,pa⟩ ⟨#[33]⟩);have hP:dI 38 _ wc _:=.of fun W hW=>Ak W (Ab.trans (hW.mono Ab.size));have Ag:dI 37 _ wc _:=.tok (dw ⟨kb,tb,pb⟩ ⟨#[41]⟩);have Ah:dI 37 _ wc _:=.tok (dw ⟨kb,tb,pb⟩ ⟨#[93]⟩);have Ai:dI 37 _ wc _:=.tok (dw ⟨kb,tb,pb⟩ ⟨#[44]⟩);have Aj:dI 37 _ wc _:=.tok (dw ⟨kb,tb,pb⟩ ⟨#[46]⟩);have An:dI 37 _ wc _:=.tok (dw ⟨kb,tb,pb⟩ ⟨#[40]⟩);have Ao:dI 37 _ wc _:=.tok (dw ⟨kb,tb,pb⟩ ⟨#[91]⟩);have hV:dI 39 _ wc _:=.of fun W _=>EC ⟨ka,ta,pa⟩ W;have Ap:dI 37 _ wc _:=.tok (dw ⟨ka,ta,pa⟩ ⟨#[123]⟩);have Aq:dI 37 _ wc _:=.tok (dw ⟨kb,tb,pb⟩ ⟨#[125]⟩);have hK:=dY ka 1;simp only[eO] at Al Am Ac Ad Ae Af hP Ag Ah Ai Aj An Ao hV Ap Aq
    change G=(if (dS ⟨ka,ta,pa⟩ || dS ⟨kb,tb,pb⟩)=true then 1
     else if (bT ⟨ka,ta,pa⟩ ⟨#[40]⟩ || (bT ⟨ka,ta,pa⟩ ⟨#[91]⟩ || (bT ⟨ka,ta,pa⟩ ⟨#[46]⟩ || (bT ⟨ka,ta,pa⟩ ⟨#[33]⟩ || (bT ⟨ka,ta,pa⟩ ⟨#[45]⟩&&m)))))=true then 0
     else if (bT ⟨kb,tb,pb⟩ ⟨#[41]⟩ || (bT ⟨kb,tb,pb⟩ ⟨#[93]⟩ || (bT ⟨kb,tb,pb⟩ ⟨#[44]⟩ || bT ⟨kb,tb,pb⟩ ⟨#[46]⟩)))=true then 0
     else if ((bT ⟨kb,tb,pb⟩ ⟨#[40]⟩&&decide (ka=1)) || ((bT ⟨kb,tb,pb⟩ ⟨#[91]⟩&&(gy ⟨ka,ta,pa⟩ || (bT ⟨ka,ta,pa⟩ ⟨#[41]⟩ || bT ⟨ka,ta,pa⟩ ⟨#[93]⟩))) || (bT ⟨ka,ta,pa⟩ ⟨#[123]⟩&&bT ⟨kb,tb,pb⟩ ⟨#[125]⟩)))=true then 0
     else 1) at hG
    generalize dS ⟨ka,ta,pa⟩=xc1 at *;generalize dS ⟨kb,tb,pb⟩=xc2 at *;generalize (bT ⟨ka,ta,pa⟩ ⟨#[45]⟩&&m)=xp at *;generalize (gy ⟨ka,ta,pa⟩ || (bT ⟨ka,ta,pa⟩ ⟨#[41]⟩ || bT ⟨ka,ta,pa⟩ ⟨#[93]⟩))=xv at *;generalize bT ⟨ka,ta,pa⟩ ⟨#[40]⟩=x1 at *;generalize bT ⟨ka,ta,pa⟩ ⟨#[91]⟩=x2 at *;generalize bT ⟨ka,ta,pa⟩ ⟨#[46]⟩=x3 at *;generalize bT ⟨ka,ta,pa⟩ ⟨#[33]⟩=x4 at *;generalize bT ⟨kb,tb,pb⟩ ⟨#[41]⟩=y1 at *;generalize bT ⟨kb,tb,pb⟩ ⟨#[93]⟩=y2 at *;generalize bT ⟨kb,tb,pb⟩ ⟨#[44]⟩=y3 at *;generalize bT ⟨kb,tb,pb⟩ ⟨#[46]⟩=y4 at *;generalize bT ⟨kb,tb,pb⟩ ⟨#[40]⟩=z1 at *;generalize bT ⟨kb,tb,pb⟩ ⟨#[91]⟩=z2 at *;generalize bT ⟨ka,ta,pa⟩ ⟨#[123]⟩=z3 at *;generalize bT ⟨kb,tb,pb⟩ ⟨#[125]⟩=z4 at *;generalize decide (ka=1)=xk at *;have HG:=Hh hG;obtain⟨c0,c1,c2,d0,d1,d2,l1,l2⟩:=HX.out wc (Below.refl _ _);have hb:=Below.refl wc.heap.size wc;clear hG hA hB Ab Ak q0 q1 q2 r0 r1 r2 hi Ar hl
    focus (go_wp2_with (go_at_call 36;(with_reducible refine (Al _ hb).mono ?_);clear c0 c1 c2 d0 d1 d2 l1 l2;rintro _ W ⟨rfl,hb⟩;obtain⟨c0,c1,c2,d0,d1,d2,l1,l2⟩:=HX.out W hb;refine Stop.into ?_);refine Stop.out ?_)
    cases xc1
    rotate_left
    ·(go_wp2_with fail;go_ret;exact⟨by rw[HG.out];rfl,Aa.out.trans (hb.mono Aa.out.size)⟩)
    focus (go_wp2_with (go_at_call 36;(with_reducible refine (Am _ hb).mono ?_);clear c0 c1 c2 d0 d1 d2 l1 l2;rintro _ W ⟨rfl,hb⟩;obtain⟨c0,c1,c2,d0,d1,d2,l1,l2⟩:=HX.out W hb;refine Stop.into ?_);refine Stop.out ?_)
    cases xc2
    rotate_left
    ·(go_wp2_with fail;go_ret;exact⟨by rw[HG.out];rfl,Aa.out.trans (hb.mono Aa.out.size)⟩)
    focus (go_wp2_with (go_at_call 37;(with_reducible refine (Ac _ hb).mono ?_);clear c0 c1 c2 d0 d1 d2 l1 l2;rintro _ W ⟨rfl,hb⟩;obtain⟨c0,c1,c2,d0,d1,d2,l1,l2⟩:=HX.out W hb;refine Stop.into ?_);refine Stop.out ?_)
    cases x1
    rotate_left
    ·(go_wp2_with fail;go_ret;exact⟨by rw[HG.out];rfl,Aa.out.trans (hb.mono Aa.out.size)⟩)
    focus (go_wp2_with (go_at_call 37;(with_reducible refine (Ad _ hb).mono ?_);clear c0 c1 c2 d0 d1 d2 l1 l2;rintro _ W ⟨rfl,hb⟩;obtain⟨c0,c1,c2,d0,d1,d2,l1,l2⟩:=HX.out W hb;refine Stop.into ?_);refine Stop.out ?_)
    cases x2
    rotate_left
    ·(go_wp2_with fail;go_ret;exact⟨by rw[HG.out];rfl,Aa.out.trans (hb.mono Aa.out.size)⟩)
    focus (go_wp2_with (go_at_call 37;(with_reducible refine (Ae _ hb).mono ?_);clear c0 c1 c2 d0 d1 d2 l1 l2;rintro _ W ⟨rfl,hb⟩;obtain⟨c0,c1,c2,d0,d1,d2,l1,l2⟩:=HX.out W hb;refine Stop.into ?_);refine Stop.out ?_)
    cases x3
    rotate_left
    ·(go_wp2_with fail;go_ret;exact⟨by rw[HG.out];rfl,Aa.out.trans (hb.mono Aa.out.size)⟩)
    focus (go_wp2_with (go_at_call 37;(with_reducible refine (Af _ hb).mono ?_);clear c0 c1 c2 d0 d1 d2 l1 l2;rintro _ W ⟨rfl,hb⟩;obtain⟨c0,c1,c2,d0,d1,d2,l1,l2⟩:=HX.out W hb;refine Stop.into ?_);refine Stop.out ?_)
    cases x4
    rotate_left
    ·(go_wp2_with fail;go_ret;exact⟨by rw[HG.out];rfl,Aa.out.trans (hb.mono Aa.out.size)⟩)
    focus (go_wp2_with (go_at_call 38;(with_reducible refine (hP _ hb).mono ?_);clear c0 c1 c2 d0 d1 d2 l1 l2;rintro _ W ⟨rfl,hb⟩;obtain⟨c0,c1,c2,d0,d1,d2,l1,l2⟩:=HX.out W hb;refine Stop.into ?_);refine Stop.out ?_)
    cases xp
    rotate_left
    ·(go_wp2_with fail;go_ret;exact⟨by rw[HG.out];rfl,Aa.out.trans (hb.mono Aa.out.size)⟩)
    focus (go_wp2_with (go_at_call 37;(with_reducible refine (Ag _ hb).mono ?_);clear c0 c1 c2 d0 d1 d2 l1 l2;rintro _ W ⟨rfl,hb⟩;obtain⟨c0,c1,c2,d0,d1,d2,l1,l2⟩:=HX.out W hb;refine Stop.into ?_);refine Stop.out ?_)
    cases y1
    rotate_left
    ·(go_wp2_with fail;go_ret;exact⟨by rw[HG.out];rfl,Aa.out.trans (hb.mono Aa.out.size)⟩)
    focus (go_wp2_with (go_at_call 37;(with_reducible refine (Ah _ hb).mono ?_);clear c0 c1 c2 d0 d1 d2 l1 l2;rintro _ W ⟨rfl,hb⟩;obtain⟨c0,c1,c2,d0,d1,d2,l1,l2⟩:=HX.out W hb;refine Stop.into ?_);refine Stop.out ?_)
    cases y2
    rotate_left
    ·(go_wp2_with fail;go_ret;exact⟨by rw[HG.out];rfl,Aa.out.trans (hb.mono Aa.out.size)⟩)
    focus (go_wp2_with (go_at_call 37;(with_reducible refine (Ai _ hb).mono ?_);clear c0 c1 c2 d0 d1 d2 l1 l2;rintro _ W ⟨rfl,hb⟩;obtain⟨c0,c1,c2,d0,d1,d2,l1,l2⟩:=HX.out W hb;refine Stop.into ?_);refine Stop.out ?_)
    cases y3
    rotate_left
    ·(go_wp2_with fail;go_ret;exact⟨by rw[HG.out];rfl,Aa.out.trans (hb.mono Aa.out.size)⟩)
    focus (go_wp2_with (go_at_call 37;(with_reducible refine (Aj _ hb).mono ?_);clear c0 c1 c2 d0 d1 d2 l1 l2;rintro _ W ⟨rfl,hb⟩;obtain⟨c0,c1,c2,d0,d1,d2,l1,l2⟩:=HX.out W hb;refine Stop.into ?_);refine Stop.out ?_)
    cases y4
    rotate_left
    ·(go_wp2_with fail;go_ret;exact⟨by rw[HG.out];rfl,Aa.out.trans (hb.mono Aa.out.size)⟩)
    focus (go_wp2_with (go_at_call 37;(with_reducible refine (An _ hb).mono ?_);clear c0 c1 c2 d0 d1 d2 l1 l2;rintro _ W ⟨rfl,hb⟩;obtain⟨c0,c1,c2,d0,d1,d2,l1,l2⟩:=HX.out W hb;refine Stop.into ?_);refine Stop.out ?_)
    cases z1
    rotate_left
    cases xk
    rotate_left
    ·(go_wp2_with fail;go_ret;exact⟨by rw[HG.out];rfl,Aa.out.trans (hb.mono Aa.out.size)⟩)
    all_goals
     focus (go_wp2_with (go_at_call 37;(with_reducible refine (Ao _ hb).mono ?_);clear c0 c1 c2 d0 d1 d2 l1 l2;rintro _ W ⟨rfl,hb⟩;obtain⟨c0,c1,c2,d0,d1,d2,l1,l2⟩:=HX.out W hb;refine Stop.into ?_);refine Stop.out ?_)
     cases z2
     rotate_left
     focus (go_wp2_with (go_at_call 39;(with_reducible refine (hV _ hb).mono ?_);clear c0 c1 c2 d0 d1 d2 l1 l2;rintro _ W ⟨rfl,hb⟩;obtain⟨c0,c1,c2,d0,d1,d2,l1,l2⟩:=HX.out W hb;refine Stop.into ?_);refine Stop.out ?_)
     cases xv
     rotate_left
     ·(go_wp2_with fail;go_ret;exact⟨by rw[HG.out];rfl,Aa.out.trans (hb.mono Aa.out.size)⟩)
     all_goals
      focus (go_wp2_with (go_at_call 37;(with_reducible refine (Ap _ hb).mono ?_);clear c0 c1 c2 d0 d1 d2 l1 l2;rintro _ W ⟨rfl,hb⟩;obtain⟨c0,c1,c2,d0,d1,d2,l1,l2⟩:=HX.out W hb;refine Stop.into ?_);refine Stop.out ?_)
      cases z3
      rotate_left
      focus (go_wp2_with (go_at_call 37;(with_reducible refine (Aq _ hb).mono ?_);clear c0 c1 c2 d0 d1 d2 l1 l2;rintro _ W ⟨rfl,hb⟩;obtain⟨c0,c1,c2,d0,d1,d2,l1,l2⟩:=HX.out W hb;refine Stop.into ?_);refine Stop.out ?_)
      cases z4
      all_goals (go_wp2_with fail;go_ret;exact⟨by rw[HG.out];rfl,Aa.out.trans (hb.mono Aa.out.size)⟩)
end Go.Proofs.YtbcdaaobbebooaaGreatDoor
namespace Go.Proofs.YtbcdaaobbebooaaGreatDoor
theorem wN:∀(k n:Nat) (l m:List Nat),(ig k n l).2=0->ig k n (l.take k++m)=ig k n l
 |0,_,_,_,_=>by simp[ig]
 |_+1,_,[],_,h=>by simp[ig] at h
 | k+1,n,c::r,m,h=>by
  simp only[ig,List.take_succ_cons,List.cons_append] at h ⊢
  cases hc:nk c with
  |none=>simp[hc] at h
  |some d=>
   rw[hc] at h;simp only at h ⊢;exact wN k _ r m h
theorem ry{l:List Nat}(h:(aJ l).2=0)(m:List Nat):aJ (l.take 4++m)=aJ l:=wN 4 0 l m h
theorem IL{n:Nat}{l:List Nat}(h:(jb n l).2.2=0)(m:List Nat):jb n (l.take 6++m)=jb n l:=by
 match l with
 |[]=>simp[jb,aG] at h
 |[c]=>by_cases hc:c=92<;>simp[jb,aG,hc] at h
 |c::d::u=>
  by_cases hc:c=92
  ·by_cases hd:d=117
   ·have h1:(aJ u).2=0:=by
     unfold jb at h;simp only at h;rw[if_neg (by simp[hc]),if_neg (by simp[hd])] at h
     by_cases hu:(aJ u).2=0
     ·exact hu
     ·rw[if_pos (by simpa using hu)] at h;exact absurd h hu
    have h2:=ry h1 m;subst hc;subst hd;simp only[List.take_succ_cons,List.cons_append,jb,h2]
   ·unfold jb at h;simp only at h;rw[if_neg (by simp[hc]),if_pos (by simpa using hd)] at h;simp[aG] at h
  ·unfold jb at h;simp only at h;rw[if_pos (by simpa using hc)] at h;simp[aG] at h
theorem DF{r:List Nat}(h:(aM r).2.2=0)(m:List Nat):aM (r.take ((aM r).2.1-2)++m)=aM r:=by
 have Ab:=Aj h
 have hu:(aJ r).2=0:=by
  unfold aM at h
  by_cases hu:(aJ r).2=0
  ·exact hu
  ·rw[if_pos (by simpa using hu)] at h;exact absurd h hu
 have hv:=jy hu;unfold aM at h ⊢;rw[if_neg (by simp[hu])] at h
 by_cases h1:56320<=(aJ r).1/\(aJ r).1<=57343
 ·rw[if_pos h1] at h;simp[aG] at h
 rw[if_neg h1] at h
 by_cases h2:(aJ r).1<55296\/57343<(aJ r).1
 ·have hq:aJ (r.take 4++m)=aJ r:=ry hu m
  simp only[if_neg (show ¬(aJ r).2≠0 by simp[hu]),if_neg h1,if_pos h2];simp only[show 6-2=4 from rfl,hq];simp only[if_neg (show ¬(aJ r).2≠0 by simp[hu]),if_neg h1,if_pos h2]
 ·rw[if_neg h2] at h
  obtain⟨_,_,_,Aa,h6⟩:=tT (by omega) h;have hl:10<=r.length:=by simp at h6;omega
  have hq:aJ (r.take 10++m)=aJ r:=by
   have:=ry hu ((r.take 10).drop 4++m);rw[<-this]
   congr 1
   rw[<-List.append_assoc]
   congr 1
   conv=>lhs;rw[<-List.take_append_drop 4 (r.take 10)]
   rw[List.take_take];rfl
  have hd:(r.take 10++m).drop 4=(r.drop 4).take 6++m:=by
   rw[List.drop_append_of_le_length (by simp;omega),List.drop_take]
  simp only[if_neg (show ¬(aJ r).2≠0 by simp[hu]),if_neg h1,if_neg h2,Aa];simp only[show 12-2=10 from rfl,hq];simp only[if_neg (show ¬(aJ r).2≠0 by simp[hu]),if_neg h1,if_neg h2,hd];exact IL h m
theorem EH(c:Nat)(r:List Nat):ax (c::r)=if c<32 then aG 3 else if c=92 then mf r else if (aD (c::r)).2=0 then aG 7 else ((c::r).take (aD (c::r)).2,(aD (c::r)).2,0):=rfl
theorem EG{l:List Nat}(hl:vZ l)(h:(ax l).2.2=0)(m:List Nat):ax (l.take (ax l).2.1++m)=ax l:=by
 have Aa:=kI hl h
 match l with
 |[]=>simp[ax,aG] at h
 |c::r=>
  simp only[ax] at h Aa ⊢
  by_cases h1:c<32
  ·rw[if_pos h1] at h;simp[aG] at h
  rw[if_neg h1] at h Aa ⊢
  by_cases h2:c=92
  ·rw[if_pos h2] at h Aa ⊢
   match r with
   |[]=>simp[mf,aG] at h
   |d::t=>
    simp only[mf] at h Aa ⊢
    cases hd:yx d with
    |some b=>
     rw[hd] at h Aa;simp only[List.take_succ_cons,List.cons_append,List.take_zero];rw[if_neg h1,if_pos h2];simp only[hd]
    |none=>
     rw[hd] at h Aa;simp only at h Aa ⊢
     by_cases h3:d=117
     ·rw[if_pos h3] at h Aa ⊢
      have hm:=DF h m
      obtain⟨k,hk⟩:∃k,(aM t).2.1=k+2:=by
       have:(aM t).2.1=6\/(aM t).2.1=12:=by
        unfold aM at h ⊢
        by_cases hu:(aJ t).2=0
        ·rw[if_neg (by simp[hu])] at h ⊢
         by_cases g1:56320<=(aJ t).1/\(aJ t).1<=57343
         ·rw[if_pos g1] at h;simp[aG] at h
         ·rw[if_neg g1] at h ⊢
          by_cases g2:(aJ t).1<55296\/57343<(aJ t).1
          ·rw[if_pos g2];exact .inl rfl
          ·rw[if_neg g2] at h ⊢
           exact .inr (tT (by omega) h).choose_spec.2.2.1
        ·rw[if_pos (by simpa using hu)] at h;exact absurd h hu
       rcases this with h|h
       ·exact⟨4,h⟩
       ·exact⟨10,h⟩
      rw[hk] at hm;simp only[Nat.add_sub_cancel] at hm;rw[hk];simp only[List.take_succ_cons,List.cons_append];rw[if_neg h1,if_pos h2];simp only[hd];rw[if_pos h3,hm]
     ·rw[if_neg h3] at h;simp[aG] at h
  ·rw[if_neg h2] at h Aa ⊢
   by_cases h3:(aD (c::r)).2=0
   ·rw[if_pos h3] at h;simp[aG] at h
   ·rw[if_neg h3] at Aa ⊢
    obtain⟨q1,q2,q3,q4⟩:=iY (c:=(aD (c::r)).1) (n:=(aD (c::r)).2) hl rfl h3
    have hn:aD ((c::r).take (aD (c::r)).2++m)=aD (c::r):=by
     have h5:=tN q1 m;rw[show fu (aD (c::r)).1=(c::r).take (aD (c::r)).2 from q3,q2] at h5;exact h5
    simp only;obtain⟨j,hj⟩:∃j,(aD (c::r)).2=j+1:=⟨(aD (c::r)).2-1,by omega⟩;have hc:(c::r).take (aD (c::r)).2++m=c::(r.take j++m):=by rw[hj];simp
    rw[hc] at hn ⊢;simp only;rw[if_neg h1,if_neg h2,hn,if_neg h3]
    congr 1
    rw[<-hc];rw[List.take_append_of_le_length (by rw[List.length_take];omega),List.take_take,Nat.min_self]
theorem yF:∀(k:Nat) (l m:List Nat),l.length<=k->vZ l->vZ m->(bU l).2.2=0->bU (l.take (bU l).2.1++m)=bU l
 | k,l,m,hk,hl,hm,h=>by
  have hb:∀j,vZ (l.take j++m):=fun j x hx=>by
   rcases List.mem_append.1 hx with hx|hx
   ·exact hl x (List.mem_of_mem_take hx)
   ·exact hm x hx
  by_cases h34:l.head?=some 34
  ·have e:bU l=([],1,0):=by rw[dO hl,if_pos h34]
   rw[e];simp only
   cases l with
   |nil=>cases h34
   |cons c r=>
    have hc:c=34:=by simpa using h34
    subst hc;rw[dO (hb 1),if_pos (by simp)]
  ·have hp:(ax l).2.2=0:=by
    refine Decidable.byContradiction fun hn=>?_;rw[dO hl,if_neg h34,if_pos hn] at h;exact hn h
   obtain⟨_,_,_,q3,q4⟩:=kI hl hp
   have hr:(bU (l.drop (ax l).2.1)).2.2=0:=by
    refine Decidable.byContradiction fun hn=>?_;rw[dO hl,if_neg h34,if_neg (by simp[hp]),if_pos hn] at h;exact hn h
   have e:bU l=((ax l).1++(bU (l.drop (ax l).2.1)).1,(ax l).2.1+(bU (l.drop (ax l).2.1)).2.1,0):=by
    rw[dO hl,if_neg h34,if_neg (by simp[hp]),if_neg (by simp[hr])]
   cases k with
   |zero=>omega
   |succ k=>
    have ih:=yF k (l.drop (ax l).2.1) m (by simp;omega) (hl.drop _) hm hr;rw[e];simp only
    have Ab:l.take ((ax l).2.1+(bU (l.drop (ax l).2.1)).2.1)++m=l.take (ax l).2.1++((l.drop (ax l).2.1).take (bU (l.drop (ax l).2.1)).2.1++m):=by
     rw[List.take_add,List.append_assoc]
    have Ac:=EG hl hp ((l.drop (ax l).2.1).take (bU (l.drop (ax l).2.1)).2.1++m);rw[Ab];have Aa:=hb ((ax l).2.1+(bU (l.drop (ax l).2.1)).2.1);rw[Ab] at Aa
    have hh:(l.take (ax l).2.1++((l.drop (ax l).2.1).take (bU (l.drop (ax l).2.1)).2.1++m)).head?≠some 34:=by
     cases l with
     |nil=>simp at q4;omega
     |cons c r=>
      obtain⟨j,hj⟩:∃j,(ax (c::r)).2.1=j+1:=⟨(ax (c::r)).2.1-1,by omega⟩;rw[hj]
      simpa using h34
    rw[dO Aa,if_neg hh,Ac,if_neg (by simp[hp])]
    have hd:(l.take (ax l).2.1++((l.drop (ax l).2.1).take (bU (l.drop (ax l).2.1)).2.1++m)).drop (ax l).2.1=(l.drop (ax l).2.1).take (bU (l.drop (ax l).2.1)).2.1++m:=by
     rw[List.drop_append_of_le_length (by rw[List.length_take];omega),List.drop_eq_nil_of_le (by rw[List.length_take];omega),List.nil_append]
    rw[hd,ih,if_neg (by simp[hr])]
theorem rE{l m:List Nat}(hl:vZ l)(hm:vZ m)(h:(aV l).2.2=0):aV (l.take (aV l).2.1++m)=aV l:=by
 cases l with
 |nil=>simp[aV,aG] at h
 |cons c r=>
  have hc:c=34:=by
   refine Decidable.byContradiction fun hn=>?_;rw[aV,if_pos hn] at h;simp[aG] at h
  have e:aV (c::r)=gZ [] 1 (bU r):=by rw[aV,if_neg (by simpa using hc)]
  have hb:(bU r).2.2=0:=by
   refine Decidable.byContradiction fun hn=>?_;rw[e,gZ,if_pos hn] at h;exact hn h
  have ih:=yF r.length r m lz (fun x hx=>hl x (by simp[hx])) hm hb;rw[e,gZ,if_neg (by simp[hb])];simp only;rw[Nat.add_comm 1,List.take_succ_cons,List.cons_append,aV,if_neg (by simpa using hc),ih,gZ,if_neg (by simp[hb])];simp[Nat.add_comm]
theorem Kc{l:Bs}{k n:Nat}(h:eY l=.tok k n)(hk:k=3):jP (av (l.take n))≠none:=by
 subst hk
 cases l with
 |nil=>cases h
 |cons c r=>
  rw[eY] at h;split at h
  ·simp only[LR.tok.injEq] at h;omega
  split at h
  ·unfold pQ at h
   split at h
   ·simp only[LR.tok.injEq] at h;omega
   ·cases h
  split at h
  ·unfold pG at h
   split at h
   ·next hz=>
    simp only[LR.tok.injEq,true_and] at h;subst h;have Ab:=ko (iB (c::r)) hz;have hm:=rE (m:=[]) (iB (c::r)) (fun x hx=>by cases hx) hz;rw[List.append_nil] at hm;have Aa:nb ((c::r).take (aV (nb (c::r))).2.1)=(nb (c::r)).take (aV (nb (c::r))).2.1:=by unfold nb;rw[List.map_take]
    unfold jP;rw[bi,Aa,hm,if_pos]
    ·simp
    ·refine⟨hz,?_⟩
     rw[au,bi,List.length_take];rw[ky] at Ab;omega
   ·cases h
  split at h
  ·simp only[LR.tok.injEq] at h;omega
  split at h
  ·unfold iX at h
   split at h
   ·cases h
   ·simp only[LR.tok.injEq] at h;omega
  split at h
  ·unfold fB at h
   split at h
   ·cases h
   ·split at h
    ·cases h
    ·unfold iX at h
     split at h
     ·cases h
     ·simp only[LR.tok.injEq] at h;omega
  split at h
  ·cases h
  ·simp only[LR.tok.injEq] at h;omega
theorem tX:∀(k:Nat) (l:Bs) (p:Nat),l.length<=k->∀t∈(aY l p).1,t.kind=3->jP t.text≠none
 |k,[],p,_,t,ht,_=>by rw[eZ] at ht;cases ht
 |0,c::l,p,hk,_,_,_=>by simp at hk
 | k+1,c::l,p,hk,t,ht,h3=>by
  simp only[List.length_cons] at hk
  cases hb:cz c with
  |true=>
   rw[dF hb] at ht;exact tX k l (p+1) (by omega) t ht h3
  |false=>
   cases ho:eY (c::l) with
   |bad o e=>rw[gp hb ho] at ht;cases ht
   |tok kd sz=>
    have hs:=dN ho;rw[eF hb ho] at ht;rcases List.mem_cons.1 ht with rfl|ht
    ·exact Kc ho (by simp only at h3;omega)
    ·exact tX k _ _ (by rw[List.length_drop,List.length_cons];omega) t ht h3
end Go.Proofs.YtbcdaaobbebooaaGreatDoor
namespace Go.Proofs.YtbcdaaobbebooaaGreatDoor
theorem qD{s:Bs}(h:bI s=0):∀l:Bs,bI (l++s)=bI l
 |[]=>h
 |c::l=>by simp only[List.cons_append,bI,qD h l]
theorem yo{s:Bs}(h:vW s=0):∀l:Bs,vW (l++s)=vW l
 |[]=>h
 |c::l=>by simp only[List.cons_append,vW,yo h l]
structure mZ(s:Bs):Prop where
 d:bI s=0
 f:bX s=0
 p:iZ s=0
 g:nL s=0
theorem Fe{s:Bs}(h:mZ s):∀l:Bs,bX (l++s)=bX l
 |[]=>h.f
 |c::l=>by simp only[List.cons_append,bX,qD h.d l]
theorem JS{s:Bs}(h:mZ s):∀l:Bs,nL (l++s)=nL l
 |[]=>h.g
 |c::l=>by simp only[List.cons_append,nL]
theorem ND:∀l:Bs,nL l<=l.length
 |[]=>Nat.le_refl _
 |c::l=>by rw[nL];split<;>simp
theorem Iu{s:Bs}(h:mZ s):∀l:Bs,iZ (l++s)=iZ l
 |[]=>h.p
 | c::l=>by
  simp only[List.cons_append,iZ,JS h l];rw[List.drop_append_of_le_length (ND l),qD h.d]
theorem IY{s:Bs}(h:mZ s):∀l:Bs,eQ (l++s)=eQ l
 | []=>by
  simp only[List.nil_append]
  cases s with
  |nil=>rfl
  |cons c s=>
   have:=h.d;show eQ (c::s)=0;simp only[eQ];split
   ·next hc=>subst hc;rw[bI,if_pos (by decide)] at this;omega
   ·exact this
 | c::l=>by
  simp only[List.cons_append,eQ];rw[<-List.cons_append,qD h.d]
theorem Dm:∀l:Bs,bX l<=l.length
 |[]=>Nat.le_refl _
 |c::l=>by rw[bX];have:=kF l;split<;>simp;omega
theorem Gn:∀l:Bs,eQ l<=l.length
 |[]=>Nat.le_refl _
 | c::l=>by
  rw[eQ];split
  ·simp
  ·exact kF _
theorem El{s:Bs}(h:mZ s)(l:Bs):gz (l++s)=gz l:=by
 unfold gz;rw[Fe h,List.drop_append_of_le_length (Dm l),Iu h]
theorem KD:∀l:Bs,lY l<=l.length
 |[]=>Nat.le_refl _
 |c::l=>by rw[lY];split<;>simp
theorem wZ{s:Bs}(h:mZ s){l:Bs}(hl:l≠[]):df (l++s)=df l:=by
 have hm:lY (l++s)=lY l:=by cases l with|nil=>exact absurd rfl hl|cons c l=>rfl
 unfold df;have hi:=Gn (l.drop (lY l));rw[List.length_drop] at hi;have Aa:=KD l;rw[hm,List.drop_append_of_le_length Aa,IY h,List.drop_append_of_le_length (by omega),El h]
theorem Dx:∀(l s:Bs) (n:Nat),gQ l=some n->gQ (l++s)=some n
 |[],_,_,h=>by cases h
 | c::l,s,n,h=>by
  cases l with
  |nil=>
   rw[gQ] at h;simp[gQ] at h
  |cons d l=>
   rw[List.cons_append,gQ];rw[gQ] at h;have hh:((d::l)++s).head?=(d::l).head?:=rfl;rw[hh];split at h
   ·next hc=>rw[if_pos hc];exact h
   ·next hc=>
    rw[if_neg hc];obtain⟨m,hm,rfl⟩:=Option.map_eq_some_iff.1 h;rw[Dx (d::l) s m hm];rfl
theorem FT{c:UInt8}{r s:Bs}(h:r≠[]\/(s.head?≠some 61/\s.head?≠some 38/\s.head?≠some 124)):Eo (c::(r++s))=Eo (c::r):=by
 have Aa:mi.any (fun d=>d.isPrefixOf (c::(r++s)))=mi.any (fun d=>d.isPrefixOf (c::r)):=by
  simp only[mi,List.any_cons,List.any_nil,AQ]
  cases r with
  |cons d r=>rfl
  |nil=>
   rcases h with h|⟨h1,h2,h3⟩
   ·exact absurd rfl h
   ·simp[h1,h2,h3]
 simp only[Eo,Aa]
theorem EO(a b:Bs):nb (a++b)=nb a++nb b:=by unfold nb;rw[List.map_append]
theorem Ke{l s:Bs}{k n:Nat}(h:pG l=.tok k n):pG (l++s)=.tok k n:=by
 unfold pG at h ⊢;split at h
 ·next hz=>
  have Aa:=ko (iB l) hz
  have hm:=rE (l:=nb l) (m:=(nb l).drop (aV (nb l)).2.1++nb s) (iB l) (fun x hx=>by
   rcases List.mem_append.1 hx with hx|hx
   ·exact iB l x (List.mem_of_mem_drop hx)
   ·exact iB s x hx) hz
  rw[<-List.append_assoc,List.take_append_drop,<-EO] at hm;rw[hm,if_pos hz];exact h
 ·cases h
theorem Ky{l s:Bs}{k n:Nat}(h:pQ l=.tok k n)(hl:l≠[])(hs:mZ s):pQ (l++s)=.tok k n:=by
 unfold pQ at h ⊢;rw[wZ hs hl,List.take_append_of_le_length (pm l)];exact h
theorem C8(b:Bs):∀l:Bs,dz (l++10::b)=dz l
 |[]=>by simp[dz]
 |c::l=>by simp only[List.cons_append,dz,C8 b l]
theorem F3(l b:Bs):iA (l++10::b)=iA l:=by
 unfold iA;rw[C8,List.take_append_of_le_length (pR l)]
theorem Fy{l s:Bs}{k n:Nat}(h:fB l=.tok k n)(h2:2<=l.length):fB (l++s)=.tok k n:=by
 unfold fB at h ⊢;rw[List.drop_append_of_le_length h2]
 cases he:gQ (l.drop 2) with
 |none=>rw[he] at h;cases h
 |some m=>
  rw[he] at h;have Aa:=wH _ _ he;rw[List.length_drop] at Aa;rw[Dx _ s m he];simp only at h ⊢;rw[List.take_append_of_le_length (by omega),List.take_append_of_le_length (by omega)];exact h
theorem FP(b:Bs):mZ (10::b):=⟨by simp[bI,show dg 10=false from rfl],by simp[bX],by simp[iZ],by simp[nL]⟩
theorem Ml{l:Bs}{k n:Nat}(h:eY l=.tok k n)(b:Bs):eY (l++10::b)=.tok k n:=by
 cases l with
 |nil=>cases h
 |cons c r=>
  rw[List.cons_append];rw[eY] at h ⊢;split at h
  ·next hc=>rw[if_pos hc,yo (by simp[vW,show Nf 10=false from rfl])];exact h
  next hc=>
  rw[if_neg hc];split at h
  ·next hg=>rw[if_pos hg,<-List.cons_append];exact Ky h (by simp) (FP b)
  next hg=>
  rw[if_neg hg];split at h
  ·next hq=>rw[if_pos hq,<-List.cons_append];exact Ke h
  next hq=>
  rw[if_neg hq];split at h
  ·next h10=>rw[if_pos h10];exact h
  next h10=>
  rw[if_neg h10]
  have hh:∀x:UInt8,x≠10->(((r++10::b).head?=some x)↔(r.head?=some x)):=fun x hx=>by
   cases r with
   |nil=>simp;exact fun e=>hx e.symm
   |cons d r=>simp
  simp only[hh 47 (by decide),hh 42 (by decide)];split at h
  ·next hr=>rw[if_pos hr,<-List.cons_append,F3];exact h
  next hr=>
  rw[if_neg hr];split at h
  ·next ha=>
   rw[if_pos ha,<-List.cons_append];exact Fy h (by cases r with|nil=>simp at ha|cons d r=>simp)
  next ha=>
  rw[if_neg ha,FT (.inr (by simp))];exact h
theorem EY:∀(k:Nat) (a:Bs) (p:Nat) (b:Bs),a.length<=k->(aY a p).2.2=0->
  aY (a++10::b) p=((aY a p).1++⟨5,av [10],((p+a.length:Nat):Int)⟩::(aY b (p+a.length+1)).1,(aY b (p+a.length+1)).2)
 | k,[],p,b,_,_=>by
  have ho:eY (10::b)=.tok 5 1:=by simp[eY,show lq 10=false from rfl,show dg 10=false from rfl]
  rw[List.nil_append,eF rfl ho,eZ];simp
 |0,c::r,p,b,hk,_=>by simp at hk
 | k+1,c::r,p,b,hk,h=>by
  simp only[List.length_cons] at hk;rw[List.cons_append]
  cases hb:cz c with
  |true=>
   rw[dF hb] at h ⊢;rw[dF hb,EY k r (p+1) b (by omega) h];simp only[List.length_cons];rw[show p+1+r.length=p+(r.length+1) by omega]
  |false=>
   cases ho:eY (c::r) with
   |bad o e=>rw[gp hb ho] at h;exact absurd h (nQ ho)
   |tok kd sz=>
    have hs:=dN ho;rw[List.length_cons] at hs;rw[eF hb ho] at h ⊢;have ho2:=Ml ho b;rw[List.cons_append] at ho2;rw[eF hb ho2,<-List.cons_append,List.take_append_of_le_length (by simp;omega),List.drop_append_of_le_length (by simp;omega)];have ih:=EY k ((c::r).drop sz) (p+sz) b (by rw[List.length_drop,List.length_cons];omega) h;rw[ih,List.length_drop,List.length_cons];simp only[List.cons_append];rw[show p+sz+(r.length+1-sz)=p+(r.length+1) by omega]
end Go.Proofs.YtbcdaaobbebooaaGreatDoor
namespace Go.Proofs.YtbcdaaobbebooaaGreatDoor
def oP(l:List Nat):Prop:=∀x∈l,32<=x
theorem oP.app{a b:List Nat}(h1:oP a)(h2:oP b):oP (a++b):=fun x hx=>(List.mem_append.1 hx).elim (h1 x) (h2 x)
theorem KV{c d:Nat}(h:nk c=some d):32<=c:=by
 unfold nk at h;split at h
 ·omega
 split at h
 ·omega
 split at h
 ·omega
 ·cases h
theorem uE:∀(k n:Nat) (l:List Nat),(ig k n l).2=0->oP (l.take k)
 |0,_,_,_=>by intro x hx;simp at hx
 |_+1,_,[],_=>by intro x hx;simp at hx
 | k+1,n,c::r,h=>by
  simp only[ig] at h
  cases hc:nk c with
  |none=>simp[hc] at h
  |some d=>
   rw[hc] at h;simp only at h;rw[List.take_succ_cons];intro x hx;rcases List.mem_cons.1 hx with rfl|hx
   ·exact KV hc
   ·exact uE k _ r h x hx
theorem KF{n:Nat}{l:List Nat}(h:(jb n l).2.2=0):oP (l.take 6):=by
 match l with
 |[]=>simp[jb,aG] at h
 |[c]=>by_cases hc:c=92<;>simp[jb,aG,hc] at h
 |c::d::u=>
  by_cases hc:c=92
  ·by_cases hd:d=117
   ·have h1:(aJ u).2=0:=by
     unfold jb at h;simp only at h;rw[if_neg (by simp[hc]),if_neg (by simp[hd])] at h
     by_cases hu:(aJ u).2=0
     ·exact hu
     ·rw[if_pos (by simpa using hu)] at h;exact absurd h hu
    have h2:=uE 4 0 u h1;subst hc hd;simp only[List.take_succ_cons];intro x hx;rcases List.mem_cons.1 hx with rfl|hx
    ·decide
    rcases List.mem_cons.1 hx with rfl|hx
    ·decide
    ·exact h2 x hx
   ·unfold jb at h;simp only at h;rw[if_neg (by simp[hc]),if_pos (by simpa using hd)] at h;simp[aG] at h
  ·unfold jb at h;simp only at h;rw[if_pos (by simpa using hc)] at h;simp[aG] at h
theorem Fj{r:List Nat}(h:(aM r).2.2=0):oP (r.take ((aM r).2.1-2)):=by
 have hu:(aJ r).2=0:=by
  unfold aM at h
  by_cases hu:(aJ r).2=0
  ·exact hu
  ·rw[if_pos (by simpa using hu)] at h;exact absurd h hu
 have h4:=uE 4 0 r hu;unfold aM at h ⊢;rw[if_neg (by simp[hu])] at h ⊢
 by_cases h1:56320<=(aJ r).1/\(aJ r).1<=57343
 ·rw[if_pos h1] at h;simp[aG] at h
 rw[if_neg h1] at h ⊢
 by_cases h2:(aJ r).1<55296\/57343<(aJ r).1
 ·rw[if_pos h2]
  exact h4
 ·rw[if_neg h2] at h ⊢
  obtain⟨_,_,_,Aa,h6⟩:=tT (by have:=jy hu;omega) h;rw[Aa];have hl:=KF h;show oP (r.take 10);rw[show (10:Nat)=4+6 from rfl,List.take_add];exact h4.app hl
theorem Kr{c:Nat}{r:List Nat}(hl:vZ (c::r))(h1:¬c<32)(h:(aD (c::r)).2≠0):oP ((c::r).take (aD (c::r)).2):=by
 obtain⟨q1,q2,q3,q4⟩:=iY (c:=(aD (c::r)).1) (n:=(aD (c::r)).2) hl rfl h;rw[<-q3]
 have hc:32<=(aD (c::r)).1:=by
  obtain⟨j,hj⟩:∃j,(aD (c::r)).2=j+1:=⟨(aD (c::r)).2-1,by omega⟩
  by_cases h8:(aD (c::r)).1<128
  ·have:fu (aD (c::r)).1=[(aD (c::r)).1]:=by simp[fu,h8]
   rw[this,hj] at q3;simp only[List.take_succ_cons,List.cons.injEq] at q3;omega
  ·omega
 generalize (aD (c::r)).1=v at *;intro x hx;unfold fu at hx;split at hx
 ·simp at hx;omega
 split at hx
 ·simp at hx;omega
 split at hx
 ·simp at hx;omega
 ·simp at hx;omega
theorem Lb{c b:Nat}(h:yx c=some b):32<=c:=by
 unfold yx at h;repeat' (split at h)
 all_goals first|(cases h;omega)|omega|cases h
theorem Iy{l:List Nat}(hl:vZ l)(h:(ax l).2.2=0):oP (l.take (ax l).2.1):=by
 match l with
 |[]=>intro x hx;simp at hx
 |c::r=>
  rw[EH] at h ⊢
  by_cases h1:c<32
  ·rw[if_pos h1] at h;simp[aG] at h
  rw[if_neg h1] at h ⊢
  by_cases h2:c=92
  ·rw[if_pos h2] at h ⊢
   match r with
   |[]=>simp[mf,aG] at h
   |d::t=>
    simp only[mf] at h ⊢
    cases hd:yx d with
    |some b=>
     simp only[List.take_succ_cons,List.take_zero];intro x hx;simp at hx
     rcases hx with rfl|rfl
     ·omega
     ·exact Lb hd
    |none=>
     rw[hd] at h;simp only at h ⊢
     by_cases h3:d=117
     ·rw[if_pos h3] at h ⊢
      have hc:=Fj h
      obtain⟨k,hk⟩:∃k,(aM t).2.1=k+2:=by
       have:(aM t).2.1=6\/(aM t).2.1=12:=by
        unfold aM at h ⊢
        by_cases hu:(aJ t).2=0
        ·rw[if_neg (by simp[hu])] at h ⊢
         by_cases g1:56320<=(aJ t).1/\(aJ t).1<=57343
         ·rw[if_pos g1] at h;simp[aG] at h
         ·rw[if_neg g1] at h ⊢
          by_cases g2:(aJ t).1<55296\/57343<(aJ t).1
          ·rw[if_pos g2];exact .inl rfl
          ·rw[if_neg g2] at h ⊢
           exact .inr (tT (by omega) h).choose_spec.2.2.1
        ·rw[if_pos (by simpa using hu)] at h;exact absurd h hu
       rcases this with h|h
       ·exact⟨4,h⟩
       ·exact⟨10,h⟩
      rw[hk] at hc ⊢;simp only[Nat.add_sub_cancel] at hc;simp only[List.take_succ_cons];intro x hx;rcases List.mem_cons.1 hx with rfl|hx
      ·omega
      rcases List.mem_cons.1 hx with rfl|hx
      ·omega
      ·exact hc x hx
     ·rw[if_neg h3] at h;simp[aG] at h
  ·rw[if_neg h2] at h ⊢
   by_cases h3:(aD (c::r)).2=0
   ·rw[if_pos h3] at h;simp[aG] at h
   ·rw[if_neg h3]
    exact Kr hl h1 h3
theorem Al:∀(k:Nat) (l:List Nat),l.length<=k->vZ l->(bU l).2.2=0->oP (l.take (bU l).2.1)
 | k,l,hk,hl,h=>by
  by_cases h34:l.head?=some 34
  ·have e:bU l=([],1,0):=by rw[dO hl,if_pos h34]
   rw[e]
   cases l with
   |nil=>cases h34
   |cons c r=>
    have hc:c=34:=by simpa using h34
    subst hc;intro x hx;simp at hx
    omega
  ·have hp:(ax l).2.2=0:=by
    refine Decidable.byContradiction fun hn=>?_;rw[dO hl,if_neg h34,if_pos hn] at h;exact hn h
   obtain⟨_,_,_,q3,q4⟩:=kI hl hp
   have hr:(bU (l.drop (ax l).2.1)).2.2=0:=by
    refine Decidable.byContradiction fun hn=>?_;rw[dO hl,if_neg h34,if_neg (by simp[hp]),if_pos hn] at h;exact hn h
   have e:bU l=((ax l).1++(bU (l.drop (ax l).2.1)).1,(ax l).2.1+(bU (l.drop (ax l).2.1)).2.1,0):=by
    rw[dO hl,if_neg h34,if_neg (by simp[hp]),if_neg (by simp[hr])]
   cases k with
   |zero=>omega
   |succ k=>
    have ih:=Al k (l.drop (ax l).2.1) (by simp;omega) (hl.drop _) hr;rw[e,List.take_add];exact (Iy hl hp).app ih
theorem Hm{l:List Nat}(hl:vZ l)(h:(aV l).2.2=0):oP (l.take (aV l).2.1):=by
 cases l with
 |nil=>intro x hx;simp at hx
 |cons c r=>
  have hc:c=34:=by
   refine Decidable.byContradiction fun hn=>?_;rw[aV,if_pos hn] at h;simp[aG] at h
  have e:aV (c::r)=gZ [] 1 (bU r):=by rw[aV,if_neg (by simpa using hc)]
  have hb:(bU r).2.2=0:=by
   refine Decidable.byContradiction fun hn=>?_;rw[e,gZ,if_pos hn] at h;exact hn h
  have ih:=Al r.length r lz (fun x hx=>hl x (by simp[hx])) hb;rw[e,gZ,if_neg (by simp[hb])];simp only;rw[Nat.add_comm 1,List.take_succ_cons];intro x hx;rcases List.mem_cons.1 hx with rfl|hx
  ·omega
  ·exact ih x hx
theorem Md{l b:Bs}{k n:Nat}(h:pG (l++10::b)=.tok k n):pG l=.tok k n:=by
 unfold pG at h ⊢;split at h
 ·next hz=>
  have hc:=Hm (iB _) hz;have Ab:=ko (iB _) hz
  have Aa:(aV (nb (l++10::b))).2.1<=l.length:=by
   refine Nat.le_of_not_lt fun hlt=>?_;generalize (aV (nb (l++10::b))).2.1=q at *
   have:=hc 10 (by
    rw[EO];refine List.mem_take_iff_getElem.2 ⟨l.length,?_,?_⟩
    ·simp[ky];omega
    ·rw[List.getElem_append_right (by simp[ky])]
     simp[nb])
   omega
  have hm:=rE (l:=nb (l++10::b)) (m:=nb (l.drop (aV (nb (l++10::b))).2.1)) (iB _) (iB _) hz
  have he:(nb (l++10::b)).take (aV (nb (l++10::b))).2.1++nb (l.drop (aV (nb (l++10::b))).2.1)=nb l:=by
   generalize (aV (nb (l++10::b))).2.1=m at *;rw[EO,List.take_append_of_le_length (by rw[ky];exact Aa)];unfold nb;rw[<-List.map_take,<-List.map_append,List.take_append_drop]
  rw[he] at hm;rw[hm,if_pos hz];exact h
 ·cases h
theorem Ae:∀(l:Bs) (n:Nat),gQ l=some n->l[n]?=some 42/\l[n+1]?=some 47
 |[],_,h=>by cases h
 | c::l,n,h=>by
  rw[gQ] at h;split at h
  ·next hc=>
   cases h
   cases l with
   |nil=>simp at hc
   |cons d l=>simp at hc;simp[hc.1,hc.2]
  ·obtain⟨m,hm,rfl⟩:=Option.map_eq_some_iff.1 h
   simpa using Ae l m hm
theorem Dw:∀(l s:Bs) (n:Nat),gQ (l++s)=some n->n+2<=l.length->gQ l=some n
 |[],_,_,_,hn=>by simp at hn
 |[c],_,n,_,hn=>by simp at hn
 | c::d::l,s,n,h,hn=>by
  rw[List.cons_append,gQ] at h;rw[gQ];have hh:((d::l)++s).head?=(d::l).head?:=rfl;rw[hh] at h;split at h
  ·next hc=>rw[if_pos hc];exact h
  ·next hc=>
   rw[if_neg hc];obtain⟨m,hm,rfl⟩:=Option.map_eq_some_iff.1 h;rw[Dw (d::l) s m hm (by simp at hn ⊢;omega)];rfl
theorem Ji{l b:Bs}{k n:Nat}(h:fB (l++10::b)=.tok k n)(h2:2<=l.length):fB l=.tok k n:=by
 unfold fB at h ⊢;rw[List.drop_append_of_le_length h2] at h
 cases he:gQ (l.drop 2++10::b) with
 |none=>rw[he] at h;cases h
 |some m=>
  rw[he] at h;simp only at h;have Aa:=Ae _ _ he
  by_cases hc:((l++10::b).take (m+2)).contains 10=true
  ·rw[if_pos hc] at h;cases h
  ·rw[if_neg hc] at h
   have Ac:(l.drop 2).length=l.length-2:=List.length_drop
   have Ab:(l.drop 2++10::b)[l.length-2]?=some 10:=by
    rw[List.getElem?_append_right (by omega)];simp
   have Ad:m+2<=l.length:=by
    refine Nat.le_of_not_lt fun hlt=>hc ?_;rw[List.contains_iff_mem];refine List.mem_take_iff_getElem.2 ⟨l.length,?_,?_⟩
    ·simp;omega
    ·rw[List.getElem_append_right lz];simp
   have Af:m≠l.length-2:=fun e=>by rw[e,Ab] at Aa;simp at Aa
   have Ag:m+1≠l.length-2:=fun e=>by have:=Aa.2;rw[e,Ab] at this;simp at this
   rw[Dw _ _ m he (by omega)];simp only;rw[List.take_append_of_le_length (by omega)] at hc h;rw[if_neg hc];exact h
theorem Kt{l:Bs}(hl:l≠[]){k n:Nat}{b:Bs}(h:eY (l++10::b)=.tok k n):eY l=.tok k n:=by
 cases l with
 |nil=>exact absurd rfl hl
 |cons c r=>
  rw[List.cons_append] at h;rw[eY] at h ⊢;split at h
  ·next hc=>rw[if_pos hc];rw[yo (by simp[vW,show Nf 10=false from rfl])] at h;exact h
  next hc=>
  rw[if_neg hc];split at h
  ·next hg=>
   rw[if_pos hg];rw[<-List.cons_append] at h;unfold pQ at h ⊢;rw[wZ (FP b) (by simp),List.take_append_of_le_length (pm _)] at h;exact h
  next hg=>
  rw[if_neg hg];split at h
  ·next hq=>rw[if_pos hq];rw[<-List.cons_append] at h;exact Md h
  next hq=>
  rw[if_neg hq];split at h
  ·next h10=>rw[if_pos h10];exact h
  next h10=>
  rw[if_neg h10]
  have hh:∀x:UInt8,x≠10->(((r++10::b).head?=some x)↔(r.head?=some x)):=fun x hx=>by
   cases r with
   |nil=>simp;exact fun e=>hx e.symm
   |cons d r=>simp
  simp only[hh 47 (by decide),hh 42 (by decide)] at h;split at h
  ·next hr=>rw[if_pos hr];rw[<-List.cons_append,F3] at h;exact h
  next hr=>
  rw[if_neg hr];split at h
  ·next ha=>
   rw[if_pos ha];rw[<-List.cons_append] at h;exact Ji h (by cases r with|nil=>simp at ha|cons d r=>simp)
  next ha=>
  rw[if_neg ha];rw[FT (.inr (by simp))] at h;exact h
theorem Bd:∀(k:Nat) (a:Bs) (p:Nat) (b:Bs),a.length<=k->(aY (a++10::b) p).2.2=0->(aY a p).2.2=0
 |k,[],p,b,_,_=>by rw[eZ]
 |0,c::r,p,b,hk,_=>by simp at hk
 | k+1,c::r,p,b,hk,h=>by
  simp only[List.length_cons] at hk;rw[List.cons_append] at h
  cases hb:cz c with
  |true=>
   rw[dF hb] at h ⊢;exact Bd k r (p+1) b (by omega) h
  |false=>
   cases ho:eY (c::(r++10::b)) with
   |bad o e=>rw[gp hb ho] at h;exact absurd h (nQ ho)
   |tok kd sz=>
    have ho2:=Kt (l:=c::r) (by simp) (b:=b) ho;have hs:=dN ho2;rw[List.length_cons] at hs;rw[eF hb ho,<-List.cons_append,List.drop_append_of_le_length (by simp;omega)] at h;rw[eF hb ho2];exact Bd k _ _ b (by rw[List.length_drop,List.length_cons];omega) h
def Pw(q:Nat)(t:ag):ag:=⟨t.kind,t.text,t.pos+(q:Nat)⟩
theorem uP:∀(k:Nat) (l:Bs) (p q:Nat),l.length<=k->aY l (p+q)=((aY l p).1.map (Pw q),if (aY l p).2.2=0 then -1 else (aY l p).2.1+(q:Nat),(aY l p).2.2)
 |k,[],p,q,_=>by rw[eZ,eZ];rfl
 |0,c::r,p,q,hk=>by simp at hk
 | k+1,c::r,p,q,hk=>by
  simp only[List.length_cons] at hk
  cases hb:cz c with
  |true=>
   rw[dF hb,dF hb,show p+q+1=p+1+q by omega];exact uP k r (p+1) q (by omega)
  |false=>
   cases ho:eY (c::r) with
   |bad o e=>
    rw[gp hb ho,gp hb ho];simp only[List.map_nil,if_neg (nQ ho)]
    congr 2
    omega
   |tok kd sz=>
    have hs:=dN ho;rw[eF hb ho,eF hb ho,show p+q+sz=p+sz+q by omega,uP k ((c::r).drop sz) (p+sz) q (by rw[List.length_drop,List.length_cons];omega)];simp only[List.map_cons,Pw]
    congr 2
end Go.Proofs.YtbcdaaobbebooaaGreatDoor
namespace Go.Proofs.YtbcdaaobbebooaaGreatDoor
def mF:Bs->List Bs
 |[]=>[[]]
 | c::l=>if c=10 then []::mF l else match mF l with
  |a::r=>(c::a)::r
  |[]=>[[c]]
theorem GD:∀l:Bs,mF l≠[]
 |[]=>by simp[mF]
 | c::l=>by
  rw[mF];split
  ·simp
  ·split<;>simp
theorem wJ:∀(a b:Bs),10∉a->mF (a++10::b)=a::mF b
 |[],b,_=>by simp[mF]
 | c::a,b,h=>by
  simp only[List.mem_cons,not_or] at h;rw[List.cons_append,mF,if_neg (fun e=>h.1 e.symm),wJ a b h.2]
theorem um:∀(a:Bs),10∉a->mF a=[a]
 |[],_=>rfl
 | c::a,h=>by
  simp only[List.mem_cons,not_or] at h;rw[mF,if_neg (fun e=>h.1 e.symm),um a h.2]
theorem Bu{P:Bs->Prop}(h1:∀a,10∉a->P a)(h2:∀a b,10∉a->P b->P (a++10::b))(l:Bs):P l:=by
 have hk:∀(k:Nat) (l:Bs),l.length<=k->P l:=by
  intro k
  induction k with
  |zero=>intro l hl;rw[List.eq_nil_of_length_eq_zero (Nat.le_zero.1 hl)];exact h1 [] (by simp)
  |succ k ih=>
   intro l hl
   by_cases h:10∈l
   ·obtain⟨a,b,e,ha⟩:=List.eq_append_cons_of_mem h
    rw[e];refine h2 a b ha (ih b ?_);rw[e] at hl;simp at hl;omega
   ·exact h1 l h
 exact hk l.length l lz
def eu(r:List ag):List ag:=r.filter (fun t=>!dS t)
def iK(r:List ag):Bool:=match (eu r).getLast? with|some t=>bT t rF|none=>false
def kZ(r:List ag):Bool:=match eu r with|t::_=>bT t ng|[]=>false
structure kD where
 toks:List ag
 lo:Int
 hi:Int
 dep:Int
def dR(o:Int)(l:List ag):Int:=if kZ l then o-1 else o
def ui(o:Int)(l:List ag)(lo hi:Int):kD:=⟨l,lo,hi,dR o l⟩
def dD(o:Int)(l:List ag):Int:=if iK l then dR o l+1 else dR o l
def eD(size:Int):List ag->List ag->Int->Int->List kD
 |[],cur,fr,o=>if fr<size then [ui o cur fr size] else []
 |t::r,cur,fr,o=>if t.kind=5 then ui o cur fr t.pos::eD size r [] (t.pos+1) (dD o cur) else eD size r (cur++[t]) fr o
def bR(l:Bs):List kD:=if (kz l).2.2=0 then eD l.length (kz l).1 [] 0 0 else []
def mP:List Bs->Nat->Int->List kD
 |[],_,_=>[]
 |[a],p,o=>if a=[] then [] else [ui o (aY a p).1 p ((p+a.length:Nat):Int)]
 |a::b::r,p,o=>ui o (aY a p).1 p ((p+a.length:Nat):Int)::mP (b::r) (p+a.length+1) (dD o (aY a p).1)
theorem xB(size:Int)(x:ByteArray)(q:Int)(tb:List ag):∀(ta cur:List ag) (fr o:Int),(∀t∈ta,t.kind≠5)->eD size (ta++⟨5,x,q⟩::tb) cur fr o=ui o (cur++ta) fr q::eD size tb [] (q+1) (dD o (cur++ta))
 |[],cur,fr,o,_=>by simp only[List.nil_append,eD,if_true,List.append_nil]
 | t::ta,cur,fr,o,h=>by
  have h1:=h t (by simp);rw[List.cons_append,eD,if_neg h1,xB size x q tb ta (cur++[t]) fr o (fun u hu=>h u (by simp[hu]))];simp
theorem xC(size:Int):∀(ta cur:List ag) (fr o:Int),(∀t∈ta,t.kind≠5)->eD size ta cur fr o=if fr<size then [ui o (cur++ta) fr size] else []
 |[],cur,fr,o,_=>by rw[eD,List.append_nil]
 | t::ta,cur,fr,o,h=>by
  have h1:=h t (by simp);rw[eD,if_neg h1,xC size ta (cur++[t]) fr o (fun u hu=>h u (by simp[hu]))];simp
theorem IE{c:UInt8}{r:Bs}{n:Nat}(h:eY (c::r)=.tok 5 n):c=10:=by
 refine Decidable.byContradiction fun hc=>?_;rw[eY] at h;split at h
 ·cases h
 split at h
 ·unfold pQ at h;split at h<;>cases h
 split at h
 ·unfold pG at h;split at h<;>cases h
 (try rw[if_neg hc] at h)
 have hr:∀(l:Bs) (k:Nat),iX l k=.tok 5 n->k=5:=fun l k hk=>by
  unfold iX at hk;split at hk
  ·cases hk
  ·injection hk
 split at h
 ·exact absurd (hr _ _ h) (by decide)
 split at h
 ·unfold fB at h
  split at h
  ·cases h
  ·split at h
   ·cases h
   ·exact absurd (hr _ _ h) (by decide)
 split at h<;>cases h
theorem iC:∀(k:Nat) (l:Bs) (p:Nat),l.length<=k->10∉l->∀t∈(aY l p).1,t.kind≠5
 |k,[],p,_,_=>by rw[eZ];intro t ht;cases ht
 |0,c::r,p,hk,_=>by simp at hk
 | k+1,c::r,p,hk,h=>by
  simp only[List.length_cons] at hk;simp only[List.mem_cons,not_or] at h
  cases hb:cz c with
  |true=>rw[dF hb];exact iC k r (p+1) (by omega) h.2
  |false=>
   cases ho:eY (c::r) with
   |bad o e=>rw[gp hb ho];intro t ht;cases ht
   |tok kd sz=>
    have hs:=dN ho;rw[eF hb ho];intro t ht;simp only[List.mem_cons] at ht;rcases ht with rfl|ht
    ·intro e
     have e:(kd:Int)=5:=e;obtain rfl:kd=5:=by omega
     exact h.1 (IE ho).symm
    ·exact iC k _ _ (by rw[List.length_drop,List.length_cons];omega) (fun hm=>by
      rcases List.mem_cons.1 (List.mem_of_mem_drop hm) with e|e
      ·exact h.1 e
      ·exact h.2 e) t ht
theorem uQ(a b:Bs)(p:Nat)(h:(aY (a++10::b) p).2.2=0) :
  (aY a p).2.2=0/\(aY b (p+a.length+1)).2.2=0/\aY (a++10::b) p=((aY a p).1++⟨5,av [10],((p+a.length:Nat):Int)⟩::(aY b (p+a.length+1)).1,(aY b (p+a.length+1)).2):=by
 have h1:=Bd a.length a p b lz h;have h2:=EY a.length a p b lz h1;rw[h2] at h;exact⟨h1,h,h2⟩
theorem Er(l:Bs):∀(p:Nat) (o:Int),(aY l p).2.2=0->eD ((p+l.length:Nat):Int) (aY l p).1 [] p o=mP (mF l) p o:=by
 refine Bu (P:=fun l=>∀(p:Nat) (o:Int),(aY l p).2.2=0->eD ((p+l.length:Nat):Int) (aY l p).1 [] p o=mP (mF l) p o) ?_ ?_ l
 ·intro a ha p o _
  rw[um a ha,mP,xC _ _ _ _ _ (iC a.length a p lz ha),List.nil_append]
  by_cases h0:a=[]
  ·subst h0
   rw[if_neg (by simp),if_pos rfl]
  ·have:0<a.length:=List.length_pos_iff.2 h0
   rw[if_pos (by omega),if_neg h0]
 ·intro a b ha ih p o h
  obtain⟨h1,h2,h3⟩:=uQ a b p h;rw[h3,wJ a b ha]
  obtain⟨x,r,hx⟩:∃x r,mF b=x::r:=by
   cases hc:mF b with
   |nil=>exact absurd hc (GD b)
   |cons x r=>exact⟨x,r,rfl⟩
  have ih:=ih (p+a.length+1) (dD o (aY a p).1) h2;rw[hx] at ih ⊢;rw[mP,<-ih];simp only;rw[xB _ _ _ _ _ _ _ _ (iC a.length a p lz ha),List.nil_append];simp only[List.length_append,List.length_cons];rw[show p+(a.length+(b.length+1))=p+a.length+1+b.length by omega]
  congr 1
theorem vE{l:Bs}(h:(aY l 0).2.2=0):bR l=mP (mF l) 0 0:=by
 have:=Er l 0 0 h;rw[Nat.zero_add] at this;unfold bR kz;rw[if_pos h];simp only[if_true];exact this
def jY:List ag->List ag->Bool->List (List ag)
 |[],cur,b=>if b then [cur] else []
 |t::r,cur,b=>if t.kind=5 then cur::jY r [] b else jY r (cur++[t]) b
theorem xx(x:ByteArray)(q:Int)(tb:List ag)(bb:Bool):∀(ta cur:List ag),(∀t∈ta,t.kind≠5)->jY (ta++⟨5,x,q⟩::tb) cur bb=(cur++ta)::jY tb [] bb
 |[],cur,_=>by simp only[List.nil_append,jY,if_true,List.append_nil]
 | t::ta,cur,h=>by
  have h1:=h t (by simp);rw[List.cons_append,jY,if_neg h1,xx x q tb bb ta (cur++[t]) (fun u hu=>h u (by simp[hu]))];simp
theorem xy(bb:Bool):∀(ta cur:List ag),(∀t∈ta,t.kind≠5)->jY ta cur bb=if bb then [cur++ta] else []
 |[],cur,_=>by rw[jY,List.append_nil]
 | t::ta,cur,h=>by
  have h1:=h t (by simp);rw[jY,if_neg h1,xy bb ta (cur++[t]) (fun u hu=>h u (by simp[hu]))];simp
def kH(l:Bs):Bool:=match l.getLast? with|some c=>c != 10|none=>false
theorem He{a:Bs}(h:10∉a):kH a=decide (a≠[]):=by
 unfold kH
 cases hl:a.getLast? with
 |none=>rw[List.getLast?_eq_none_iff.1 hl];rfl
 |some c=>
  have hc:c∈a:=List.mem_of_getLast? hl;rw[decide_eq_true (by rintro rfl;cases hl)];simp only[bne_iff_ne,ne_eq];rintro rfl;exact h hc
theorem JN(a b:Bs):kH (a++10::b)=kH b:=by
 unfold kH;rw[List.getLast?_append,List.getLast?_cons];cases b.getLast?<;>rfl
theorem Cb(l:Bs):∀(p:Nat) (o:Int),(aY l p).2.2=0->jY (aY l p).1 [] (kH l)=(mP (mF l) p o).map (·.toks):=by
 refine Bu (P:=fun l=>∀(p:Nat) (o:Int),(aY l p).2.2=0->jY (aY l p).1 [] (kH l)=(mP (mF l) p o).map (·.toks)) ?_ ?_ l
 ·intro a ha p o _
  rw[um a ha,mP,xy _ _ _ (iC a.length a p lz ha),List.nil_append,He ha]
  by_cases h0:a=[]
  ·subst h0;rfl
  ·rw[decide_eq_true h0,if_pos rfl,if_neg h0];rfl
 ·intro a b ha ih p o h
  obtain⟨h1,h2,h3⟩:=uQ a b p h;rw[h3,wJ a b ha,JN]
  obtain⟨x,r,hx⟩:∃x r,mF b=x::r:=by
   cases hc:mF b with
   |nil=>exact absurd hc (GD b)
   |cons x r=>exact⟨x,r,rfl⟩
  have ih:=ih (p+a.length+1) (dD o (aY a p).1) h2;rw[hx] at ih ⊢;rw[mP,List.map_cons,<-ih];simp only;rw[xx _ _ _ _ _ _ (iC a.length a p lz ha),List.nil_append];rfl
def gm(l:Bs):List (List ag):=if (aY l 0).2.2=0 then jY (aY l 0).1 [] (kH l) else []
theorem FV(l:Bs):gm l=(bR l).map (·.toks):=by
 unfold gm
 by_cases h:(aY l 0).2.2=0
 ·rw[if_pos h,vE h,Cb l 0 0 h]
 ·rw[if_neg h]
  unfold bR kz;rw[if_neg h,if_neg h];rfl
end Go.Proofs.YtbcdaaobbebooaaGreatDoor
namespace Go.Proofs.YtbcdaaobbebooaaGreatDoor
def gY(r:List ag):Bool:=match r.getLast? with|some t=>bT t rF|none=>false
def l9(r:List ag):Bool:=match r with|t::_=>bT t ng|[]=>false
def dZ:List (List ag)->List (List ag)
 |[]=>[]
 |[]::r=>dZ r
 |(t::q)::r=>(t::q)::r
def pV(r:List ag)(rest:List (List ag)):List ag×List (List ag):=
 if gY r then (match dZ rest with|x::q=>if l9 x then (r++x,q) else (r,rest)|[]=>(r,rest)) else (r,rest)
structure aO where
 toks:List ag
 after:Bool
def fU:Nat->Bool->List (List ag)->List aO
 |0,_,_=>[]
 |_+1,_,[]=>[]
 |n+1,_,[]::rest=>fU n true rest
 |n+1,gap,(t::q)::rest=>⟨(pV (t::q) rest).1,gap⟩::fU n false (pV (t::q) rest).2
def iM:List (List ag)->Bool->List aO->List aO
 |[],_,out=>out
 |[]::rest,_,out=>iM rest true out
 | (t::q)::rest,gap,out=>match out.getLast? with
  |some o=>if gY o.toks&&bT t ng then iM rest false (out.dropLast++[⟨o.toks++t::q,o.after⟩]) else iM rest false (out++[⟨t::q,gap⟩])
  |none=>iM rest false (out++[⟨t::q,gap⟩])
def FH(r:List ag):Prop:=l9 r=true->gY r=false
def Nu(out:List aO)(rows:List (List ag)):Prop:=∃o x q,out.getLast?=some o/\gY o.toks=true/\dZ rows=x::q/\l9 x=true
theorem mg{rows q:List (List ag)}{x:List ag}(h:dZ rows=x::q):x≠[]/\q.length<rows.length/\∀r,r=x\/r∈q->r∈rows:=by
 induction rows with
 |nil=>cases h
 |cons a rows ih=>
  cases a with
  |nil=>
   obtain⟨h1,h2,h3⟩:=ih h;exact⟨h1,by simp;omega,fun r hr=>by simp[h3 r hr]⟩
  |cons t p=>
   simp only[dZ,List.cons.injEq] at h;obtain⟨rfl,rfl⟩:=h;exact⟨by simp,by simp,fun r hr=>by rcases hr with rfl|hr<;>simp[*]⟩
theorem Ih{rows q:List (List ag)}{x:List ag}(h:dZ rows=x::q)(hx:l9 x=true)(out:List aO)(o:aO)(ho:gY o.toks=true):∀gap,iM rows gap (out++[o])=iM q false (out++[⟨o.toks++x,o.after⟩]):=by
 induction rows with
 |nil=>cases h
 |cons a rows ih=>
  intro gap
  cases a with
  |nil=>rw[iM];exact ih h true
  |cons t p=>
   simp only[dZ,List.cons.injEq] at h;obtain⟨rfl,rfl⟩:=h;have ht:bT t ng=true:=hx;rw[iM];simp only[List.getLast?_concat,ho,ht,Bool.and_self,if_true,List.dropLast_concat]
theorem KJ{r x:List ag}(hx:x≠[]):gY (r++x)=gY x:=by
 unfold gY;rw[List.getLast?_append]
 cases h:x.getLast? with
 |none=>exact absurd (List.getLast?_eq_none_iff.1 h) hx
 |some t=>rfl
theorem uj:∀(n:Nat) (rows:List (List ag)) (gap:Bool) (out:List aO),rows.length<=n->(∀r∈rows,FH r)->¬Nu out rows->iM rows gap out=out++fU n gap rows
 | 0,rows,gap,out,hn,_,_=>by
  obtain rfl:=List.eq_nil_of_length_eq_zero (Nat.le_zero.1 hn);simp[iM,fU]
 |n+1,[],gap,out,_,_,_=>by simp[iM,fU]
 | n+1,[]::rest,gap,out,hn,hO,hJ=>by
  rw[iM,fU];exact uj n rest true out (by simpa using hn) (fun r hr=>hO r (by simp[hr])) hJ
 | n+1,(t::q)::rest,gap,out,hn,hO,hJ=>by
  have hpush:iM ((t::q)::rest) gap out=iM rest false (out++[⟨t::q,gap⟩]):=by
   rw[iM];split
   ·next o ho=>
    rw[if_neg];intro h;rw[Bool.and_eq_true] at h;exact hJ ⟨o,t::q,rest,ho,h.1,rfl,h.2⟩
   ·rfl
  rw[hpush,fU];simp only[List.length_cons] at hn
  have Aa:(pV (t::q) rest).2=rest->(pV (t::q) rest).1=t::q->¬Nu (out++[⟨t::q,gap⟩]) rest->iM rest false (out++[⟨t::q,gap⟩])=out++⟨(pV (t::q) rest).1,gap⟩::fU n false (pV (t::q) rest).2:=by
   intro h1 h2 h3;rw[h1,h2,uj n rest false _ (by omega) (fun r hr=>hO r (by simp[hr])) h3];simp
  unfold pV at Aa ⊢
  by_cases hl:gY (t::q)=true
  ·rw[if_pos hl] at Aa ⊢
   cases hd:dZ rest with
   |nil=>
    simp only[hd] at Aa ⊢;refine Aa trivial trivial ?_;rintro⟨o,x,p,-,-,h,-⟩;rw[hd] at h;cases h
   |cons x p=>
    simp only[hd] at Aa ⊢
    by_cases hx:l9 x=true
    ·rw[if_pos hx] at ⊢
     obtain⟨h1,h2,h3⟩:=mg hd;rw[Ih hd hx out ⟨t::q,gap⟩ hl false];rw[uj n p false _ (by omega) (fun r hr=>hO r (by simp[h3 r (.inr hr)])) ?_]
     ·simp
     ·rintro⟨o,y,p2,h4,h5,-,-⟩
      rw[List.getLast?_concat] at h4;cases h4
      simp only at h5;rw[KJ h1,hO x (by simp[h3 x (.inl rfl)]) hx] at h5;cases h5
    ·rw[if_neg hx] at Aa ⊢
     refine Aa rfl rfl ?_;rintro⟨o,y,p2,h4,h5,h6,h7⟩;rw[hd] at h6;cases h6
     exact hx h7
  ·rw[if_neg hl] at Aa ⊢
   refine Aa rfl rfl ?_;rintro⟨o,y,p2,h4,h5,-,-⟩;rw[List.getLast?_concat] at h4;cases h4
   exact hl h5
end Go.Proofs.YtbcdaaobbebooaaGreatDoor
namespace Go.Proofs.YtbcdaaobbebooaaGreatDoor
abbrev vC(t:ag):Bs:=t.text.data.toList
def kY(n:Nat):Bs:=List.replicate n 32
def Ot(x:Nat×ag):Bs:=kY x.1++vC x.2
def zi(l:List (Nat×ag)):Bs:=l.flatMap Ot
def qX(row:List ag)(ind i:Nat):Nat:=if i=0 then ind else tZ row i
def rP(row:List ag)(ind:Nat):List (Nat×ag):=row.mapIdx fun i t=>(qX row ind i,t)
def aW(row:List ag)(ind fr en:Nat):Bs:=zi (((rP row ind).take en).drop fr)
theorem tF(row:List ag)(ind:Nat):(rP row ind).length=row.length:=List.length_mapIdx
theorem F9{row:List ag}{ind k:Nat}(h:k<row.length):(rP row ind)[k]'(by rw[tF];exact h)=(qX row ind k,row[k]):=by
 unfold rP;rw[List.getElem_mapIdx]
theorem lQ(row:List ag)(ind fr:Nat):aW row ind fr fr=[]:=by
 unfold aW;rw[List.drop_eq_nil_of_le (by rw[List.length_take];omega)];rfl
theorem uq(a b:List (Nat×ag)):zi (a++b)=zi a++zi b:=List.flatMap_append
theorem tJ{row:List ag}{ind fr k:Nat}(h1:fr<=k)(h2:k<row.length):aW row ind fr (k+1)=aW row ind fr k++(kY (qX row ind k)++vC row[k]):=by
 have hk:k<(rP row ind).length:=by rw[tF];exact h2
 unfold aW;rw[List.take_add_one,List.getElem?_eq_getElem hk,F9 h2,List.drop_append_of_le_length (by rw[List.length_take];omega),uq];simp[zi,Ot]
def dG(l:Bs):Nat:=if (scan (nb l) 0).2.isNone then (scan (nb l) 0).1.length else 0
def mr:List ag->Nat->Nat->Option Nat
 |[],_,_=>none
 |t::r,i,0=>if dS t then mr r (i+1) 0 else some i
 |t::r,i,n+1=>if dS t then mr r (i+1) (n+1) else mr r (i+1) n
def oG(r:List ag):Option Nat:=match mr r 0 1 with
 |some i=>if bT (r[i]?.getD ⟨0,⟨#[]⟩,0⟩) Ca then some i else none
 |none=>none
theorem xJ:∀(r:List ag) (i n j:Nat),mr r i n=some j->i+n<=j/\j<i+r.length
 |[],_,_,_,h=>by cases h
 | t::r,i,0,j,h=>by
  rw[mr] at h;simp only[List.length_cons];split at h
  ·have:=xJ r (i+1) 0 j h;omega
  ·cases h;omega
 | t::r,i,n+1,j,h=>by
  rw[mr] at h;simp only[List.length_cons];split at h
  ·have:=xJ r (i+1) (n+1) j h;omega
  ·have:=xJ r (i+1) n j h;omega
theorem pX{r:List ag}{i:Nat}(h:oG r=some i):1<=i/\i<r.length:=by
 unfold oG at h;split at h
 ·next j hj=>
  split at h
  ·cases h
   have:=xJ r 0 1 i hj;omega
  ·cases h
 ·cases h
structure aS where
 toks:List ag
 dep:Int
def mE:List aO->Int->Option Bool->List aS
 |[],_,_=>[]
 |f::r,d,pv=>(if f.after&&(pv.isSome&&(!kZ f.toks&&pv != some true)) then [⟨[],0⟩] else [])++⟨f.toks,dR d f.toks⟩::mE r (dD d f.toks) (some (iK f.toks))
def il(l:List (List ag)):List aS:=mE (fU l.length false l) 0 none
def aS.ind(r:aS):Nat:=(2*r.dep).toNat
def aS.eq(r:aS):Nat:=(oG r.toks).getD 0
def bH(r:aS):Bs:=aW r.toks r.ind 0 r.eq
def ol(run:List aS):Nat:=run.foldl (fun m r=>max m (dG (bH r))) 0
def fT(W:Nat)(r:aS):Bs:=bH r++(kY (W-dG (bH r)+1)++(vC (r.toks[r.eq]?.getD ⟨0,⟨#[]⟩,0⟩)++(aW r.toks r.ind (r.eq+1) r.toks.length++[10])))
def lC(run:List aS):Bs:=run.flatMap (fT (ol run))
def vT(r:aS):Bs:=aW r.toks r.ind 0 r.toks.length++[10]
def dP:List aS->List aS->Bs
 |[],run=>lC run
 |r::l,run=>if (oG r.toks).isSome then dP l (run++[r]) else lC run++(vT r++dP l [])
def lD(l:List (List ag)):Bs:=dP (il l) []
def iq(l:Bs):Bs×Int×Int:=if (dK l).2.2=0 then (lD ((bR l).map (·.toks)),-1,0) else ([],(dK l).2)
end Go.Proofs.YtbcdaaobbebooaaGreatDoor
