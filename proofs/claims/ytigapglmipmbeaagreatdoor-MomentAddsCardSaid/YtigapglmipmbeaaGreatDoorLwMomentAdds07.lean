/- frac.Parse (printed by mkparse.py). -/
import Derived.Test.YtigapglmipmbeaaGreatDoorLwMomentAdds06
set_option maxRecDepth 100000
set_option maxHeartbeats 16000000
open Go.Proofs.Tryz
namespace Go.Proofs.YtigapglmipmbeaaGreatDoor
open Go.RowKit Go.Shelf
open Lim
theorem a10{fn:Func}{p u:Tmp}{R:Ending→World→Prop}{a:Act}{w:World}{g:Nat}{t:TypeId}{m vn vd:Value}(h:fn.results=#[.cell p 216,.tmp u])(hd:a.defers=[])(hp:a.tmps.getD p undef=.pointer (some ⟨g,0,none⟩))
  (hg:Blk w g t #[m,vn,vd]) (hR:R (.returned (.tuple #[.agg #[m,vn,vd],a.tmps.getD u undef])) w):bodyPost prog fn R .ret a w:=by
 refine bodyPost_ret ?_ hd hR;rw[results_cell_tmp h,hp]
 simp only[asAddr,Sem.run_pure,Result.andThen_ok]
 rw[run_loadVar_row w g t 216 #[m,vn,vd] (0,0) _ hg underlying216 rfl fsize]
 rfl
theorem a4T{w:World}(h:Res w):∃ m:Int,w.cell? ⟨0,0,none⟩=some (.int .i64 m):=h.max
theorem a1r{n:Nat}{w W:World}{k:Nat}(h:Below n w W):Below n w (W.drewN k):=⟨h.os,h.tape,h.output,h.size,h.block⟩
theorem a0G(s:ByteArray):(⟨s.data.toList.toArray⟩:ByteArray)=s:=by cases s;simp
abbrev zV:Value:=.agg #[.bool false,.slice none 0 0,.slice none 0 0]
theorem a7z(w:World):Blk (w.alloc zF) w.heap.size 216 #[.bool false,.slice none 0 0,.slice none 0 0]:=Blk.new w _ _
theorem a1G{w:World}{b:Nat}{t:TypeId}{x y z:Value}(h:Blk w b t #[x,y,z]):w.cell? ⟨b,0,none⟩=some x∧w.cell? ⟨b,1,none⟩=some y∧w.cell? ⟨b,2,none⟩=some z∧w.frozen? ⟨b,0,none⟩=false∧w.frozen? ⟨b,1,none⟩=false∧w.frozen? ⟨b,2,none⟩=false :=
 ⟨(a0W h 0 (by simp)).1,(a0W h 1 (by simp)).1,(a0W h 2 (by simp)).1,(a0W h 0 (by simp)).2,(a0W h 1 (by simp)).2,(a0W h 2 (by simp)).2⟩
theorem b2w{w:World}{b:Nat}{t:TypeId}{x y z:Value}(h:Blk w b t #[x,y,z]):(∀ o,(w.alloc o).cell? ⟨b,0,none⟩=some x)∧(∀ o,(w.alloc o).cell? ⟨b,1,none⟩=some y)∧(∀ o,(w.alloc o).cell? ⟨b,2,none⟩=some z)∧(∀ o,(w.alloc o).frozen? ⟨b,0,none⟩=false)∧(∀ o,(w.alloc o).frozen? ⟨b,1,none⟩=false)∧(∀ o,(w.alloc o).frozen? ⟨b,2,none⟩=false) :=
 ⟨fun o=>(a1G (h.alloc o)).1,fun o=>(a1G (h.alloc o)).2.1,fun o=>(a1G (h.alloc o)).2.2.1,fun o=>(a1G (h.alloc o)).2.2.2.1,fun o=>(a1G (h.alloc o)).2.2.2.2.1,fun o=>(a1G (h.alloc o)).2.2.2.2.2⟩
theorem a8_(s a b n2:ByteArray)(m sl ok:Bool)(w:World)(hr:Res w)(hs:s.size≤270000)(ha:a.size≤270000)(_hb:b.size≤270000)(_hn:n2.size≤270000)(hc:Lib.cut s.data.toList [47]=(a.data.toList,b.data.toList,sl))
  (hi:intP a.data.toList=(m,n2.data.toList)) (hok:a1k a.data.toList=ok) (hsl:sl=false) (h0:ok=false) :
  Calls prog 217 #[.string s] w fun e w'=>∃ v,v=zV∧e=.returned (.tuple #[v,.int .i64 3])∧Below w.heap.size w w':=by
 have HR:=b9W hr;have HC:=b9W hc;have HI:=b9W (And.intro hi hok);have HB0:=b9W ((Below.refl w.heap.size w).alloc (Nat.le_refl _) zF);have TK1:True:=trivial;clear hr hc hi hok;subst hsl h0
 ·go_enter func217,ntmps217
  go_wp2_with (first
   | (go_at_call 262;(obtain⟨mx,hmx⟩:=a4T (HR.out.below HB0.out);refine(Tryz.strings_Cut s ⟨#[47]⟩ mx _ (by omega) hmx).mono ?_;rintro e w1 ⟨rfl,k,hw1⟩;rw[show Lib.cut s.data.toList (⟨#[47]⟩:ByteArray).data.toList=_ from HC.out];dsimp only;rw[a0G,a0G];have HB1:=b9W (show Below w.heap.size w w1 by rw[hw1];exact a1r HB0.out);have HP1:=b9W (show Blk w1 w.heap.size 216 #[.bool false,.slice none 0 0,.slice none 0 0] by rw[hw1];exact a7z w);clear hw1 hmx))
   | (go_at_call 263;refine(a1s a _ (by omega)).mono ?_;rintro e w2 ⟨rfl,hb2⟩;rw[HI.out.1,HI.out.2];dsimp only;rw[a0G];have HB2:=b9W (HB1.out.trans (hb2.mono HB1.out.size));have HP2:=b9W (HP1.out.below hb2 HP1.out.lt);obtain⟨h20,h21,h22,h23,h24,h25⟩:=a1G HP2.out;clear hb2))
  refine a10 rfl rfl (by simp) (set3 HP2.out) ⟨_,rfl,rfl,?_⟩;exact a0t (g:=w.heap.size) HB2.out (Nat.le_refl _)
theorem a8I(s a b n2:ByteArray)(m sl ok:Bool)(w:World)(hr:Res w)(hs:s.size≤270000)(ha:a.size≤270000)(_hb:b.size≤270000)(hn:n2.size≤270000)(hc:Lib.cut s.data.toList [47]=(a.data.toList,b.data.toList,sl))
  (hi:intP a.data.toList=(m,n2.data.toList)) (hok:a1k a.data.toList=ok) (hsl:sl=false) (h0:ok=true) (hl:4000 < n2.size) :
  Calls prog 217 #[.string s] w fun e w'=>∃ v,v=zV∧e=.returned (.tuple #[v,.int .i64 5])∧Below w.heap.size w w':=by
 have HR:=b9W hr;have HC:=b9W hc;have HI:=b9W (And.intro hi hok);have HB0:=b9W ((Below.refl w.heap.size w).alloc (Nat.le_refl _) zF);have TK1:True:=trivial;clear hr hc hi hok;have hl1:decide ((4000:Int) < (n2.size:Int))=true:=decide_eq_true (by omega);clear hl;subst hsl h0
 ·go_enter func217,ntmps217
  go_wp2_with (first
   | (go_at_call 262;(obtain⟨mx,hmx⟩:=a4T (HR.out.below HB0.out);refine(Tryz.strings_Cut s ⟨#[47]⟩ mx _ (by omega) hmx).mono ?_;rintro e w1 ⟨rfl,k,hw1⟩;rw[show Lib.cut s.data.toList (⟨#[47]⟩:ByteArray).data.toList=_ from HC.out];dsimp only;rw[a0G,a0G];have HB1:=b9W (show Below w.heap.size w w1 by rw[hw1];exact a1r HB0.out);have HP1:=b9W (show Blk w1 w.heap.size 216 #[.bool false,.slice none 0 0,.slice none 0 0] by rw[hw1];exact a7z w);clear hw1 hmx))
   | (go_at_call 263;refine(a1s a _ (by omega)).mono ?_;rintro e w2 ⟨rfl,hb2⟩;rw[HI.out.1,HI.out.2];dsimp only;rw[a0G];have HB2:=b9W (HB1.out.trans (hb2.mono HB1.out.size));have HP2:=b9W (HP1.out.below hb2 HP1.out.lt);obtain⟨h20,h21,h22,h23,h24,h25⟩:=a1G HP2.out;clear hb2))
  refine a10 rfl rfl (by simp) (set3 HP2.out) ⟨_,rfl,rfl,?_⟩;exact a0t (g:=w.heap.size) HB2.out (Nat.le_refl _)
theorem b0G(s a b n2:ByteArray)(m sl ok:Bool)(w:World)(hr:Res w)(hs:s.size≤270000)(ha:a.size≤270000)(_hb:b.size≤270000)(hn:n2.size≤270000)(hc:Lib.cut s.data.toList [47]=(a.data.toList,b.data.toList,sl))
  (hi:intP a.data.toList=(m,n2.data.toList)) (hok:a1k a.data.toList=ok) (hsl:sl=false) (h0:ok=true) (hl:n2.size≤4000) (hd:Dg n2.data.toList) :
  Calls prog 217 #[.string s] w fun e w'=>∃ v,e=.returned (.tuple #[v,.int .i64 0])∧a05 w' v m (dv n2.data.toList) (dv [49])∧Below w.heap.size w w':=by
 have HR:=b9W hr;have HC:=b9W hc;have HI:=b9W (And.intro hi hok);have HB0:=b9W ((Below.refl w.heap.size w).alloc (Nat.le_refl _) zF);have TK1:True:=trivial;clear hr hc hi hok;have HG:=b9W (And.intro hd (show Dg (⟨#[49]⟩:ByteArray).data.toList from fun x hx=>by simp at hx;subst hx;rfl));have hl1:decide ((4000:Int) < (n2.size:Int))=false:=decide_eq_false (by omega);clear hd hl;subst hsl h0
 ·go_enter func217,ntmps217
  go_wp2_with (first
   | (go_at_call 262;(obtain⟨mx,hmx⟩:=a4T (HR.out.below HB0.out);refine(Tryz.strings_Cut s ⟨#[47]⟩ mx _ (by omega) hmx).mono ?_;rintro e w1 ⟨rfl,k,hw1⟩;rw[show Lib.cut s.data.toList (⟨#[47]⟩:ByteArray).data.toList=_ from HC.out];dsimp only;rw[a0G,a0G];have HB1:=b9W (show Below w.heap.size w w1 by rw[hw1];exact a1r HB0.out);have HP1:=b9W (show Blk w1 w.heap.size 216 #[.bool false,.slice none 0 0,.slice none 0 0] by rw[hw1];exact a7z w);clear hw1 hmx))
   | (go_at_call 263;refine(a1s a _ (by omega)).mono ?_;rintro e w2 ⟨rfl,hb2⟩;rw[HI.out.1,HI.out.2];dsimp only;rw[a0G];have HB2:=b9W (HB1.out.trans (hb2.mono HB1.out.size));have HP2:=b9W (HP1.out.below hb2 HP1.out.lt);obtain⟨h20,h21,h22,h23,h24,h25⟩:=a1G HP2.out;clear hb2)
   | (clear TK1;go_at_call 265;refine(a4p n2 _ HG.out.1 (by omega)).mono ?_;rintro e w4 ⟨v4,rfl,hv4,hb4⟩;obtain⟨A4,c4,rfl,_,_,_⟩:=id hv4;have HV4:=b9W hv4;have HB4:=b9W (HB2.out.trans (hb4.mono HB2.out.size));have HP4:=b9W (HP2.out.below hb4 HP2.out.lt);clear hv4 hb4)
   | (go_at_call 265;refine(a4p (⟨#[49]⟩:ByteArray) _ HG.out.2 (by first|omega|decide)).mono ?_;rintro e w5 ⟨v5,rfl,hv5,hb5⟩;obtain⟨A5,c5,rfl,_,_,_⟩:=id hv5;have HV5:=b9W hv5;have HV4':=b9W (HV4.out.below hb5);have HB5:=b9W (HB4.out.trans (hb5.mono HB4.out.size));have HP5:=b9W (HP4.out.below hb5 HP4.out.lt);obtain⟨h50,h51,h52,h53,h54,h55⟩:=b2w HP5.out;clear hv5 hb5))
  refine a10 rfl rfl (by simp) (set3 ((HP5.out).alloc _)) ⟨_,rfl,?_,?_⟩
  ·have hx:=(Below.refl w5.heap.size w5).alloc (Nat.le_refl _) (.cells #[.bool m,.slice A4 (toL (dv n2.data.toList)).length c4,.slice A5 (toL 1).length c5] 216)
   exact a01 (a0J (HV4'.out.below hx) (HP5.out.alloc _)) (a0J (HV5.out.below hx) (HP5.out.alloc _))
  ·exact a0t (g:=w.heap.size) (HB5.out.alloc HB5.out.size _) (Nat.le_refl _)
theorem b4b(s a b n2:ByteArray)(m sl ok:Bool)(w:World)(hr:Res w)(hs:s.size≤270000)(ha:a.size≤270000)(_hb:b.size≤270000)(_hn:n2.size≤270000)(hc:Lib.cut s.data.toList [47]=(a.data.toList,b.data.toList,sl))
  (hi:intP a.data.toList=(m,n2.data.toList)) (hok:a1k a.data.toList=ok) (hsl:sl=true) (h0:ok=false) :
  Calls prog 217 #[.string s] w fun e w'=>∃ v,v=zV∧e=.returned (.tuple #[v,.int .i64 3])∧Below w.heap.size w w':=by
 have HR:=b9W hr;have HC:=b9W hc;have HI:=b9W (And.intro hi hok);have HB0:=b9W ((Below.refl w.heap.size w).alloc (Nat.le_refl _) zF);have TK1:True:=trivial;clear hr hc hi hok;subst hsl h0
 ·go_enter func217,ntmps217
  go_wp2_with (first
   | (go_at_call 262;(obtain⟨mx,hmx⟩:=a4T (HR.out.below HB0.out);refine(Tryz.strings_Cut s ⟨#[47]⟩ mx _ (by omega) hmx).mono ?_;rintro e w1 ⟨rfl,k,hw1⟩;rw[show Lib.cut s.data.toList (⟨#[47]⟩:ByteArray).data.toList=_ from HC.out];dsimp only;rw[a0G,a0G];have HB1:=b9W (show Below w.heap.size w w1 by rw[hw1];exact a1r HB0.out);have HP1:=b9W (show Blk w1 w.heap.size 216 #[.bool false,.slice none 0 0,.slice none 0 0] by rw[hw1];exact a7z w);clear hw1 hmx))
   | (go_at_call 263;refine(a1s a _ (by omega)).mono ?_;rintro e w2 ⟨rfl,hb2⟩;rw[HI.out.1,HI.out.2];dsimp only;rw[a0G];have HB2:=b9W (HB1.out.trans (hb2.mono HB1.out.size));have HP2:=b9W (HP1.out.below hb2 HP1.out.lt);obtain⟨h20,h21,h22,h23,h24,h25⟩:=a1G HP2.out;clear hb2))
  refine a10 rfl rfl (by simp) (set3 HP2.out) ⟨_,rfl,rfl,?_⟩;exact a0t (g:=w.heap.size) HB2.out (Nat.le_refl _)
theorem b4K(s a b n2:ByteArray)(m sl ok:Bool)(w:World)(hr:Res w)(hs:s.size≤270000)(ha:a.size≤270000)(_hb:b.size≤270000)(_hn:n2.size≤270000)(hc:Lib.cut s.data.toList [47]=(a.data.toList,b.data.toList,sl))
  (hi:intP a.data.toList=(m,n2.data.toList)) (hok:a1k a.data.toList=ok) (hsl:sl=true) (h0:ok=true) (z0:(n2.toList==[48])=true) :
  Calls prog 217 #[.string s] w fun e w'=>∃ v,v=zV∧e=.returned (.tuple #[v,.int .i64 3])∧Below w.heap.size w w':=by
 have HR:=b9W hr;have HC:=b9W hc;have HI:=b9W (And.intro hi hok);have HB0:=b9W ((Below.refl w.heap.size w).alloc (Nat.le_refl _) zF);have TK1:True:=trivial;clear hr hc hi hok;subst hsl h0
 ·go_enter func217,ntmps217
  go_wp2_with (first
   | (go_at_call 262;(obtain⟨mx,hmx⟩:=a4T (HR.out.below HB0.out);refine(Tryz.strings_Cut s ⟨#[47]⟩ mx _ (by omega) hmx).mono ?_;rintro e w1 ⟨rfl,k,hw1⟩;rw[show Lib.cut s.data.toList (⟨#[47]⟩:ByteArray).data.toList=_ from HC.out];dsimp only;rw[a0G,a0G];have HB1:=b9W (show Below w.heap.size w w1 by rw[hw1];exact a1r HB0.out);have HP1:=b9W (show Blk w1 w.heap.size 216 #[.bool false,.slice none 0 0,.slice none 0 0] by rw[hw1];exact a7z w);clear hw1 hmx))
   | (go_at_call 263;refine(a1s a _ (by omega)).mono ?_;rintro e w2 ⟨rfl,hb2⟩;rw[HI.out.1,HI.out.2];dsimp only;rw[a0G];have HB2:=b9W (HB1.out.trans (hb2.mono HB1.out.size));have HP2:=b9W (HP1.out.below hb2 HP1.out.lt);obtain⟨h20,h21,h22,h23,h24,h25⟩:=a1G HP2.out;clear hb2))
  refine a10 rfl rfl (by simp) (set3 HP2.out) ⟨_,rfl,rfl,?_⟩;exact a0t (g:=w.heap.size) HB2.out (Nat.le_refl _)
theorem b4i(s a b n2:ByteArray)(m sl ok:Bool)(w:World)(hr:Res w)(hs:s.size≤270000)(ha:a.size≤270000)(hb:b.size≤270000)(_hn:n2.size≤270000)(hc:Lib.cut s.data.toList [47]=(a.data.toList,b.data.toList,sl))
  (hi:intP a.data.toList=(m,n2.data.toList)) (hok:a1k a.data.toList=ok) (hsl:sl=true) (h0:ok=true) (z0:(n2.toList==[48])=false) (hF:a1b b.data.toList=false) :
  Calls prog 217 #[.string s] w fun e w'=>∃ v,v=zV∧e=.returned (.tuple #[v,.int .i64 3])∧Below w.heap.size w w':=by
 have HR:=b9W hr;have HC:=b9W hc;have HI:=b9W (And.intro hi hok);have HB0:=b9W ((Below.refl w.heap.size w).alloc (Nat.le_refl _) zF);have TK1:True:=trivial;clear hr hc hi hok;have HF:=b9W hF;clear hF;subst hsl h0
 ·go_enter func217,ntmps217
  go_wp2_with (first
   | (go_at_call 262;(obtain⟨mx,hmx⟩:=a4T (HR.out.below HB0.out);refine(Tryz.strings_Cut s ⟨#[47]⟩ mx _ (by omega) hmx).mono ?_;rintro e w1 ⟨rfl,k,hw1⟩;rw[show Lib.cut s.data.toList (⟨#[47]⟩:ByteArray).data.toList=_ from HC.out];dsimp only;rw[a0G,a0G];have HB1:=b9W (show Below w.heap.size w w1 by rw[hw1];exact a1r HB0.out);have HP1:=b9W (show Blk w1 w.heap.size 216 #[.bool false,.slice none 0 0,.slice none 0 0] by rw[hw1];exact a7z w);clear hw1 hmx))
   | (go_at_call 263;refine(a1s a _ (by omega)).mono ?_;rintro e w2 ⟨rfl,hb2⟩;rw[HI.out.1,HI.out.2];dsimp only;rw[a0G];have HB2:=b9W (HB1.out.trans (hb2.mono HB1.out.size));have HP2:=b9W (HP1.out.below hb2 HP1.out.lt);obtain⟨h20,h21,h22,h23,h24,h25⟩:=a1G HP2.out;clear hb2)
   | (go_at_call 264;refine(a3W b _ (by omega)).mono ?_;rintro e w3 ⟨rfl,hb3⟩;rw[HF.out];have HB3:=b9W (HB2.out.trans (hb3.mono HB2.out.size));have HP3:=b9W (HP2.out.below hb3 HP2.out.lt);obtain⟨h30,h31,h32,h33,h34,h35⟩:=a1G HP3.out;clear hb3))
  refine a10 rfl rfl (by simp) (set3 HP3.out) ⟨_,rfl,rfl,?_⟩;exact a0t (g:=w.heap.size) HB3.out (Nat.le_refl _)
theorem b3P(s a b n2:ByteArray)(m sl ok:Bool)(w:World)(hr:Res w)(hs:s.size≤270000)(ha:a.size≤270000)(hb:b.size≤270000)(_hn:n2.size≤270000)(hc:Lib.cut s.data.toList [47]=(a.data.toList,b.data.toList,sl))
  (hi:intP a.data.toList=(m,n2.data.toList)) (hok:a1k a.data.toList=ok) (hsl:sl=true) (h0:ok=true) (z0:(n2.toList==[48])=false) (hF:a1b b.data.toList=true) (z1:(b.toList==[48])=true) :
  Calls prog 217 #[.string s] w fun e w'=>∃ v,v=zV∧e=.returned (.tuple #[v,.int .i64 3])∧Below w.heap.size w w':=by
 have HR:=b9W hr;have HC:=b9W hc;have HI:=b9W (And.intro hi hok);have HB0:=b9W ((Below.refl w.heap.size w).alloc (Nat.le_refl _) zF);have TK1:True:=trivial;clear hr hc hi hok;have HF:=b9W hF;clear hF;subst hsl h0
 ·go_enter func217,ntmps217
  go_wp2_with (first
   | (go_at_call 262;(obtain⟨mx,hmx⟩:=a4T (HR.out.below HB0.out);refine(Tryz.strings_Cut s ⟨#[47]⟩ mx _ (by omega) hmx).mono ?_;rintro e w1 ⟨rfl,k,hw1⟩;rw[show Lib.cut s.data.toList (⟨#[47]⟩:ByteArray).data.toList=_ from HC.out];dsimp only;rw[a0G,a0G];have HB1:=b9W (show Below w.heap.size w w1 by rw[hw1];exact a1r HB0.out);have HP1:=b9W (show Blk w1 w.heap.size 216 #[.bool false,.slice none 0 0,.slice none 0 0] by rw[hw1];exact a7z w);clear hw1 hmx))
   | (go_at_call 263;refine(a1s a _ (by omega)).mono ?_;rintro e w2 ⟨rfl,hb2⟩;rw[HI.out.1,HI.out.2];dsimp only;rw[a0G];have HB2:=b9W (HB1.out.trans (hb2.mono HB1.out.size));have HP2:=b9W (HP1.out.below hb2 HP1.out.lt);obtain⟨h20,h21,h22,h23,h24,h25⟩:=a1G HP2.out;clear hb2)
   | (go_at_call 264;refine(a3W b _ (by omega)).mono ?_;rintro e w3 ⟨rfl,hb3⟩;rw[HF.out];have HB3:=b9W (HB2.out.trans (hb3.mono HB2.out.size));have HP3:=b9W (HP2.out.below hb3 HP2.out.lt);obtain⟨h30,h31,h32,h33,h34,h35⟩:=a1G HP3.out;clear hb3))
  refine a10 rfl rfl (by simp) (set3 HP3.out) ⟨_,rfl,rfl,?_⟩;exact a0t (g:=w.heap.size) HB3.out (Nat.le_refl _)
theorem b4v(s a b n2:ByteArray)(m sl ok:Bool)(w:World)(hr:Res w)(hs:s.size≤270000)(ha:a.size≤270000)(hb:b.size≤270000)(_hn:n2.size≤270000)(hc:Lib.cut s.data.toList [47]=(a.data.toList,b.data.toList,sl))
  (hi:intP a.data.toList=(m,n2.data.toList)) (hok:a1k a.data.toList=ok) (hsl:sl=true) (h0:ok=true) (z0:(n2.toList==[48])=false) (hF:a1b b.data.toList=true) (z1:(b.toList==[48])=false) (z2:(b.toList==[49])=true) :
  Calls prog 217 #[.string s] w fun e w'=>∃ v,v=zV∧e=.returned (.tuple #[v,.int .i64 3])∧Below w.heap.size w w':=by
 have HR:=b9W hr;have HC:=b9W hc;have HI:=b9W (And.intro hi hok);have HB0:=b9W ((Below.refl w.heap.size w).alloc (Nat.le_refl _) zF);have TK1:True:=trivial;clear hr hc hi hok;have HF:=b9W hF;clear hF;subst hsl h0
 ·go_enter func217,ntmps217
  go_wp2_with (first
   | (go_at_call 262;(obtain⟨mx,hmx⟩:=a4T (HR.out.below HB0.out);refine(Tryz.strings_Cut s ⟨#[47]⟩ mx _ (by omega) hmx).mono ?_;rintro e w1 ⟨rfl,k,hw1⟩;rw[show Lib.cut s.data.toList (⟨#[47]⟩:ByteArray).data.toList=_ from HC.out];dsimp only;rw[a0G,a0G];have HB1:=b9W (show Below w.heap.size w w1 by rw[hw1];exact a1r HB0.out);have HP1:=b9W (show Blk w1 w.heap.size 216 #[.bool false,.slice none 0 0,.slice none 0 0] by rw[hw1];exact a7z w);clear hw1 hmx))
   | (go_at_call 263;refine(a1s a _ (by omega)).mono ?_;rintro e w2 ⟨rfl,hb2⟩;rw[HI.out.1,HI.out.2];dsimp only;rw[a0G];have HB2:=b9W (HB1.out.trans (hb2.mono HB1.out.size));have HP2:=b9W (HP1.out.below hb2 HP1.out.lt);obtain⟨h20,h21,h22,h23,h24,h25⟩:=a1G HP2.out;clear hb2)
   | (go_at_call 264;refine(a3W b _ (by omega)).mono ?_;rintro e w3 ⟨rfl,hb3⟩;rw[HF.out];have HB3:=b9W (HB2.out.trans (hb3.mono HB2.out.size));have HP3:=b9W (HP2.out.below hb3 HP2.out.lt);obtain⟨h30,h31,h32,h33,h34,h35⟩:=a1G HP3.out;clear hb3))
  refine a10 rfl rfl (by simp) (set3 HP3.out) ⟨_,rfl,rfl,?_⟩;exact a0t (g:=w.heap.size) HB3.out (Nat.le_refl _)
theorem b2h(s a b n2:ByteArray)(m sl ok:Bool)(w:World)(hr:Res w)(hs:s.size≤270000)(ha:a.size≤270000)(hb:b.size≤270000)(hn:n2.size≤270000)(hc:Lib.cut s.data.toList [47]=(a.data.toList,b.data.toList,sl))
  (hi:intP a.data.toList=(m,n2.data.toList)) (hok:a1k a.data.toList=ok) (hsl:sl=true) (h0:ok=true) (z0:(n2.toList==[48])=false) (hF:a1b b.data.toList=true) (z1:(b.toList==[48])=false) (z2:(b.toList==[49])=false) (hl:4000 < n2.size) :
  Calls prog 217 #[.string s] w fun e w'=>∃ v,v=zV∧e=.returned (.tuple #[v,.int .i64 5])∧Below w.heap.size w w':=by
 have HR:=b9W hr;have HC:=b9W hc;have HI:=b9W (And.intro hi hok);have HB0:=b9W ((Below.refl w.heap.size w).alloc (Nat.le_refl _) zF);have TK1:True:=trivial;clear hr hc hi hok;have HF:=b9W hF;have hl1:decide ((4000:Int) < (n2.size:Int))=true:=decide_eq_true (by omega);clear hF hl;subst hsl h0
 ·go_enter func217,ntmps217
  go_wp2_with (first
   | (go_at_call 262;(obtain⟨mx,hmx⟩:=a4T (HR.out.below HB0.out);refine(Tryz.strings_Cut s ⟨#[47]⟩ mx _ (by omega) hmx).mono ?_;rintro e w1 ⟨rfl,k,hw1⟩;rw[show Lib.cut s.data.toList (⟨#[47]⟩:ByteArray).data.toList=_ from HC.out];dsimp only;rw[a0G,a0G];have HB1:=b9W (show Below w.heap.size w w1 by rw[hw1];exact a1r HB0.out);have HP1:=b9W (show Blk w1 w.heap.size 216 #[.bool false,.slice none 0 0,.slice none 0 0] by rw[hw1];exact a7z w);clear hw1 hmx))
   | (go_at_call 263;refine(a1s a _ (by omega)).mono ?_;rintro e w2 ⟨rfl,hb2⟩;rw[HI.out.1,HI.out.2];dsimp only;rw[a0G];have HB2:=b9W (HB1.out.trans (hb2.mono HB1.out.size));have HP2:=b9W (HP1.out.below hb2 HP1.out.lt);obtain⟨h20,h21,h22,h23,h24,h25⟩:=a1G HP2.out;clear hb2)
   | (go_at_call 264;refine(a3W b _ (by omega)).mono ?_;rintro e w3 ⟨rfl,hb3⟩;rw[HF.out];have HB3:=b9W (HB2.out.trans (hb3.mono HB2.out.size));have HP3:=b9W (HP2.out.below hb3 HP2.out.lt);obtain⟨h30,h31,h32,h33,h34,h35⟩:=a1G HP3.out;clear hb3))
  refine a10 rfl rfl (by simp) (set3 HP3.out) ⟨_,rfl,rfl,?_⟩;exact a0t (g:=w.heap.size) HB3.out (Nat.le_refl _)
theorem b2F(s a b n2:ByteArray)(m sl ok:Bool)(w:World)(hr:Res w)(hs:s.size≤270000)(ha:a.size≤270000)(hb:b.size≤270000)(hn:n2.size≤270000)(hc:Lib.cut s.data.toList [47]=(a.data.toList,b.data.toList,sl))
  (hi:intP a.data.toList=(m,n2.data.toList)) (hok:a1k a.data.toList=ok) (hsl:sl=true) (h0:ok=true) (z0:(n2.toList==[48])=false) (hF:a1b b.data.toList=true) (z1:(b.toList==[48])=false) (z2:(b.toList==[49])=false) (hl:n2.size≤4000) (hm:4000 < b.size) :
  Calls prog 217 #[.string s] w fun e w'=>∃ v,v=zV∧e=.returned (.tuple #[v,.int .i64 5])∧Below w.heap.size w w':=by
 have HR:=b9W hr;have HC:=b9W hc;have HI:=b9W (And.intro hi hok);have HB0:=b9W ((Below.refl w.heap.size w).alloc (Nat.le_refl _) zF);have TK1:True:=trivial;clear hr hc hi hok;have HF:=b9W hF;have hl1:decide ((4000:Int) < (n2.size:Int))=false:=decide_eq_false (by omega);have hl2:decide ((4000:Int) < (b.size:Int))=true:=decide_eq_true (by omega);clear hF hl hm;subst hsl h0
 ·go_enter func217,ntmps217
  go_wp2_with (first
   | (go_at_call 262;(obtain⟨mx,hmx⟩:=a4T (HR.out.below HB0.out);refine(Tryz.strings_Cut s ⟨#[47]⟩ mx _ (by omega) hmx).mono ?_;rintro e w1 ⟨rfl,k,hw1⟩;rw[show Lib.cut s.data.toList (⟨#[47]⟩:ByteArray).data.toList=_ from HC.out];dsimp only;rw[a0G,a0G];have HB1:=b9W (show Below w.heap.size w w1 by rw[hw1];exact a1r HB0.out);have HP1:=b9W (show Blk w1 w.heap.size 216 #[.bool false,.slice none 0 0,.slice none 0 0] by rw[hw1];exact a7z w);clear hw1 hmx))
   | (go_at_call 263;refine(a1s a _ (by omega)).mono ?_;rintro e w2 ⟨rfl,hb2⟩;rw[HI.out.1,HI.out.2];dsimp only;rw[a0G];have HB2:=b9W (HB1.out.trans (hb2.mono HB1.out.size));have HP2:=b9W (HP1.out.below hb2 HP1.out.lt);obtain⟨h20,h21,h22,h23,h24,h25⟩:=a1G HP2.out;clear hb2)
   | (go_at_call 264;refine(a3W b _ (by omega)).mono ?_;rintro e w3 ⟨rfl,hb3⟩;rw[HF.out];have HB3:=b9W (HB2.out.trans (hb3.mono HB2.out.size));have HP3:=b9W (HP2.out.below hb3 HP2.out.lt);obtain⟨h30,h31,h32,h33,h34,h35⟩:=a1G HP3.out;clear hb3))
  refine a10 rfl rfl (by simp) (set3 HP3.out) ⟨_,rfl,rfl,?_⟩;exact a0t (g:=w.heap.size) HB3.out (Nat.le_refl _)
theorem b6L(s a b n2:ByteArray)(m sl ok:Bool)(w:World)(hr:Res w)(hs:s.size≤270000)(ha:a.size≤270000)(hb:b.size≤270000)(hn:n2.size≤270000)(hc:Lib.cut s.data.toList [47]=(a.data.toList,b.data.toList,sl))
  (hi:intP a.data.toList=(m,n2.data.toList)) (hok:a1k a.data.toList=ok) (hsl:sl=true) (h0:ok=true) (z0:(n2.toList==[48])=false) (hF:a1b b.data.toList=true) (z1:(b.toList==[48])=false) (z2:(b.toList==[49])=false) (hl:n2.size≤4000) (hm:b.size≤4000) (hd:Dg n2.data.toList) (hd':Dg b.data.toList) (ll:(toL (dv n2.data.toList)).length≤30000∧(toL (dv b.data.toList)).length≤30000) (hg:(dv n2.data.toList).gcd (dv b.data.toList)≠1) :
  Calls prog 217 #[.string s] w fun e w'=>∃ v,v=zV∧e=.returned (.tuple #[v,.int .i64 3])∧Below w.heap.size w w':=by
 have HR:=b9W hr;have HC:=b9W hc;have HI:=b9W (And.intro hi hok);have HB0:=b9W ((Below.refl w.heap.size w).alloc (Nat.le_refl _) zF);have TK1:True:=trivial;clear hr hc hi hok;have HF:=b9W hF;have hl1:decide ((4000:Int) < (n2.size:Int))=false:=decide_eq_false (by omega);have hl2:decide ((4000:Int) < (b.size:Int))=false:=decide_eq_false (by omega);have HG:=b9W (And.intro hd hd');have HLL:=b9W ll;clear hF hl hm hd hd' ll;have HGC:=b9W (decide_eq_false hg);clear hg;subst hsl h0
 ·go_enter func217,ntmps217
  go_wp2_with (first
   | (go_at_call 262;(obtain⟨mx,hmx⟩:=a4T (HR.out.below HB0.out);refine(Tryz.strings_Cut s ⟨#[47]⟩ mx _ (by omega) hmx).mono ?_;rintro e w1 ⟨rfl,k,hw1⟩;rw[show Lib.cut s.data.toList (⟨#[47]⟩:ByteArray).data.toList=_ from HC.out];dsimp only;rw[a0G,a0G];have HB1:=b9W (show Below w.heap.size w w1 by rw[hw1];exact a1r HB0.out);have HP1:=b9W (show Blk w1 w.heap.size 216 #[.bool false,.slice none 0 0,.slice none 0 0] by rw[hw1];exact a7z w);clear hw1 hmx))
   | (go_at_call 263;refine(a1s a _ (by omega)).mono ?_;rintro e w2 ⟨rfl,hb2⟩;rw[HI.out.1,HI.out.2];dsimp only;rw[a0G];have HB2:=b9W (HB1.out.trans (hb2.mono HB1.out.size));have HP2:=b9W (HP1.out.below hb2 HP1.out.lt);obtain⟨h20,h21,h22,h23,h24,h25⟩:=a1G HP2.out;clear hb2)
   | (go_at_call 264;refine(a3W b _ (by omega)).mono ?_;rintro e w3 ⟨rfl,hb3⟩;rw[HF.out];have HB3:=b9W (HB2.out.trans (hb3.mono HB2.out.size));have HP3:=b9W (HP2.out.below hb3 HP2.out.lt);obtain⟨h30,h31,h32,h33,h34,h35⟩:=a1G HP3.out;clear hb3)
   | (clear TK1;go_at_call 265;refine(a4p n2 _ HG.out.1 (by omega)).mono ?_;rintro e w4 ⟨v4,rfl,hv4,hb4⟩;obtain⟨A4,c4,rfl,_,_,_⟩:=id hv4;have HV4:=b9W hv4;have HB4:=b9W (HB3.out.trans (hb4.mono HB3.out.size));have HP4:=b9W (HP3.out.below hb4 HP3.out.lt);clear hv4 hb4)
   | (go_at_call 265;refine(a4p b _ HG.out.2 (by first|omega|decide)).mono ?_;rintro e w5 ⟨v5,rfl,hv5,hb5⟩;obtain⟨A5,c5,rfl,_,_,_⟩:=id hv5;have HV5:=b9W hv5;have HV4':=b9W (HV4.out.below hb5);have HB5:=b9W (HB4.out.trans (hb5.mono HB4.out.size));have HP5:=b9W (HP4.out.below hb5 HP4.out.lt);obtain⟨h50,h51,h52,h53,h54,h55⟩:=b2w HP5.out;clear hv5 hb5)
   | (go_at_call 266;have HX5:=b9W ((Below.refl w5.heap.size w5).alloc (Nat.le_refl _) (.cells #[.bool m,.slice A4 (toL (dv n2.data.toList)).length c4,.slice A5 (toL (dv b.data.toList)).length c5] 216));refine(a96 (dv n2.data.toList) (dv b.data.toList) _ _ _ (HV4'.out.below HX5.out) (HV5.out.below HX5.out) HLL.out.1 HLL.out.2).mono ?_;rintro e w6 ⟨v6,rfl,hv6,hb6⟩;have HV6:=b9W hv6;have HX6:=b9W (HX5.out.trans (hb6.mono HX5.out.size));have HP6:=b9W (HP5.out.below HX6.out HP5.out.lt);have HT6:=b9W ((Blk.new w5 _ _).below hb6 (by simp));obtain⟨h60,h61,h62,h63,h64,h65⟩:=a1G HP6.out;obtain⟨t60,t61,t62⟩:=a0K HT6.out (Below.refl w6.heap.size w6) HT6.out.lt;clear hv6 hb6)
   | (go_at_call 252;refine(a2T ((dv n2.data.toList).gcd (dv b.data.toList)) _ _ HV6.out).mono ?_;rintro e w7 ⟨rfl,hw7⟩;subst hw7;rw[HGC.out]))
  refine a10 rfl rfl (by simp) (set3 HP6.out) ⟨_,rfl,rfl,?_⟩;exact a0t (g:=w.heap.size) (HB5.out.trans (HX6.out.mono HB5.out.size)) (Nat.le_refl _)
theorem b71(s a b n2:ByteArray)(m sl ok:Bool)(w:World)(hr:Res w)(hs:s.size≤270000)(ha:a.size≤270000)(hb:b.size≤270000)(hn:n2.size≤270000)(hc:Lib.cut s.data.toList [47]=(a.data.toList,b.data.toList,sl))
  (hi:intP a.data.toList=(m,n2.data.toList)) (hok:a1k a.data.toList=ok) (hsl:sl=true) (h0:ok=true) (z0:(n2.toList==[48])=false) (hF:a1b b.data.toList=true) (z1:(b.toList==[48])=false) (z2:(b.toList==[49])=false) (hl:n2.size≤4000) (hm:b.size≤4000) (hd:Dg n2.data.toList) (hd':Dg b.data.toList) (ll:(toL (dv n2.data.toList)).length≤30000∧(toL (dv b.data.toList)).length≤30000) (hg:(dv n2.data.toList).gcd (dv b.data.toList)=1) :
  Calls prog 217 #[.string s] w fun e w'=>∃ v,e=.returned (.tuple #[v,.int .i64 0])∧a05 w' v m (dv n2.data.toList) (dv b.data.toList)∧Below w.heap.size w w':=by
 have HR:=b9W hr;have HC:=b9W hc;have HI:=b9W (And.intro hi hok);have HB0:=b9W ((Below.refl w.heap.size w).alloc (Nat.le_refl _) zF);have TK1:True:=trivial;clear hr hc hi hok;have HF:=b9W hF;have hl1:decide ((4000:Int) < (n2.size:Int))=false:=decide_eq_false (by omega);have hl2:decide ((4000:Int) < (b.size:Int))=false:=decide_eq_false (by omega);have HG:=b9W (And.intro hd hd');have HLL:=b9W ll;clear hF hl hm hd hd' ll;have HGC:=b9W (decide_eq_true hg);clear hg;subst hsl h0
 ·go_enter func217,ntmps217
  go_wp2_with (first
   | (go_at_call 262;(obtain⟨mx,hmx⟩:=a4T (HR.out.below HB0.out);refine(Tryz.strings_Cut s ⟨#[47]⟩ mx _ (by omega) hmx).mono ?_;rintro e w1 ⟨rfl,k,hw1⟩;rw[show Lib.cut s.data.toList (⟨#[47]⟩:ByteArray).data.toList=_ from HC.out];dsimp only;rw[a0G,a0G];have HB1:=b9W (show Below w.heap.size w w1 by rw[hw1];exact a1r HB0.out);have HP1:=b9W (show Blk w1 w.heap.size 216 #[.bool false,.slice none 0 0,.slice none 0 0] by rw[hw1];exact a7z w);clear hw1 hmx))
   | (go_at_call 263;refine(a1s a _ (by omega)).mono ?_;rintro e w2 ⟨rfl,hb2⟩;rw[HI.out.1,HI.out.2];dsimp only;rw[a0G];have HB2:=b9W (HB1.out.trans (hb2.mono HB1.out.size));have HP2:=b9W (HP1.out.below hb2 HP1.out.lt);obtain⟨h20,h21,h22,h23,h24,h25⟩:=a1G HP2.out;clear hb2)
   | (go_at_call 264;refine(a3W b _ (by omega)).mono ?_;rintro e w3 ⟨rfl,hb3⟩;rw[HF.out];have HB3:=b9W (HB2.out.trans (hb3.mono HB2.out.size));have HP3:=b9W (HP2.out.below hb3 HP2.out.lt);obtain⟨h30,h31,h32,h33,h34,h35⟩:=a1G HP3.out;clear hb3)
   | (clear TK1;go_at_call 265;refine(a4p n2 _ HG.out.1 (by omega)).mono ?_;rintro e w4 ⟨v4,rfl,hv4,hb4⟩;obtain⟨A4,c4,rfl,_,_,_⟩:=id hv4;have HV4:=b9W hv4;have HB4:=b9W (HB3.out.trans (hb4.mono HB3.out.size));have HP4:=b9W (HP3.out.below hb4 HP3.out.lt);clear hv4 hb4)
   | (go_at_call 265;refine(a4p b _ HG.out.2 (by first|omega|decide)).mono ?_;rintro e w5 ⟨v5,rfl,hv5,hb5⟩;obtain⟨A5,c5,rfl,_,_,_⟩:=id hv5;have HV5:=b9W hv5;have HV4':=b9W (HV4.out.below hb5);have HB5:=b9W (HB4.out.trans (hb5.mono HB4.out.size));have HP5:=b9W (HP4.out.below hb5 HP4.out.lt);obtain⟨h50,h51,h52,h53,h54,h55⟩:=b2w HP5.out;clear hv5 hb5)
   | (go_at_call 266;have HX5:=b9W ((Below.refl w5.heap.size w5).alloc (Nat.le_refl _) (.cells #[.bool m,.slice A4 (toL (dv n2.data.toList)).length c4,.slice A5 (toL (dv b.data.toList)).length c5] 216));refine(a96 (dv n2.data.toList) (dv b.data.toList) _ _ _ (HV4'.out.below HX5.out) (HV5.out.below HX5.out) HLL.out.1 HLL.out.2).mono ?_;rintro e w6 ⟨v6,rfl,hv6,hb6⟩;have HV6:=b9W hv6;have HX6:=b9W (HX5.out.trans (hb6.mono HX5.out.size));have HP6:=b9W (HP5.out.below HX6.out HP5.out.lt);have HT6:=b9W ((Blk.new w5 _ _).below hb6 (by simp));obtain⟨h60,h61,h62,h63,h64,h65⟩:=a1G HP6.out;obtain⟨t60,t61,t62⟩:=a0K HT6.out (Below.refl w6.heap.size w6) HT6.out.lt;clear hv6 hb6)
   | (go_at_call 252;refine(a2T ((dv n2.data.toList).gcd (dv b.data.toList)) _ _ HV6.out).mono ?_;rintro e w7 ⟨rfl,hw7⟩;subst hw7;rw[HGC.out]))
  refine a10 rfl rfl (by simp) (set3 HP6.out) ⟨_,rfl,?_,?_⟩
  ·exact a01 (a0J (HV4'.out.below HX6.out) HP6.out) (a0J (HV5.out.below HX6.out) HP6.out)
  ·exact a0t (g:=w.heap.size) (HB5.out.trans (HX6.out.mono HB5.out.size)) (Nat.le_refl _)
def errN(l:List UInt8):Nat:=if a1b l=true then (if 4000 < l.length then 5 else 0) else 3
theorem a5r(s:ByteArray)(w:World)(hlen:s.size≤9223372036854775807) :
  Calls prog 221 #[.string s] w fun e w'=>e=.returned (.int .i64 (errN s.data.toList:Int))∧w'=w:=by
 have hl:=Lib.toList_data s
 by_cases h1:s.data.toList=[]
 ·have e1:s.toList.isEmpty=true:=by rw[hl,h1];rfl
  have e2:errN s.data.toList=3:=by rw[h1];rfl
  rw[e2];clear hl h1 e2
  go_enter func221,ntmps221
  go_wp2
  go_ret
  exact⟨rfl,rfl⟩
 ·have e1:s.toList.isEmpty=false:=by rw[hl,List.isEmpty_eq_false_iff];exact h1
  have hpos:0 < s.size:=by rw[a0F];exact List.length_pos_iff.2 h1
  have hszl:=a0F s;have hmax:s.size≤9223372036854775807∨9223372036854775807 < s.size:=by omega
  have hs0:s[0]=s.data.toList[0]'(by rw[← a0F];exact hpos):=by rw[Array.getElem_toList];rfl
  have hhead:s.data.toList.head?=some s[0]:=by rw[hs0,List.head?_eq_getElem?,List.getElem?_eq_getElem]
  have hnf:a1b s.data.toList=((s.data.toList==[48] || s.data.toList.head? != some 48)&&s.data.toList.all isD):=by
   unfold a1b;rw[List.isEmpty_eq_false_iff.2 h1]
   rfl
  by_cases hbad:s[0]=48∧1 < s.size
  ·have h3:(s[0].toNat:Int)=48:=by rw[hbad.1];rfl
   have h3b:((s[0].toNat:Int)==48)=true:=by rw[beq_iff_eq];exact h3
   have h4:(1:Int) < (s.size:Int):=by omega
   have e2:errN s.data.toList=3:=by
    unfold errN;rw[hnf,hhead,hbad.1];have:(s.data.toList==[48])=false:=by
     rw[beq_eq_false_iff_ne];intro e;rw[hszl,e]at hbad
     simp at hbad
    rw[this]
    rfl
   rw[e2];clear hl h1 e2 hnf hhead hs0 hszl hbad
   go_enter func221,ntmps221
   go_wp2
   go_ret
   exact⟨rfl,rfl⟩
  ·have hgood:(s.data.toList==[48] || s.data.toList.head? != some 48)=true:=by
    by_cases h3:s[0]=48
    ·have hsz1:s.size=1:=by
      rcases Nat.lt_or_ge 1 s.size with h|h
      ·exact absurd ⟨h3,h⟩ hbad
      ·omega
     obtain⟨c,hc⟩:=List.length_eq_one_iff.1 (hszl ▸ hsz1);rw[hc]at hhead
     simp only[List.head?_cons,Option.some.injEq]at hhead
     rw[hc,hhead,h3]
     rfl
    ·rw[hhead]
     have:(some s[0] != some (48:UInt8))=true:=by
      rw[bne_iff_ne];intro e
      injection e with e
      exact h3 e
     rw[this,Bool.or_true]
   rw[hgood,Bool.true_and]at hnf;have HNF:=b9W hnf;have HSL:=b9W hszl;have HGET:=b9W (fun (k:Nat) (hk:k < s.size)=>show s[k]=s.data.toList[k]'(by rw[← a0F];exact hk) by rw[Array.getElem_toList];rfl);have key:∀ (h3:((s[0].toNat:Int)==48)=true∧¬ (1:Int) < (s.size:Int)∨((s[0].toNat:Int)==48)=false),
     Calls prog 221 #[.string s] w fun e w'=>e=.returned (.int .i64 (errN s.data.toList:Int))∧w'=w:=by
    intro h3;clear hl h1 hnf hhead hs0 hszl hbad hgood hmax
    rcases h3 with⟨h3,h4⟩|h3
    all_goals (
     have h3':(s[0].toNat:Int)=48∨¬ (s[0].toNat:Int)=48:=by omega
     go_enter func221,ntmps221
     go_wp2
     go_loopw [3] (fun si wr=>∃ k:Nat,k≤s.size∧si=.int .i64 (k:Int)∧(∀ j (hj:j < s.size),j < k→isD s[j]=true)∧wr=w) (fun si _=>s.size - (intOf si).toNat)
     case atStart=>exact⟨0,Nat.zero_le _,rfl,fun j _ h=>absurd h (Nat.not_lt_zero _),rfl⟩
     case round =>
      obtain⟨k,hk,rfl,hdk,rfl⟩:=hrel;have HDK:=b9W hdk;clear hdk h3 h3'
      by_cases hlt:k < s.size
      ·have hlt':(k:Int) < (s.size:Int):=by omega
       by_cases hlo:s[k].toNat < 48
       ·have d1:decide ((s[k].toNat:Int) < 48)=true:=decide_eq_true (by omega)
        have e2:errN s.data.toList=3:=by
         unfold errN;rw[HNF.out,if_neg];intro h;rw[List.all_eq_true]at h;have h5:=a3m.1 (h _ (List.getElem_mem (by rw[← a0F];exact hlt)));rw[← HGET.out k hlt]at h5
         omega
        have HE:=b9W e2;clear e2 hlo;go_wp2
        go_ret
        exact⟨a3X (a09 (by rw[HE.out];rfl)),rfl⟩
       ·have d1:decide ((s[k].toNat:Int) < 48)=false:=decide_eq_false (by omega)
        by_cases hhi:57 < s[k].toNat
        ·have d2:decide ((57:Int) < (s[k].toNat:Int))=true:=decide_eq_true (by omega)
         have e2:errN s.data.toList=3:=by
          unfold errN;rw[HNF.out,if_neg];intro h;rw[List.all_eq_true]at h;have h5:=a3m.1 (h _ (List.getElem_mem (by rw[← a0F];exact hlt)));rw[← HGET.out k hlt]at h5
          omega
         have HE:=b9W e2;clear e2 hlo hhi;go_wp2
         go_ret
         exact⟨a3X (a09 (by rw[HE.out];rfl)),rfl⟩
        ·have d2:decide ((57:Int) < (s[k].toNat:Int))=false:=decide_eq_false (by omega)
         have hdig:isD s[k]=true:=a3m.2 ⟨by omega,by omega⟩;have HDG:=b9W hdig;clear hdig hlo hhi;go_wp2
         go_roundw
         case rel =>
          refine⟨k+1,hlt,by go_num,fun j hj hjk=>?_,trivial⟩
          by_cases e:j=k
          ·subst e;exact HDG.out
          ·exact HDK.out j hj (by omega)
         case measure=>simp[intOf];omega
      ·have hlt':¬ (k:Int) < (s.size:Int):=by omega
       have hall:s.data.toList.all isD=true:=by
        rw[List.all_eq_true];intro b hb;obtain⟨j,hj,rfl⟩:=List.getElem_of_mem hb;have hj2:j < s.size:=by rw[a0F];exact hj
        rw[← HGET.out j hj2];exact HDK.out j hj2 (by omega)
       by_cases hbig:4000 < s.size
       ·have hbig':(4000:Int) < (s.size:Int):=by omega
        have e2:errN s.data.toList=5:=by
         unfold errN;rw[HNF.out,if_pos hall,if_pos (by rw[← a0F];exact hbig)]
        have HE:=b9W e2;clear e2 hall;go_wp2
        go_ret
        exact⟨a3X (a09 (by rw[HE.out];rfl)),rfl⟩
       ·have hbig':¬ (4000:Int) < (s.size:Int):=by omega
        have e2:errN s.data.toList=0:=by
         unfold errN;rw[HNF.out,if_pos hall,if_neg (by rw[← a0F];exact hbig)]
        have HE:=b9W e2;clear e2 hall;go_wp2
        go_ret
        exact⟨a3X (a09 (by rw[HE.out];rfl)),rfl⟩)
   by_cases h3:s[0]=48
   ·refine key (.inl ⟨by rw[h3];rfl,?_⟩)
    intro h;exact hbad ⟨h3,by omega⟩
   ·refine key (.inr ?_)
    rw[beq_eq_false_iff_ne];intro e
    apply h3
    apply UInt8.toNat_inj.1
    show s[0].toNat=48
    omega
theorem b35{w:World}{v:Value}{m:Bool}{n d:Nat}(hd:d≠0)(hg:n.gcd d=1)(hm:m=true→n≠0)(h:a05 w v m n d):a0C w v (mkQ m n d):=by
 obtain⟨h1,h2,h3⟩:=a7c (m:=m) hd hg;unfold a0C;rw[h1,h2,h3];have:(m&&decide (n≠0))=m:=by
  cases m with
  | false=>rfl
  | true=>simpa using hm rfl
 rw[this];exact h
theorem b6w(l:List UInt8):(cutQ l).1.length≤l.length∧((cutQ l).2.getD []).length≤l.length:=by
 rcases a5q l with⟨a,r,rfl,hn⟩|hn
 ·rw[a3y hn];simp;omega
 ·rw[a4h hn];simp
theorem a2l{l:List UInt8}(h:a1b l=true):Lib.nDigits (dv l)=l.length:=by
 have e:=a1b.eq h
 conv=>rhs;rw[← e]
 rw[Lib.decDigits_length]
theorem a1U{l:List UInt8}(h:a1b l=true){k:Nat}(hk:l.length≤9*k):(toL (dv l)).length≤k:=by
 refine a1l (Nat.le_refl _) ?_;rw[a2l h];exact hk
theorem a4j(s:ByteArray)(w:World)(hlen:s.size≤270000)(hr:Res w) :
  Calls prog 217 #[.string s] w fun e w'=>∃ v,e=.returned (.tuple #[v,.int .i64 (errQ s.data.toList:Int)])∧(errQ s.data.toList=0→a0C w' v (valQ s.data.toList))∧(errQ s.data.toList≠0→v=zV)∧Below w.heap.size w w':=by
 have hcut:=cut_eq s.data.toList;obtain⟨hle1,hle2⟩:=b6w s.data.toList;rw[← a0F]at hle1 hle2;have hE:errQ s.data.toList=match a2R s.data.toList with|none=>3|some (_,n,d,sl)=>if maxD < Lib.nDigits n∨maxD < Lib.nDigits d then 5 else if sl&&n.gcd d != 1 then 3 else 0:=rfl
 have hV:valQ s.data.toList=match a2R s.data.toList with|none=>0|some (m,n,d,_)=>mkQ m n d:=rfl
 have hS:a2R s.data.toList=if a1k (cutQ s.data.toList).1 then match (cutQ s.data.toList).2 with|none=>some ((intP (cutQ s.data.toList).1).1,dv (intP (cutQ s.data.toList).1).2,1,false)|some d=>if (intP (cutQ s.data.toList).1).2 != [48]&&(a1b d&&(d != [48]&&d != [49])) then some ((intP (cutQ s.data.toList).1).1,dv (intP (cutQ s.data.toList).1).2,dv d,true) else none else none:=rfl
 have hTS:∀ m n d sl,a2R s.data.toList=some (m,n,d,sl)→(m=true→n≠0)∧d≠0:=fun m n d sl h=>⟨(a2H h).2.1,(a2H h).2.2.1⟩;generalize cutQ s.data.toList=c at *;obtain⟨la,ob⟩:=c
 dsimp only at hcut hle1 hle2 hS
 have hip:intP la=((intP la).1,(intP la).2):=rfl;have hile:=a99 la;have hokf:a1k la=true→a1b (intP la).2=true:=fun h=>by
  unfold a1k at h
  simp only[Bool.and_eq_true]at h
  exact h.1
 generalize hm:(intP la).1=m at *;generalize hl:(intP la).2=ln at *;have err:∀ k:Nat,k≠0→errQ s.data.toList=k→Calls prog 217 #[.string s] w (fun e w'=>∃ v,v=zV∧e=.returned (.tuple #[v,.int .i64 (k:Int)])∧Below w.heap.size w w') →
   Calls prog 217 #[.string s] w fun e w'=>∃ v,e=.returned (.tuple #[v,.int .i64 (errQ s.data.toList:Int)])∧(errQ s.data.toList=0→a0C w' v (valQ s.data.toList))∧(errQ s.data.toList≠0→v=zV)∧Below w.heap.size w w':=fun k hk he h=>by
  rw[he];exact h.mono fun e w' ⟨v,hz,h1,h2⟩=>⟨v,h1,fun h0=>absurd h0 hk,fun _=>hz,h2⟩
 have good:∀ (n d:Nat) (sl:Bool),a2R s.data.toList=some (m,n,d,sl)→errQ s.data.toList=0→n.gcd d=1→Calls prog 217 #[.string s] w (fun e w'=>∃ v,e=.returned (.tuple #[v,.int .i64 0])∧a05 w' v m n d∧Below w.heap.size w w') →
   Calls prog 217 #[.string s] w fun e w'=>∃ v,e=.returned (.tuple #[v,.int .i64 (errQ s.data.toList:Int)])∧(errQ s.data.toList=0→a0C w' v (valQ s.data.toList))∧(errQ s.data.toList≠0→v=zV)∧Below w.heap.size w w':=fun n d sl hs he hg h=>by
  rw[he];refine h.mono fun e w' ⟨v,h1,h2,h3⟩=>⟨v,h1,fun _=>?_,fun h=>absurd rfl h,h3⟩;rw[hV,hs];obtain⟨t1,t2⟩:=hTS _ _ _ _ hs;exact b35 t2 hg t1 h2
 have hsz:∀ l:List UInt8,(⟨l.toArray⟩:ByteArray).size=l.length:=fun l=>List.size_toArray;have htl:∀ l:List UInt8,(⟨l.toArray⟩:ByteArray).toList=l:=fun l=>by rw[Lib.toList_data]
 have hA:(⟨la.toArray⟩:ByteArray).size≤270000:=by rw[hsz];omega
 have hN:(⟨ln.toArray⟩:ByteArray).size≤270000:=by rw[hsz];omega
 by_cases hok:a1k la=true
 ·have hnf:=hokf hok
  rw[if_pos hok]at hS;have hnd:=a2l hnf
  cases ob with
  | none =>
   dsimp only at hS hcut
   have hsp:=hS;rw[hS]at hE
   dsimp only at hE
   rw[hnd,Lib.nDigits_small (by omega:1 < 10)]at hE
   by_cases hlong:4000 < ln.length
   ·rw[if_pos (.inl hlong)]at hE
    exact err 5 (by decide) hE (a8I s ⟨la.toArray⟩ ⟨#[]⟩ ⟨ln.toArray⟩ m _ _ w hr hlen hA (by decide) hN hcut hip hok rfl rfl (by rw[hsz];exact hlong))
   ·rw[if_neg (by unfold maxD;omega)]at hE
    refine good _ _ _ hsp (by rw[hE];rfl) (Nat.gcd_one_right _) ?_;exact b0G s ⟨la.toArray⟩ ⟨#[]⟩ ⟨ln.toArray⟩ m _ _ w hr hlen hA (by decide) hN hcut hip hok rfl rfl (by rw[hsz];omega) (a1A hnf)
  | some d =>
   dsimp only[Option.getD]at hS hcut hle2
   have hB:(⟨d.toArray⟩:ByteArray).size≤270000:=by rw[hsz];omega
   by_cases z0:(ln==[48])=true
   ·rw[if_neg (by simp[bne,z0])]at hS
    rw[hS]at hE;exact err 3 (by decide) hE (b4K s ⟨la.toArray⟩ ⟨d.toArray⟩ ⟨ln.toArray⟩ m _ _ w hr hlen hA hB hN hcut hip hok rfl rfl (by rw[htl];exact z0))
   have z0:(ln==[48])=false:=by simpa using z0
   by_cases hF:a1b d=false
   ·rw[if_neg (by simp[hF])]at hS
    rw[hS]at hE;exact err 3 (by decide) hE (b4i s ⟨la.toArray⟩ ⟨d.toArray⟩ ⟨ln.toArray⟩ m _ _ w hr hlen hA hB hN hcut hip hok rfl rfl (by rw[htl];exact z0) hF)
   have hF:a1b d=true:=by simpa using hF
   by_cases z1:(d==[48])=true
   ·rw[if_neg (by simp[bne,z1])]at hS
    rw[hS]at hE;exact err 3 (by decide) hE (b3P s ⟨la.toArray⟩ ⟨d.toArray⟩ ⟨ln.toArray⟩ m _ _ w hr hlen hA hB hN hcut hip hok rfl rfl (by rw[htl];exact z0) hF (by rw[htl];exact z1))
   have z1:(d==[48])=false:=by simpa using z1
   by_cases z2:(d==[49])=true
   ·rw[if_neg (by simp[bne,z2])]at hS
    rw[hS]at hE;exact err 3 (by decide) hE (b4v s ⟨la.toArray⟩ ⟨d.toArray⟩ ⟨ln.toArray⟩ m _ _ w hr hlen hA hB hN hcut hip hok rfl rfl (by rw[htl];exact z0) hF (by rw[htl];exact z1) (by rw[htl];exact z2))
   have z2:(d==[49])=false:=by simpa using z2
   rw[if_pos (by simp only[bne,z0,hF,z1,z2];rfl)]at hS;have hsp:=hS;rw[hS]at hE
   dsimp only at hE
   rw[hnd,a2l hF]at hE
   by_cases hlong:4000 < ln.length
   ·rw[if_pos (.inl hlong)]at hE
    exact err 5 (by decide) hE (b2h s ⟨la.toArray⟩ ⟨d.toArray⟩ ⟨ln.toArray⟩ m _ _ w hr hlen hA hB hN hcut hip hok rfl rfl (by rw[htl];exact z0) hF (by rw[htl];exact z1) (by rw[htl];exact z2) (by rw[hsz];exact hlong))
   by_cases hlong2:4000 < d.length
   ·rw[if_pos (.inr hlong2)]at hE
    exact err 5 (by decide) hE (b2F s ⟨la.toArray⟩ ⟨d.toArray⟩ ⟨ln.toArray⟩ m _ _ w hr hlen hA hB hN hcut hip hok rfl rfl (by rw[htl];exact z0) hF (by rw[htl];exact z1) (by rw[htl];exact z2) (by rw[hsz];omega) (by rw[hsz];exact hlong2))
   rw[if_neg (by unfold maxD;omega)]at hE;have hll:(toL (dv ln)).length≤30000∧(toL (dv d)).length≤30000:=⟨Nat.le_trans (a1U hnf (k:=500) (by omega)) (by omega),Nat.le_trans (a1U hF (k:=500) (by omega)) (by omega)⟩
   by_cases hg:(dv ln).gcd (dv d)=1
   ·rw[hg]at hE
    refine good _ _ _ hsp (by rw[hE];rfl) hg ?_;exact b71 s ⟨la.toArray⟩ ⟨d.toArray⟩ ⟨ln.toArray⟩ m _ _ w hr hlen hA hB hN hcut hip hok rfl rfl (by rw[htl];exact z0) hF (by rw[htl];exact z1) (by rw[htl];exact z2) (by rw[hsz];omega) (by rw[hsz];omega) (a1A hnf) (a1A hF) hll hg
   ·rw[if_pos (by simp[hg])]at hE
    exact err 3 (by decide) hE (b6L s ⟨la.toArray⟩ ⟨d.toArray⟩ ⟨ln.toArray⟩ m _ _ w hr hlen hA hB hN hcut hip hok rfl rfl (by rw[htl];exact z0) hF (by rw[htl];exact z1) (by rw[htl];exact z2) (by rw[hsz];omega) (by rw[hsz];omega) (a1A hnf) (a1A hF) hll hg)
 ·rw[if_neg hok]at hS
  rw[hS]at hE;have hok':a1k la=false:=by simpa using hok
  cases ob with
  | none=>exact err 3 (by decide) hE (a8_ s ⟨la.toArray⟩ ⟨#[]⟩ ⟨ln.toArray⟩ m _ _ w hr hlen hA (by decide) hN hcut hip hok' rfl rfl)
  | some d=>exact err 3 (by decide) hE (b4b s ⟨la.toArray⟩ ⟨d.toArray⟩ ⟨ln.toArray⟩ m _ _ w hr hlen hA (by rw[hsz];exact Nat.le_trans hle2 hlen) hN hcut hip hok' rfl rfl)
theorem a0d{w W:World}(h:Below w.heap.size w W)(o:Obj):Below w.heap.size w (W.alloc o):=h.alloc h.size o
def Runs(F:FuncId):Prop:=∀ (xs:Array Value) (W:World),Sem.run prog (callFunc F xs) W=.ok (.enter F xs) W
theorem a1_{F : FuncId}{fn : Func}(h : prog.funcs[F]? = some fn)(h1 : (fn.name == "runtime.NumGoroutine") = false)(h2 : fn.body.isNone = false) : Runs F := fun xs W => by
 have h1' : fn.name ≠ "runtime.NumGoroutine" := beq_eq_false_iff_ne.1 h1;have h2':fn.body≠none:=fun e=>by rw[e]at h2;cases h2
 simp[callFunc,go_sem,h,h1',h2']
theorem a4f:Runs 243:=a1_ func243 (by kernel_rfl) (by kernel_rfl)
theorem a6Q:Runs 244:=a1_ func244 (by kernel_rfl) (by kernel_rfl)
theorem with_err(s:ByteArray)(fv:Value)(w:World)(hlen:s.size≤270000)(hr:Res w)(he:errQ s.data.toList≠0) :
  Calls prog 213 #[.string s,fv] w fun e w'=>e=.returned (.tuple #[.string ⟨#[]⟩,.int .i64 (errQ s.data.toList:Int)])∧Below w.heap.size w w':=by
 have HR:=b9W hr;have hne:((errQ s.data.toList:Int)==0)=false:=by rw[beq_eq_false_iff_ne];omega
 have HE:=b9W he;have HP:=b9W (a4j s w hlen hr);clear hr he
 go_enter func213,ntmps213
 go_wp2_with (go_at_call 217;refine HP.out.mono ?_;rintro e w1 ⟨v,rfl,-,hz,hb⟩;obtain rfl:=hz HE.out;have HB:=b9W hb;clear hb hz)
 refine bodyPost_ret (results_tmp2 rfl _ _ _) rfl ?_;exact⟨rfl,a0d HB.out _⟩
theorem with_ok(F:FuncId)(hrun:Runs F)(caps:Array Value)(rv:Value)(k:Int)(s:ByteArray)(w:World)(hlen:s.size≤270000)(hr:Res w)(he:errQ s.data.toList=0)
  (hF:∀ v w',Below w.heap.size w w'→Res w'→a0C w' v (valQ s.data.toList)→Calls prog F (#[v]++caps) w' fun e w''=>e=.returned (.tuple #[rv,.int .i64 k])∧Below w'.heap.size w' w'') :
  Calls prog 213 #[.string s,.func (.func F) #[] caps] w fun e w'=>e=.returned (.tuple #[rv,.int .i64 k])∧Below w.heap.size w w':=by
 have HR:=b9W hr;have hne:((errQ s.data.toList:Int)==0)=true:=by rw[he];rfl
 have HE:=b9W he;have HP:=b9W (a4j s w hlen hr);have HF:=b9W hF;have hrn:=hrun;unfold Runs at hrn;clear hr he hF hrun
 go_enter func213,ntmps213
 go_wp2_with (go_at_call 217;refine HP.out.mono ?_;rintro e w1 ⟨v,rfl,hv,-,hb⟩;obtain⟨bq,N,D,A,c,A',c',rfl,hn,hd,HQ⟩:=a0r (hv HE.out);have HV:=b9W (hv HE.out);have HB:=b9W hb;clear hb hv hn hd)
 have hx:=a0d HB.out (.cells #[.bool bq,.slice A (toL N).length c,.slice A' (toL D).length c'] 216);have hx1:Below w1.heap.size w1 (w1.alloc (.cells #[.bool bq,.slice A (toL N).length c,.slice A' (toL D).length c'] 216)):=a0d (Below.refl _ _) _;have HX:=b9W hx;refine(HF.out _ _ HX.out (HR.out.below HX.out) (HV.out.below hx1)).mono ?_;rintro e w2 ⟨rfl,hb2⟩;have HB2:=b9W (HX.out.trans (hb2.mono HX.out.size));clear hx hx1 hb2;go_wp2;refine bodyPost_ret (results_tmp2 rfl _ _ _) rfl ?_;exact⟨rfl,HB2.out⟩
theorem b0p(F:FuncId)(hrun:Runs F)(rv:Value)(k:Int)(pf px:Nat)(q q':Rat)(v v':Value)(w:World)(hpf:Boxed w pf 219 (.func (.func F) #[] #[]))
  (hv:a0C w v q) (hv':a0C w v' q') (vs:Array Value) (hvs:v=.agg vs) (hpx:Blk w px 216 vs) (_hr:Res w)
  (hF:∀ w',Below w.heap.size w w'→Calls prog F #[v,v'] w' fun e w''=>e=.returned (.tuple #[rv,.int .i64 k])∧Below w'.heap.size w' w'') :
  Calls prog 244 #[v',.pointer (some ⟨pf,0,none⟩),.pointer (some ⟨px,0,none⟩)] w fun e w'=>e=.returned (.tuple #[rv,.int .i64 k])∧Below w.heap.size w w':=by
 obtain⟨bq,N,D,A,c,A',c',rfl,hn,hd,HQ⟩:=a0r hv;obtain⟨bq',N',D',B,d,B',d',rfl,hn',hd',HQ'⟩:=a0r hv';obtain rfl:#[.bool bq,.slice A (toL N).length c,.slice A' (toL D).length c']=vs:=by injection hvs
 have hrn:=hrun;unfold Runs at hrn;have HF:=b9W hF;have HX:=b9W (a0d (Below.refl w.heap.size w) (.cells #[.bool bq',.slice B (toL N').length d,.slice B' (toL D').length d'] 216));have cf:=(a0O hpf HX.out hpf.lt).cell;obtain⟨x0,x1,x2⟩:=a0K hpx HX.out hpx.lt;clear hrun hF hn hd hn' hd' hv hv' hpf hvs hpx
 go_enter func244,ntmps244
 go_wp2;refine(HF.out _ HX.out).mono ?_;rintro e w2 ⟨rfl,hb2⟩;have HB2:=b9W (HX.out.trans (hb2.mono HX.out.size));clear hb2;go_wp2;refine bodyPost_ret (results_tmp2 rfl _ _ _) rfl ?_;exact⟨rfl,HB2.out⟩
section
variable (F:FuncId) (b:ByteArray) (pb pf:Nat) (q:Rat) (v:Value) (w:World)
theorem a8q(hlen:b.size≤270000)(hpb:Boxed w pb 23 (.string b))(hpf:Boxed w pf 219 (.func (.func F) #[] #[]))
  (hv:a0C w v q) (hr:Res w) (he:errQ b.data.toList≠0) :
  Calls prog 243 #[v,.pointer (some ⟨pb,0,none⟩),.pointer (some ⟨pf,0,none⟩)] w fun e w'=>e=.returned (.tuple #[.string ⟨#[]⟩,.int .i64 (errQ b.data.toList:Int)])∧Below w.heap.size w w':=by
 obtain⟨bq,N,D,A,c,A',c',rfl,hn,hd,HQ⟩:=a0r hv;have HX:=b9W (a0d (Below.refl w.heap.size w) (.cells #[.bool bq,.slice A (toL N).length c,.slice A' (toL D).length c'] 216));have cf:=(a0O hpf HX.out hpf.lt).cell;have cb:=(a0O hpb HX.out hpb.lt).cell;have HW:=b9W (fun fv=>with_err b fv _ hlen (hr.below HX.out) he);clear hn hd hv hpf hpb hr he
 go_enter func243,ntmps243
 go_wp2_with (go_at_call 213;refine(HW.out _).mono ?_;rintro e w2 ⟨rfl,hb2⟩;have HB2:=b9W (HX.out.trans (hb2.mono HX.out.size));clear hb2)
 refine bodyPost_ret (results_tmp2 rfl _ _ _) rfl ?_;exact⟨rfl,HB2.out⟩
theorem b0c(hrun:Runs F)(rv:Value)(k:Int)(hlen:b.size≤270000)(hpb:Boxed w pb 23 (.string b))(hpf:Boxed w pf 219 (.func (.func F) #[] #[]))
  (hv:a0C w v q) (hr:Res w) (he:errQ b.data.toList=0)
  (hF:∀ v' w',Below w.heap.size w w'→Res w'→a0C w' v q→a0C w' v' (valQ b.data.toList)→Calls prog F #[v,v'] w' fun e w''=>e=.returned (.tuple #[rv,.int .i64 k])∧Below w'.heap.size w' w'') :
  Calls prog 243 #[v,.pointer (some ⟨pb,0,none⟩),.pointer (some ⟨pf,0,none⟩)] w fun e w'=>e=.returned (.tuple #[rv,.int .i64 k])∧Below w.heap.size w w':=by
 obtain⟨bq,N,D,A,c,A',c',rfl,hn,hd,HQ⟩:=a0r hv;have HX:=b9W (a0d (Below.refl w.heap.size w) (.cells #[.bool bq,.slice A (toL N).length c,.slice A' (toL D).length c'] 216));have cf:=(a0O hpf HX.out hpf.lt).cell;have cb:=(a0O hpb HX.out hpb.lt).cell;have HW:=b9W (with_ok 244 a6Q #[.pointer (some ⟨pf,0,none⟩),.pointer (some ⟨w.heap.size,0,none⟩)] rv k b (w.alloc (.cells #[.bool bq,.slice A (toL N).length c,.slice A' (toL D).length c'] 216)) hlen (hr.below HX.out) he (fun v' w' hb' hr' hv'=>by
  have hB:Below w.heap.size w w':=HX.out.trans (hb'.mono HX.out.size);exact b0p F hrun rv k pf w.heap.size q _ _ v' w' (a0O hpf hB hpf.lt) (hv.below hB) hv' _ rfl ((Blk.new w _ _).below hb' (by simp)) hr' (fun w2 hb2=>hF v' w2 (hB.trans (hb2.mono hB.size)) (hr'.below hb2) ((hv.below hB).below hb2) (hv'.below hb2))))
 clear hn hd hv hpf hpb hr he hF hrun
 go_enter func243,ntmps243
 go_wp2_with (go_at_call 213;refine HW.out.mono ?_;rintro e w2 ⟨rfl,hb2⟩;have HB2:=b9W (HX.out.trans (hb2.mono HX.out.size));clear hb2)
 refine bodyPost_ret (results_tmp2 rfl _ _ _) rfl ?_;exact⟨rfl,HB2.out⟩
end
theorem b0v(w:World)(b:ByteArray)(fv:Value):Boxed ((w.alloc (.cells #[.string b] 23)).alloc (.cells #[fv] 219)) w.heap.size 23 (.string b) ∧
  Boxed ((w.alloc (.cells #[.string b] 23)).alloc (.cells #[fv] 219)) (w.heap.size+1) 219 fv∧Below w.heap.size w ((w.alloc (.cells #[.string b] 23)).alloc (.cells #[fv] 219)):=by
 refine⟨(Boxed.new w _ _).alloc _,?_,a0d (a0d (Below.refl _ _) _) _⟩;have:=Boxed.new (w.alloc (.cells #[.string b] 23)) 219 fv
 rwa [World.size_alloc]at this
theorem both_any(F:FuncId)(hrun:Runs F)(f:Rat→Rat→Value × Int)(a b:ByteArray)(w:World)(ha:a.size≤270000)(hb:b.size≤270000)(hr:Res w)
  (hF:∀ v v' w',Below w.heap.size w w'→Res w'→a0C w' v (valQ a.data.toList)→a0C w' v' (valQ b.data.toList)→errQ a.data.toList=0→errQ b.data.toList=0→Calls prog F #[v,v'] w' fun e w''=>e=.returned (.tuple #[(f (valQ a.data.toList) (valQ b.data.toList)).1,.int .i64 (f (valQ a.data.toList) (valQ b.data.toList)).2])∧Below w'.heap.size w' w'') :
  Calls prog 188 #[.string a,.string b,.func (.func F) #[] #[]] w fun e w' =>
   e=.returned (if errQ a.data.toList≠0 then .tuple #[.string ⟨#[]⟩,.int .i64 (errQ a.data.toList:Int)] else if errQ b.data.toList≠0 then .tuple #[.string ⟨#[]⟩,.int .i64 (errQ b.data.toList:Int)] else .tuple #[(f (valQ a.data.toList) (valQ b.data.toList)).1,.int .i64 (f (valQ a.data.toList) (valQ b.data.toList)).2])∧Below w.heap.size w w':=by
 obtain⟨b4,b5,hB⟩:=b0v w b (.func (.func F) #[] #[])
 by_cases h1:errQ a.data.toList≠0
 ·rw[if_pos h1]
  have HW:=b9W (fun fv=>with_err a fv _ ha (hr.below hB) h1);have HB:=b9W hB;clear b4 b5 hB hrun hF hr h1
  go_enter func188,ntmps188
  go_wp2_with (go_at_call 213;refine(HW.out _).mono ?_;rintro e w2 ⟨rfl,hb2⟩;have HB2:=b9W (HB.out.trans (hb2.mono HB.out.size));clear hb2)
  refine bodyPost_ret (results_tmp2 rfl _ _ _) rfl ?_;exact⟨rfl,HB2.out⟩
 ·rw[if_neg h1]
  have h1:errQ a.data.toList=0:=by omega
  by_cases h2:errQ b.data.toList≠0
  ·rw[if_pos h2]
   have HW:=b9W (with_ok 243 a4f #[.pointer (some ⟨w.heap.size,0,none⟩),.pointer (some ⟨w.heap.size+1,0,none⟩)] (.string ⟨#[]⟩) (errQ b.data.toList:Int) a _ ha (hr.below hB) h1 (fun v w' hb' hr' hv =>
    a8q F b w.heap.size (w.heap.size+1) _ v w' hb (a0O b4 hb' b4.lt) (a0O b5 hb' b5.lt) hv hr' h2))
   have HB:=b9W hB;clear b4 b5 hB hrun hF hr h1 h2
   go_enter func188,ntmps188
   go_wp2_with (go_at_call 213;refine HW.out.mono ?_;rintro e w2 ⟨rfl,hb2⟩;have HB2:=b9W (HB.out.trans (hb2.mono HB.out.size));clear hb2)
   refine bodyPost_ret (results_tmp2 rfl _ _ _) rfl ?_;exact⟨rfl,HB2.out⟩
  ·rw[if_neg h2]
   have h2:errQ b.data.toList=0:=by omega
   generalize hR:f (valQ a.data.toList) (valQ b.data.toList)=R at *;obtain⟨rv,k⟩:=R
   dsimp only at hF ⊢
   have HW:=b9W (with_ok 243 a4f #[.pointer (some ⟨w.heap.size,0,none⟩),.pointer (some ⟨w.heap.size+1,0,none⟩)] rv k a _ ha (hr.below hB) h1 (fun v w' hb' hr' hv =>
    b0c F b w.heap.size (w.heap.size+1) _ v w' hrun rv k hb (a0O b4 hb' b4.lt) (a0O b5 hb' b5.lt) hv hr' h2 (fun v' w2 hb2 hr2 hv2 hv2'=>hF v v' w2 (hB.trans ((hb'.mono hB.size).trans (hb2.mono (Nat.le_trans hB.size hb'.size)))) hr2 hv2 hv2' h1 h2)))
   have HB:=b9W hB;clear b4 b5 hB hrun hF hr h1 h2 hR
   go_enter func188,ntmps188
   go_wp2_with (go_at_call 213;refine HW.out.mono ?_;rintro e w2 ⟨rfl,hb2⟩;have HB2:=b9W (HB.out.trans (hb2.mono HB.out.size));clear hb2)
   refine bodyPost_ret (results_tmp2 rfl _ _ _) rfl ?_;exact⟨rfl,HB2.out⟩
end Go.Proofs.YtigapglmipmbeaaGreatDoor
