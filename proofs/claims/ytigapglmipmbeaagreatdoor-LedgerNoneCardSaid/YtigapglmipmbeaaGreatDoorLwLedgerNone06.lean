/- frac.Parse (printed by mkparse.py). The reference's Check of a natural number. frac.Parse gives the number of a text; nat.Check. rat.with and rat.both, over numbers and over ints. frac.Add, Sub, Div (printed by mkfadd.py). -/
import Derived.Test.YtigapglmipmbeaaGreatDoorLwLedgerNone05
set_option maxRecDepth 100000
set_option maxHeartbeats 16000000

namespace Go.Proofs.YtigapglmipmbeaaGreatDoor
open Go.RowKit Go.Shelf
open Lim
theorem ret_frac2 {fn:Func} {p u:Tmp} {R:Ending→World→Prop} {a:Act} {w:World} {g:Nat} {t:TypeId} {m vn vd:Value} (h:fn.results=#[.cell p 216,.tmp u]) (hd:a.defers=[]) (hp:a.tmps.getD p undef=.pointer (some ⟨g,0,none⟩))
  (hg:Blk w g t #[m,vn,vd]) (hR:R (.returned (.tuple #[.agg #[m,vn,vd],a.tmps.getD u undef])) w):bodyPost Tryz.prog fn R .ret a w:=by
 refine bodyPost_ret ?_ hd hR
 rw [results_cell_tmp h,hp]
 simp only [asAddr,Sem.run_pure,Result.andThen_ok]
 rw [run_loadVar_row w g t 216 #[m,vn,vd] (0,0) _ hg Tryz.underlying216 rfl fsize]
 rfl
theorem max_of {w:World} (h:Res w):∃ m:Int,w.cell? ⟨0,0,none⟩=some (.int .i64 m):=h.max
theorem below_drewN {n:Nat} {w W:World} {k:Nat} (h:Below n w W):Below n w (W.drewN k):=⟨h.os,h.tape,h.output,h.size,h.block⟩
theorem beta_ba (s:ByteArray):(⟨s.data.toList.toArray⟩:ByteArray)=s:=by cases s;simp
abbrev zV:Value:=.agg #[.bool false,.slice none 0 0,.slice none 0 0]
theorem z_new (w:World):Blk (w.alloc zF) w.heap.size 216 #[.bool false,.slice none 0 0,.slice none 0 0]:=Blk.new w _ _
theorem cells6 {w:World} {b:Nat} {t:TypeId} {x y z:Value} (h:Blk w b t #[x,y,z]):w.cell? ⟨b,0,none⟩=some x∧w.cell? ⟨b,1,none⟩=some y∧w.cell? ⟨b,2,none⟩=some z∧w.frozen? ⟨b,0,none⟩=false∧w.frozen? ⟨b,1,none⟩=false∧w.frozen? ⟨b,2,none⟩=false :=
 ⟨(cellrow h 0 (by simp)).1,(cellrow h 1 (by simp)).1,(cellrow h 2 (by simp)).1,(cellrow h 0 (by simp)).2,(cellrow h 1 (by simp)).2,(cellrow h 2 (by simp)).2⟩
theorem cells6A {w:World} {b:Nat} {t:TypeId} {x y z:Value} (h:Blk w b t #[x,y,z]):(∀ o,(w.alloc o).cell? ⟨b,0,none⟩=some x)∧(∀ o,(w.alloc o).cell? ⟨b,1,none⟩=some y)∧(∀ o,(w.alloc o).cell? ⟨b,2,none⟩=some z)∧(∀ o,(w.alloc o).frozen? ⟨b,0,none⟩=false)∧(∀ o,(w.alloc o).frozen? ⟨b,1,none⟩=false)∧(∀ o,(w.alloc o).frozen? ⟨b,2,none⟩=false) :=
 ⟨fun o=>(cells6 (h.alloc o)).1,fun o=>(cells6 (h.alloc o)).2.1,fun o=>(cells6 (h.alloc o)).2.2.1,fun o=>(cells6 (h.alloc o)).2.2.2.1,fun o=>(cells6 (h.alloc o)).2.2.2.2.1,fun o=>(cells6 (h.alloc o)).2.2.2.2.2⟩
theorem parse_bad_none (s a b n2:ByteArray) (m sl ok:Bool) (w:World) (hr:Res w) (hs:s.size≤270000) (ha:a.size≤270000) (_hb:b.size≤270000) (_hn:n2.size≤270000) (hc:Lib.cut s.data.toList [47]=(a.data.toList,b.data.toList,sl))
  (hi:intP a.data.toList=(m,n2.data.toList)) (hok:intOk a.data.toList=ok) (hsl:sl=false) (h0:ok=false) :
  Calls Tryz.prog 217 #[.string s] w fun e w'=>∃ v,v=zV∧e=.returned (.tuple #[v,.int .i64 3])∧Below w.heap.size w w':=by
 have HR:=Lib.hid hr
 have HC:=Lib.hid hc
 have HI:=Lib.hid (And.intro hi hok)
 have HB0:=Lib.hid ((Below.refl w.heap.size w).alloc (Nat.le_refl _) zF)
 have TK1:True:=trivial
 clear hr hc hi hok
 subst hsl h0
 ·go_enter Tryz.func217,Tryz.ntmps217
  go_wp2_with (first
   | (go_at_call 262;(obtain ⟨mx,hmx⟩:=max_of (HR.out.below HB0.out);refine (Tryz.strings_Cut s ⟨#[47]⟩ mx _ (by omega) hmx).mono ?_;rintro e w1 ⟨rfl,k,hw1⟩;rw [show Lib.cut s.data.toList (⟨#[47]⟩:ByteArray).data.toList=_ from HC.out];dsimp only;rw [beta_ba,beta_ba];have HB1:=Lib.hid (show Below w.heap.size w w1 by rw [hw1];exact below_drewN HB0.out);have HP1:=Lib.hid (show Blk w1 w.heap.size 216 #[.bool false,.slice none 0 0,.slice none 0 0] by rw [hw1];exact z_new w);clear hw1 hmx))
   | (go_at_call 263;refine (integer_any a _ (by omega)).mono ?_;rintro e w2 ⟨rfl,hb2⟩;rw [HI.out.1,HI.out.2];dsimp only;rw [beta_ba];have HB2:=Lib.hid (HB1.out.trans (hb2.mono HB1.out.size));have HP2:=Lib.hid (HP1.out.below hb2 HP1.out.lt);obtain ⟨h20,h21,h22,h23,h24,h25⟩:=cells6 HP2.out;clear hb2))
  refine ret_frac2 rfl rfl (by simp) (set3 HP2.out) ⟨_,rfl,rfl,?_⟩
  exact set3_below (g:=w.heap.size) HB2.out (Nat.le_refl _)
theorem parse_long_none (s a b n2:ByteArray) (m sl ok:Bool) (w:World) (hr:Res w) (hs:s.size≤270000) (ha:a.size≤270000) (_hb:b.size≤270000) (hn:n2.size≤270000) (hc:Lib.cut s.data.toList [47]=(a.data.toList,b.data.toList,sl))
  (hi:intP a.data.toList=(m,n2.data.toList)) (hok:intOk a.data.toList=ok) (hsl:sl=false) (h0:ok=true) (hl:4000 < n2.size) :
  Calls Tryz.prog 217 #[.string s] w fun e w'=>∃ v,v=zV∧e=.returned (.tuple #[v,.int .i64 5])∧Below w.heap.size w w':=by
 have HR:=Lib.hid hr
 have HC:=Lib.hid hc
 have HI:=Lib.hid (And.intro hi hok)
 have HB0:=Lib.hid ((Below.refl w.heap.size w).alloc (Nat.le_refl _) zF)
 have TK1:True:=trivial
 clear hr hc hi hok
 have hl1:decide ((4000:Int) < (n2.size:Int))=true:=decide_eq_true (by omega)
 clear hl
 subst hsl h0
 ·go_enter Tryz.func217,Tryz.ntmps217
  go_wp2_with (first
   | (go_at_call 262;(obtain ⟨mx,hmx⟩:=max_of (HR.out.below HB0.out);refine (Tryz.strings_Cut s ⟨#[47]⟩ mx _ (by omega) hmx).mono ?_;rintro e w1 ⟨rfl,k,hw1⟩;rw [show Lib.cut s.data.toList (⟨#[47]⟩:ByteArray).data.toList=_ from HC.out];dsimp only;rw [beta_ba,beta_ba];have HB1:=Lib.hid (show Below w.heap.size w w1 by rw [hw1];exact below_drewN HB0.out);have HP1:=Lib.hid (show Blk w1 w.heap.size 216 #[.bool false,.slice none 0 0,.slice none 0 0] by rw [hw1];exact z_new w);clear hw1 hmx))
   | (go_at_call 263;refine (integer_any a _ (by omega)).mono ?_;rintro e w2 ⟨rfl,hb2⟩;rw [HI.out.1,HI.out.2];dsimp only;rw [beta_ba];have HB2:=Lib.hid (HB1.out.trans (hb2.mono HB1.out.size));have HP2:=Lib.hid (HP1.out.below hb2 HP1.out.lt);obtain ⟨h20,h21,h22,h23,h24,h25⟩:=cells6 HP2.out;clear hb2))
  refine ret_frac2 rfl rfl (by simp) (set3 HP2.out) ⟨_,rfl,rfl,?_⟩
  exact set3_below (g:=w.heap.size) HB2.out (Nat.le_refl _)
theorem parse_ok_none (s a b n2:ByteArray) (m sl ok:Bool) (w:World) (hr:Res w) (hs:s.size≤270000) (ha:a.size≤270000) (_hb:b.size≤270000) (hn:n2.size≤270000) (hc:Lib.cut s.data.toList [47]=(a.data.toList,b.data.toList,sl))
  (hi:intP a.data.toList=(m,n2.data.toList)) (hok:intOk a.data.toList=ok) (hsl:sl=false) (h0:ok=true) (hl:n2.size≤4000) (hd:Dg n2.data.toList) :
  Calls Tryz.prog 217 #[.string s] w fun e w'=>∃ v,e=.returned (.tuple #[v,.int .i64 0])∧IsParts w' v m (dv n2.data.toList) (dv [49])∧Below w.heap.size w w':=by
 have HR:=Lib.hid hr
 have HC:=Lib.hid hc
 have HI:=Lib.hid (And.intro hi hok)
 have HB0:=Lib.hid ((Below.refl w.heap.size w).alloc (Nat.le_refl _) zF)
 have TK1:True:=trivial
 clear hr hc hi hok
 have HG:=Lib.hid (And.intro hd (show Dg (⟨#[49]⟩:ByteArray).data.toList from fun x hx=>by simp at hx;subst hx;rfl))
 have hl1:decide ((4000:Int) < (n2.size:Int))=false:=decide_eq_false (by omega)
 clear hd hl
 subst hsl h0
 ·go_enter Tryz.func217,Tryz.ntmps217
  go_wp2_with (first
   | (go_at_call 262;(obtain ⟨mx,hmx⟩:=max_of (HR.out.below HB0.out);refine (Tryz.strings_Cut s ⟨#[47]⟩ mx _ (by omega) hmx).mono ?_;rintro e w1 ⟨rfl,k,hw1⟩;rw [show Lib.cut s.data.toList (⟨#[47]⟩:ByteArray).data.toList=_ from HC.out];dsimp only;rw [beta_ba,beta_ba];have HB1:=Lib.hid (show Below w.heap.size w w1 by rw [hw1];exact below_drewN HB0.out);have HP1:=Lib.hid (show Blk w1 w.heap.size 216 #[.bool false,.slice none 0 0,.slice none 0 0] by rw [hw1];exact z_new w);clear hw1 hmx))
   | (go_at_call 263;refine (integer_any a _ (by omega)).mono ?_;rintro e w2 ⟨rfl,hb2⟩;rw [HI.out.1,HI.out.2];dsimp only;rw [beta_ba];have HB2:=Lib.hid (HB1.out.trans (hb2.mono HB1.out.size));have HP2:=Lib.hid (HP1.out.below hb2 HP1.out.lt);obtain ⟨h20,h21,h22,h23,h24,h25⟩:=cells6 HP2.out;clear hb2)
   | (clear TK1;go_at_call 265;refine (parse_any n2 _ HG.out.1 (by omega)).mono ?_;rintro e w4 ⟨v4,rfl,hv4,hb4⟩;obtain ⟨A4,c4,rfl,_,_,_⟩:=id hv4;have HV4:=Lib.hid hv4;have HB4:=Lib.hid (HB2.out.trans (hb4.mono HB2.out.size));have HP4:=Lib.hid (HP2.out.below hb4 HP2.out.lt);clear hv4 hb4)
   | (go_at_call 265;refine (parse_any (⟨#[49]⟩:ByteArray) _ HG.out.2 (by first|omega|decide)).mono ?_;rintro e w5 ⟨v5,rfl,hv5,hb5⟩;obtain ⟨A5,c5,rfl,_,_,_⟩:=id hv5;have HV5:=Lib.hid hv5;have HV4':=Lib.hid (HV4.out.below hb5);have HB5:=Lib.hid (HB4.out.trans (hb5.mono HB4.out.size));have HP5:=Lib.hid (HP4.out.below hb5 HP4.out.lt);obtain ⟨h50,h51,h52,h53,h54,h55⟩:=cells6A HP5.out;clear hv5 hb5))
  refine ret_frac2 rfl rfl (by simp) (set3 ((HP5.out).alloc _)) ⟨_,rfl,?_,?_⟩
  ·have hx:=(Below.refl w5.heap.size w5).alloc (Nat.le_refl _) (.cells #[.bool m,.slice A4 (toL (dv n2.data.toList)).length c4,.slice A5 (toL 1).length c5] 216)
   exact isParts_mk (isNat_set3 (HV4'.out.below hx) (HP5.out.alloc _)) (isNat_set3 (HV5.out.below hx) (HP5.out.alloc _))
  ·exact set3_below (g:=w.heap.size) (HB5.out.alloc HB5.out.size _) (Nat.le_refl _)
theorem parse_bad1 (s a b n2:ByteArray) (m sl ok:Bool) (w:World) (hr:Res w) (hs:s.size≤270000) (ha:a.size≤270000) (_hb:b.size≤270000) (_hn:n2.size≤270000) (hc:Lib.cut s.data.toList [47]=(a.data.toList,b.data.toList,sl))
  (hi:intP a.data.toList=(m,n2.data.toList)) (hok:intOk a.data.toList=ok) (hsl:sl=true) (h0:ok=false) :
  Calls Tryz.prog 217 #[.string s] w fun e w'=>∃ v,v=zV∧e=.returned (.tuple #[v,.int .i64 3])∧Below w.heap.size w w':=by
 have HR:=Lib.hid hr
 have HC:=Lib.hid hc
 have HI:=Lib.hid (And.intro hi hok)
 have HB0:=Lib.hid ((Below.refl w.heap.size w).alloc (Nat.le_refl _) zF)
 have TK1:True:=trivial
 clear hr hc hi hok
 subst hsl h0
 ·go_enter Tryz.func217,Tryz.ntmps217
  go_wp2_with (first
   | (go_at_call 262;(obtain ⟨mx,hmx⟩:=max_of (HR.out.below HB0.out);refine (Tryz.strings_Cut s ⟨#[47]⟩ mx _ (by omega) hmx).mono ?_;rintro e w1 ⟨rfl,k,hw1⟩;rw [show Lib.cut s.data.toList (⟨#[47]⟩:ByteArray).data.toList=_ from HC.out];dsimp only;rw [beta_ba,beta_ba];have HB1:=Lib.hid (show Below w.heap.size w w1 by rw [hw1];exact below_drewN HB0.out);have HP1:=Lib.hid (show Blk w1 w.heap.size 216 #[.bool false,.slice none 0 0,.slice none 0 0] by rw [hw1];exact z_new w);clear hw1 hmx))
   | (go_at_call 263;refine (integer_any a _ (by omega)).mono ?_;rintro e w2 ⟨rfl,hb2⟩;rw [HI.out.1,HI.out.2];dsimp only;rw [beta_ba];have HB2:=Lib.hid (HB1.out.trans (hb2.mono HB1.out.size));have HP2:=Lib.hid (HP1.out.below hb2 HP1.out.lt);obtain ⟨h20,h21,h22,h23,h24,h25⟩:=cells6 HP2.out;clear hb2))
  refine ret_frac2 rfl rfl (by simp) (set3 HP2.out) ⟨_,rfl,rfl,?_⟩
  exact set3_below (g:=w.heap.size) HB2.out (Nat.le_refl _)
theorem parse_bad2 (s a b n2:ByteArray) (m sl ok:Bool) (w:World) (hr:Res w) (hs:s.size≤270000) (ha:a.size≤270000) (_hb:b.size≤270000) (_hn:n2.size≤270000) (hc:Lib.cut s.data.toList [47]=(a.data.toList,b.data.toList,sl))
  (hi:intP a.data.toList=(m,n2.data.toList)) (hok:intOk a.data.toList=ok) (hsl:sl=true) (h0:ok=true) (z0:(n2.toList==[48])=true) :
  Calls Tryz.prog 217 #[.string s] w fun e w'=>∃ v,v=zV∧e=.returned (.tuple #[v,.int .i64 3])∧Below w.heap.size w w':=by
 have HR:=Lib.hid hr
 have HC:=Lib.hid hc
 have HI:=Lib.hid (And.intro hi hok)
 have HB0:=Lib.hid ((Below.refl w.heap.size w).alloc (Nat.le_refl _) zF)
 have TK1:True:=trivial
 clear hr hc hi hok
 subst hsl h0
 ·go_enter Tryz.func217,Tryz.ntmps217
  go_wp2_with (first
   | (go_at_call 262;(obtain ⟨mx,hmx⟩:=max_of (HR.out.below HB0.out);refine (Tryz.strings_Cut s ⟨#[47]⟩ mx _ (by omega) hmx).mono ?_;rintro e w1 ⟨rfl,k,hw1⟩;rw [show Lib.cut s.data.toList (⟨#[47]⟩:ByteArray).data.toList=_ from HC.out];dsimp only;rw [beta_ba,beta_ba];have HB1:=Lib.hid (show Below w.heap.size w w1 by rw [hw1];exact below_drewN HB0.out);have HP1:=Lib.hid (show Blk w1 w.heap.size 216 #[.bool false,.slice none 0 0,.slice none 0 0] by rw [hw1];exact z_new w);clear hw1 hmx))
   | (go_at_call 263;refine (integer_any a _ (by omega)).mono ?_;rintro e w2 ⟨rfl,hb2⟩;rw [HI.out.1,HI.out.2];dsimp only;rw [beta_ba];have HB2:=Lib.hid (HB1.out.trans (hb2.mono HB1.out.size));have HP2:=Lib.hid (HP1.out.below hb2 HP1.out.lt);obtain ⟨h20,h21,h22,h23,h24,h25⟩:=cells6 HP2.out;clear hb2))
  refine ret_frac2 rfl rfl (by simp) (set3 HP2.out) ⟨_,rfl,rfl,?_⟩
  exact set3_below (g:=w.heap.size) HB2.out (Nat.le_refl _)
theorem parse_bad3 (s a b n2:ByteArray) (m sl ok:Bool) (w:World) (hr:Res w) (hs:s.size≤270000) (ha:a.size≤270000) (hb:b.size≤270000) (_hn:n2.size≤270000) (hc:Lib.cut s.data.toList [47]=(a.data.toList,b.data.toList,sl))
  (hi:intP a.data.toList=(m,n2.data.toList)) (hok:intOk a.data.toList=ok) (hsl:sl=true) (h0:ok=true) (z0:(n2.toList==[48])=false) (hF:NForm b.data.toList=false) :
  Calls Tryz.prog 217 #[.string s] w fun e w'=>∃ v,v=zV∧e=.returned (.tuple #[v,.int .i64 3])∧Below w.heap.size w w':=by
 have HR:=Lib.hid hr
 have HC:=Lib.hid hc
 have HI:=Lib.hid (And.intro hi hok)
 have HB0:=Lib.hid ((Below.refl w.heap.size w).alloc (Nat.le_refl _) zF)
 have TK1:True:=trivial
 clear hr hc hi hok
 have HF:=Lib.hid hF
 clear hF
 subst hsl h0
 ·go_enter Tryz.func217,Tryz.ntmps217
  go_wp2_with (first
   | (go_at_call 262;(obtain ⟨mx,hmx⟩:=max_of (HR.out.below HB0.out);refine (Tryz.strings_Cut s ⟨#[47]⟩ mx _ (by omega) hmx).mono ?_;rintro e w1 ⟨rfl,k,hw1⟩;rw [show Lib.cut s.data.toList (⟨#[47]⟩:ByteArray).data.toList=_ from HC.out];dsimp only;rw [beta_ba,beta_ba];have HB1:=Lib.hid (show Below w.heap.size w w1 by rw [hw1];exact below_drewN HB0.out);have HP1:=Lib.hid (show Blk w1 w.heap.size 216 #[.bool false,.slice none 0 0,.slice none 0 0] by rw [hw1];exact z_new w);clear hw1 hmx))
   | (go_at_call 263;refine (integer_any a _ (by omega)).mono ?_;rintro e w2 ⟨rfl,hb2⟩;rw [HI.out.1,HI.out.2];dsimp only;rw [beta_ba];have HB2:=Lib.hid (HB1.out.trans (hb2.mono HB1.out.size));have HP2:=Lib.hid (HP1.out.below hb2 HP1.out.lt);obtain ⟨h20,h21,h22,h23,h24,h25⟩:=cells6 HP2.out;clear hb2)
   | (go_at_call 264;refine (form_any b _ (by omega)).mono ?_;rintro e w3 ⟨rfl,hb3⟩;rw [HF.out];have HB3:=Lib.hid (HB2.out.trans (hb3.mono HB2.out.size));have HP3:=Lib.hid (HP2.out.below hb3 HP2.out.lt);obtain ⟨h30,h31,h32,h33,h34,h35⟩:=cells6 HP3.out;clear hb3))
  refine ret_frac2 rfl rfl (by simp) (set3 HP3.out) ⟨_,rfl,rfl,?_⟩
  exact set3_below (g:=w.heap.size) HB3.out (Nat.le_refl _)
theorem parse_bad4 (s a b n2:ByteArray) (m sl ok:Bool) (w:World) (hr:Res w) (hs:s.size≤270000) (ha:a.size≤270000) (hb:b.size≤270000) (_hn:n2.size≤270000) (hc:Lib.cut s.data.toList [47]=(a.data.toList,b.data.toList,sl))
  (hi:intP a.data.toList=(m,n2.data.toList)) (hok:intOk a.data.toList=ok) (hsl:sl=true) (h0:ok=true) (z0:(n2.toList==[48])=false) (hF:NForm b.data.toList=true) (z1:(b.toList==[48])=true) :
  Calls Tryz.prog 217 #[.string s] w fun e w'=>∃ v,v=zV∧e=.returned (.tuple #[v,.int .i64 3])∧Below w.heap.size w w':=by
 have HR:=Lib.hid hr
 have HC:=Lib.hid hc
 have HI:=Lib.hid (And.intro hi hok)
 have HB0:=Lib.hid ((Below.refl w.heap.size w).alloc (Nat.le_refl _) zF)
 have TK1:True:=trivial
 clear hr hc hi hok
 have HF:=Lib.hid hF
 clear hF
 subst hsl h0
 ·go_enter Tryz.func217,Tryz.ntmps217
  go_wp2_with (first
   | (go_at_call 262;(obtain ⟨mx,hmx⟩:=max_of (HR.out.below HB0.out);refine (Tryz.strings_Cut s ⟨#[47]⟩ mx _ (by omega) hmx).mono ?_;rintro e w1 ⟨rfl,k,hw1⟩;rw [show Lib.cut s.data.toList (⟨#[47]⟩:ByteArray).data.toList=_ from HC.out];dsimp only;rw [beta_ba,beta_ba];have HB1:=Lib.hid (show Below w.heap.size w w1 by rw [hw1];exact below_drewN HB0.out);have HP1:=Lib.hid (show Blk w1 w.heap.size 216 #[.bool false,.slice none 0 0,.slice none 0 0] by rw [hw1];exact z_new w);clear hw1 hmx))
   | (go_at_call 263;refine (integer_any a _ (by omega)).mono ?_;rintro e w2 ⟨rfl,hb2⟩;rw [HI.out.1,HI.out.2];dsimp only;rw [beta_ba];have HB2:=Lib.hid (HB1.out.trans (hb2.mono HB1.out.size));have HP2:=Lib.hid (HP1.out.below hb2 HP1.out.lt);obtain ⟨h20,h21,h22,h23,h24,h25⟩:=cells6 HP2.out;clear hb2)
   | (go_at_call 264;refine (form_any b _ (by omega)).mono ?_;rintro e w3 ⟨rfl,hb3⟩;rw [HF.out];have HB3:=Lib.hid (HB2.out.trans (hb3.mono HB2.out.size));have HP3:=Lib.hid (HP2.out.below hb3 HP2.out.lt);obtain ⟨h30,h31,h32,h33,h34,h35⟩:=cells6 HP3.out;clear hb3))
  refine ret_frac2 rfl rfl (by simp) (set3 HP3.out) ⟨_,rfl,rfl,?_⟩
  exact set3_below (g:=w.heap.size) HB3.out (Nat.le_refl _)
theorem parse_bad5 (s a b n2:ByteArray) (m sl ok:Bool) (w:World) (hr:Res w) (hs:s.size≤270000) (ha:a.size≤270000) (hb:b.size≤270000) (_hn:n2.size≤270000) (hc:Lib.cut s.data.toList [47]=(a.data.toList,b.data.toList,sl))
  (hi:intP a.data.toList=(m,n2.data.toList)) (hok:intOk a.data.toList=ok) (hsl:sl=true) (h0:ok=true) (z0:(n2.toList==[48])=false) (hF:NForm b.data.toList=true) (z1:(b.toList==[48])=false) (z2:(b.toList==[49])=true) :
  Calls Tryz.prog 217 #[.string s] w fun e w'=>∃ v,v=zV∧e=.returned (.tuple #[v,.int .i64 3])∧Below w.heap.size w w':=by
 have HR:=Lib.hid hr
 have HC:=Lib.hid hc
 have HI:=Lib.hid (And.intro hi hok)
 have HB0:=Lib.hid ((Below.refl w.heap.size w).alloc (Nat.le_refl _) zF)
 have TK1:True:=trivial
 clear hr hc hi hok
 have HF:=Lib.hid hF
 clear hF
 subst hsl h0
 ·go_enter Tryz.func217,Tryz.ntmps217
  go_wp2_with (first
   | (go_at_call 262;(obtain ⟨mx,hmx⟩:=max_of (HR.out.below HB0.out);refine (Tryz.strings_Cut s ⟨#[47]⟩ mx _ (by omega) hmx).mono ?_;rintro e w1 ⟨rfl,k,hw1⟩;rw [show Lib.cut s.data.toList (⟨#[47]⟩:ByteArray).data.toList=_ from HC.out];dsimp only;rw [beta_ba,beta_ba];have HB1:=Lib.hid (show Below w.heap.size w w1 by rw [hw1];exact below_drewN HB0.out);have HP1:=Lib.hid (show Blk w1 w.heap.size 216 #[.bool false,.slice none 0 0,.slice none 0 0] by rw [hw1];exact z_new w);clear hw1 hmx))
   | (go_at_call 263;refine (integer_any a _ (by omega)).mono ?_;rintro e w2 ⟨rfl,hb2⟩;rw [HI.out.1,HI.out.2];dsimp only;rw [beta_ba];have HB2:=Lib.hid (HB1.out.trans (hb2.mono HB1.out.size));have HP2:=Lib.hid (HP1.out.below hb2 HP1.out.lt);obtain ⟨h20,h21,h22,h23,h24,h25⟩:=cells6 HP2.out;clear hb2)
   | (go_at_call 264;refine (form_any b _ (by omega)).mono ?_;rintro e w3 ⟨rfl,hb3⟩;rw [HF.out];have HB3:=Lib.hid (HB2.out.trans (hb3.mono HB2.out.size));have HP3:=Lib.hid (HP2.out.below hb3 HP2.out.lt);obtain ⟨h30,h31,h32,h33,h34,h35⟩:=cells6 HP3.out;clear hb3))
  refine ret_frac2 rfl rfl (by simp) (set3 HP3.out) ⟨_,rfl,rfl,?_⟩
  exact set3_below (g:=w.heap.size) HB3.out (Nat.le_refl _)
theorem parse_long1 (s a b n2:ByteArray) (m sl ok:Bool) (w:World) (hr:Res w) (hs:s.size≤270000) (ha:a.size≤270000) (hb:b.size≤270000) (hn:n2.size≤270000) (hc:Lib.cut s.data.toList [47]=(a.data.toList,b.data.toList,sl))
  (hi:intP a.data.toList=(m,n2.data.toList)) (hok:intOk a.data.toList=ok) (hsl:sl=true) (h0:ok=true) (z0:(n2.toList==[48])=false) (hF:NForm b.data.toList=true) (z1:(b.toList==[48])=false) (z2:(b.toList==[49])=false) (hl:4000 < n2.size) :
  Calls Tryz.prog 217 #[.string s] w fun e w'=>∃ v,v=zV∧e=.returned (.tuple #[v,.int .i64 5])∧Below w.heap.size w w':=by
 have HR:=Lib.hid hr
 have HC:=Lib.hid hc
 have HI:=Lib.hid (And.intro hi hok)
 have HB0:=Lib.hid ((Below.refl w.heap.size w).alloc (Nat.le_refl _) zF)
 have TK1:True:=trivial
 clear hr hc hi hok
 have HF:=Lib.hid hF
 have hl1:decide ((4000:Int) < (n2.size:Int))=true:=decide_eq_true (by omega)
 clear hF hl
 subst hsl h0
 ·go_enter Tryz.func217,Tryz.ntmps217
  go_wp2_with (first
   | (go_at_call 262;(obtain ⟨mx,hmx⟩:=max_of (HR.out.below HB0.out);refine (Tryz.strings_Cut s ⟨#[47]⟩ mx _ (by omega) hmx).mono ?_;rintro e w1 ⟨rfl,k,hw1⟩;rw [show Lib.cut s.data.toList (⟨#[47]⟩:ByteArray).data.toList=_ from HC.out];dsimp only;rw [beta_ba,beta_ba];have HB1:=Lib.hid (show Below w.heap.size w w1 by rw [hw1];exact below_drewN HB0.out);have HP1:=Lib.hid (show Blk w1 w.heap.size 216 #[.bool false,.slice none 0 0,.slice none 0 0] by rw [hw1];exact z_new w);clear hw1 hmx))
   | (go_at_call 263;refine (integer_any a _ (by omega)).mono ?_;rintro e w2 ⟨rfl,hb2⟩;rw [HI.out.1,HI.out.2];dsimp only;rw [beta_ba];have HB2:=Lib.hid (HB1.out.trans (hb2.mono HB1.out.size));have HP2:=Lib.hid (HP1.out.below hb2 HP1.out.lt);obtain ⟨h20,h21,h22,h23,h24,h25⟩:=cells6 HP2.out;clear hb2)
   | (go_at_call 264;refine (form_any b _ (by omega)).mono ?_;rintro e w3 ⟨rfl,hb3⟩;rw [HF.out];have HB3:=Lib.hid (HB2.out.trans (hb3.mono HB2.out.size));have HP3:=Lib.hid (HP2.out.below hb3 HP2.out.lt);obtain ⟨h30,h31,h32,h33,h34,h35⟩:=cells6 HP3.out;clear hb3))
  refine ret_frac2 rfl rfl (by simp) (set3 HP3.out) ⟨_,rfl,rfl,?_⟩
  exact set3_below (g:=w.heap.size) HB3.out (Nat.le_refl _)
theorem parse_long2 (s a b n2:ByteArray) (m sl ok:Bool) (w:World) (hr:Res w) (hs:s.size≤270000) (ha:a.size≤270000) (hb:b.size≤270000) (hn:n2.size≤270000) (hc:Lib.cut s.data.toList [47]=(a.data.toList,b.data.toList,sl))
  (hi:intP a.data.toList=(m,n2.data.toList)) (hok:intOk a.data.toList=ok) (hsl:sl=true) (h0:ok=true) (z0:(n2.toList==[48])=false) (hF:NForm b.data.toList=true) (z1:(b.toList==[48])=false) (z2:(b.toList==[49])=false) (hl:n2.size≤4000) (hm:4000 < b.size) :
  Calls Tryz.prog 217 #[.string s] w fun e w'=>∃ v,v=zV∧e=.returned (.tuple #[v,.int .i64 5])∧Below w.heap.size w w':=by
 have HR:=Lib.hid hr
 have HC:=Lib.hid hc
 have HI:=Lib.hid (And.intro hi hok)
 have HB0:=Lib.hid ((Below.refl w.heap.size w).alloc (Nat.le_refl _) zF)
 have TK1:True:=trivial
 clear hr hc hi hok
 have HF:=Lib.hid hF
 have hl1:decide ((4000:Int) < (n2.size:Int))=false:=decide_eq_false (by omega)
 have hl2:decide ((4000:Int) < (b.size:Int))=true:=decide_eq_true (by omega)
 clear hF hl hm
 subst hsl h0
 ·go_enter Tryz.func217,Tryz.ntmps217
  go_wp2_with (first
   | (go_at_call 262;(obtain ⟨mx,hmx⟩:=max_of (HR.out.below HB0.out);refine (Tryz.strings_Cut s ⟨#[47]⟩ mx _ (by omega) hmx).mono ?_;rintro e w1 ⟨rfl,k,hw1⟩;rw [show Lib.cut s.data.toList (⟨#[47]⟩:ByteArray).data.toList=_ from HC.out];dsimp only;rw [beta_ba,beta_ba];have HB1:=Lib.hid (show Below w.heap.size w w1 by rw [hw1];exact below_drewN HB0.out);have HP1:=Lib.hid (show Blk w1 w.heap.size 216 #[.bool false,.slice none 0 0,.slice none 0 0] by rw [hw1];exact z_new w);clear hw1 hmx))
   | (go_at_call 263;refine (integer_any a _ (by omega)).mono ?_;rintro e w2 ⟨rfl,hb2⟩;rw [HI.out.1,HI.out.2];dsimp only;rw [beta_ba];have HB2:=Lib.hid (HB1.out.trans (hb2.mono HB1.out.size));have HP2:=Lib.hid (HP1.out.below hb2 HP1.out.lt);obtain ⟨h20,h21,h22,h23,h24,h25⟩:=cells6 HP2.out;clear hb2)
   | (go_at_call 264;refine (form_any b _ (by omega)).mono ?_;rintro e w3 ⟨rfl,hb3⟩;rw [HF.out];have HB3:=Lib.hid (HB2.out.trans (hb3.mono HB2.out.size));have HP3:=Lib.hid (HP2.out.below hb3 HP2.out.lt);obtain ⟨h30,h31,h32,h33,h34,h35⟩:=cells6 HP3.out;clear hb3))
  refine ret_frac2 rfl rfl (by simp) (set3 HP3.out) ⟨_,rfl,rfl,?_⟩
  exact set3_below (g:=w.heap.size) HB3.out (Nat.le_refl _)
theorem parse_gcd (s a b n2:ByteArray) (m sl ok:Bool) (w:World) (hr:Res w) (hs:s.size≤270000) (ha:a.size≤270000) (hb:b.size≤270000) (hn:n2.size≤270000) (hc:Lib.cut s.data.toList [47]=(a.data.toList,b.data.toList,sl))
  (hi:intP a.data.toList=(m,n2.data.toList)) (hok:intOk a.data.toList=ok) (hsl:sl=true) (h0:ok=true) (z0:(n2.toList==[48])=false) (hF:NForm b.data.toList=true) (z1:(b.toList==[48])=false) (z2:(b.toList==[49])=false) (hl:n2.size≤4000) (hm:b.size≤4000) (hd:Dg n2.data.toList) (hd':Dg b.data.toList) (ll:(toL (dv n2.data.toList)).length≤30000∧(toL (dv b.data.toList)).length≤30000) (hg:(dv n2.data.toList).gcd (dv b.data.toList)≠1) :
  Calls Tryz.prog 217 #[.string s] w fun e w'=>∃ v,v=zV∧e=.returned (.tuple #[v,.int .i64 3])∧Below w.heap.size w w':=by
 have HR:=Lib.hid hr
 have HC:=Lib.hid hc
 have HI:=Lib.hid (And.intro hi hok)
 have HB0:=Lib.hid ((Below.refl w.heap.size w).alloc (Nat.le_refl _) zF)
 have TK1:True:=trivial
 clear hr hc hi hok
 have HF:=Lib.hid hF
 have hl1:decide ((4000:Int) < (n2.size:Int))=false:=decide_eq_false (by omega)
 have hl2:decide ((4000:Int) < (b.size:Int))=false:=decide_eq_false (by omega)
 have HG:=Lib.hid (And.intro hd hd')
 have HLL:=Lib.hid ll
 clear hF hl hm hd hd' ll
 have HGC:=Lib.hid (decide_eq_false hg)
 clear hg
 subst hsl h0
 ·go_enter Tryz.func217,Tryz.ntmps217
  go_wp2_with (first
   | (go_at_call 262;(obtain ⟨mx,hmx⟩:=max_of (HR.out.below HB0.out);refine (Tryz.strings_Cut s ⟨#[47]⟩ mx _ (by omega) hmx).mono ?_;rintro e w1 ⟨rfl,k,hw1⟩;rw [show Lib.cut s.data.toList (⟨#[47]⟩:ByteArray).data.toList=_ from HC.out];dsimp only;rw [beta_ba,beta_ba];have HB1:=Lib.hid (show Below w.heap.size w w1 by rw [hw1];exact below_drewN HB0.out);have HP1:=Lib.hid (show Blk w1 w.heap.size 216 #[.bool false,.slice none 0 0,.slice none 0 0] by rw [hw1];exact z_new w);clear hw1 hmx))
   | (go_at_call 263;refine (integer_any a _ (by omega)).mono ?_;rintro e w2 ⟨rfl,hb2⟩;rw [HI.out.1,HI.out.2];dsimp only;rw [beta_ba];have HB2:=Lib.hid (HB1.out.trans (hb2.mono HB1.out.size));have HP2:=Lib.hid (HP1.out.below hb2 HP1.out.lt);obtain ⟨h20,h21,h22,h23,h24,h25⟩:=cells6 HP2.out;clear hb2)
   | (go_at_call 264;refine (form_any b _ (by omega)).mono ?_;rintro e w3 ⟨rfl,hb3⟩;rw [HF.out];have HB3:=Lib.hid (HB2.out.trans (hb3.mono HB2.out.size));have HP3:=Lib.hid (HP2.out.below hb3 HP2.out.lt);obtain ⟨h30,h31,h32,h33,h34,h35⟩:=cells6 HP3.out;clear hb3)
   | (clear TK1;go_at_call 265;refine (parse_any n2 _ HG.out.1 (by omega)).mono ?_;rintro e w4 ⟨v4,rfl,hv4,hb4⟩;obtain ⟨A4,c4,rfl,_,_,_⟩:=id hv4;have HV4:=Lib.hid hv4;have HB4:=Lib.hid (HB3.out.trans (hb4.mono HB3.out.size));have HP4:=Lib.hid (HP3.out.below hb4 HP3.out.lt);clear hv4 hb4)
   | (go_at_call 265;refine (parse_any b _ HG.out.2 (by first|omega|decide)).mono ?_;rintro e w5 ⟨v5,rfl,hv5,hb5⟩;obtain ⟨A5,c5,rfl,_,_,_⟩:=id hv5;have HV5:=Lib.hid hv5;have HV4':=Lib.hid (HV4.out.below hb5);have HB5:=Lib.hid (HB4.out.trans (hb5.mono HB4.out.size));have HP5:=Lib.hid (HP4.out.below hb5 HP4.out.lt);obtain ⟨h50,h51,h52,h53,h54,h55⟩:=cells6A HP5.out;clear hv5 hb5)
   | (go_at_call 266;have HX5:=Lib.hid ((Below.refl w5.heap.size w5).alloc (Nat.le_refl _) (.cells #[.bool m,.slice A4 (toL (dv n2.data.toList)).length c4,.slice A5 (toL (dv b.data.toList)).length c5] 216));refine (gcd_any (dv n2.data.toList) (dv b.data.toList) _ _ _ (HV4'.out.below HX5.out) (HV5.out.below HX5.out) HLL.out.1 HLL.out.2).mono ?_;rintro e w6 ⟨v6,rfl,hv6,hb6⟩;have HV6:=Lib.hid hv6;have HX6:=Lib.hid (HX5.out.trans (hb6.mono HX5.out.size));have HP6:=Lib.hid (HP5.out.below HX6.out HP5.out.lt);have HT6:=Lib.hid ((Blk.new w5 _ _).below hb6 (by simp));obtain ⟨h60,h61,h62,h63,h64,h65⟩:=cells6 HP6.out;obtain ⟨t60,t61,t62⟩:=rows_of HT6.out (Below.refl w6.heap.size w6) HT6.out.lt;clear hv6 hb6)
   | (go_at_call 252;refine (one_any ((dv n2.data.toList).gcd (dv b.data.toList)) _ _ HV6.out).mono ?_;rintro e w7 ⟨rfl,hw7⟩;subst hw7;rw [HGC.out]))
  refine ret_frac2 rfl rfl (by simp) (set3 HP6.out) ⟨_,rfl,rfl,?_⟩
  exact set3_below (g:=w.heap.size) (HB5.out.trans (HX6.out.mono HB5.out.size)) (Nat.le_refl _)
theorem parse_ok (s a b n2:ByteArray) (m sl ok:Bool) (w:World) (hr:Res w) (hs:s.size≤270000) (ha:a.size≤270000) (hb:b.size≤270000) (hn:n2.size≤270000) (hc:Lib.cut s.data.toList [47]=(a.data.toList,b.data.toList,sl))
  (hi:intP a.data.toList=(m,n2.data.toList)) (hok:intOk a.data.toList=ok) (hsl:sl=true) (h0:ok=true) (z0:(n2.toList==[48])=false) (hF:NForm b.data.toList=true) (z1:(b.toList==[48])=false) (z2:(b.toList==[49])=false) (hl:n2.size≤4000) (hm:b.size≤4000) (hd:Dg n2.data.toList) (hd':Dg b.data.toList) (ll:(toL (dv n2.data.toList)).length≤30000∧(toL (dv b.data.toList)).length≤30000) (hg:(dv n2.data.toList).gcd (dv b.data.toList)=1) :
  Calls Tryz.prog 217 #[.string s] w fun e w'=>∃ v,e=.returned (.tuple #[v,.int .i64 0])∧IsParts w' v m (dv n2.data.toList) (dv b.data.toList)∧Below w.heap.size w w':=by
 have HR:=Lib.hid hr
 have HC:=Lib.hid hc
 have HI:=Lib.hid (And.intro hi hok)
 have HB0:=Lib.hid ((Below.refl w.heap.size w).alloc (Nat.le_refl _) zF)
 have TK1:True:=trivial
 clear hr hc hi hok
 have HF:=Lib.hid hF
 have hl1:decide ((4000:Int) < (n2.size:Int))=false:=decide_eq_false (by omega)
 have hl2:decide ((4000:Int) < (b.size:Int))=false:=decide_eq_false (by omega)
 have HG:=Lib.hid (And.intro hd hd')
 have HLL:=Lib.hid ll
 clear hF hl hm hd hd' ll
 have HGC:=Lib.hid (decide_eq_true hg)
 clear hg
 subst hsl h0
 ·go_enter Tryz.func217,Tryz.ntmps217
  go_wp2_with (first
   | (go_at_call 262;(obtain ⟨mx,hmx⟩:=max_of (HR.out.below HB0.out);refine (Tryz.strings_Cut s ⟨#[47]⟩ mx _ (by omega) hmx).mono ?_;rintro e w1 ⟨rfl,k,hw1⟩;rw [show Lib.cut s.data.toList (⟨#[47]⟩:ByteArray).data.toList=_ from HC.out];dsimp only;rw [beta_ba,beta_ba];have HB1:=Lib.hid (show Below w.heap.size w w1 by rw [hw1];exact below_drewN HB0.out);have HP1:=Lib.hid (show Blk w1 w.heap.size 216 #[.bool false,.slice none 0 0,.slice none 0 0] by rw [hw1];exact z_new w);clear hw1 hmx))
   | (go_at_call 263;refine (integer_any a _ (by omega)).mono ?_;rintro e w2 ⟨rfl,hb2⟩;rw [HI.out.1,HI.out.2];dsimp only;rw [beta_ba];have HB2:=Lib.hid (HB1.out.trans (hb2.mono HB1.out.size));have HP2:=Lib.hid (HP1.out.below hb2 HP1.out.lt);obtain ⟨h20,h21,h22,h23,h24,h25⟩:=cells6 HP2.out;clear hb2)
   | (go_at_call 264;refine (form_any b _ (by omega)).mono ?_;rintro e w3 ⟨rfl,hb3⟩;rw [HF.out];have HB3:=Lib.hid (HB2.out.trans (hb3.mono HB2.out.size));have HP3:=Lib.hid (HP2.out.below hb3 HP2.out.lt);obtain ⟨h30,h31,h32,h33,h34,h35⟩:=cells6 HP3.out;clear hb3)
   | (clear TK1;go_at_call 265;refine (parse_any n2 _ HG.out.1 (by omega)).mono ?_;rintro e w4 ⟨v4,rfl,hv4,hb4⟩;obtain ⟨A4,c4,rfl,_,_,_⟩:=id hv4;have HV4:=Lib.hid hv4;have HB4:=Lib.hid (HB3.out.trans (hb4.mono HB3.out.size));have HP4:=Lib.hid (HP3.out.below hb4 HP3.out.lt);clear hv4 hb4)
   | (go_at_call 265;refine (parse_any b _ HG.out.2 (by first|omega|decide)).mono ?_;rintro e w5 ⟨v5,rfl,hv5,hb5⟩;obtain ⟨A5,c5,rfl,_,_,_⟩:=id hv5;have HV5:=Lib.hid hv5;have HV4':=Lib.hid (HV4.out.below hb5);have HB5:=Lib.hid (HB4.out.trans (hb5.mono HB4.out.size));have HP5:=Lib.hid (HP4.out.below hb5 HP4.out.lt);obtain ⟨h50,h51,h52,h53,h54,h55⟩:=cells6A HP5.out;clear hv5 hb5)
   | (go_at_call 266;have HX5:=Lib.hid ((Below.refl w5.heap.size w5).alloc (Nat.le_refl _) (.cells #[.bool m,.slice A4 (toL (dv n2.data.toList)).length c4,.slice A5 (toL (dv b.data.toList)).length c5] 216));refine (gcd_any (dv n2.data.toList) (dv b.data.toList) _ _ _ (HV4'.out.below HX5.out) (HV5.out.below HX5.out) HLL.out.1 HLL.out.2).mono ?_;rintro e w6 ⟨v6,rfl,hv6,hb6⟩;have HV6:=Lib.hid hv6;have HX6:=Lib.hid (HX5.out.trans (hb6.mono HX5.out.size));have HP6:=Lib.hid (HP5.out.below HX6.out HP5.out.lt);have HT6:=Lib.hid ((Blk.new w5 _ _).below hb6 (by simp));obtain ⟨h60,h61,h62,h63,h64,h65⟩:=cells6 HP6.out;obtain ⟨t60,t61,t62⟩:=rows_of HT6.out (Below.refl w6.heap.size w6) HT6.out.lt;clear hv6 hb6)
   | (go_at_call 252;refine (one_any ((dv n2.data.toList).gcd (dv b.data.toList)) _ _ HV6.out).mono ?_;rintro e w7 ⟨rfl,hw7⟩;subst hw7;rw [HGC.out]))
  refine ret_frac2 rfl rfl (by simp) (set3 HP6.out) ⟨_,rfl,?_,?_⟩
  ·exact isParts_mk (isNat_set3 (HV4'.out.below HX6.out) HP6.out) (isNat_set3 (HV5.out.below HX6.out) HP6.out)
  ·exact set3_below (g:=w.heap.size) (HB5.out.trans (HX6.out.mono HB5.out.size)) (Nat.le_refl _)
theorem isFrac_low {w:World} {v:Value} {m:Bool} {n d:Nat} (hd:d≠0) (hg:n.gcd d=1) (hm:m=true→n≠0) (h:IsParts w v m n d):IsFrac w v (mkQ m n d):=by
 obtain ⟨h1,h2,h3⟩:=mkQ_low (m:=m) hd hg
 unfold IsFrac
 rw [h1,h2,h3]
 have:(m&&decide (n≠0))=m:=by
  cases m with
  | false=>rfl
  | true=>simpa using hm rfl
 rw [this]
 exact h
theorem cutQ_le (l:List UInt8):(cutQ l).1.length≤l.length∧((cutQ l).2.getD []).length≤l.length:=by
 rcases cutQ_cases l with ⟨a,r,rfl,hn⟩|hn
 ·rw [cutQ_slash hn];simp;omega
 ·rw [cutQ_none hn];simp
theorem digits_of_form {l:List UInt8} (h:NForm l=true):Lib.nDigits (dv l)=l.length:=by
 have e:=NForm.eq h
 conv=>rhs;rw [← e]
 rw [Lib.decDigits_length]
theorem limbs_of_form {l:List UInt8} (h:NForm l=true) {k:Nat} (hk:l.length≤9*k):(toL (dv l)).length≤k:=by
 refine limbs_of_nd (Nat.le_refl _) ?_
 rw [digits_of_form h]
 exact hk
theorem fparse_any (s:ByteArray) (w:World) (hlen:s.size≤270000) (hr:Res w) :
  Calls Tryz.prog 217 #[.string s] w fun e w'=>∃ v,e=.returned (.tuple #[v,.int .i64 (errQ s.data.toList:Int)])∧(errQ s.data.toList=0→IsFrac w' v (valQ s.data.toList))∧(errQ s.data.toList≠0→v=zV)∧Below w.heap.size w w':=by
 have hcut:=cut_eq s.data.toList
 obtain ⟨hle1,hle2⟩:=cutQ_le s.data.toList
 rw [← size_list] at hle1 hle2
 have hE:errQ s.data.toList=match shapeQ s.data.toList with|none=>3|some (_,n,d,sl)=>if maxD < Lib.nDigits n∨maxD < Lib.nDigits d then 5 else if sl&&n.gcd d != 1 then 3 else 0:=rfl
 have hV:valQ s.data.toList=match shapeQ s.data.toList with|none=>0|some (m,n,d,_)=>mkQ m n d:=rfl
 have hS:shapeQ s.data.toList=if intOk (cutQ s.data.toList).1 then match (cutQ s.data.toList).2 with|none=>some ((intP (cutQ s.data.toList).1).1,dv (intP (cutQ s.data.toList).1).2,1,false)|some d=>if (intP (cutQ s.data.toList).1).2 != [48]&&(NForm d&&(d != [48]&&d != [49])) then some ((intP (cutQ s.data.toList).1).1,dv (intP (cutQ s.data.toList).1).2,dv d,true) else none else none:=rfl
 have hTS:∀ m n d sl,shapeQ s.data.toList=some (m,n,d,sl)→(m=true→n≠0)∧d≠0:=fun m n d sl h=>⟨(text_of_shape h).2.1,(text_of_shape h).2.2.1⟩
 generalize cutQ s.data.toList=c at *
 obtain ⟨la,ob⟩:=c
 dsimp only at hcut hle1 hle2 hS
 have hip:intP la=((intP la).1,(intP la).2):=rfl
 have hile:=intP_le la
 have hokf:intOk la=true→NForm (intP la).2=true:=fun h=>by
  unfold intOk at h
  simp only [Bool.and_eq_true] at h
  exact h.1
 generalize hm:(intP la).1=m at *
 generalize hl:(intP la).2=ln at *
 have err:∀ k:Nat,k≠0→errQ s.data.toList=k→Calls Tryz.prog 217 #[.string s] w (fun e w'=>∃ v,v=zV∧e=.returned (.tuple #[v,.int .i64 (k:Int)])∧Below w.heap.size w w') →
   Calls Tryz.prog 217 #[.string s] w fun e w'=>∃ v,e=.returned (.tuple #[v,.int .i64 (errQ s.data.toList:Int)])∧(errQ s.data.toList=0→IsFrac w' v (valQ s.data.toList))∧(errQ s.data.toList≠0→v=zV)∧Below w.heap.size w w':=fun k hk he h=>by
  rw [he]
  exact h.mono fun e w' ⟨v,hz,h1,h2⟩=>⟨v,h1,fun h0=>absurd h0 hk,fun _=>hz,h2⟩
 have good:∀ (n d:Nat) (sl:Bool),shapeQ s.data.toList=some (m,n,d,sl)→errQ s.data.toList=0→n.gcd d=1→Calls Tryz.prog 217 #[.string s] w (fun e w'=>∃ v,e=.returned (.tuple #[v,.int .i64 0])∧IsParts w' v m n d∧Below w.heap.size w w') →
   Calls Tryz.prog 217 #[.string s] w fun e w'=>∃ v,e=.returned (.tuple #[v,.int .i64 (errQ s.data.toList:Int)])∧(errQ s.data.toList=0→IsFrac w' v (valQ s.data.toList))∧(errQ s.data.toList≠0→v=zV)∧Below w.heap.size w w':=fun n d sl hs he hg h=>by
  rw [he]
  refine h.mono fun e w' ⟨v,h1,h2,h3⟩=>⟨v,h1,fun _=>?_,fun h=>absurd rfl h,h3⟩
  rw [hV,hs]
  obtain ⟨t1,t2⟩:=hTS _ _ _ _ hs
  exact isFrac_low t2 hg t1 h2
 have hsz:∀ l:List UInt8,(⟨l.toArray⟩:ByteArray).size=l.length:=fun l=>List.size_toArray
 have htl:∀ l:List UInt8,(⟨l.toArray⟩:ByteArray).toList=l:=fun l=>by rw [Lib.toList_data]
 have hA:(⟨la.toArray⟩:ByteArray).size≤270000:=by rw [hsz];omega
 have hN:(⟨ln.toArray⟩:ByteArray).size≤270000:=by rw [hsz];omega
 by_cases hok:intOk la=true
 ·have hnf:=hokf hok
  rw [if_pos hok] at hS
  have hnd:=digits_of_form hnf
  cases ob with
  | none =>
   dsimp only at hS hcut
   have hsp:=hS
   rw [hS] at hE
   dsimp only at hE
   rw [hnd,Lib.nDigits_small (by omega:1 < 10)] at hE
   by_cases hlong:4000 < ln.length
   ·rw [if_pos (.inl hlong)] at hE
    exact err 5 (by decide) hE (parse_long_none s ⟨la.toArray⟩ ⟨#[]⟩ ⟨ln.toArray⟩ m _ _ w hr hlen hA (by decide) hN hcut hip hok rfl rfl (by rw [hsz];exact hlong))
   ·rw [if_neg (by unfold maxD;omega)] at hE
    refine good _ _ _ hsp (by rw [hE];rfl) (Nat.gcd_one_right _) ?_
    exact parse_ok_none s ⟨la.toArray⟩ ⟨#[]⟩ ⟨ln.toArray⟩ m _ _ w hr hlen hA (by decide) hN hcut hip hok rfl rfl (by rw [hsz];omega) (dg_of_form hnf)
  | some d =>
   dsimp only [Option.getD] at hS hcut hle2
   have hB:(⟨d.toArray⟩:ByteArray).size≤270000:=by rw [hsz];omega
   by_cases z0:(ln==[48])=true
   ·rw [if_neg (by simp [bne,z0])] at hS
    rw [hS] at hE
    exact err 3 (by decide) hE (parse_bad2 s ⟨la.toArray⟩ ⟨d.toArray⟩ ⟨ln.toArray⟩ m _ _ w hr hlen hA hB hN hcut hip hok rfl rfl (by rw [htl];exact z0))
   have z0:(ln==[48])=false:=by simpa using z0
   by_cases hF:NForm d=false
   ·rw [if_neg (by simp [hF])] at hS
    rw [hS] at hE
    exact err 3 (by decide) hE (parse_bad3 s ⟨la.toArray⟩ ⟨d.toArray⟩ ⟨ln.toArray⟩ m _ _ w hr hlen hA hB hN hcut hip hok rfl rfl (by rw [htl];exact z0) hF)
   have hF:NForm d=true:=by simpa using hF
   by_cases z1:(d==[48])=true
   ·rw [if_neg (by simp [bne,z1])] at hS
    rw [hS] at hE
    exact err 3 (by decide) hE (parse_bad4 s ⟨la.toArray⟩ ⟨d.toArray⟩ ⟨ln.toArray⟩ m _ _ w hr hlen hA hB hN hcut hip hok rfl rfl (by rw [htl];exact z0) hF (by rw [htl];exact z1))
   have z1:(d==[48])=false:=by simpa using z1
   by_cases z2:(d==[49])=true
   ·rw [if_neg (by simp [bne,z2])] at hS
    rw [hS] at hE
    exact err 3 (by decide) hE (parse_bad5 s ⟨la.toArray⟩ ⟨d.toArray⟩ ⟨ln.toArray⟩ m _ _ w hr hlen hA hB hN hcut hip hok rfl rfl (by rw [htl];exact z0) hF (by rw [htl];exact z1) (by rw [htl];exact z2))
   have z2:(d==[49])=false:=by simpa using z2
   rw [if_pos (by simp only [bne,z0,hF,z1,z2];rfl)] at hS
   have hsp:=hS
   rw [hS] at hE
   dsimp only at hE
   rw [hnd,digits_of_form hF] at hE
   by_cases hlong:4000 < ln.length
   ·rw [if_pos (.inl hlong)] at hE
    exact err 5 (by decide) hE (parse_long1 s ⟨la.toArray⟩ ⟨d.toArray⟩ ⟨ln.toArray⟩ m _ _ w hr hlen hA hB hN hcut hip hok rfl rfl (by rw [htl];exact z0) hF (by rw [htl];exact z1) (by rw [htl];exact z2) (by rw [hsz];exact hlong))
   by_cases hlong2:4000 < d.length
   ·rw [if_pos (.inr hlong2)] at hE
    exact err 5 (by decide) hE (parse_long2 s ⟨la.toArray⟩ ⟨d.toArray⟩ ⟨ln.toArray⟩ m _ _ w hr hlen hA hB hN hcut hip hok rfl rfl (by rw [htl];exact z0) hF (by rw [htl];exact z1) (by rw [htl];exact z2) (by rw [hsz];omega) (by rw [hsz];exact hlong2))
   rw [if_neg (by unfold maxD;omega)] at hE
   have hll:(toL (dv ln)).length≤30000∧(toL (dv d)).length≤30000:=⟨Nat.le_trans (limbs_of_form hnf (k:=500) (by omega)) (by omega),Nat.le_trans (limbs_of_form hF (k:=500) (by omega)) (by omega)⟩
   by_cases hg:(dv ln).gcd (dv d)=1
   ·rw [hg] at hE
    refine good _ _ _ hsp (by rw [hE];rfl) hg ?_
    exact parse_ok s ⟨la.toArray⟩ ⟨d.toArray⟩ ⟨ln.toArray⟩ m _ _ w hr hlen hA hB hN hcut hip hok rfl rfl (by rw [htl];exact z0) hF (by rw [htl];exact z1) (by rw [htl];exact z2) (by rw [hsz];omega) (by rw [hsz];omega) (dg_of_form hnf) (dg_of_form hF) hll hg
   ·rw [if_pos (by simp [hg])] at hE
    exact err 3 (by decide) hE (parse_gcd s ⟨la.toArray⟩ ⟨d.toArray⟩ ⟨ln.toArray⟩ m _ _ w hr hlen hA hB hN hcut hip hok rfl rfl (by rw [htl];exact z0) hF (by rw [htl];exact z1) (by rw [htl];exact z2) (by rw [hsz];omega) (by rw [hsz];omega) (dg_of_form hnf) (dg_of_form hF) hll hg)
 ·rw [if_neg hok] at hS
  rw [hS] at hE
  have hok':intOk la=false:=by simpa using hok
  cases ob with
  | none=>exact err 3 (by decide) hE (parse_bad_none s ⟨la.toArray⟩ ⟨#[]⟩ ⟨ln.toArray⟩ m _ _ w hr hlen hA (by decide) hN hcut hip hok' rfl rfl)
  | some d=>exact err 3 (by decide) hE (parse_bad1 s ⟨la.toArray⟩ ⟨d.toArray⟩ ⟨ln.toArray⟩ m _ _ w hr hlen hA (by rw [hsz];exact Nat.le_trans hle2 hlen) hN hcut hip hok' rfl rfl)
theorem below_alloc {w W:World} (h:Below w.heap.size w W) (o:Obj):Below w.heap.size w (W.alloc o):=h.alloc h.size o
def Runs (F:FuncId):Prop:=∀ (xs:Array Value) (W:World),Sem.run Tryz.prog (callFunc F xs) W=.ok (.enter F xs) W
theorem runs_of {F : FuncId} {fn : Func} (h : Tryz.prog.funcs[F]? = some fn) (h1 : (fn.name == "runtime.NumGoroutine") = false) (h2 : fn.body.isNone = false) : Runs F := fun xs W => by
 have h1' : fn.name ≠ "runtime.NumGoroutine" := beq_eq_false_iff_ne.1 h1
 have h2':fn.body≠none:=fun e=>by rw [e] at h2;cases h2
 simp [callFunc,go_sem,h,h1',h2']
theorem runs_both1:Runs 243:=runs_of Tryz.func243 (by kernel_rfl) (by kernel_rfl)
theorem runs_both2:Runs 244:=runs_of Tryz.func244 (by kernel_rfl) (by kernel_rfl)
theorem with_err (s:ByteArray) (fv:Value) (w:World) (hlen:s.size≤270000) (hr:Res w) (he:errQ s.data.toList≠0) :
  Calls Tryz.prog 213 #[.string s,fv] w fun e w'=>e=.returned (.tuple #[.string ⟨#[]⟩,.int .i64 (errQ s.data.toList:Int)])∧Below w.heap.size w w':=by
 have HR:=Lib.hid hr
 have hne:((errQ s.data.toList:Int)==0)=false:=by rw [beq_eq_false_iff_ne];omega
 have HE:=Lib.hid he
 have HP:=Lib.hid (fparse_any s w hlen hr)
 clear hr he
 go_enter Tryz.func213,Tryz.ntmps213
 go_wp2_with (go_at_call 217;refine HP.out.mono ?_;rintro e w1 ⟨v,rfl,-,hz,hb⟩;obtain rfl:=hz HE.out;have HB:=Lib.hid hb;clear hb hz)
 refine bodyPost_ret (results_tmp2 rfl _ _ _) rfl ?_
 exact ⟨rfl,below_alloc HB.out _⟩
theorem with_ok (F:FuncId) (hrun:Runs F) (caps:Array Value) (rv:Value) (k:Int) (s:ByteArray) (w:World) (hlen:s.size≤270000) (hr:Res w) (he:errQ s.data.toList=0)
  (hF:∀ v w',Below w.heap.size w w'→Res w'→IsFrac w' v (valQ s.data.toList)→Calls Tryz.prog F (#[v]++caps) w' fun e w''=>e=.returned (.tuple #[rv,.int .i64 k])∧Below w'.heap.size w' w'') :
  Calls Tryz.prog 213 #[.string s,.func (.func F) #[] caps] w fun e w'=>e=.returned (.tuple #[rv,.int .i64 k])∧Below w.heap.size w w':=by
 have HR:=Lib.hid hr
 have hne:((errQ s.data.toList:Int)==0)=true:=by rw [he];rfl
 have HE:=Lib.hid he
 have HP:=Lib.hid (fparse_any s w hlen hr)
 have HF:=Lib.hid hF
 have hrn:=hrun
 unfold Runs at hrn
 clear hr he hF hrun
 go_enter Tryz.func213,Tryz.ntmps213
 go_wp2_with (go_at_call 217;refine HP.out.mono ?_;rintro e w1 ⟨v,rfl,hv,-,hb⟩;obtain ⟨bq,N,D,A,c,A',c',rfl,hn,hd,HQ⟩:=isFrac_open (hv HE.out);have HV:=Lib.hid (hv HE.out);have HB:=Lib.hid hb;clear hb hv hn hd)
 have hx:=below_alloc HB.out (.cells #[.bool bq,.slice A (toL N).length c,.slice A' (toL D).length c'] 216)
 have hx1:Below w1.heap.size w1 (w1.alloc (.cells #[.bool bq,.slice A (toL N).length c,.slice A' (toL D).length c'] 216)):=below_alloc (Below.refl _ _) _
 have HX:=Lib.hid hx
 refine (HF.out _ _ HX.out (HR.out.below HX.out) (HV.out.below hx1)).mono ?_
 rintro e w2 ⟨rfl,hb2⟩
 have HB2:=Lib.hid (HX.out.trans (hb2.mono HX.out.size))
 clear hx hx1 hb2
 go_wp2
 refine bodyPost_ret (results_tmp2 rfl _ _ _) rfl ?_
 exact ⟨rfl,HB2.out⟩
theorem both2_ok (F:FuncId) (hrun:Runs F) (rv:Value) (k:Int) (pf px:Nat) (q q':Rat) (v v':Value) (w:World) (hpf:Boxed w pf 219 (.func (.func F) #[] #[]))
  (hv:IsFrac w v q) (hv':IsFrac w v' q') (vs:Array Value) (hvs:v=.agg vs) (hpx:Blk w px 216 vs) (_hr:Res w)
  (hF:∀ w',Below w.heap.size w w'→Calls Tryz.prog F #[v,v'] w' fun e w''=>e=.returned (.tuple #[rv,.int .i64 k])∧Below w'.heap.size w' w'') :
  Calls Tryz.prog 244 #[v',.pointer (some ⟨pf,0,none⟩),.pointer (some ⟨px,0,none⟩)] w fun e w'=>e=.returned (.tuple #[rv,.int .i64 k])∧Below w.heap.size w w':=by
 obtain ⟨bq,N,D,A,c,A',c',rfl,hn,hd,HQ⟩:=isFrac_open hv
 obtain ⟨bq',N',D',B,d,B',d',rfl,hn',hd',HQ'⟩:=isFrac_open hv'
 obtain rfl:#[.bool bq,.slice A (toL N).length c,.slice A' (toL D).length c']=vs:=by injection hvs
 have hrn:=hrun
 unfold Runs at hrn
 have HF:=Lib.hid hF
 have HX:=Lib.hid (below_alloc (Below.refl w.heap.size w) (.cells #[.bool bq',.slice B (toL N').length d,.slice B' (toL D').length d'] 216))
 have cf:=(bx_below hpf HX.out hpf.lt).cell
 obtain ⟨x0,x1,x2⟩:=rows_of hpx HX.out hpx.lt
 clear hrun hF hn hd hn' hd' hv hv' hpf hvs hpx
 go_enter Tryz.func244,Tryz.ntmps244
 go_wp2
 refine (HF.out _ HX.out).mono ?_
 rintro e w2 ⟨rfl,hb2⟩
 have HB2:=Lib.hid (HX.out.trans (hb2.mono HX.out.size))
 clear hb2
 go_wp2
 refine bodyPost_ret (results_tmp2 rfl _ _ _) rfl ?_
 exact ⟨rfl,HB2.out⟩
section
variable (F:FuncId) (b:ByteArray) (pb pf:Nat) (q:Rat) (v:Value) (w:World)
theorem both1_err (hlen:b.size≤270000) (hpb:Boxed w pb 23 (.string b)) (hpf:Boxed w pf 219 (.func (.func F) #[] #[]))
  (hv:IsFrac w v q) (hr:Res w) (he:errQ b.data.toList≠0) :
  Calls Tryz.prog 243 #[v,.pointer (some ⟨pb,0,none⟩),.pointer (some ⟨pf,0,none⟩)] w fun e w'=>e=.returned (.tuple #[.string ⟨#[]⟩,.int .i64 (errQ b.data.toList:Int)])∧Below w.heap.size w w':=by
 obtain ⟨bq,N,D,A,c,A',c',rfl,hn,hd,HQ⟩:=isFrac_open hv
 have HX:=Lib.hid (below_alloc (Below.refl w.heap.size w) (.cells #[.bool bq,.slice A (toL N).length c,.slice A' (toL D).length c'] 216))
 have cf:=(bx_below hpf HX.out hpf.lt).cell
 have cb:=(bx_below hpb HX.out hpb.lt).cell
 have HW:=Lib.hid (fun fv=>with_err b fv _ hlen (hr.below HX.out) he)
 clear hn hd hv hpf hpb hr he
 go_enter Tryz.func243,Tryz.ntmps243
 go_wp2_with (go_at_call 213;refine (HW.out _).mono ?_;rintro e w2 ⟨rfl,hb2⟩;have HB2:=Lib.hid (HX.out.trans (hb2.mono HX.out.size));clear hb2)
 refine bodyPost_ret (results_tmp2 rfl _ _ _) rfl ?_
 exact ⟨rfl,HB2.out⟩
theorem both1_ok (hrun:Runs F) (rv:Value) (k:Int) (hlen:b.size≤270000) (hpb:Boxed w pb 23 (.string b)) (hpf:Boxed w pf 219 (.func (.func F) #[] #[]))
  (hv:IsFrac w v q) (hr:Res w) (he:errQ b.data.toList=0)
  (hF:∀ v' w',Below w.heap.size w w'→Res w'→IsFrac w' v q→IsFrac w' v' (valQ b.data.toList)→Calls Tryz.prog F #[v,v'] w' fun e w''=>e=.returned (.tuple #[rv,.int .i64 k])∧Below w'.heap.size w' w'') :
  Calls Tryz.prog 243 #[v,.pointer (some ⟨pb,0,none⟩),.pointer (some ⟨pf,0,none⟩)] w fun e w'=>e=.returned (.tuple #[rv,.int .i64 k])∧Below w.heap.size w w':=by
 obtain ⟨bq,N,D,A,c,A',c',rfl,hn,hd,HQ⟩:=isFrac_open hv
 have HX:=Lib.hid (below_alloc (Below.refl w.heap.size w) (.cells #[.bool bq,.slice A (toL N).length c,.slice A' (toL D).length c'] 216))
 have cf:=(bx_below hpf HX.out hpf.lt).cell
 have cb:=(bx_below hpb HX.out hpb.lt).cell
 have HW:=Lib.hid (with_ok 244 runs_both2 #[.pointer (some ⟨pf,0,none⟩),.pointer (some ⟨w.heap.size,0,none⟩)] rv k b (w.alloc (.cells #[.bool bq,.slice A (toL N).length c,.slice A' (toL D).length c'] 216)) hlen (hr.below HX.out) he (fun v' w' hb' hr' hv'=>by
  have hB:Below w.heap.size w w':=HX.out.trans (hb'.mono HX.out.size)
  exact both2_ok F hrun rv k pf w.heap.size q _ _ v' w' (bx_below hpf hB hpf.lt) (hv.below hB) hv' _ rfl ((Blk.new w _ _).below hb' (by simp)) hr' (fun w2 hb2=>hF v' w2 (hB.trans (hb2.mono hB.size)) (hr'.below hb2) ((hv.below hB).below hb2) (hv'.below hb2))))
 clear hn hd hv hpf hpb hr he hF hrun
 go_enter Tryz.func243,Tryz.ntmps243
 go_wp2_with (go_at_call 213;refine HW.out.mono ?_;rintro e w2 ⟨rfl,hb2⟩;have HB2:=Lib.hid (HX.out.trans (hb2.mono HX.out.size));clear hb2)
 refine bodyPost_ret (results_tmp2 rfl _ _ _) rfl ?_
 exact ⟨rfl,HB2.out⟩
end
theorem box_both (w:World) (b:ByteArray) (fv:Value):Boxed ((w.alloc (.cells #[.string b] 23)).alloc (.cells #[fv] 219)) w.heap.size 23 (.string b) ∧
  Boxed ((w.alloc (.cells #[.string b] 23)).alloc (.cells #[fv] 219)) (w.heap.size+1) 219 fv∧Below w.heap.size w ((w.alloc (.cells #[.string b] 23)).alloc (.cells #[fv] 219)):=by
 refine ⟨(Boxed.new w _ _).alloc _,?_,below_alloc (below_alloc (Below.refl _ _) _) _⟩
 have:=Boxed.new (w.alloc (.cells #[.string b] 23)) 219 fv
 rwa [World.size_alloc] at this
theorem both_any (F:FuncId) (hrun:Runs F) (f:Rat→Rat→Value × Int) (a b:ByteArray) (w:World) (ha:a.size≤270000) (hb:b.size≤270000) (hr:Res w)
  (hF:∀ v v' w',Below w.heap.size w w'→Res w'→IsFrac w' v (valQ a.data.toList)→IsFrac w' v' (valQ b.data.toList)→errQ a.data.toList=0→errQ b.data.toList=0→Calls Tryz.prog F #[v,v'] w' fun e w''=>e=.returned (.tuple #[(f (valQ a.data.toList) (valQ b.data.toList)).1,.int .i64 (f (valQ a.data.toList) (valQ b.data.toList)).2])∧Below w'.heap.size w' w'') :
  Calls Tryz.prog 188 #[.string a,.string b,.func (.func F) #[] #[]] w fun e w' =>
   e=.returned (if errQ a.data.toList≠0 then .tuple #[.string ⟨#[]⟩,.int .i64 (errQ a.data.toList:Int)] else if errQ b.data.toList≠0 then .tuple #[.string ⟨#[]⟩,.int .i64 (errQ b.data.toList:Int)] else .tuple #[(f (valQ a.data.toList) (valQ b.data.toList)).1,.int .i64 (f (valQ a.data.toList) (valQ b.data.toList)).2])∧Below w.heap.size w w':=by
 obtain ⟨b4,b5,hB⟩:=box_both w b (.func (.func F) #[] #[])
 by_cases h1:errQ a.data.toList≠0
 ·rw [if_pos h1]
  have HW:=Lib.hid (fun fv=>with_err a fv _ ha (hr.below hB) h1)
  have HB:=Lib.hid hB
  clear b4 b5 hB hrun hF hr h1
  go_enter Tryz.func188,Tryz.ntmps188
  go_wp2_with (go_at_call 213;refine (HW.out _).mono ?_;rintro e w2 ⟨rfl,hb2⟩;have HB2:=Lib.hid (HB.out.trans (hb2.mono HB.out.size));clear hb2)
  refine bodyPost_ret (results_tmp2 rfl _ _ _) rfl ?_
  exact ⟨rfl,HB2.out⟩
 ·rw [if_neg h1]
  have h1:errQ a.data.toList=0:=by omega
  by_cases h2:errQ b.data.toList≠0
  ·rw [if_pos h2]
   have HW:=Lib.hid (with_ok 243 runs_both1 #[.pointer (some ⟨w.heap.size,0,none⟩),.pointer (some ⟨w.heap.size+1,0,none⟩)] (.string ⟨#[]⟩) (errQ b.data.toList:Int) a _ ha (hr.below hB) h1 (fun v w' hb' hr' hv =>
    both1_err F b w.heap.size (w.heap.size+1) _ v w' hb (bx_below b4 hb' b4.lt) (bx_below b5 hb' b5.lt) hv hr' h2))
   have HB:=Lib.hid hB
   clear b4 b5 hB hrun hF hr h1 h2
   go_enter Tryz.func188,Tryz.ntmps188
   go_wp2_with (go_at_call 213;refine HW.out.mono ?_;rintro e w2 ⟨rfl,hb2⟩;have HB2:=Lib.hid (HB.out.trans (hb2.mono HB.out.size));clear hb2)
   refine bodyPost_ret (results_tmp2 rfl _ _ _) rfl ?_
   exact ⟨rfl,HB2.out⟩
  ·rw [if_neg h2]
   have h2:errQ b.data.toList=0:=by omega
   generalize hR:f (valQ a.data.toList) (valQ b.data.toList)=R at *
   obtain ⟨rv,k⟩:=R
   dsimp only at hF ⊢
   have HW:=Lib.hid (with_ok 243 runs_both1 #[.pointer (some ⟨w.heap.size,0,none⟩),.pointer (some ⟨w.heap.size+1,0,none⟩)] rv k a _ ha (hr.below hB) h1 (fun v w' hb' hr' hv =>
    both1_ok F b w.heap.size (w.heap.size+1) _ v w' hrun rv k hb (bx_below b4 hb' b4.lt) (bx_below b5 hb' b5.lt) hv hr' h2 (fun v' w2 hb2 hr2 hv2 hv2'=>hF v v' w2 (hB.trans ((hb'.mono hB.size).trans (hb2.mono (Nat.le_trans hB.size hb'.size)))) hr2 hv2 hv2' h1 h2)))
   have HB:=Lib.hid hB
   clear b4 b5 hB hrun hF hr h1 h2 hR
   go_enter Tryz.func188,Tryz.ntmps188
   go_wp2_with (go_at_call 213;refine HW.out.mono ?_;rintro e w2 ⟨rfl,hb2⟩;have HB2:=Lib.hid (HB.out.trans (hb2.mono HB.out.size));clear hb2)
   refine bodyPost_ret (results_tmp2 rfl _ _ _) rfl ?_
   exact ⟨rfl,HB2.out⟩
end Go.Proofs.YtigapglmipmbeaaGreatDoor
namespace Go.Proofs.YtigapglmipmbeaaGreatDoor
open Go.RowKit Go.Shelf
open Lim
attribute [local go_sem] Oper.semAt_some
theorem rows3 {w:World} {b:Nat} {t:TypeId} {x y z:Value} (h:Blk w b t #[x,y,z]):w.cell? ⟨b,0,none⟩=some x∧w.cell? ⟨b,1,none⟩=some y∧w.cell? ⟨b,2,none⟩=some z :=
 ⟨(cellrow h 0 (by simp)).1,(cellrow h 1 (by simp)).1,(cellrow h 2 (by simp)).1⟩
theorem sgn_neg_iff {a b:Nat}:sgn a b < 0↔a < b:=by
 unfold sgn
 split
 ·omega
 ·split<;>omega
theorem toL_add_le {x y k:Nat} (hx:(toL x).length≤k) (hy:(toL y).length≤k):(toL (x+y)).length≤k+1:=by
 refine toL_len_le ?_
 have h1:x < B ^ k:=Nat.lt_of_lt_of_le (toL_lt x) (Nat.pow_le_pow_right (by rw [B_val];omega) hx)
 have h2:y < B ^ k:=Nat.lt_of_lt_of_le (toL_lt y) (Nat.pow_le_pow_right (by rw [B_val];omega) hy)
 rw [Nat.pow_succ,B_val] at *
 omega
theorem fadd_same (m m':Bool) (n d n' d':Nat) (v v':Value) (w:World) (h:IsParts w v m n d) (h':IsParts w v' m' n' d') (hd0:d*d'≠0) (hm:m=m') (l1:(toL n).length≤10000) (l2:(toL d).length≤10000) (l3:(toL n').length≤10000) (l4:(toL d').length≤10000) :
  Calls Tryz.prog 190 #[v,v'] w fun e w'=>∃ v2,e=.returned v2∧IsFrac w' v2 (mkQ m (n*d'+n'*d) (d*d'))∧Below w.heap.size w w':=by
 obtain ⟨An,cn,Ad,cd,rfl,hn,hd⟩:=h
 obtain ⟨An',cn',Ad',cd',rfl,hn',hd'⟩:=h'
 have HN:=Lib.hid hn
 have HD:=Lib.hid hd
 have HN':=Lib.hid hn'
 have HD':=Lib.hid hd'
 have lx:=Nat.le_trans (toL_mul_len n d') (show _≤20000 by omega)
 have ly:=Nat.le_trans (toL_mul_len n' d) (show _≤20000 by omega)
 have ld:=Nat.le_trans (toL_mul_len d d') (show _≤20000 by omega)
 have HD0:=Lib.hid hd0
 clear hn hd hn' hd' hd0
 have hmm:(m==m')=true:=by rw [beq_iff_eq];exact hm
 clear hm
 refine (callsIn_wide (n:=3)).1 ?_
 have h1:1≤3:=by omega
 have hmx:Tryz.prog.follows .mixedOrders=true:=by kernel_rfl
 refine callsIn_of_wp Tryz.func190 rfl trivial ?_ rfl
 simp only [Tryz.ntmps190,List.size_toArray,List.length_cons,List.length_nil,Nat.reduceAdd,Nat.reduceSub,Array.replicate_succ,Array.replicate_zero,List.push_toArray,List.append_toArray,List.nil_append,List.cons_append]
 gi_upto_region 1 with fail
 obtain ⟨b0,b1,b2,hB,hs⟩:=box2_res w (.bool m) (.slice An (toL n).length cn) (.slice Ad (toL d).length cd) (.bool m') (.slice An' (toL n').length cn') (.slice Ad' (toL d').length cd')
 generalize ((w.alloc (.cells #[.bool m,.slice An (toL n).length cn,.slice Ad (toL d).length cd] 216)).alloc (.cells #[.bool m',.slice An' (toL n').length cn',.slice Ad' (toL d').length cd'] 216)).alloc zF=W at *
 obtain ⟨x0,x1,x2⟩:=same_cells (S:=fun k=>k < W.heap.size∧k≠w.heap.size+1+1) b0 ⟨by omega,by omega⟩
 obtain ⟨y0,y1,y2⟩:=same_cells (S:=fun k=>k < W.heap.size∧k≠w.heap.size+1+1) b1 ⟨by omega,by omega⟩
 have HB:=Lib.hid (below_drew hB)
 have HS:=Lib.hid hs
 have P0:=Lib.hid b0
 have P1:=Lib.hid b1
 have P2:=Lib.hid b2
 clear b0 b1 b2 hB hs
 refine wpIn_stage (IsSame W (fun k=>k < W.heap.size∧k≠w.heap.size+1+1)) [0,1,2,3,5,6,7,8,10,11] [] hmx (by kernel_rfl) (isSame_of fun _ _=>rfl) ?_
 change wpStage _ _ _ _ _ _ _ _ (4+8) _ _ _
 refine stage_reads [0,1,2,3,5,6,7,8] 4 _ _ (by kernel_rfl) ?_
 change wpQuietIn _ _ _ _ (fun W'=>∃ x:SameAt W (fun k=>k < W.heap.size∧k≠w.heap.size+1+1),W'=x.W) _ _ _
 simp only [pick_cons,pick_nil,List.getElem?_cons_zero,List.getElem?_cons_succ,Option.elim_some]
 repeat (gi_big_quiet_step (fail))
 refine wpQuietIn_nil ?_
 refine stage_one 4 (by kernel_rfl) rfl ?_
 gi_wp2
 refine ⟨trivial,?_⟩
 refine (callsIn_wide.2 (mul_any n d' _ _ W.drew (HN.out.below HB.out) (HD'.out.below HB.out) (by omega) (by omega))).mono ?_
 rintro e w3 ⟨v3,rfl,hv3,hb3⟩
 obtain ⟨A3,c3,rfl,_,_,_⟩:=id hv3
 have HV3:=Lib.hid hv3
 have HB3:=Lib.hid (below_undrew hb3)
 clear hv3 hb3
 gi_wp2
 refine stage_post (isSame_below HB3.out (fun k hk=>hk.1)) ?_
 refine stage_one 9 (by kernel_rfl) rfl ?_
 gi_wp2
 refine ⟨trivial,?_⟩
 refine (callsIn_wide.2 (mul_any n' d _ _ w3 (HN'.out.below (HB.out.trans ((below_drew3 HB3.out).mono HB.out.size))) (HD.out.below (HB.out.trans ((below_drew3 HB3.out).mono HB.out.size))) (by omega) (by omega))).mono ?_
 rintro e w4 ⟨v4,rfl,hv4,hb4⟩
 obtain ⟨A4,c4,rfl,_,_,_⟩:=id hv4
 have HV4:=Lib.hid hv4
 have HV3:=Lib.hid (HV3.out.below hb4)
 have hB4:Below W.heap.size W w4:=HB3.out.trans (hb4.mono HB3.out.size)
 have HB4:=Lib.hid hB4
 clear hv4 hb4 hB4
 gi_wp2
 refine stage_post (isSame_below HB4.out (fun k hk=>hk.1)) ?_
 change wpStage _ _ _ _ _ _ _ _ (0+2) _ _ _
 refine stage_reads [10,11] 0 _ _ (by kernel_rfl) ?_
 change wpQuietIn _ _ _ _ (fun W'=>∃ x:SameAt W (fun k=>k < W.heap.size∧k≠w.heap.size+1+1),W'=x.W) _ _ _
 simp only [pick_cons,pick_nil,List.getElem?_cons_zero,List.getElem?_cons_succ,Option.elim_some]
 repeat (gi_big_quiet_step (fail))
 refine wpQuietIn_nil ?_
 refine stage_done (by kernel_rfl) ?_
 clear x0 x1 x2 y0 y1 y2
 have hsz:=HS.out
 obtain ⟨x0,x1,x2⟩:=rows3 (P0.out.below HB4.out (by omega))
 obtain ⟨y0,y1,y2⟩:=rows3 (P1.out.below HB4.out (by omega))
 clear hsz
 gi_upto_region 3 with fail
 have HB40:=Lib.hid (HB.out.trans ((below_drew3 HB4.out).mono HB.out.size))
 refine ⟨trivial,?_⟩
 refine (callsIn_wide.2 (mul_any d d' _ _ w4 (HD.out.below HB40.out) (HD'.out.below HB40.out) (by omega) (by omega))).mono ?_
 rintro e w5 ⟨v5,rfl,hv5,hb5⟩
 obtain ⟨A5,c5,rfl,_,_,_⟩:=id hv5
 have HV5:=Lib.hid hv5
 have HV3:=Lib.hid (HV3.out.below hb5)
 have HV4:=Lib.hid (HV4.out.below hb5)
 have hB5:Below W.heap.size W w5:=HB4.out.trans (hb5.mono HB4.out.size)
 have HB5:=Lib.hid hB5
 clear hv5 hb5 hB5 x0 x1 x2 y0 y1 y2
 gi_upto_region 4 with fail
 refine ⟨trivial,?_⟩
 refine (callsIn_wide.2 (cmp_any (n*d') (n'*d) _ _ w5 HV3.out HV4.out (by omega))).mono ?_
 rintro e w6 ⟨rfl,hb6⟩
 have HV3:=Lib.hid (HV3.out.below hb6)
 have HV4:=Lib.hid (HV4.out.below hb6)
 have HV5:=Lib.hid (HV5.out.below hb6)
 have hB6:Below W.heap.size W w6:=HB5.out.trans (hb6.mono HB5.out.size)
 have HB6:=Lib.hid hB6
 clear hb6 hB6
 have hsz:=HS.out
 have Q0:=Lib.hid (P0.out.below HB6.out (by omega))
 have Q1:=Lib.hid (P1.out.below HB6.out (by omega))
 have Q2:=Lib.hid (P2.out.below HB6.out (by omega))
 have h62:=HB6.out.size
 clear hsz
 obtain ⟨x0,x1,x2⟩:=rows3 Q0.out
 obtain ⟨y0,y1,y2⟩:=rows3 Q1.out
 gi_upto_region 6 with fail
 clear x0 x1 x2 y0 y1 y2
 have hsz:=HS.out
 obtain ⟨x0,x1,x2⟩:=same_cells (S:=fun k=>k < w6.heap.size∧k≠w.heap.size+1+1) Q0.out ⟨by omega,by omega⟩
 obtain ⟨y0,y1,y2⟩:=same_cells (S:=fun k=>k < w6.heap.size∧k≠w.heap.size+1+1) Q1.out ⟨by omega,by omega⟩
 clear hsz
 refine wpIn_stage (IsSame w6 (fun k=>k < w6.heap.size∧k≠w.heap.size+1+1)) [0,1,2,3,5] [] hmx (by kernel_rfl) (isSame_of fun _ _=>rfl) ?_
 change wpStage _ _ _ _ _ _ _ _ (3+5) _ _ _
 refine stage_reads [0,1,2,3,5] 3 _ _ (by kernel_rfl) ?_
 change wpQuietIn _ _ _ _ (fun W'=>∃ x:SameAt w6 (fun k=>k < w6.heap.size∧k≠w.heap.size+1+1),W'=x.W) _ _ _
 simp only [pick_cons,pick_nil,List.getElem?_cons_zero,List.getElem?_cons_succ,Option.elim_some]
 repeat (gi_big_quiet_step (fail))
 refine wpQuietIn_nil ?_
 refine stage_one 4 (by kernel_rfl) rfl ?_
 gi_wp2
 refine ⟨trivial,?_⟩
 refine (callsIn_wide.2 (add_any (n*d') (n'*d) _ _ w6.drew HV3.out HV4.out (by omega) (by omega))).mono ?_
 rintro e w7 ⟨v7,rfl,hv7,hb7⟩
 have HV7:=Lib.hid hv7
 have HB7:=Lib.hid (below_undrew hb7)
 clear hv7 hb7
 gi_wp2
 refine stage_post (isSame_below HB7.out (fun k hk=>hk.1)) ?_
 refine stage_one 6 (by kernel_rfl) rfl ?_
 gi_wp2
 refine ⟨trivial,?_⟩
 refine (callsIn_wide.2 (fmake_any m _ (d*d') _ _ w7 HV7.out (HV5.out.below HB7.out) HD0.out (Nat.le_trans (toL_add_le lx ly) (by omega)) (by omega))).mono ?_
 rintro e w8 ⟨v8,rfl,hv8,hb8⟩
 obtain ⟨b8,N8,D8,A8,c8,A8',c8',rfl,hn8,hd8,HP8⟩:=isFrac_open hv8
 clear hv8
 have hb78:Below w6.heap.size w6 w8:=HB7.out.trans (hb8.mono HB7.out.size)
 have hsz:=HS.out
 obtain ⟨HR8,r0,s0,r1,s1,r2,s2⟩:=res_rows Q2.out hb78 (by omega)
 have HN8:=Lib.hid hn8
 have HD8:=Lib.hid hd8
 have HB78:=Lib.hid hb78
 clear hn8 hd8 hb8 hb78 hsz
 gi_wp2
 refine stage_post (isSame_below HB78.out (fun k hk=>hk.1)) ?_
 refine stage_one 7 (by kernel_rfl) rfl ?_
 gi_wp2
 refine stage_post (isSame_of fun k hk=>(set3_heap k hk.2).trans (HB78.out.block k hk.1)) ?_
 refine stage_done (by kernel_rfl) ?_
 gi_wp2
 have hsz:=HS.out
 refine ret_frac rfl rfl (by simp) (set3 HR8.out) ⟨_,rfl,?_,?_⟩
 ·exact isFrac_close HP8 (isParts_mk (isNat_set3 HN8.out HR8.out) (isNat_set3 HD8.out HR8.out))
 ·refine set3_below (g:=w.heap.size+1+1) (HB.out.trans ((below_drew3 (HB6.out.trans (HB78.out.mono ?_))).mono ?_)) (by omega)
  ·exact HB6.out.size
  ·exact HB.out.size
theorem fadd_less (m m':Bool) (n d n' d':Nat) (v v':Value) (w:World) (h:IsParts w v m n d) (h':IsParts w v' m' n' d') (hd0:d*d'≠0) (hm:m≠m') (hlt:n*d' < n'*d) (l1:(toL n).length≤10000) (l2:(toL d).length≤10000) (l3:(toL n').length≤10000) (l4:(toL d').length≤10000) :
  Calls Tryz.prog 190 #[v,v'] w fun e w'=>∃ v2,e=.returned v2∧IsFrac w' v2 (mkQ m' (n'*d - n*d') (d*d'))∧Below w.heap.size w w':=by
 obtain ⟨An,cn,Ad,cd,rfl,hn,hd⟩:=h
 obtain ⟨An',cn',Ad',cd',rfl,hn',hd'⟩:=h'
 have HN:=Lib.hid hn
 have HD:=Lib.hid hd
 have HN':=Lib.hid hn'
 have HD':=Lib.hid hd'
 have lx:=Nat.le_trans (toL_mul_len n d') (show _≤20000 by omega)
 have ly:=Nat.le_trans (toL_mul_len n' d) (show _≤20000 by omega)
 have ld:=Nat.le_trans (toL_mul_len d d') (show _≤20000 by omega)
 have HD0:=Lib.hid hd0
 clear hn hd hn' hd' hd0
 have hmm:(m==m')=false:=by rw [beq_eq_false_iff_ne];exact hm
 have hsg:decide (sgn (n*d') (n'*d) < 0)=true:=decide_eq_true (sgn_neg_iff.2 hlt)
 have HLT:=Lib.hid hlt
 clear hm hlt
 refine (callsIn_wide (n:=3)).1 ?_
 have h1:1≤3:=by omega
 have hmx:Tryz.prog.follows .mixedOrders=true:=by kernel_rfl
 refine callsIn_of_wp Tryz.func190 rfl trivial ?_ rfl
 simp only [Tryz.ntmps190,List.size_toArray,List.length_cons,List.length_nil,Nat.reduceAdd,Nat.reduceSub,Array.replicate_succ,Array.replicate_zero,List.push_toArray,List.append_toArray,List.nil_append,List.cons_append]
 gi_upto_region 1 with fail
 obtain ⟨b0,b1,b2,hB,hs⟩:=box2_res w (.bool m) (.slice An (toL n).length cn) (.slice Ad (toL d).length cd) (.bool m') (.slice An' (toL n').length cn') (.slice Ad' (toL d').length cd')
 generalize ((w.alloc (.cells #[.bool m,.slice An (toL n).length cn,.slice Ad (toL d).length cd] 216)).alloc (.cells #[.bool m',.slice An' (toL n').length cn',.slice Ad' (toL d').length cd'] 216)).alloc zF=W at *
 obtain ⟨x0,x1,x2⟩:=same_cells (S:=fun k=>k < W.heap.size∧k≠w.heap.size+1+1) b0 ⟨by omega,by omega⟩
 obtain ⟨y0,y1,y2⟩:=same_cells (S:=fun k=>k < W.heap.size∧k≠w.heap.size+1+1) b1 ⟨by omega,by omega⟩
 have HB:=Lib.hid (below_drew hB)
 have HS:=Lib.hid hs
 have P0:=Lib.hid b0
 have P1:=Lib.hid b1
 have P2:=Lib.hid b2
 clear b0 b1 b2 hB hs
 refine wpIn_stage (IsSame W (fun k=>k < W.heap.size∧k≠w.heap.size+1+1)) [0,1,2,3,5,6,7,8,10,11] [] hmx (by kernel_rfl) (isSame_of fun _ _=>rfl) ?_
 change wpStage _ _ _ _ _ _ _ _ (4+8) _ _ _
 refine stage_reads [0,1,2,3,5,6,7,8] 4 _ _ (by kernel_rfl) ?_
 change wpQuietIn _ _ _ _ (fun W'=>∃ x:SameAt W (fun k=>k < W.heap.size∧k≠w.heap.size+1+1),W'=x.W) _ _ _
 simp only [pick_cons,pick_nil,List.getElem?_cons_zero,List.getElem?_cons_succ,Option.elim_some]
 repeat (gi_big_quiet_step (fail))
 refine wpQuietIn_nil ?_
 refine stage_one 4 (by kernel_rfl) rfl ?_
 gi_wp2
 refine ⟨trivial,?_⟩
 refine (callsIn_wide.2 (mul_any n d' _ _ W.drew (HN.out.below HB.out) (HD'.out.below HB.out) (by omega) (by omega))).mono ?_
 rintro e w3 ⟨v3,rfl,hv3,hb3⟩
 obtain ⟨A3,c3,rfl,_,_,_⟩:=id hv3
 have HV3:=Lib.hid hv3
 have HB3:=Lib.hid (below_undrew hb3)
 clear hv3 hb3
 gi_wp2
 refine stage_post (isSame_below HB3.out (fun k hk=>hk.1)) ?_
 refine stage_one 9 (by kernel_rfl) rfl ?_
 gi_wp2
 refine ⟨trivial,?_⟩
 refine (callsIn_wide.2 (mul_any n' d _ _ w3 (HN'.out.below (HB.out.trans ((below_drew3 HB3.out).mono HB.out.size))) (HD.out.below (HB.out.trans ((below_drew3 HB3.out).mono HB.out.size))) (by omega) (by omega))).mono ?_
 rintro e w4 ⟨v4,rfl,hv4,hb4⟩
 obtain ⟨A4,c4,rfl,_,_,_⟩:=id hv4
 have HV4:=Lib.hid hv4
 have HV3:=Lib.hid (HV3.out.below hb4)
 have hB4:Below W.heap.size W w4:=HB3.out.trans (hb4.mono HB3.out.size)
 have HB4:=Lib.hid hB4
 clear hv4 hb4 hB4
 gi_wp2
 refine stage_post (isSame_below HB4.out (fun k hk=>hk.1)) ?_
 change wpStage _ _ _ _ _ _ _ _ (0+2) _ _ _
 refine stage_reads [10,11] 0 _ _ (by kernel_rfl) ?_
 change wpQuietIn _ _ _ _ (fun W'=>∃ x:SameAt W (fun k=>k < W.heap.size∧k≠w.heap.size+1+1),W'=x.W) _ _ _
 simp only [pick_cons,pick_nil,List.getElem?_cons_zero,List.getElem?_cons_succ,Option.elim_some]
 repeat (gi_big_quiet_step (fail))
 refine wpQuietIn_nil ?_
 refine stage_done (by kernel_rfl) ?_
 clear x0 x1 x2 y0 y1 y2
 have hsz:=HS.out
 obtain ⟨x0,x1,x2⟩:=rows3 (P0.out.below HB4.out (by omega))
 obtain ⟨y0,y1,y2⟩:=rows3 (P1.out.below HB4.out (by omega))
 clear hsz
 gi_upto_region 3 with fail
 have HB40:=Lib.hid (HB.out.trans ((below_drew3 HB4.out).mono HB.out.size))
 refine ⟨trivial,?_⟩
 refine (callsIn_wide.2 (mul_any d d' _ _ w4 (HD.out.below HB40.out) (HD'.out.below HB40.out) (by omega) (by omega))).mono ?_
 rintro e w5 ⟨v5,rfl,hv5,hb5⟩
 obtain ⟨A5,c5,rfl,_,_,_⟩:=id hv5
 have HV5:=Lib.hid hv5
 have HV3:=Lib.hid (HV3.out.below hb5)
 have HV4:=Lib.hid (HV4.out.below hb5)
 have hB5:Below W.heap.size W w5:=HB4.out.trans (hb5.mono HB4.out.size)
 have HB5:=Lib.hid hB5
 clear hv5 hb5 hB5 x0 x1 x2 y0 y1 y2
 gi_upto_region 4 with fail
 refine ⟨trivial,?_⟩
 refine (callsIn_wide.2 (cmp_any (n*d') (n'*d) _ _ w5 HV3.out HV4.out (by omega))).mono ?_
 rintro e w6 ⟨rfl,hb6⟩
 have HV3:=Lib.hid (HV3.out.below hb6)
 have HV4:=Lib.hid (HV4.out.below hb6)
 have HV5:=Lib.hid (HV5.out.below hb6)
 have hB6:Below W.heap.size W w6:=HB5.out.trans (hb6.mono HB5.out.size)
 have HB6:=Lib.hid hB6
 clear hb6 hB6
 have hsz:=HS.out
 have Q0:=Lib.hid (P0.out.below HB6.out (by omega))
 have Q1:=Lib.hid (P1.out.below HB6.out (by omega))
 have Q2:=Lib.hid (P2.out.below HB6.out (by omega))
 have h62:=HB6.out.size
 clear hsz
 obtain ⟨x0,x1,x2⟩:=rows3 Q0.out
 obtain ⟨y0,y1,y2⟩:=rows3 Q1.out
 gi_upto_region 8 with fail
 clear x0 x1 x2 y0 y1 y2
 have hsz:=HS.out
 obtain ⟨x0,x1,x2⟩:=same_cells (S:=fun k=>k < w6.heap.size∧k≠w.heap.size+1+1) Q0.out ⟨by omega,by omega⟩
 obtain ⟨y0,y1,y2⟩:=same_cells (S:=fun k=>k < w6.heap.size∧k≠w.heap.size+1+1) Q1.out ⟨by omega,by omega⟩
 clear hsz
 refine wpIn_stage (IsSame w6 (fun k=>k < w6.heap.size∧k≠w.heap.size+1+1)) [0,1,2,3,5] [] hmx (by kernel_rfl) (isSame_of fun _ _=>rfl) ?_
 change wpStage _ _ _ _ _ _ _ _ (3+5) _ _ _
 refine stage_reads [0,1,2,3,5] 3 _ _ (by kernel_rfl) ?_
 change wpQuietIn _ _ _ _ (fun W'=>∃ x:SameAt w6 (fun k=>k < w6.heap.size∧k≠w.heap.size+1+1),W'=x.W) _ _ _
 simp only [pick_cons,pick_nil,List.getElem?_cons_zero,List.getElem?_cons_succ,Option.elim_some]
 repeat (gi_big_quiet_step (fail))
 refine wpQuietIn_nil ?_
 refine stage_one 4 (by kernel_rfl) rfl ?_
 gi_wp2
 refine ⟨trivial,?_⟩
 refine (callsIn_wide.2 (sub_any (n'*d) (n*d') _ _ w6.drew HV4.out HV3.out (Nat.le_of_lt HLT.out) (by omega))).mono ?_
 rintro e w7 ⟨v7,rfl,hv7,hb7⟩
 have HV7:=Lib.hid hv7
 have HB7:=Lib.hid (below_undrew hb7)
 clear hv7 hb7
 gi_wp2
 refine stage_post (isSame_below HB7.out (fun k hk=>hk.1)) ?_
 refine stage_one 6 (by kernel_rfl) rfl ?_
 gi_wp2
 refine ⟨trivial,?_⟩
 refine (callsIn_wide.2 (fmake_any m' _ (d*d') _ _ w7 HV7.out (HV5.out.below HB7.out) HD0.out (Nat.le_trans (toL_len_mono (Nat.sub_le _ _)) (by omega)) (by omega))).mono ?_
 rintro e w8 ⟨v8,rfl,hv8,hb8⟩
 obtain ⟨b8,N8,D8,A8,c8,A8',c8',rfl,hn8,hd8,HP8⟩:=isFrac_open hv8
 clear hv8
 have hb78:Below w6.heap.size w6 w8:=HB7.out.trans (hb8.mono HB7.out.size)
 have hsz:=HS.out
 obtain ⟨HR8,r0,s0,r1,s1,r2,s2⟩:=res_rows Q2.out hb78 (by omega)
 have HN8:=Lib.hid hn8
 have HD8:=Lib.hid hd8
 have HB78:=Lib.hid hb78
 clear hn8 hd8 hb8 hb78 hsz
 gi_wp2
 refine stage_post (isSame_below HB78.out (fun k hk=>hk.1)) ?_
 refine stage_one 7 (by kernel_rfl) rfl ?_
 gi_wp2
 refine stage_post (isSame_of fun k hk=>(set3_heap k hk.2).trans (HB78.out.block k hk.1)) ?_
 refine stage_done (by kernel_rfl) ?_
 gi_wp2
 have hsz:=HS.out
 refine ret_frac rfl rfl (by simp) (set3 HR8.out) ⟨_,rfl,?_,?_⟩
 ·exact isFrac_close HP8 (isParts_mk (isNat_set3 HN8.out HR8.out) (isNat_set3 HD8.out HR8.out))
 ·refine set3_below (g:=w.heap.size+1+1) (HB.out.trans ((below_drew3 (HB6.out.trans (HB78.out.mono ?_))).mono ?_)) (by omega)
  ·exact HB6.out.size
  ·exact HB.out.size
theorem fadd_more (m m':Bool) (n d n' d':Nat) (v v':Value) (w:World) (h:IsParts w v m n d) (h':IsParts w v' m' n' d') (hd0:d*d'≠0) (hm:m≠m') (hlt:¬ n*d' < n'*d) (l1:(toL n).length≤10000) (l2:(toL d).length≤10000) (l3:(toL n').length≤10000) (l4:(toL d').length≤10000) :
  Calls Tryz.prog 190 #[v,v'] w fun e w'=>∃ v2,e=.returned v2∧IsFrac w' v2 (mkQ m (n*d' - n'*d) (d*d'))∧Below w.heap.size w w':=by
 obtain ⟨An,cn,Ad,cd,rfl,hn,hd⟩:=h
 obtain ⟨An',cn',Ad',cd',rfl,hn',hd'⟩:=h'
 have HN:=Lib.hid hn
 have HD:=Lib.hid hd
 have HN':=Lib.hid hn'
 have HD':=Lib.hid hd'
 have lx:=Nat.le_trans (toL_mul_len n d') (show _≤20000 by omega)
 have ly:=Nat.le_trans (toL_mul_len n' d) (show _≤20000 by omega)
 have ld:=Nat.le_trans (toL_mul_len d d') (show _≤20000 by omega)
 have HD0:=Lib.hid hd0
 clear hn hd hn' hd' hd0
 have hmm:(m==m')=false:=by rw [beq_eq_false_iff_ne];exact hm
 have hsg:decide (sgn (n*d') (n'*d) < 0)=false:=decide_eq_false (fun h=>hlt (sgn_neg_iff.1 h))
 have HLT:=Lib.hid hlt
 clear hm hlt
 refine (callsIn_wide (n:=3)).1 ?_
 have h1:1≤3:=by omega
 have hmx:Tryz.prog.follows .mixedOrders=true:=by kernel_rfl
 refine callsIn_of_wp Tryz.func190 rfl trivial ?_ rfl
 simp only [Tryz.ntmps190,List.size_toArray,List.length_cons,List.length_nil,Nat.reduceAdd,Nat.reduceSub,Array.replicate_succ,Array.replicate_zero,List.push_toArray,List.append_toArray,List.nil_append,List.cons_append]
 gi_upto_region 1 with fail
 obtain ⟨b0,b1,b2,hB,hs⟩:=box2_res w (.bool m) (.slice An (toL n).length cn) (.slice Ad (toL d).length cd) (.bool m') (.slice An' (toL n').length cn') (.slice Ad' (toL d').length cd')
 generalize ((w.alloc (.cells #[.bool m,.slice An (toL n).length cn,.slice Ad (toL d).length cd] 216)).alloc (.cells #[.bool m',.slice An' (toL n').length cn',.slice Ad' (toL d').length cd'] 216)).alloc zF=W at *
 obtain ⟨x0,x1,x2⟩:=same_cells (S:=fun k=>k < W.heap.size∧k≠w.heap.size+1+1) b0 ⟨by omega,by omega⟩
 obtain ⟨y0,y1,y2⟩:=same_cells (S:=fun k=>k < W.heap.size∧k≠w.heap.size+1+1) b1 ⟨by omega,by omega⟩
 have HB:=Lib.hid (below_drew hB)
 have HS:=Lib.hid hs
 have P0:=Lib.hid b0
 have P1:=Lib.hid b1
 have P2:=Lib.hid b2
 clear b0 b1 b2 hB hs
 refine wpIn_stage (IsSame W (fun k=>k < W.heap.size∧k≠w.heap.size+1+1)) [0,1,2,3,5,6,7,8,10,11] [] hmx (by kernel_rfl) (isSame_of fun _ _=>rfl) ?_
 change wpStage _ _ _ _ _ _ _ _ (4+8) _ _ _
 refine stage_reads [0,1,2,3,5,6,7,8] 4 _ _ (by kernel_rfl) ?_
 change wpQuietIn _ _ _ _ (fun W'=>∃ x:SameAt W (fun k=>k < W.heap.size∧k≠w.heap.size+1+1),W'=x.W) _ _ _
 simp only [pick_cons,pick_nil,List.getElem?_cons_zero,List.getElem?_cons_succ,Option.elim_some]
 repeat (gi_big_quiet_step (fail))
 refine wpQuietIn_nil ?_
 refine stage_one 4 (by kernel_rfl) rfl ?_
 gi_wp2
 refine ⟨trivial,?_⟩
 refine (callsIn_wide.2 (mul_any n d' _ _ W.drew (HN.out.below HB.out) (HD'.out.below HB.out) (by omega) (by omega))).mono ?_
 rintro e w3 ⟨v3,rfl,hv3,hb3⟩
 obtain ⟨A3,c3,rfl,_,_,_⟩:=id hv3
 have HV3:=Lib.hid hv3
 have HB3:=Lib.hid (below_undrew hb3)
 clear hv3 hb3
 gi_wp2
 refine stage_post (isSame_below HB3.out (fun k hk=>hk.1)) ?_
 refine stage_one 9 (by kernel_rfl) rfl ?_
 gi_wp2
 refine ⟨trivial,?_⟩
 refine (callsIn_wide.2 (mul_any n' d _ _ w3 (HN'.out.below (HB.out.trans ((below_drew3 HB3.out).mono HB.out.size))) (HD.out.below (HB.out.trans ((below_drew3 HB3.out).mono HB.out.size))) (by omega) (by omega))).mono ?_
 rintro e w4 ⟨v4,rfl,hv4,hb4⟩
 obtain ⟨A4,c4,rfl,_,_,_⟩:=id hv4
 have HV4:=Lib.hid hv4
 have HV3:=Lib.hid (HV3.out.below hb4)
 have hB4:Below W.heap.size W w4:=HB3.out.trans (hb4.mono HB3.out.size)
 have HB4:=Lib.hid hB4
 clear hv4 hb4 hB4
 gi_wp2
 refine stage_post (isSame_below HB4.out (fun k hk=>hk.1)) ?_
 change wpStage _ _ _ _ _ _ _ _ (0+2) _ _ _
 refine stage_reads [10,11] 0 _ _ (by kernel_rfl) ?_
 change wpQuietIn _ _ _ _ (fun W'=>∃ x:SameAt W (fun k=>k < W.heap.size∧k≠w.heap.size+1+1),W'=x.W) _ _ _
 simp only [pick_cons,pick_nil,List.getElem?_cons_zero,List.getElem?_cons_succ,Option.elim_some]
 repeat (gi_big_quiet_step (fail))
 refine wpQuietIn_nil ?_
 refine stage_done (by kernel_rfl) ?_
 clear x0 x1 x2 y0 y1 y2
 have hsz:=HS.out
 obtain ⟨x0,x1,x2⟩:=rows3 (P0.out.below HB4.out (by omega))
 obtain ⟨y0,y1,y2⟩:=rows3 (P1.out.below HB4.out (by omega))
 clear hsz
 gi_upto_region 3 with fail
 have HB40:=Lib.hid (HB.out.trans ((below_drew3 HB4.out).mono HB.out.size))
 refine ⟨trivial,?_⟩
 refine (callsIn_wide.2 (mul_any d d' _ _ w4 (HD.out.below HB40.out) (HD'.out.below HB40.out) (by omega) (by omega))).mono ?_
 rintro e w5 ⟨v5,rfl,hv5,hb5⟩
 obtain ⟨A5,c5,rfl,_,_,_⟩:=id hv5
 have HV5:=Lib.hid hv5
 have HV3:=Lib.hid (HV3.out.below hb5)
 have HV4:=Lib.hid (HV4.out.below hb5)
 have hB5:Below W.heap.size W w5:=HB4.out.trans (hb5.mono HB4.out.size)
 have HB5:=Lib.hid hB5
 clear hv5 hb5 hB5 x0 x1 x2 y0 y1 y2
 gi_upto_region 4 with fail
 refine ⟨trivial,?_⟩
 refine (callsIn_wide.2 (cmp_any (n*d') (n'*d) _ _ w5 HV3.out HV4.out (by omega))).mono ?_
 rintro e w6 ⟨rfl,hb6⟩
 have HV3:=Lib.hid (HV3.out.below hb6)
 have HV4:=Lib.hid (HV4.out.below hb6)
 have HV5:=Lib.hid (HV5.out.below hb6)
 have hB6:Below W.heap.size W w6:=HB5.out.trans (hb6.mono HB5.out.size)
 have HB6:=Lib.hid hB6
 clear hb6 hB6
 have hsz:=HS.out
 have Q0:=Lib.hid (P0.out.below HB6.out (by omega))
 have Q1:=Lib.hid (P1.out.below HB6.out (by omega))
 have Q2:=Lib.hid (P2.out.below HB6.out (by omega))
 have h62:=HB6.out.size
 clear hsz
 obtain ⟨x0,x1,x2⟩:=rows3 Q0.out
 obtain ⟨y0,y1,y2⟩:=rows3 Q1.out
 gi_upto_region 4 with fail
 clear x0 x1 x2 y0 y1 y2
 have hsz:=HS.out
 obtain ⟨x0,x1,x2⟩:=same_cells (S:=fun k=>k < w6.heap.size∧k≠w.heap.size+1+1) Q0.out ⟨by omega,by omega⟩
 obtain ⟨y0,y1,y2⟩:=same_cells (S:=fun k=>k < w6.heap.size∧k≠w.heap.size+1+1) Q1.out ⟨by omega,by omega⟩
 clear hsz
 refine wpIn_stage (IsSame w6 (fun k=>k < w6.heap.size∧k≠w.heap.size+1+1)) [0,1,2,3,5] [] hmx (by kernel_rfl) (isSame_of fun _ _=>rfl) ?_
 change wpStage _ _ _ _ _ _ _ _ (3+5) _ _ _
 refine stage_reads [0,1,2,3,5] 3 _ _ (by kernel_rfl) ?_
 change wpQuietIn _ _ _ _ (fun W'=>∃ x:SameAt w6 (fun k=>k < w6.heap.size∧k≠w.heap.size+1+1),W'=x.W) _ _ _
 simp only [pick_cons,pick_nil,List.getElem?_cons_zero,List.getElem?_cons_succ,Option.elim_some]
 repeat (gi_big_quiet_step (fail))
 refine wpQuietIn_nil ?_
 refine stage_one 4 (by kernel_rfl) rfl ?_
 gi_wp2
 refine ⟨trivial,?_⟩
 refine (callsIn_wide.2 (sub_any (n*d') (n'*d) _ _ w6.drew HV3.out HV4.out (Nat.le_of_not_lt HLT.out) (by omega))).mono ?_
 rintro e w7 ⟨v7,rfl,hv7,hb7⟩
 have HV7:=Lib.hid hv7
 have HB7:=Lib.hid (below_undrew hb7)
 clear hv7 hb7
 gi_wp2
 refine stage_post (isSame_below HB7.out (fun k hk=>hk.1)) ?_
 refine stage_one 6 (by kernel_rfl) rfl ?_
 gi_wp2
 refine ⟨trivial,?_⟩
 refine (callsIn_wide.2 (fmake_any m _ (d*d') _ _ w7 HV7.out (HV5.out.below HB7.out) HD0.out (Nat.le_trans (toL_len_mono (Nat.sub_le _ _)) (by omega)) (by omega))).mono ?_
 rintro e w8 ⟨v8,rfl,hv8,hb8⟩
 obtain ⟨b8,N8,D8,A8,c8,A8',c8',rfl,hn8,hd8,HP8⟩:=isFrac_open hv8
 clear hv8
 have hb78:Below w6.heap.size w6 w8:=HB7.out.trans (hb8.mono HB7.out.size)
 have hsz:=HS.out
 obtain ⟨HR8,r0,s0,r1,s1,r2,s2⟩:=res_rows Q2.out hb78 (by omega)
 have HN8:=Lib.hid hn8
 have HD8:=Lib.hid hd8
 have HB78:=Lib.hid hb78
 clear hn8 hd8 hb8 hb78 hsz
 gi_wp2
 refine stage_post (isSame_below HB78.out (fun k hk=>hk.1)) ?_
 refine stage_one 7 (by kernel_rfl) rfl ?_
 gi_wp2
 refine stage_post (isSame_of fun k hk=>(set3_heap k hk.2).trans (HB78.out.block k hk.1)) ?_
 refine stage_done (by kernel_rfl) ?_
 gi_wp2
 have hsz:=HS.out
 refine ret_frac rfl rfl (by simp) (set3 HR8.out) ⟨_,rfl,?_,?_⟩
 ·exact isFrac_close HP8 (isParts_mk (isNat_set3 HN8.out HR8.out) (isNat_set3 HD8.out HR8.out))
 ·refine set3_below (g:=w.heap.size+1+1) (HB.out.trans ((below_drew3 (HB6.out.trans (HB78.out.mono ?_))).mono ?_)) (by omega)
  ·exact HB6.out.size
  ·exact HB.out.size
theorem fadd_any (a b:Rat) (v v':Value) (w:World) (h:IsFrac w v a) (h':IsFrac w v' b) (l1:(toL (nm a)).length≤10000) (l2:(toL a.den).length≤10000) (l3:(toL (nm b)).length≤10000) (l4:(toL b.den).length≤10000) :
  Calls Tryz.prog 190 #[v,v'] w fun e w'=>∃ v2,e=.returned v2∧IsFrac w' v2 (a+b)∧Below w.heap.size w w':=by
 have hd0:a.den*b.den≠0:=Nat.ne_of_gt (Nat.mul_pos (den_pos a) (den_pos b))
 by_cases hm:ng a=ng b
 ·rw [add_same hm]
  exact fadd_same _ _ _ _ _ _ _ _ _ h h' hd0 hm l1 l2 l3 l4
 ·by_cases hlt:nm a*b.den < nm b*a.den
  ·rw [add_less hm hlt]
   exact fadd_less _ _ _ _ _ _ _ _ _ h h' hd0 hm hlt l1 l2 l3 l4
  ·rw [add_more hm hlt]
   exact fadd_more _ _ _ _ _ _ _ _ _ h h' hd0 hm hlt l1 l2 l3 l4
theorem fmulQ_any (a b:Rat) (v v':Value) (w:World) (h:IsFrac w v a) (h':IsFrac w v' b) (l1:(toL (nm a)).length≤10000) (l2:(toL a.den).length≤10000) (l3:(toL (nm b)).length≤10000) (l4:(toL b.den).length≤10000) :
  Calls Tryz.prog 206 #[v,v'] w fun e w'=>∃ v2,e=.returned v2∧IsFrac w' v2 (a*b)∧Below w.heap.size w w':=by
 have hd0:a.den*b.den≠0:=Nat.ne_of_gt (Nat.mul_pos (den_pos a) (den_pos b))
 rw [mul_parts]
 exact fmul_any _ _ _ _ _ _ _ _ _ h h' hd0 l1 l2 l3 l4
end Go.Proofs.YtigapglmipmbeaaGreatDoor
