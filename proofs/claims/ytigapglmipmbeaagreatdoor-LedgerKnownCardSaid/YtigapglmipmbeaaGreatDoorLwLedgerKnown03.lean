/- What the library reads of the package variables, out of a row's premise; the wrap that keeps the world's shape. slices.Backward at limbs: what it yields. cmp.Compare at uint64 and int; limbs.Nat.Cmp limbs.trim limbs.Nat.small: a quotient by one limb. Texts of natural numbers: digits, their value, the numeral of a number, limbs read and written. No program in sight. limbs.Nat.Digits and String. -/
import Derived.Test.YtigapglmipmbeaaGreatDoorLwLedgerKnown02
import Derived.Test.YtigapglmipmbeaaGreatDoorRows
import Derived.Lib.LaidTab
import Derived.Stop.LaidErr
import Derived.Shelf.Vars
import Derived.Handed
import Derived.ChangeAgain
import Derived.Test.YtigapglmipmbeaaGreatDoorLwLedgerKnown01
import Derived.Lib.ItoaNum
import Derived.Lib.ParseIntB
import Derived.Lib.AppendIntMem
set_option maxRecDepth 100000
set_option maxHeartbeats 16000000
namespace Go.Proofs.YtigapglmipmbeaaGreatDoor
open Go.RowKit
def laidL : List (String × DataW Unit) := [("math/bits.deBruijn32tab", Rows.laid_math_bits_deBruijn32tab), ("math/bits.deBruijn64tab", Rows.laid_math_bits_deBruijn64tab), ("internal/strconv.uint64pow10", Rows.laid_internal_strconv_uint64pow10), ("unicode/utf8.acceptRanges", Rows.laid_unicode_utf8_acceptRanges), ("strconv.ErrRange", Rows.laid_strconv_ErrRange), ("strconv.ErrSyntax", Rows.laid_strconv_ErrSyntax), ("unicode/utf8.first", Rows.laid_unicode_utf8_first)]
theorem pow_is:Rows.laid_internal_strconv_uint64pow10=Lib.tabData (H:=Unit) .u64 Lib.pow10Tab:=by kernel_rfl
theorem res_of_laid {W:World} (h:laidMet Tryz.prog laidL W) (hs:W.ShapedOpen Tryz.prog):Res W:=by
 refine ⟨?_,?_⟩
 ·have h2:=laidMet.tail (laidMet.tail h)
  rw [pow_is] at h2
  exact Lib.tabIs_of_head (g:=1) (t:=(Tryz.prog.globals[1]?.map (·.type)).getD 0) (e:=117) (n:=20) (by kernel_rfl) (by kernel_rfl) (by kernel_rfl) (by kernel_rfl) (by kernel_rfl) (by kernel_rfl) h2
 ·exact cell_of_shapedOpen_int (P:=Tryz.prog) (g:=0) (t:=3) (zero:=#[.int .i64 0]) hs (of_decide_eq_true (by kernel_rfl)) (by kernel_rfl) rfl (by kernel_rfl) (by kernel_rfl) Tryz.underlying3
theorem returns_shaped {H:Type} {enc:TypeId × Value→H} {a:Assume} {C:Checked} {os:Os} {f:FuncId} {fn:Func} {s:ChangeSpec} {conds:List PathCond} {apart fresh handsOn again:Bool} {X:World→Array Value→Prop}
  (hX:∀ (w w':World) (args:Array Value),w.heap=w'.heap→X w args→X w' args)
  (own:ownKnob C.prog.godebug=none) (started:os.Started) (noInit:C.prog.inits.idxOf? f=none) (hfn:C.prog.funcs[f]?=some fn)
  (witness:∃ (w:World) (tape:Tape) (i:Input),w.os=os∧(w.forCall tape i).Shaped C.prog∧i.vars=[]∧Input.okWide C.prog (w.forCall tape i) .any w.heap.size f i ∧
   ((s.pre enc C.prog fn conds apart (w.forCall tape i).memory i.args∧X (w.forCall tape i).memory i.args)∧sizedMet enc C.prog fn (OpenSpec.ofChange s) apart (w.forCall tape i).memory i.args)∧a.holds C.prog (lone (Frame.enter C.prog f i.args .normal) [] (w.forCall tape i)))
  (contract:∀ (W:World) (base:Nat) (args:Array Value) (ds gs:List (DataW H)) (before:List MemPlace),
   (∀ (j:Nat) t v,fn.params[j]?=some t→args[j]?=some v→Value.okWide C.prog W .any base t v) →
   DataW.Whole enc C.prog fn.params.toList s.vars apart W args.toList ds gs before →
   X W args→W.ShapedOpen C.prog →
   Calls C.prog f args W fun e W'=>∃ v,e=.returned v∧s.post enc C.prog fn apart fresh handsOn again W args v W') :
  ReturnsInHanded a C os f .any (fun w args=>(s.pre enc C.prog fn conds apart w args∧X w args)∧sizedMet enc C.prog fn (OpenSpec.ofChange s) apart w args) (s.post enc C.prog fn apart fresh handsOn again):=by
 refine returnsInHanded_of_calls own started noInit witness ?_
 intro w tape i _ hsh _ hok hpre _
 obtain ⟨_,_,_,fn',hfn',_,_,_,_,hval⟩:=hok
 have e:fn'=fn:=Option.some.inj (hfn'.symm.trans hfn)
 subst e
 obtain ⟨⟨⟨ds,gs,before,hw,_⟩,hx⟩,_⟩:=hpre
 have hw':=DataW.Whole.of_heap (w':=w.forCall tape i) (by rfl) hw
 refine (contract (w.forCall tape i) w.heap.size i.args ds gs before hval hw' (hX _ _ _ (by rfl) hx) hsh).mono fun e W' ⟨v,he,hp⟩=>?_
 subst he
 exact ChangeSpec.post_blind hp
end Go.Proofs.YtigapglmipmbeaaGreatDoor
namespace Go.Proofs.YtigapglmipmbeaaGreatDoor
open Go.RowKit Go.Shelf
open Lim
attribute [local go_sem] Oper.semAt_some
def down (len m:Nat):List Nat:=(List.range m).map fun j=>len - 1 - j
theorem down_succ (len m:Nat):down len (m+1)=down len m++[len - 1 - m]:=by simp [down,List.range_succ]
theorem down_length (len m:Nat):(down len m).length=m:=by simp [down]
def Came (V:Nat→Int→Prop) (len m:Nat) (ys:List (Nat × Int)):Prop:=ys.map (·.1)=down len m∧∀ p∈ys,V p.1 p.2
theorem Came.nil (V:Nat→Int→Prop) (len:Nat):Came V len 0 []:=⟨rfl,fun _ h=>by cases h⟩
theorem Came.snoc {V:Nat→Int→Prop} {len m:Nat} {ys:List (Nat × Int)} (h:Came V len m ys) {i:Nat} {z:Int} (hi:i=len - 1 - m) (hz:V i z):Came V len (m+1) (ys++[(i,z)]):=by
 refine ⟨by rw [List.map_append,h.1,down_succ,hi];rfl,fun p hp=>?_⟩
 rcases List.mem_append.1 hp with hp|hp
 ·exact h.2 p hp
 ·simp at hp;subst hp;exact hz
theorem Came.length {V:Nat→Int→Prop} {len m:Nat} {ys:List (Nat × Int)} (h:Came V len m ys):ys.length=m:=by
 have:=congrArg List.length h.1;simpa [down_length] using this
def NextB (V:Nat→Int→Prop) (len:Nat) (pre:List (Nat × Int)) (x:Nat × Int):Prop:=∃ m,m < len∧Came V len m pre∧x.1=len - 1 - m∧V x.1 x.2
def BackRead (V:Nat→Int→Prop) (Bs:Nat) (A:Option Addr) (len cap:Nat) (W:World):Prop :=
 W.cell? ⟨Bs,0,none⟩=some (.slice A len cap)∧(0 < len→∃ b off,A=some ⟨b,off,none⟩∧∀ i,i < len→∃ z:Int,W.cell? ⟨b,off+i,none⟩=some (.int .u64 z)∧V i z)
theorem back_seq (F:Fence) (n:Nat) (h7:F.fn 302) (hro:F.round=none) (hn:1≤n) (V:Nat→Int→Prop) (Bs:Nat) (A:Option Addr) (len cap:Nat) (hlen:len≤100000) :
  SeqOrd F n Tryz.prog 302 #[.pointer (some ⟨Bs,0,none⟩)] (fun x:Nat × Int=>#[Value.int .i64 (x.1:Int),Value.int .u64 x.2]) (NextB V len) (Came V len len) (BackRead V Bs A len cap):=by
 intro l J Jx W hG _ _ hY h0
 refine callsIn_of_wp Tryz.func302 rfl h7 ?_ hro
 simp only [Tryz.ntmps302,List.size_toArray,List.length_cons,List.length_nil,Nat.reduceAdd,Nat.reduceSub,Array.replicate_succ,Array.replicate_zero,List.push_toArray,List.append_toArray,List.nil_append,List.cons_append]
 have hbox:=(hG _ _ h0).1
 have HG:=Lib.hid hG
 have HY:=Lib.hid hY
 clear hG hY
 gi_wp2
 gi_loopw [3] (fun i wr=>∃ (k:Nat) (pre:List (Nat × Int)),k≤len∧i=.int .i64 ((k:Int) - 1)∧Came V len (len - k) pre∧J pre wr)
  (fun i _=>(intOf i+1).toNat)
 case atStart=>exact ⟨len,[],Nat.le_refl _,rfl,by rw [Nat.sub_self];exact Came.nil _ _,h0⟩
 case round =>
  obtain ⟨k,pre,hk,rfl,hpre,hJs⟩:=hrel
  clear hbox h0
  by_cases hk0:k=0
  ·subst hk0
   gi_wp2
   go_end0
   exact ⟨⟨_,rfl⟩,.inl ⟨pre,hpre,hJs⟩⟩
  ·have hkp:0 < k:=by omega
   clear hk0
   have hGr:=HG.out _ _ hJs
   have hbox:=hGr.1
   obtain ⟨b,off,rfl,hcs⟩:=hGr.2 (by omega)
   obtain ⟨z,hz,hv⟩:=hcs (k - 1) (by omega)
   clear hGr hcs
   have hnx:NextB V len pre (k - 1,z):=⟨len - k,by omega,hpre,by show k - 1=_;omega,hv⟩
   obtain ⟨fn,tmps,assign,body,hy,hR⟩:=HY.out pre (k - 1,z) wr hJs hnx
   dsimp only at hy
   have hidx:((k - 1:Nat):Int)=(k:Int) - 1:=by omega
   rw [hidx] at hy
   clear hidx
   gi_wp2
   refine hR.mono ?_
   rintro e W3 (⟨rfl,hJ3⟩|⟨rfl,hJx3⟩)
   ·gi_wp2
    go_roundw
    case rel=>exact ⟨k - 1,_,by omega,int_eq (by omega),by rw [show len - (k - 1)=(len - k)+1 by omega];exact hpre.snoc (by omega) hv,hJ3⟩
    case measure=>simp [intOf];omega
   ·gi_wp2
    refine bodyPost_ret (results_none rfl _ _ _) rfl ?_
    exact ⟨⟨_,rfl⟩,.inr ⟨_,_,hnx,hJx3⟩⟩
theorem backward_in (F:Fence) (n:Nat) (h5:F.fn 275) (hro:F.round=none) (a:Option Addr) (len cap:Nat) (w:World) :
  CallsIn F n Tryz.prog 275 #[.slice a len cap] w fun e w'=>e=.returned (.func (.func 302) #[] #[.pointer (some ⟨w.heap.size,0,none⟩)])∧w'=w.alloc (.cells #[.slice a len cap] 214):=by
 refine callsIn_of_wp Tryz.func275 rfl h5 ?_ hro
 simp only [Tryz.ntmps275,List.size_toArray,List.length_cons,List.length_nil,Nat.reduceAdd,Nat.reduceSub,Array.replicate_succ,Array.replicate_zero,List.push_toArray,List.append_toArray,List.nil_append,List.cons_append]
 gi_wp2
 go_ret
 exact ⟨rfl,rfl⟩
theorem eg_back:∀ args w,(callFunc 302 args).run Tryz.prog w=.ok (.enter 302 args) w:=enters_of Tryz.func302 (by kernel_rfl) rfl
def sgn (a b:Nat):Int:=if a < b then -1 else if b < a then 1 else 0
theorem compareU_any (a b:Nat) (w:World) :
  Calls Tryz.prog 276 #[.int .u64 (a:Int),.int .u64 (b:Int)] w fun e w'=>e=.returned (.int .i64 (sgn a b))∧w'=w:=by
 by_cases h1:a < b
 ·go_enter Tryz.func276,Tryz.ntmps276
  go_wp2
  go_ret
  exact ⟨by rw [sgn,if_pos h1];rfl,rfl⟩
 ·by_cases h2:b < a
  ·go_enter Tryz.func276,Tryz.ntmps276
   go_wp2
   go_ret
   exact ⟨by rw [sgn,if_neg h1,if_pos h2];rfl,rfl⟩
  ·obtain rfl:a=b:=by omega
   go_enter Tryz.func276,Tryz.ntmps276
   go_wp2
   go_ret
   exact ⟨by rw [sgn,if_neg h1,if_neg h2];rfl,rfl⟩
theorem compareI_any (a b:Nat) (w:World) :
  Calls Tryz.prog 274 #[.int .i64 (a:Int),.int .i64 (b:Int)] w fun e w'=>e=.returned (.int .i64 (sgn a b))∧w'=w:=by
 by_cases h1:a < b
 ·go_enter Tryz.func274,Tryz.ntmps274
  go_wp2
  go_ret
  exact ⟨by rw [sgn,if_pos h1];rfl,rfl⟩
 ·by_cases h2:b < a
  ·go_enter Tryz.func274,Tryz.ntmps274
   go_wp2
   go_ret
   exact ⟨by rw [sgn,if_neg h1,if_pos h2];rfl,rfl⟩
  ·obtain rfl:a=b:=by omega
   go_enter Tryz.func274,Tryz.ntmps274
   go_wp2
   go_ret
   exact ⟨by rw [sgn,if_neg h1,if_neg h2];rfl,rfl⟩
theorem lt_of_len {x y:Nat} (h:(toL x).length < (toL y).length):x < y:=by
 rcases Nat.lt_or_ge x y with hl|hge
 ·exact hl
 ·have:=toL_len_mono hge;omega
theorem lt_of_top {xs ys:List Nat} {i:Nat} (hl:xs.length=ys.length) (hi:i < xs.length) (sx:Sm xs) (hd:∀ j,i < j→xs[j]?.getD 0=ys[j]?.getD 0) (h:xs[i]?.getD 0 < ys[i]?.getD 0):val xs < val ys:=by
 have e1:=val_take_drop xs (i+1) (by omega)
 have e2:=val_take_drop ys (i+1) (by omega)
 have e3:=val_take_succ' xs i
 have e4:=val_take_succ' ys i
 have hlx:=val_lt (sx.take i)
 rw [List.length_take,Nat.min_eq_left (by omega)] at hlx
 have hdd:xs.drop (i+1)=ys.drop (i+1):=by
  apply List.ext_getElem (by simp [hl])
  intro j h1 h2
  simp at h1 h2 ⊢
  have:=hd (i+1+j) (by omega)
  rw [List.getElem?_eq_getElem (by omega),List.getElem?_eq_getElem (by omega)] at this
  simpa using this
 rw [hdd] at e1
 have h2:B ^ i*(xs[i]?.getD 0+1)≤B ^ i*ys[i]?.getD 0:=Nat.mul_le_mul_left _ h
 rw [Nat.mul_add] at h2
 omega
theorem sgn_lt {a b:Nat} (h:a < b):sgn a b=-1:=by rw [sgn,if_pos h]
theorem sgn_gt {a b:Nat} (h:b < a):sgn a b=1:=by rw [sgn,if_neg (by omega),if_pos h]
theorem sgn_self (a:Nat):sgn a a=0:=by rw [sgn,if_neg (by omega),if_neg (by omega)]
theorem sgn_top {x y i:Nat} (hl:(toL x).length=(toL y).length) (hi:i < (toL x).length) (hd:∀ j,i < j→(toL x)[j]?.getD 0=(toL y)[j]?.getD 0) (hne:(toL x)[i]?.getD 0≠(toL y)[i]?.getD 0) :
  sgn ((toL x)[i]?.getD 0) ((toL y)[i]?.getD 0)=sgn x y:=by
 rcases Nat.lt_or_gt_of_ne hne with h|h
 ·have:=lt_of_top hl hi (sm_toL x) hd h
  rw [val_toL,val_toL] at this
  rw [sgn_lt h,sgn_lt this]
 ·have:=lt_of_top hl.symm (by omega) (sm_toL y) (fun j hj=>(hd j hj).symm) h
  rw [val_toL,val_toL] at this
  rw [sgn_gt h,sgn_gt this]
theorem toL_ext {x y:Nat} (hl:(toL x).length=(toL y).length) (hd:∀ j,j < (toL x).length→(toL x)[j]?.getD 0=(toL y)[j]?.getD 0):x=y:=by
 have:toL x=toL y:=by
  apply List.ext_getElem hl
  intro i h1 h2
  have:=hd i h1
  rw [List.getElem?_eq_getElem h1,List.getElem?_eq_getElem h2] at this
  simpa using this
 rw [← val_toL x,this,val_toL]
theorem sgn_len {x y:Nat} (h:(toL x).length≠(toL y).length):sgn (toL x).length (toL y).length=sgn x y:=by
 rcases Nat.lt_or_gt_of_ne h with h|h
 ·rw [sgn_lt h,sgn_lt (lt_of_len h)]
 ·rw [sgn_gt h,sgn_gt (lt_of_len h)]
theorem cmp_len (x y:Nat) (vx vy:Value) (w:World) (hx:IsNat w vx x) (hy:IsNat w vy y) (hne:(toL x).length≠(toL y).length) :
  Calls Tryz.prog 246 #[vx,vy] w fun e w'=>e=.returned (.int .i64 (sgn x y))∧Below w.heap.size w w':=by
 obtain ⟨A,c,rfl,hc,hcm,hra⟩:=hx
 obtain ⟨A',c',rfl,hc',hcm',hrb⟩:=hy
 have HS:=Lib.hid (sgn_len hne)
 have hne':((((toL x).length:Int)) != ((toL y).length:Int))=true:=by rw [bne_iff_ne];omega
 clear hne hra hrb
 go_enter Tryz.func246,Tryz.ntmps246
 go_wp2_with (go_at_call 274;refine (compareI_any _ _ _).mono ?_;rintro e w' ⟨rfl,rfl⟩)
 refine bodyPost_ret (v:=.int .i64 (sgn (toL x).length (toL y).length)) (by simp [results,Tryz.f246,go_sem]) rfl ⟨by rw [HS.out],?_⟩
 go_grown
theorem Came.mem {V:Nat→Int→Prop} {len m:Nat} {ys:List (Nat × Int)} (h:Came V len m ys) {j:Nat} (h1:len - 1 - m < j) (h2:j < len) (hm:m < len):∃ z,(j,z)∈ys:=by
 have:j∈ys.map (·.1):=by
  rw [h.1,down,List.mem_map]
  exact ⟨len - 1 - j,by rw [List.mem_range];omega,by omega⟩
 obtain ⟨p,hp,rfl⟩:=List.mem_map.1 this
 exact ⟨p.2,hp⟩
theorem Came.all {V:Nat→Int→Prop} {len:Nat} {ys:List (Nat × Int)} (h:Came V len len ys) {j:Nat} (h2:j < len):∃ z,(j,z)∈ys:=by
 have:j∈ys.map (·.1):=by
  rw [h.1,down,List.mem_map]
  exact ⟨len - 1 - j,by rw [List.mem_range];omega,by omega⟩
 obtain ⟨p,hp,rfl⟩:=List.mem_map.1 this
 exact ⟨p.2,hp⟩
theorem Row.later {w W:World} {A:Option Addr} {xs:List Value} (h:Row w A xs) (hB:Below w.heap.size w W) (hne:0 < xs.length) :
  ∃ b o,A=some ⟨b,o,none⟩∧b < w.heap.size∧∀ (j:Nat) (x:Value),xs[j]?=some x→W.cell? ⟨b,o+j,none⟩=some x:=by
 obtain ⟨b,o,e,hb,hc⟩:=h hne
 exact ⟨b,o,e,hb,fun j x hx=>(hB.cell (p:=⟨b,o+j,none⟩) hb).trans (hc j x hx)⟩
theorem cmp_eq (x y:Nat) (vx vy:Value) (w:World) (hx:IsNat w vx x) (hy:IsNat w vy y) (hl:(toL x).length=(toL y).length) (hlx:(toL x).length≤40000) :
  Calls Tryz.prog 246 #[vx,vy] w fun e w'=>e=.returned (.int .i64 (sgn x y))∧Below w.heap.size w w':=by
 obtain ⟨A,c,rfl,hc,hcm,hra⟩:=hx
 obtain ⟨A',c',rfl,hc',hcm',hrb⟩:=hy
 have hl':((((toL x).length:Int)) != ((toL y).length:Int))=false:=by rw [bne_eq_false_iff_eq];omega
 refine (callsIn_wide (n:=3)).1 ?_
 have h1:1≤3:=by omega
 refine callsIn_of_wp_marks Tryz.func246 rfl trivial ?_ rfl
 simp only [Tryz.ntmps246,List.size_toArray,List.length_cons,List.length_nil,Nat.reduceAdd,Nat.reduceSub,Array.replicate_succ,Array.replicate_zero,List.push_toArray,List.append_toArray,List.nil_append,List.cons_append]
 have HL:=Lib.hid hl
 clear hl
 gi_wp2_with (refine ⟨trivial,?_⟩;gi_at_call 275;refine (backward_in Fence.wide 2 trivial rfl _ _ _ _).mono ?_;rintro e w' ⟨rfl,rfl⟩)
 have b0:=((((Boxed.new w 214 (.slice A (toL x).length c)).alloc (.cells #[.slice A' (toL y).length c'] 214)).alloc (.cells #[.int .i64 0] 3)).alloc (.cells #[.slice A (toL x).length c] 214))
 have b1:=(((Boxed.new (w.alloc (.cells #[.slice A (toL x).length c] 214)) 214 (.slice A' (toL y).length c')).alloc (.cells #[.int .i64 0] 3)).alloc (.cells #[.slice A (toL x).length c] 214))
 have b2:=((Boxed.new ((w.alloc (.cells #[.slice A (toL x).length c] 214)).alloc (.cells #[.slice A' (toL y).length c'] 214)) 3 (.int .i64 0)).alloc (.cells #[.slice A (toL x).length c] 214))
 have b3:=Boxed.new (((w.alloc (.cells #[.slice A (toL x).length c] 214)).alloc (.cells #[.slice A' (toL y).length c'] 214)).alloc (.cells #[.int .i64 0] 3)) 214 (.slice A (toL x).length c)
 simp only [World.size_alloc] at b1 b2 b3
 have hB0:Below w.heap.size w ((((w.alloc (.cells #[.slice A (toL x).length c] 214)).alloc (.cells #[.slice A' (toL y).length c'] 214)).alloc (.cells #[.int .i64 0] 3)).alloc (.cells #[.slice A (toL x).length c] 214)):=by go_grown
 refine wpIn_range_ord rfl h1 (gf:=302) (lb:=#[.pointer (some ⟨w.heap.size+1+1+1,0,none⟩)]) rfl trivial eg_back
  (back_seq Fence.wide 2 trivial rfl (by omega) (fun i z=>z=(((toL x)[i]?.getD 0:Nat):Int)) (w.heap.size+1+1+1) A (toL x).length c (by omega)) (fun _=>rfl)
  (fun pre W=>(∀ p∈pre,(toL x)[p.1]?.getD 0=(toL y)[p.1]?.getD 0)∧Boxed W w.heap.size 214 (.slice A (toL x).length c)∧Boxed W (w.heap.size+1) 214 (.slice A' (toL y).length c')∧Boxed W (w.heap.size+1+1) 3 (.int .i64 0)∧Boxed W (w.heap.size+1+1+1) 214 (.slice A (toL x).length c)∧Below w.heap.size w W)
  (fun c pre W=>c=.ret∧Boxed W (w.heap.size+1+1) 3 (.int .i64 (sgn x y))∧Below w.heap.size w W)
  ?hG ?hI ?hIx ⟨(fun _ h=>(by cases h)),b0,b1,b2,b3,hB0⟩ ?round ?done ?stop
 case hG =>
  rintro pre W ⟨_,_,_,_,b3,hB⟩
  refine ⟨b3.cell,fun h0=>?_⟩
  obtain ⟨b,o,rfl,hb,hcell⟩:=hra.later hB (by rw [U64_length];exact h0)
  exact ⟨b,o,rfl,fun i hi=>⟨_,hcell i _ (U64_get hi),rfl⟩⟩
 case hI =>
  exact (ownFrom_pure _ _).and (((boxed_own _ _ _).from _).and (((boxed_own _ _ _).from _).and (((boxed_own _ _ _).from _).and (((boxed_own _ _ _).from _).and (ownFrom_below (Nat.le_refl _) (by simp;omega))))))
 case hIx =>
  intro c
  exact (ownFrom_pure _ _).and (((boxed_own _ _ _).from _).and (ownFrom_below (Nat.le_refl _) (by simp;omega)))
 case round =>
  rintro l pre ⟨i,z⟩ W K hi hnx hK
  have HNX:=Lib.hid hnx
  clear hnx
  clear b0 b1 b2 b3 hB0
  gi_wp2
  refine hK _ _ (KeepsOthers.refl _) hi ?_
  clear hK hi
  rintro Wb _ ⟨hp,b0,b1,b2,b3,hB⟩
  obtain ⟨m,hm,hcame,hieq,hz⟩:=HNX.out
  dsimp only at hieq hz
  have hil:i < (toL x).length:=by omega
  obtain ⟨b,o,rfl,hb,hcell⟩:=hra.later hB (by rw [U64_length];omega)
  obtain ⟨b',o',rfl,hb',hcell'⟩:=hrb.later hB (by rw [U64_length,← HL.out];omega)
  have hcx:=hcell i _ (U64_get hil)
  have hcy:=hcell' i _ (U64_get (by rw [← HL.out];exact hil))
  have c0:=b0.cell
  have c1:=b1.cell
  have c2:=b2.cell
  have f2:=b2.frozen
  have hi0:(0:Int)≤(i:Int):=by omega
  have hi1:(i:Int) < ((toL x).length:Int):=by omega
  have hi2:(i:Int) < ((toL y).length:Int):=by have:=HL.out;omega
  have HP:=Lib.hid hp
  have HI:=Lib.hid hieq
  have HC:=Lib.hid hcame
  have hmx:Tryz.prog.follows .mixedOrders=true:=by kernel_rfl
  clear hieq hz hcame hp hcell hcell' hra hrb
  generalize hx0:(toL x)[i]?.getD 0=x0 at hcx
  generalize hy0:(toL y)[i]?.getD 0=y0 at hcy
  have HX:=Lib.hid hx0
  have HY:=Lib.hid hy0
  clear hx0 hy0
  by_cases heq:x0=y0
  ·subst heq
   have hne:(((x0:Nat):Int) != ((x0:Nat):Int))=false:=by simp
   gi_wp2
   refine wpIn_quiet_round hmx (by kernel_rfl) (by kernel_rfl) ?_
   repeat (gi_big_quiet_step (fail))
   refine wpQuietIn_nil ?_
   intro _ hw'
   obtain ⟨nq,hw''⟩:=hw'
   subst hw''
   gi_wp2
   refine ⟨keeps_drewN _ _,fun p hp=>?_,b0,b1,b2,b3,below_drewN' hB nq⟩
   rcases List.mem_append.1 hp with hp|hp
   ·exact HP.out p hp
   ·simp at hp;subst hp;exact HX.out.trans HY.out.symm
  ·have hne:(((x0:Nat):Int) != ((y0:Nat):Int))=true:=by rw [bne_iff_ne];omega
   have hfn:Fence.wide.fn 276:=trivial
   gi_wp2
   refine wpIn_quiet_round hmx (by kernel_rfl) (by kernel_rfl) ?_
   repeat (gi_big_quiet_step (fail))
   refine wpQuietIn_nil ?_
   intro _ hw'
   obtain ⟨nq,hw''⟩:=hw'
   subst hw''
   gi_wp2
   refine wpIn_head_tail 9 hmx (by kernel_rfl) (by kernel_rfl) (by kernel_rfl) ?_
   simp only [List.take_succ_cons,List.take_zero,List.drop_succ_cons,List.drop_zero]
   repeat (gi_big_quiet_step ((gi_at_call 276;exact quiet_of_same2 (CallsIn.inRound l (callsIn_wide.2 (compareU_any _ _ _))))))
   refine wpQuietIn_nil ?_
   intro _ hw'
   obtain ⟨nq2,hw''⟩:=hw'
   subst hw''
   gi_wp2
   have hs:sgn x0 y0=sgn x y:=by
    rw [← HX.out,← HY.out]
    refine sgn_top HL.out hil (fun j hj=>?_) (by rw [HX.out,HY.out];exact heq)
    by_cases hjl:j < (toL x).length
    ·obtain ⟨z',hz'⟩:=HC.out.mem (j:=j) (by have:=HI.out;omega) hjl hm
     exact HP.out _ hz'
    ·rw [List.getElem?_eq_none (by omega),List.getElem?_eq_none (by have:=HL.out;omega)]
   rw [hs]
   refine ⟨?_,rfl,?_,?_⟩
   ·exact (keeps_drewN _ (nq+nq2)).trans (KeepsOthers.setCell _ _ _)
   ·exact Boxed.set _ b2
   ·exact (below_drewN' hB (nq+nq2)).setCell (p:=⟨w.heap.size+1+1,0,none⟩) (by simp;omega) _
 case done =>
  rintro D ys W hD hS ⟨hp,_,_,b2,_,hB⟩ hK
  have c2:=b2.cell
  have f2:=b2.frozen
  have hxy:x=y:=toL_ext HL.out (fun j hj=>by obtain ⟨z,hz⟩:=hS.all hj;exact hp _ hz)
  have HXY:=Lib.hid hxy
  clear hxy hp hS
  gi_wp2
  have hK':=(KeepsOthers.setCell W ⟨w.heap.size+1+1,0,none⟩ (.int .i64 0)).same D _ hK rfl
  refine ⟨by simp,.inl ⟨_,_,rfl,run_takeDeferred hK',?_⟩⟩
  have hc5:=cell_kept (World.cell?_setCell_same' W ⟨w.heap.size+1+1,0,none⟩ (.int .i64 0) (by rw [c2];rfl)) (grownBy_putObj' _ D (.deferred none)) (fun r e=>by cases e;exact ⟨_,hK',rfl⟩)
  refine ⟨.int .i64 0,?_,by rw [HXY.out,sgn_self],(hB.setCell (p:=⟨w.heap.size+1+1,0,none⟩) (by simp;omega) _).trans (belowK_b (w:=w) (Nat.le_refl _) _ D _ _ (by simp at hD;omega) hK' rfl rfl)⟩
  simp [results,Tryz.f246,go_sem,hc5]
 case stop =>
  rintro D c pre x' W hD _ ⟨rfl,b2,hB⟩ hK
  gi_wp2
  refine ⟨by simp,.inl ⟨_,_,rfl,run_takeDeferred hK,?_⟩⟩
  have hc5:=cell_kept b2.cell (grownBy_putObj' _ D (.deferred none)) (fun r e=>by cases e;exact ⟨_,hK,rfl⟩)
  refine ⟨.int .i64 (sgn x y),?_,rfl,hB.trans (belowK_b (w:=w) (Nat.le_refl _) W D _ _ (by simp at hD;omega) hK rfl rfl)⟩
  simp [results,Tryz.f246,go_sem,hc5]
theorem cmp_any (x y:Nat) (vx vy:Value) (w:World) (hx:IsNat w vx x) (hy:IsNat w vy y) (hlx:(toL x).length≤40000) :
  Calls Tryz.prog 246 #[vx,vy] w fun e w'=>e=.returned (.int .i64 (sgn x y))∧Below w.heap.size w w':=by
 by_cases hl:(toL x).length=(toL y).length
 ·exact cmp_eq x y vx vy w hx hy hl hlx
 ·exact cmp_len x y vx vy w hx hy hl
end Go.Proofs.YtigapglmipmbeaaGreatDoor
namespace Go.Proofs.YtigapglmipmbeaaGreatDoor
open Go.RowKit
open Lim
theorem trim_end {l:List Nat} {k:Nat} (hs:Sm l) (hk:k≤l.length) (hz:∀ i,k≤i→l[i]?.getD 0=0) (hlast:k=0∨l[k - 1]?.getD 0≠0):k=(toL (val l)).length:=by
 rw [← toL_take hs hk hz hlast,List.length_take];omega
theorem trim_any (l:List Nat) (A:Option Addr) (n c:Nat) (w:World) (hn:n=l.length) (hl:Sm l) (hc:l.length≤c) (hm:c≤maxLen) (hr:Row w A (U64 l)) :
  Calls Tryz.prog 273 #[.slice A n c] w fun e w'=>e=.returned (.slice A (toL (val l)).length c)∧w'=w:=by
 unfold maxLen at hm
 subst hn
 go_enter Tryz.func273,Tryz.ntmps273
 go_wp2
 go_loop [0] (fun s=>∃ k:Nat,k≤l.length∧s=.slice A k c∧(∀ i,k≤i→l[i]?.getD 0=0)) (fun s=>match s with|.slice _ n _=>n|_=>0)
 case atStart=>exact ⟨l.length,Nat.le_refl _,rfl,fun i hi=>by simp [hi]⟩
 case round =>
  obtain ⟨k,hk,rfl,hz⟩:=hrel
  have HZ:=Lib.hid hz
  clear hz
  by_cases h0:k=0
  ·subst h0
   go_wp2
   go_ret
   exact ⟨by rw [← trim_end hl hk HZ.out (.inl rfl)];rfl,rfl⟩
  ·have hpos:0 < k:=by omega
   have hlt:k - 1 < l.length:=by omega
   clear h0
   obtain ⟨b,o,rfl,hb,hcell⟩:=hr (by rw [U64_length];omega)
   have hcx:=hcell (k - 1) _ (U64_get hlt)
   have hx:=hl.get (k - 1)
   have HC:=Lib.hid hcell
   clear hcell
   generalize hv:l[k - 1]?.getD 0=x at hcx hx
   have HV:=Lib.hid hv
   clear hv
   by_cases hx0:x=0
   ·subst hx0
    go_wp2
    go_round
    case rel =>
     refine ⟨k - 1,by omega,?_,fun i hi=>?_⟩
     ·rfl
     ·by_cases e:i=k - 1
      ·subst e;exact HV.out
      ·exact HZ.out i (by omega)
    case measure=>simp;omega
   ·go_wp2
    go_ret
    exact ⟨by rw [← trim_end hl hk HZ.out (.inr (by rw [HV.out];exact hx0))];rfl,rfl⟩
end Go.Proofs.YtigapglmipmbeaaGreatDoor
namespace Go.Proofs.YtigapglmipmbeaaGreatDoor
open Go.RowKit Go.Shelf
open Lim
attribute [local go_sem] Oper.semAt_some
attribute [local go_sem ↓] inAt_zero inAt_succ
theorem quo_cast (r x d:Nat):((r:Int)*1000000000+(x:Int)) / (d:Int)=(((r*B+x) / d:Nat):Int):=by rw [B_val,Int.natCast_ediv,Int.natCast_add,Int.natCast_mul];rfl
theorem rem_cast (r x d:Nat):((r:Int)*1000000000+(x:Int)) % (d:Int)=(((r*B+x) % d:Nat):Int):=by rw [B_val,Int.natCast_emod,Int.natCast_add,Int.natCast_mul];rfl
theorem small_any (x d : Nat) (vx : Value) (w : World) (hx : IsNat w vx x) (hlx : (toL x).length ≤ 40000) (hd0 : 0 < d) (hd : d < 1000000000) :
    Calls Tryz.prog 305 #[vx, .int .u64 (d : Int)] w fun e w' => ∃ v, e = .returned (.tuple #[v, .int .u64 ((x % d : Nat) : Int)]) ∧ IsNat w' v (x / d) ∧ Below w.heap.size w w' := by
  obtain ⟨A, c, rfl, hc, hcm, hra⟩ := hx
  obtain ⟨i0, hi, hz0, hz1, hz2⟩ := info_parts Tryz.infoU
  have hmk := fun W => run_makeN (P := Tryz.prog) Tryz.underlying214 hi hz0 hz1 hz2 (n := (toL x).length) (by omega) rfl W
  refine (callsIn_wide (n := 3)).1 ?_
  have h1 : 1 ≤ 3 := by omega
  refine callsIn_of_wp_marks Tryz.func305 rfl trivial ?_ rfl
  simp only [Tryz.ntmps305, List.size_toArray, List.length_cons, List.length_nil, Nat.reduceAdd, Nat.reduceSub, Array.replicate_succ, Array.replicate_zero, List.push_toArray, List.append_toArray, List.nil_append, List.cons_append]
  gi_wp2_with (refine ⟨trivial, ?_⟩; gi_at_call 275; refine (backward_in Fence.wide 2 trivial rfl _ _ _ _).mono ?_; rintro e w' ⟨rfl, rfl⟩)
  clear hmk
  have hB0 : Below w.heap.size w ((((((w.alloc (.cells #[.slice A (toL x).length c] 214)).alloc (.cells #[.int .u64 (d : Int)] 117)).alloc (.cells (madeCells #[.int .u64 0] (toL x).length) 117)).alloc (.cells #[.slice (some ⟨w.heap.size + 1 + 1, 0, none⟩) (toL x).length (toL x).length] 214)).alloc (.cells #[.int .u64 0] 117)).alloc (.cells #[.slice A (toL x).length c] 214)) := by go_grown
  have b0 : Boxed ((((((w.alloc (.cells #[.slice A (toL x).length c] 214)).alloc (.cells #[.int .u64 (d : Int)] 117)).alloc (.cells (madeCells #[.int .u64 0] (toL x).length) 117)).alloc (.cells #[.slice (some ⟨w.heap.size + 1 + 1, 0, none⟩) (toL x).length (toL x).length] 214)).alloc (.cells #[.int .u64 0] 117)).alloc (.cells #[.slice A (toL x).length c] 214)) w.heap.size 214 (.slice A (toL x).length c) := (((((Boxed.new w _ _).alloc _).alloc _).alloc _).alloc _).alloc _
  have b1 : Boxed ((((((w.alloc (.cells #[.slice A (toL x).length c] 214)).alloc (.cells #[.int .u64 (d : Int)] 117)).alloc (.cells (madeCells #[.int .u64 0] (toL x).length) 117)).alloc (.cells #[.slice (some ⟨w.heap.size + 1 + 1, 0, none⟩) (toL x).length (toL x).length] 214)).alloc (.cells #[.int .u64 0] 117)).alloc (.cells #[.slice A (toL x).length c] 214)) (w.heap.size + 1) 117 (.int .u64 (d : Int)) := by
    have := ((((Boxed.new (w.alloc (.cells #[.slice A (toL x).length c] 214)) 117 (.int .u64 (d : Int))).alloc (.cells (madeCells #[.int .u64 0] (toL x).length) 117)).alloc (.cells #[.slice (some ⟨w.heap.size + 1 + 1, 0, none⟩) (toL x).length (toL x).length] 214)).alloc (.cells #[.int .u64 0] 117)).alloc (.cells #[.slice A (toL x).length c] 214)
    simpa only [World.size_alloc] using this
  have b2 : Blk ((((((w.alloc (.cells #[.slice A (toL x).length c] 214)).alloc (.cells #[.int .u64 (d : Int)] 117)).alloc (.cells (madeCells #[.int .u64 0] (toL x).length) 117)).alloc (.cells #[.slice (some ⟨w.heap.size + 1 + 1, 0, none⟩) (toL x).length (toL x).length] 214)).alloc (.cells #[.int .u64 0] 117)).alloc (.cells #[.slice A (toL x).length c] 214)) (w.heap.size + 1 + 1) 117 (U64 (List.replicate (toL x).length 0)).toArray := by
    rw [← U64_zeros]
    have := (((Blk.new ((w.alloc (.cells #[.slice A (toL x).length c] 214)).alloc (.cells #[.int .u64 (d : Int)] 117)) 117 (madeCells #[.int .u64 0] (toL x).length)).alloc (.cells #[.slice (some ⟨w.heap.size + 1 + 1, 0, none⟩) (toL x).length (toL x).length] 214)).alloc (.cells #[.int .u64 0] 117)).alloc (.cells #[.slice A (toL x).length c] 214)
    simpa only [World.size_alloc] using this
  have b3 : Boxed ((((((w.alloc (.cells #[.slice A (toL x).length c] 214)).alloc (.cells #[.int .u64 (d : Int)] 117)).alloc (.cells (madeCells #[.int .u64 0] (toL x).length) 117)).alloc (.cells #[.slice (some ⟨w.heap.size + 1 + 1, 0, none⟩) (toL x).length (toL x).length] 214)).alloc (.cells #[.int .u64 0] 117)).alloc (.cells #[.slice A (toL x).length c] 214)) (w.heap.size + 1 + 1 + 1) 214 (.slice (some ⟨w.heap.size + 1 + 1, 0, none⟩) (toL x).length (toL x).length) := by
    have := ((Boxed.new (((w.alloc (.cells #[.slice A (toL x).length c] 214)).alloc (.cells #[.int .u64 (d : Int)] 117)).alloc (.cells (madeCells #[.int .u64 0] (toL x).length) 117)) 214 (.slice (some ⟨w.heap.size + 1 + 1, 0, none⟩) (toL x).length (toL x).length)).alloc (.cells #[.int .u64 0] 117)).alloc (.cells #[.slice A (toL x).length c] 214)
    simpa only [World.size_alloc] using this
  have b4 : Boxed ((((((w.alloc (.cells #[.slice A (toL x).length c] 214)).alloc (.cells #[.int .u64 (d : Int)] 117)).alloc (.cells (madeCells #[.int .u64 0] (toL x).length) 117)).alloc (.cells #[.slice (some ⟨w.heap.size + 1 + 1, 0, none⟩) (toL x).length (toL x).length] 214)).alloc (.cells #[.int .u64 0] 117)).alloc (.cells #[.slice A (toL x).length c] 214)) (w.heap.size + 1 + 1 + 1 + 1) 117 (.int .u64 0) := by
    have := (Boxed.new ((((w.alloc (.cells #[.slice A (toL x).length c] 214)).alloc (.cells #[.int .u64 (d : Int)] 117)).alloc (.cells (madeCells #[.int .u64 0] (toL x).length) 117)).alloc (.cells #[.slice (some ⟨w.heap.size + 1 + 1, 0, none⟩) (toL x).length (toL x).length] 214)) 117 (.int .u64 0)).alloc (.cells #[.slice A (toL x).length c] 214)
    simpa only [World.size_alloc] using this
  have b5 : Boxed ((((((w.alloc (.cells #[.slice A (toL x).length c] 214)).alloc (.cells #[.int .u64 (d : Int)] 117)).alloc (.cells (madeCells #[.int .u64 0] (toL x).length) 117)).alloc (.cells #[.slice (some ⟨w.heap.size + 1 + 1, 0, none⟩) (toL x).length (toL x).length] 214)).alloc (.cells #[.int .u64 0] 117)).alloc (.cells #[.slice A (toL x).length c] 214)) (w.heap.size + 1 + 1 + 1 + 1 + 1) 214 (.slice A (toL x).length c) := by
    have := Boxed.new (((((w.alloc (.cells #[.slice A (toL x).length c] 214)).alloc (.cells #[.int .u64 (d : Int)] 117)).alloc (.cells (madeCells #[.int .u64 0] (toL x).length) 117)).alloc (.cells #[.slice (some ⟨w.heap.size + 1 + 1, 0, none⟩) (toL x).length (toL x).length] 214)).alloc (.cells #[.int .u64 0] 117)) 214 (.slice A (toL x).length c)
    simpa only [World.size_alloc] using this
  generalize hW0 : ((((((w.alloc (.cells #[.slice A (toL x).length c] 214)).alloc (.cells #[.int .u64 (d : Int)] 117)).alloc (.cells (madeCells #[.int .u64 0] (toL x).length) 117)).alloc (.cells #[.slice (some ⟨w.heap.size + 1 + 1, 0, none⟩) (toL x).length (toL x).length] 214)).alloc (.cells #[.int .u64 0] 117)).alloc (.cells #[.slice A (toL x).length c] 214)) = W0 at *
  have hsz : W0.heap.size = w.heap.size + 1 + 1 + 1 + 1 + 1 + 1 := by rw [← hW0]; simp
  clear hW0
  refine wpIn_range_ord rfl h1 (gf := 302) (lb := #[.pointer (some ⟨w.heap.size + 1 + 1 + 1 + 1 + 1, 0, none⟩)]) rfl trivial eg_back
    (back_seq Fence.wide 2 trivial rfl (by omega) (fun i z => z = (((toL x)[i]?.getD 0 : Nat) : Int)) (w.heap.size + 1 + 1 + 1 + 1 + 1) A (toL x).length c (by omega)) (fun _ => rfl)
    (fun pre W => ∃ (O : List Nat) (r : Nat), DivInv (toL x) d ((toL x).length - pre.length) O r ∧ pre.length ≤ (toL x).length ∧ Boxed W w.heap.size 214 (.slice A (toL x).length c) ∧ Boxed W (w.heap.size + 1) 117 (.int .u64 (d : Int)) ∧ Blk W (w.heap.size + 1 + 1) 117 (U64 O).toArray ∧
      Boxed W (w.heap.size + 1 + 1 + 1) 214 (.slice (some ⟨w.heap.size + 1 + 1, 0, none⟩) (toL x).length (toL x).length) ∧ Boxed W (w.heap.size + 1 + 1 + 1 + 1) 117 (.int .u64 (r : Int)) ∧ Boxed W (w.heap.size + 1 + 1 + 1 + 1 + 1) 214 (.slice A (toL x).length c) ∧ Below w.heap.size w W)
    (fun _ _ _ => False)
    ?hG ?hI (fun c s W W' row hs _ _ => hs) ⟨_, 0, by rw [List.length_nil, Nat.sub_zero]; exact DivInv.start (toL x) hd0, by simp, b0, b1, b2, b3, b4, b5, hB0⟩ ?round ?done ?stop
  case hG =>
    rintro pre W ⟨O, r, _, _, _, _, _, _, _, b5, hB⟩
    refine ⟨b5.cell, fun h0 => ?_⟩
    obtain ⟨b, o, rfl, hb, hcell⟩ := hra.later hB (by rw [U64_length]; exact h0)
    exact ⟨b, o, rfl, fun i hi => ⟨_, hcell i _ (U64_get hi), rfl⟩⟩
  case hI =>
    rintro s W W' row ⟨O, r, g1, g2, g3, g4, g5, g6, g7, g8, g9⟩ hg hr
    exact ⟨O, r, g1, g2, bx_own g3 hg hr, bx_own g4 hg hr, g5.own_ hg hr, bx_own g6 hg hr, bx_own g7 hg hr, bx_own g8 hg hr, below_own_ g9 (Nat.le_refl _) (by omega) hg hr⟩
  case round =>
    rintro l pre ⟨i, z⟩ W K hi hnx hK
    have HNX := Lib.hid hnx
    clear hnx b0 b1 b2 b3 b4 b5 hB0
    gi_wp2
    refine hK _ _ (KeepsOthers.refl _) hi ?_
    clear hK hi
    rintro Wb _ ⟨O, r, hdiv, hpl, b0, b1, b2, b3, b4, b5, hB⟩
    obtain ⟨m, hm, hcame, hieq, hz⟩ := HNX.out
    dsimp only at hieq hz
    have hml := hcame.length
    have hil : i < (toL x).length := by omega
    have hrd := hdiv.2.2.2
    have hOl := hdiv.2.1
    have HDV := Lib.hid (show DivInv (toL x) d (i + 1) O r by have e : (toL x).length - pre.length = i + 1 := by omega
                                                              rw [e] at hdiv; exact hdiv)
    have HLN := Lib.hid (show pre.length = (toL x).length - 1 - i by omega)
    clear hdiv hcame hml
    obtain ⟨b, o, rfl, hb, hcell⟩ := hra.later hB (by rw [U64_length]; omega)
    have hcx := hcell i _ (U64_get hil)
    have hxB := (sm_toL x).get i
    rw [B_val] at hxB
    have HST := Lib.hid (fun n (hn : n = r * B + (toL x)[i]?.getD 0) => HDV.out.step (sm_toL x) hil hn)
    generalize (toL x)[i]?.getD 0 = x0 at *
    have hst1 := b2.getU (i := i) (by omega)
    have hst2 := b2.frozen i
    have c0 := b0.cell
    have c1 := b1.cell
    have c3 := b3.cell
    have c4 := b4.cell
    have f4 := b4.frozen
    have hi0 : (0 : Int) ≤ (i : Int) := by omega
    have hi1 : (i : Int) < ((toL x).length : Int) := by omega
    have hmx : Tryz.prog.follows .mixedOrders = true := by kernel_rfl
    have HEQ := Lib.hid hieq
    have HHM := Lib.hid (And.intro hm hOl)
    have HB5 := Lib.hid (And.intro b5 hB)
    clear hieq hz hcell hra hm hOl hB
    gi_wp2
    refine wpIn_quiet_round hmx (by kernel_rfl) (by kernel_rfl) ?_
    repeat (gi_big_quiet_step (fail))
    refine wpQuietIn_nil ?_
    intro _ hw'
    obtain ⟨nq, hw''⟩ := hw'
    subst hw''
    gi_wp2
    obtain ⟨O', hO'⟩ : ∃ O', O' = O.set i ((r * B + x0) / d) := ⟨_, rfl⟩
    have hbw := b0.lt
    have x0' : ∀ X : SameAt Wb (fun k => k ≠ w.heap.size + 1 + 1 ∧ k ≠ w.heap.size + 1 + 1 + 1 + 1), X.W.cell? ⟨w.heap.size + 1, 0, none⟩ = _ := fun X => X.cell (by constructor <;> omega) c1
    have x3' : ∀ X : SameAt Wb (fun k => k ≠ w.heap.size + 1 + 1 ∧ k ≠ w.heap.size + 1 + 1 + 1 + 1), X.W.cell? ⟨w.heap.size + 1 + 1 + 1, 0, none⟩ = _ := fun X => X.cell (by constructor <;> omega) c3
    refine wpIn_stage (IsSame Wb (fun k => k ≠ w.heap.size + 1 + 1 ∧ k ≠ w.heap.size + 1 + 1 + 1 + 1)) [0, 1, 2, 3, 4, 5, 6, 7, 8] [] hmx (by kernel_rfl) (isSame_of fun _ _ => rfl) ?_
    change wpStage _ _ _ _ _ _ _ _ (2 + 9) _ _ _
    refine stage_reads [0, 1, 2, 3, 4, 5, 6, 7, 8] 2 _ _ (by kernel_rfl) ?_
    change wpQuietIn _ _ _ _ (fun W => ∃ x : SameAt Wb (fun k => k ≠ w.heap.size + 1 + 1 ∧ k ≠ w.heap.size + 1 + 1 + 1 + 1), W = x.W) _ _ _
    simp only [pick_cons, pick_nil, List.getElem?_cons_zero, List.getElem?_cons_succ, Option.elim_some]
    repeat (gi_big_quiet_step (fail))
    refine wpQuietIn_nil ?_
    refine stage_one 9 (by kernel_rfl) rfl ?_
    gi_wp2
    refine stage_post (isSame_of fun k hk => Below.heap_setCell _ _ _ k hk.1) ?_
    have e1 : ((r : Int) * 1000000000 + (x0 : Int)) / (d : Int) = (((r * B + x0) / d : Nat) : Int) := quo_cast r x0 d
    have e2 : ((r : Int) * 1000000000 + (x0 : Int)) % (d : Int) = (((r * B + x0) % d : Nat) : Int) := rem_cast r x0 d
    rw [e1, e2]
    generalize hn : r * B + x0 = n at *
    have HST2 := Lib.hid (HST.out n rfl)
    generalize hqd : n / d = qd at *
    generalize hrm : n % d = rm at *
    have q0 : Boxed ((Wb.drewN (nq + 1)).setCell ⟨w.heap.size + 1 + 1, i, none⟩ (.int .u64 (qd : Int))) w.heap.size 214 _ := bx_far b0 (by intro e; dsimp only at e; omega) _
    have q1 : Boxed ((Wb.drewN (nq + 1)).setCell ⟨w.heap.size + 1 + 1, i, none⟩ (.int .u64 (qd : Int))) (w.heap.size + 1) 117 _ := bx_far b1 (by intro e; dsimp only at e; omega) _
    have q2 : Blk ((Wb.drewN (nq + 1)).setCell ⟨w.heap.size + 1 + 1, i, none⟩ (.int .u64 (qd : Int))) (w.heap.size + 1 + 1) 117 (U64 (O.set i qd)).toArray := Blk.setU (w := Wb.drewN (nq + 1)) b2 i qd
    have q3 : Boxed ((Wb.drewN (nq + 1)).setCell ⟨w.heap.size + 1 + 1, i, none⟩ (.int .u64 (qd : Int))) (w.heap.size + 1 + 1 + 1) 214 _ := bx_far b3 (by intro e; dsimp only at e; omega) _
    have q4 : Boxed ((Wb.drewN (nq + 1)).setCell ⟨w.heap.size + 1 + 1, i, none⟩ (.int .u64 (qd : Int))) (w.heap.size + 1 + 1 + 1 + 1) 117 _ := bx_far b4 (by intro e; dsimp only at e; omega) _
    have q5 : Boxed ((Wb.drewN (nq + 1)).setCell ⟨w.heap.size + 1 + 1, i, none⟩ (.int .u64 (qd : Int))) (w.heap.size + 1 + 1 + 1 + 1 + 1) 214 _ := bx_far HB5.out.1 (by intro e; dsimp only at e; omega) _
    have qB : Below w.heap.size w ((Wb.drewN (nq + 1)).setCell ⟨w.heap.size + 1 + 1, i, none⟩ (.int .u64 (qd : Int))) := (below_drewN' HB5.out.2 (nq + 1)).setCell (p := ⟨w.heap.size + 1 + 1, i, none⟩) (by simp; omega) _
    have qK : KeepsOthers Wb ((Wb.drewN (nq + 1)).setCell ⟨w.heap.size + 1 + 1, i, none⟩ (.int .u64 (qd : Int))) := (keeps_drewN _ (nq + 1)).trans (KeepsOthers.setCell _ _ _)
    have qS : ∀ k, k ≠ w.heap.size + 1 + 1 → ((Wb.drewN (nq + 1)).setCell ⟨w.heap.size + 1 + 1, i, none⟩ (.int .u64 (qd : Int))).heap[k]? = Wb.heap[k]? := fun k hk => Below.heap_setCell _ _ _ k hk
    generalize (Wb.drewN (nq + 1)).setCell ⟨w.heap.size + 1 + 1, i, none⟩ (.int .u64 (qd : Int)) = W1 at *
    clear c0 c1 c3 c4 f4 hst1 hst2 x0' x3'
    have c4 := q4.cell
    have f4 := q4.frozen
    refine stage_one 10 (by kernel_rfl) rfl ?_
    gi_wp2
    refine stage_post (isSame_of fun k hk => (Below.heap_setCell _ _ _ k hk.2).trans (qS k hk.1)) ?_
    refine stage_done (by kernel_rfl) ?_
    gi_wp2
    refine ⟨qK.trans (KeepsOthers.setCell _ _ _), O.set i qd, rm, ?_, ?_, bx_far q0 (by intro e; dsimp only at e; omega) _, bx_far q1 (by intro e; dsimp only at e; omega) _, q2.far (by intro e; dsimp only at e; omega) _, bx_far q3 (by intro e; dsimp only at e; omega) _, Boxed.set _ q4, bx_far q5 (by intro e; dsimp only at e; omega) _, qB.setCell (p := ⟨w.heap.size + 1 + 1 + 1 + 1, 0, none⟩) (by dsimp only; omega) _⟩
    · rw [List.length_append, List.length_singleton, show (toL x).length - (pre.length + 1) = i by have := HLN.out; omega]; exact HST2.out
    · rw [List.length_append, List.length_singleton]; have := HLN.out; have := HHM.out.1; omega
  case done =>
    rintro D ys W hD hS ⟨O, r, hdiv, hpl, b0, b1, b2, b3, b4, b5, hB⟩ hK
    have hlen := hS.length
    rw [hlen, Nat.sub_self] at hdiv
    obtain ⟨d1, d2⟩ := hdiv.done
    rw [val_toL] at d1 d2
    have hO := hdiv.1
    have hOl := hdiv.2.1
    subst d2
    have HD1 := Lib.hid d1
    have hrow := b2.row
    clear hdiv hS d1
    have c3 := b3.cell
    have c4 := b4.cell
    have hmx : Tryz.prog.follows .mixedOrders = true := by kernel_rfl
    gi_wp2
    have x3' : ∀ X : SameAt W (fun _ => True), X.W.cell? ⟨w.heap.size + 1 + 1 + 1, 0, none⟩ = _ := fun X => X.cell trivial c3
    have x4' : ∀ X : SameAt W (fun _ => True), X.W.cell? ⟨w.heap.size + 1 + 1 + 1 + 1, 0, none⟩ = _ := fun X => X.cell trivial c4
    refine wpIn_stage (IsSame W (fun _ => True)) [0, 2, 3, 4] [] hmx (by kernel_rfl) (isSame_of fun _ _ => rfl) ?_
    change wpStage _ _ _ _ _ _ _ _ (3 + 2) _ _ _
    refine stage_reads [0, 2] 3 _ _ (by kernel_rfl) ?_
    change wpQuietIn _ _ _ _ (fun W' => ∃ x : SameAt W (fun _ => True), W' = x.W) _ _ _
    simp only [pick_cons, pick_nil, List.getElem?_cons_zero, List.getElem?_cons_succ, Option.elim_some]
    repeat (gi_big_quiet_step (fail))
    refine wpQuietIn_nil ?_
    refine stage_one 1 (by kernel_rfl) rfl ?_
    gi_wp2
    refine ⟨trivial, ?_⟩
    refine (callsIn_wide.2 (trim_any O _ _ _ W.drew hOl.symm hO (Nat.le_of_eq hOl) (by unfold maxLen; omega) hrow)).mono ?_
    rintro e w' ⟨rfl, rfl⟩
    gi_wp2
    refine stage_post (isSame_of fun _ _ => rfl) ?_
    change wpStage _ _ _ _ _ _ _ _ (0 + 2) _ _ _
    refine stage_reads [3, 4] 0 _ _ (by kernel_rfl) ?_
    change wpQuietIn _ _ _ _ (fun W' => ∃ x : SameAt W (fun _ => True), W' = x.W) _ _ _
    simp only [pick_cons, pick_nil, List.getElem?_cons_zero, List.getElem?_cons_succ, Option.elim_some]
    repeat (gi_big_quiet_step (fail))
    refine wpQuietIn_nil ?_
    refine stage_done (by kernel_rfl) ?_
    gi_wp2
    refine ⟨by simp, .inl ⟨_, _, rfl, run_takeDeferred (show W.drew.heap[D]? = _ from hK), ?_⟩⟩
    refine ⟨_, results_tmp2 rfl _ _ _, ⟨_, rfl, ?_, ?_⟩⟩
    · have hb2 := b2.own_ (B := 0) (grownBy_putObj' W D (.deferred none)) (fun r e => by cases e; exact ⟨Nat.zero_le _, _, hK, rfl⟩)
      have hfin := isNat_trim hO hb2.row (c := (toL x).length) (Nat.le_of_eq hOl) (by unfold maxLen; omega) HD1.out
      rw [← HD1.out] at hfin ⊢
      exact hfin
    · have hBd : Below w.heap.size w W.drew := ⟨hB.os, hB.tape, hB.output, hB.size, hB.block⟩
      exact hBd.trans (belowK_b (w := w) (Nat.le_refl _) W.drew D _ _ (by omega) hK rfl rfl)
  case stop =>
    rintro D c pre x' W hD _ h _
    exact h.elim
end Go.Proofs.YtigapglmipmbeaaGreatDoor
namespace Go.Proofs.YtigapglmipmbeaaGreatDoor.Lim
open Go.Lib
def isD (b:UInt8):Bool:=decide (48≤b.toNat)&&decide (b.toNat≤57)
theorem isD_iff {b:UInt8}:isD b=true↔48≤b.toNat∧b.toNat≤57:=by simp [isD]
def Dg (l:List UInt8):Prop:=∀ b∈l,isD b=true
theorem Dg.nil:Dg []:=fun _ h=>by cases h
theorem Dg.append {a b:List UInt8} (ha:Dg a) (hb:Dg b):Dg (a++b):=fun y hy=>by
 rcases List.mem_append.1 hy with hy|hy
 ·exact ha y hy
 ·exact hb y hy
theorem Dg.left {a b:List UInt8} (h:Dg (a++b)):Dg a:=fun y hy=>h y (List.mem_append_left _ hy)
theorem Dg.take {l:List UInt8} (h:Dg l) (k:Nat):Dg (l.take k):=fun y hy=>h y (List.mem_of_mem_take hy)
theorem Dg.drop {l:List UInt8} (h:Dg l) (k:Nat):Dg (l.drop k):=fun y hy=>h y (List.mem_of_mem_drop hy)
theorem isD_ofNat {n:Nat} (h:n < 10):isD (UInt8.ofNat (48+n))=true:=by
 rw [isD_iff]
 simp
 omega
theorem toNat_ofNat {n:Nat} (h:n < 10):(UInt8.ofNat (48+n)).toNat=48+n:=by
 simp
 omega
theorem ofNat_toNat {b:UInt8} (h:isD b=true):UInt8.ofNat (48+(b.toNat - 48))=b:=by
 rw [isD_iff] at h
 rw [show 48+(b.toNat - 48)=b.toNat by omega]
 simp
def dv (l:List UInt8):Nat:=l.foldl (fun a b=>a*10+(b.toNat - 48)) 0
theorem dv_from (l:List UInt8) (a:Nat):l.foldl (fun a b=>a*10+(b.toNat - 48)) a=a*10 ^ l.length+dv l:=by
 induction l generalizing a with
 | nil=>simp [dv]
 | cons x r ih =>
  unfold dv
  rw [List.foldl_cons,List.foldl_cons,ih,ih,List.length_cons,Nat.pow_succ]
  simp only [Nat.zero_mul,Nat.zero_add]
  rw [Nat.add_mul,Nat.mul_assoc,Nat.mul_comm 10]
  omega
theorem dv_nil:dv []=0:=rfl
theorem dv_cons (b:UInt8) (l:List UInt8):dv (b::l)=(b.toNat - 48)*10 ^ l.length+dv l:=by
 unfold dv
 rw [List.foldl_cons,dv_from]
 simp [dv]
theorem dv_append (a b:List UInt8):dv (a++b)=dv a*10 ^ b.length+dv b:=by
 unfold dv
 rw [List.foldl_append,dv_from]
 rfl
theorem dv_snoc (a:List UInt8) (b:UInt8):dv (a++[b])=dv a*10+(b.toNat - 48):=by
 rw [dv_append,dv_cons];simp [dv_nil]
theorem dv_lt {l:List UInt8} (h:Dg l):dv l < 10 ^ l.length:=by
 induction l with
 | nil=>simp [dv]
 | cons x r ih =>
  have h1:=isD_iff.1 (h x (List.mem_cons_self ..))
  have h2:=ih (fun y hy=>h y (List.mem_cons_of_mem _ hy))
  rw [dv_cons,List.length_cons,Nat.pow_succ]
  have:(x.toNat - 48)*10 ^ r.length≤9*10 ^ r.length:=Nat.mul_le_mul_right _ (by omega)
  omega
theorem decDigits_big {n:Nat} (h:¬ n < 10):decDigits n=decDigits (n / 10)++[UInt8.ofNat (48+n % 10)]:=by rw [decDigits,dif_neg h]
theorem decDigits_dg (n:Nat):Dg (decDigits n):=by
 induction n using Nat.strongRecOn with
 | _ n ih =>
  by_cases h:n < 10
  ·rw [decDigits_one h]
   intro b hb
   rw [List.mem_singleton] at hb
   subst hb
   exact isD_ofNat h
  ·rw [decDigits_big h]
   refine (ih _ (by omega)).append (fun b hb=>?_)
   rw [List.mem_singleton] at hb
   subst hb
   exact isD_ofNat (Nat.mod_lt _ (by omega))
theorem dv_decDigits (n:Nat):dv (decDigits n)=n:=by
 induction n using Nat.strongRecOn with
 | _ n ih =>
  by_cases h:n < 10
  ·rw [decDigits_one h,dv_cons,toNat_ofNat h];simp [dv_nil]
  ·rw [decDigits_big h,dv_snoc,ih _ (by omega),toNat_ofNat (Nat.mod_lt _ (by omega))]
   omega
theorem decDigits_ne (n:Nat):decDigits n≠[]:=fun e=>by
 have h1:=decDigits_length n
 rw [e,List.length_nil] at h1
 have h2:=nDigits_pos n
 omega
theorem decDigits_inj {m n:Nat} (h:decDigits m=decDigits n):m=n:=by
 have:=congrArg dv h
 rwa [dv_decDigits,dv_decDigits] at this
def padk:Nat→Nat→List UInt8
 | 0,_=>[]
 | k+1,x=>padk k (x / 10)++[UInt8.ofNat (48+x % 10)]
theorem padk_length (k x:Nat):(padk k x).length=k:=by
 induction k generalizing x with
 | zero=>rfl
 | succ k ih=>simp [padk,ih]
theorem padk_dg (k x:Nat):Dg (padk k x):=by
 induction k generalizing x with
 | zero=>exact Dg.nil
 | succ k ih =>
  refine (ih _).append (fun b hb=>?_)
  rw [List.mem_singleton] at hb
  subst hb
  exact isD_ofNat (Nat.mod_lt _ (by omega))
theorem dv_padk (k x:Nat) (h:x < 10 ^ k):dv (padk k x)=x:=by
 induction k generalizing x with
 | zero=>simp at h;subst h;rfl
 | succ k ih =>
  rw [padk,dv_snoc,ih _ (by rw [Nat.pow_succ] at h;omega),toNat_ofNat (Nat.mod_lt _ (by omega))]
  omega
theorem padk_zero (k:Nat):padk k 0=List.replicate k 48:=by
 induction k with
 | zero=>rfl
 | succ k ih=>rw [padk,Nat.zero_div,ih,List.replicate_succ'];rfl
theorem decDigits_mul (k a x:Nat) (ha:0 < a) (hx:x < 10 ^ k):decDigits (a*10 ^ k+x)=decDigits a++padk k x:=by
 induction k generalizing x with
 | zero=>simp at hx;subst hx;simp [padk]
 | succ k ih =>
  have hp:0 < 10 ^ k:=Nat.pow_pos (by omega)
  have h1:a*10 ^ (k+1)=a*10 ^ k*10:=by rw [Nat.pow_succ,Nat.mul_assoc]
  have h2:1*1≤a*10 ^ k:=Nat.mul_le_mul ha hp
  rw [decDigits_big (by omega),h1,show (a*10 ^ k*10+x) / 10=a*10 ^ k+x / 10 by omega,ih _ (by rw [Nat.pow_succ] at hx;omega),show (a*10 ^ k*10+x) % 10=x % 10 by omega,padk,List.append_assoc]
theorem padk_eq (k x:Nat) (hk:nDigits x≤k):padk k x=List.replicate (k - nDigits x) 48++decDigits x:=by
 induction k generalizing x with
 | zero=>have:=nDigits_pos x;omega
 | succ k ih =>
  by_cases h:x < 10
  ·rw [padk,Nat.div_eq_of_lt h,padk_zero,nDigits_small h,decDigits_one h,Nat.mod_eq_of_lt h]
   rfl
  ·rw [padk,nDigits_big h,decDigits_big h,ih _ (by rw [nDigits_big h] at hk;omega),List.append_assoc,show k+1 - (nDigits (x / 10)+1)=k - nDigits (x / 10) by omega]
theorem nDigits_le {x k:Nat} (hk:0 < k) (h:x < 10 ^ k):nDigits x≤k:=by
 induction k generalizing x with
 | zero=>omega
 | succ k ih =>
  by_cases hx:x < 10
  ·rw [nDigits_small hx];omega
  ·rw [nDigits_big hx]
   have h2:x / 10 < 10 ^ k:=by rw [Nat.pow_succ] at h;omega
   have hk0:0 < k:=by
    rcases Nat.eq_zero_or_pos k with rfl|hk0
    ·simp at h2;omega
    ·exact hk0
   have:=ih hk0 h2
   omega
theorem nDigits_mono {x y:Nat} (h:x≤y):nDigits x≤nDigits y:=nDigits_le (nDigits_pos y) (Nat.lt_of_le_of_lt h (lt_pow_nDigits y))
theorem le_of_nDigits {x k:Nat} (h:nDigits x≤k):x < 10 ^ k:=Nat.lt_of_lt_of_le (lt_pow_nDigits x) (Nat.pow_le_pow_right (by omega) h)
theorem padk_dv':∀ (k:Nat) (r:List UInt8),r.length=k→Dg r→padk k (dv r)=r
 | 0,r,e,_=>by rw [List.length_eq_zero_iff.1 e];rfl
 | k+1,r,e,hr=>by
  have hne:r≠[]:=fun h=>by rw [h] at e;simp at e
  obtain ⟨s,b,rfl⟩:∃ s b,r=s++[b]:=⟨_,_,(List.dropLast_concat_getLast hne).symm⟩
  have hb:=isD_iff.1 (hr b (by simp))
  have hb2:=ofNat_toNat (hr b (by simp))
  have hl:s.length=k:=by simpa using e
  rw [padk,dv_snoc,show (dv s*10+(b.toNat - 48)) / 10=dv s by omega,show (dv s*10+(b.toNat - 48)) % 10=b.toNat - 48 by omega,padk_dv' k s hl hr.left,hb2]
theorem padk_dv (r:List UInt8) (hr:Dg r):padk r.length (dv r)=r:=padk_dv' _ r rfl hr
theorem decDigits_dv (l:List UInt8) (h:Dg l) (hne:l≠[]) (h0:l=[48]∨l.head?≠some 48):decDigits (dv l)=l:=by
 rcases h0 with rfl|h0
 ·rw [dv_cons];simp [dv_nil,decDigits_one]
 ·have key:∀ (r:List UInt8) (a:UInt8),Dg r→isD a=true→a≠48→decDigits (dv (a::r))=a::r:=by
   intro r a hr ha ha0
   have h1:=isD_iff.1 ha
   have hpos:0 < a.toNat - 48:=by
    rcases Nat.eq_zero_or_pos (a.toNat - 48) with e|e
    ·exfalso;apply ha0;rw [← ofNat_toNat ha,e];rfl
    ·exact e
   rw [dv_cons,decDigits_mul _ _ _ hpos (dv_lt hr),decDigits_one (by omega),ofNat_toNat ha]
   have:padk r.length (dv r)=r:=by
    exact padk_dv r hr
   rw [this]
   rfl
  cases l with
  | nil=>exact absurd rfl hne
  | cons a r =>
   exact key r a (fun y hy=>h y (List.mem_cons_of_mem _ hy)) (h a (List.mem_cons_self ..)) (by simpa using h0)
theorem head_dec (n:Nat) (hn:n≠0):(decDigits n).head?≠some 48:=by
 induction n using Nat.strongRecOn with
 | _ n ih =>
  by_cases h:n < 10
  ·rw [decDigits_one h]
   intro e
   rw [List.head?_cons,Option.some.injEq] at e
   have h2:=congrArg UInt8.toNat e
   rw [toNat_ofNat h] at h2
   have h3:(48:UInt8).toNat=48:=rfl
   omega
  ·rw [decDigits_big h,List.head?_append]
   have h1:=ih (n / 10) (by omega) (by omega)
   cases hh:(decDigits (n / 10)).head? with
   | none=>exact absurd (List.head?_eq_none_iff.1 hh) (decDigits_ne _)
   | some b=>rw [hh] at h1;simpa using h1
def NForm (l:List UInt8):Bool:=!l.isEmpty&&(l==[48] || l.head? != some 48)&&l.all isD
theorem NForm_iff {l:List UInt8}:NForm l=true↔∃ n,l=decDigits n:=by
 unfold NForm
 simp only [Bool.and_eq_true,Bool.not_eq_true',List.isEmpty_eq_false_iff,Bool.or_eq_true,beq_iff_eq,bne_iff_ne,List.all_eq_true]
 constructor
 ·rintro ⟨⟨h1,h2⟩,h3⟩
  exact ⟨dv l,(decDigits_dv l h3 h1 h2).symm⟩
 ·rintro ⟨n,rfl⟩
  refine ⟨⟨decDigits_ne n,?_⟩,decDigits_dg n⟩
  by_cases h0:n=0
  ·subst h0;exact .inl (by rw [decDigits_one (by omega)];rfl)
  ·right
   exact head_dec n h0
theorem NForm.eq {l:List UInt8} (h:NForm l=true):decDigits (dv l)=l:=by
 obtain ⟨n,rfl⟩:=NForm_iff.1 h
 rw [dv_decDigits]
theorem B_pow (k:Nat):B ^ k=10 ^ (9*k):=by rw [B_val,Nat.pow_mul]
def ReadInv (s:List UInt8) (e:Nat) (L:List Nat):Prop:=Sm L∧val L=dv (s.drop e)∧(0 < e→s.length=e+9*L.length)
theorem ReadInv.start (s:List UInt8):ReadInv s s.length []:=⟨Sm.nil,by simp [val,dv],fun _=>by simp⟩
theorem ReadInv.step {s:List UInt8} {e:Nat} {L:List Nat} (h:ReadInv s e L) (hs:Dg s) (he:0 < e) (hle:e≤s.length) {c:Nat} (hc:c=dv ((s.take e).drop (e - 9))):ReadInv s (e - 9) (L++[c]):=by
 obtain ⟨h1,h2,h3⟩:=h
 have h4:=h3 he
 have hd:s.drop (e - 9)=(s.take e).drop (e - 9)++s.drop e:=by
  conv=>lhs;rw [← List.take_append_drop e s]
  rw [List.drop_append_of_le_length (by rw [List.length_take];omega)]
 have hlen:((s.take e).drop (e - 9)).length≤9:=by rw [List.length_drop,List.length_take];omega
 have hcB:c < B:=by
  rw [hc,B_val]
  refine Nat.lt_of_lt_of_le (dv_lt ((hs.take e).drop _)) ?_
  exact Nat.le_trans (Nat.pow_le_pow_right (by omega) hlen) (by decide)
 refine ⟨h1.snoc hcB,?_,fun hp=>by simp;omega⟩
 rw [val_snoc,h2,hd,dv_append,← hc,B_pow,List.length_drop,show s.length - e=9*L.length by omega,Nat.mul_comm c]
 omega
theorem ReadInv.done {s:List UInt8} {L:List Nat} (h:ReadInv s 0 L):Sm L∧val L=dv s:=⟨h.1,by have:=h.2.1;simpa using this⟩
theorem chunk_ok {l:List UInt8} (h:Dg l) (hne:l≠[]) (hl:l.length≤9):parseUintB 64 l=.ok (dv l):=by
 have key:∀ (r:List UInt8) (acc:Nat),Dg r→(acc+1)*10 ^ r.length≤1000000000→parseUintM (2 ^ 64 - 1) acc r=.ok (acc*10 ^ r.length+dv r):=by
  intro r
  induction r with
  | nil=>intro acc _ _;simp [parseUintM,dv]
  | cons b r ih =>
   intro acc hr hb
   have h1:=isD_iff.1 (hr b (List.mem_cons_self ..))
   have hp:0 < 10 ^ r.length:=Nat.pow_pos (by omega)
   rw [List.length_cons,Nat.pow_succ] at hb
   have e1:(acc+1)*(10 ^ r.length*10)=(acc*10+10)*10 ^ r.length:=by
    rw [Nat.mul_comm (10 ^ r.length),← Nat.mul_assoc,Nat.add_mul]
   rw [e1] at hb
   have e2:acc*10+10≤1000000000:=Nat.le_trans (Nat.le_mul_of_pos_right _ hp) hb
   rw [parseUintM,if_pos h1,if_neg (by omega),if_neg (by omega),ih _ (fun y hy=>hr y (List.mem_cons_of_mem _ hy)) (Nat.le_trans (Nat.mul_le_mul_right _ (by omega)) hb),dv_cons,List.length_cons,Nat.pow_succ]
   congr 1
   rw [Nat.add_mul,Nat.mul_assoc,Nat.mul_comm 10]
   omega
 have:=key l 0 h (by rw [Nat.zero_add,Nat.one_mul];exact Nat.le_trans (Nat.pow_le_pow_right (by omega) hl) (by decide))
 unfold parseUintB
 rw [if_neg hne,this]
 simp
def wr (L:List Nat) (m:Nat):List UInt8:=decDigits (val (L.drop (L.length - m)))
theorem wr_one {L:List Nat} (hne:L≠[]):wr L 1=decDigits (L[L.length - 1]?.getD 0):=by
 unfold wr
 have hl:0 < L.length:=List.length_pos_iff.2 hne
 rw [val_drop L (L.length - 1) (by omega),show L.length - 1+1=L.length by omega]
 simp [val]
theorem wr_step {L:List Nat} (hc:Can L) {m:Nat} (h1:1≤m) (hm:m < L.length):wr L (m+1)=wr L m++padk 9 (L[L.length - 1 - m]?.getD 0):=by
 unfold wr
 rw [val_drop L (L.length - (m+1)) (by omega),show L.length - (m+1)+1=L.length - m by omega,show L.length - (m+1)=L.length - 1 - m by omega]
 have hx:=hc.1.get (L.length - 1 - m)
 have hpos:0 < val (L.drop (L.length - m)):=by
  have hcd:Can (L.drop (L.length - m)):=⟨hc.1.drop _,by rw [List.getLast?_drop,if_neg (by omega)];exact hc.2⟩
  have hne:L.drop (L.length - m)≠[]:=fun e=>by
   have:=congrArg List.length e
   rw [List.length_drop] at this
   simp at this
   omega
  exact Nat.lt_of_lt_of_le (Nat.pow_pos B_pos) (hcd.ge hne)
 rw [Nat.add_comm,Nat.mul_comm,B_val,show (1000000000:Nat)=10 ^ 9 from rfl,decDigits_mul 9 _ _ hpos (by rw [B_val] at hx;exact hx)]
theorem wr_all (L:List Nat):wr L L.length=decDigits (val L):=by unfold wr;simp
theorem nDigits_limb {x:Nat} (h:x < B):nDigits x≤9:=nDigits_le (by omega) (by rw [B_val] at h;exact h)
theorem nDigits_toL {n:Nat} (h:n≠0):nDigits n=9*((toL n).length - 1)+nDigits ((toL n)[(toL n).length - 1]?.getD 0):=by
 have hne:toL n≠[]:=fun e=>h (toL_eq_nil.1 e)
 have key:∀ m,1≤m→m≤(toL n).length→(wr (toL n) m).length=9*(m - 1)+nDigits ((toL n)[(toL n).length - 1]?.getD 0):=by
  intro m h1
  induction m with
  | zero=>omega
  | succ m ih =>
   intro hm
   by_cases h0:m=0
   ·subst h0
    rw [wr_one hne,decDigits_length];simp
   ·rw [wr_step (can_toL n) (by omega) (by omega),List.length_append,padk_length,ih (by omega) (by omega)]
    omega
 have:=key (toL n).length (List.length_pos_iff.2 hne) (Nat.le_refl _)
 rwa [wr_all,val_toL,decDigits_length] at this
end Go.Proofs.YtigapglmipmbeaaGreatDoor.Lim
namespace Go.Proofs.YtigapglmipmbeaaGreatDoor
open Go.RowKit Go.Shelf
open Lim
attribute [local go_sem] Oper.semAt_some
attribute [local go_sem ↓] inAt_zero inAt_succ
theorem dec_size (n:Nat):(⟨(Lib.decDigits n).toArray⟩:ByteArray).size=Lib.nDigits n:=by
 show (Lib.decDigits n).toArray.size=_
 rw [List.size_toArray,Lib.decDigits_length]
theorem digits_any (x:Nat) (vx:Value) (w:World) (hx:IsNat w vx x) (hlx:(toL x).length≤40000) (hr:Res w) :
  Calls Tryz.prog 250 #[vx] w fun e w'=>e=.returned (.int .i64 (Lib.nDigits x:Int))∧Below w.heap.size w w':=by
 obtain ⟨A,c,rfl,hc,hcm,hra⟩:=hx
 by_cases h0:x=0
 ·subst h0
  have hl:(toL 0).length=0:=by rw [toL_zero];rfl
  rw [hl,Lib.nDigits_small (by omega)]
  clear hl hra
  go_enter Tryz.func250,Tryz.ntmps250
  go_wp2
  go_ret
  exact ⟨rfl,Below.refl _ _⟩
 ·have hl:0 < (toL x).length:=toL_len_pos.2 h0
  have hnd:=nDigits_toL h0
  obtain ⟨b,o,rfl,hb,hcell⟩:=hra (by rw [U64_length];omega)
  have hcx:=hcell ((toL x).length - 1) _ (U64_get (by omega))
  have ht:=(sm_toL x).get ((toL x).length - 1)
  have hne:(((toL x).length:Int)==0)=false:=by rw [beq_eq_false_iff_ne];omega
  clear hcell hra
  generalize (toL x)[(toL x).length - 1]?.getD 0=t at *
  have hn9:=nDigits_limb ht
  rw [B_val] at ht
  have HND:=Lib.hid hnd
  have hsz:=dec_size t
  have HR:=Lib.hid hr
  clear hnd h0
  go_enter Tryz.func250,Tryz.ntmps250
  have TK1:True:=trivial
  go_wp2_with (clear TK1;go_at_call 279;refine (fmt_any t (by omega) _ HR.out).mono ?_;rintro e w1 ⟨rfl,hb1⟩;have HB1:=Lib.hid hb1;clear hb1)
  go_ret
  refine ⟨ret_eq (int_eq ?_),HB1.out⟩
  rw [HND.out]
  first
   | omega
   | (rw [hsz];omega)
theorem zeros_extract (k:Nat) (h:k≤9):(⟨#[48,48,48,48,48,48,48,48,48]⟩:ByteArray).extract k 9=⟨(List.replicate (9 - k) 48).toArray⟩:=by
 have:k=0∨k=1∨k=2∨k=3∨k=4∨k=5∨k=6∨k=7∨k=8∨k=9:=by omega
 rcases this with rfl|rfl|rfl|rfl|rfl|rfl|rfl|rfl|rfl|rfl<;>rfl
theorem zeros_size (k:Nat) (h:k≤9):((⟨#[48,48,48,48,48,48,48,48,48]⟩:ByteArray).extract k 9).size=9 - k:=by
 rw [zeros_extract k h]
 show (List.replicate (9 - k) (48:UInt8)).toArray.size=_
 simp
theorem isBuilder_kept {T e:TypeId} {B b:Nat} {bs:List Value} {w w':World} {row:Option Nat} (h:Lib.IsBuilder T e B b bs w) (hg:w.grownBy w' row) (hrow:∀ r,row=some r→∃ o:Obj,w.heap[r]?=some o∧o.isCells=false):Lib.IsBuilder T e B b bs w':=by
 have key:∀ p,Lib.BuilderAt T e B b p bs w→Lib.BuilderAt T e B b p bs w':=by
  rintro p ⟨hB,v,hb,hown,hne⟩
  have hlt:b < w.heap.size:=(Array.getElem?_eq_some_iff.1 hb).1
  refine ⟨hB,v,?_,hown.kept hg ?_,hne⟩
  ·rw [hg.block b hlt (fun e=>by
    obtain ⟨o,ho,hc⟩:=hrow b e.symm
    rw [hb] at ho;cases ho;simp [Obj.isCells] at hc)]
   exact hb
  ·cases hv:v.ownBlock with
   | none=>exact .inl rfl
   | some k =>
    right
    intro e
    obtain ⟨o,ho,hc⟩:=hrow k e.symm
    obtain ⟨cc,fz,hk⟩:=ownsRow_kind hown k hv
    rw [hk] at ho;cases ho;simp [Obj.isCells] at hc
 rcases h with h|h
 ·exact .inl (key _ h)
 ·exact .inr (key _ h)
theorem grownBy_of_below {w w':World} (h:Below w.heap.size w w'):w.grownBy w' none:=⟨h.os,h.tape,h.output,h.size,fun k hk _=>h.block k hk⟩
theorem isBuilder_below {T e:TypeId} {B b:Nat} {bs:List Value} {w w':World} (h:Lib.IsBuilder T e B b bs w) (hb:Below w.heap.size w w'):Lib.IsBuilder T e B b bs w' :=
 isBuilder_kept h (grownBy_of_below hb) (fun r e=>by cases e)
theorem keeps_of_others {e:TypeId} {b:Nat} {w w':World} (h:Lib.OthersKept e (some b) w w') (hs:w.heap.size≤w'.heap.size) (hb:∃ cs t fz,w.heap[b]?=some (.cells cs t fz)):KeepsOthers w w' :=
 ⟨hs,fun k o hk ho=>h k o hk (fun e=>by
  cases e
  obtain ⟨cs,t,fz,hc⟩:=hb
  rw [hc] at hk;cases hk;exact absurd ho (by simp [Obj.isCells])) (fun c fz e=>by subst e;exact absurd ho (by simp [Obj.isCells]))⟩
theorem builder_cells {T e:TypeId} {B b:Nat} {bs:List Value} {w:World} (h:Lib.IsBuilder T e B b bs w):∃ cs t fz,w.heap[b]?=some (.cells cs t fz):=by
 rcases h with ⟨_,v,hb,_⟩|⟨_,v,hb,_⟩
 ·exact ⟨_,_,_,hb⟩
 ·exact ⟨_,_,_,hb⟩
theorem builder_lt {T e:TypeId} {B b:Nat} {bs:List Value} {w:World} (h:Lib.IsBuilder T e B b bs w):b < w.heap.size:=by
 obtain ⟨cs,t,fz,hb⟩:=builder_cells h
 exact (Array.getElem?_eq_some_iff.1 hb).1
theorem string_any (x:Nat) (vx:Value) (w:World) (hx:IsNat w vx x) (hlx:(toL x).length≤40000) (hr:Res w) :
  Calls Tryz.prog 251 #[vx] w fun e w'=>e=.returned (.string ⟨(Lib.decDigits x).toArray⟩)∧Below w.heap.size w w':=by
 obtain ⟨A,c,rfl,hc,hcm,hra⟩:=hx
 by_cases h0:x=0
 ·subst h0
  have hl:(toL 0).length=0:=by rw [toL_zero];rfl
  have hs:(⟨(Lib.decDigits 0).toArray⟩:ByteArray)=⟨#[48]⟩:=by rw [Lib.decDigits_one (by omega)];rfl
  rw [hl,hs]
  clear hl hra hs
  refine (callsIn_wide (n:=3)).1 ?_
  have h1:1≤3:=by omega
  refine callsIn_of_wp_marks Tryz.func251 rfl trivial ?_ rfl
  simp only [Tryz.ntmps251,List.size_toArray,List.length_cons,List.length_nil,Nat.reduceAdd,Nat.reduceSub,Array.replicate_succ,Array.replicate_zero,List.push_toArray,List.append_toArray,List.nil_append,List.cons_append]
  gi_wp2
  exact ⟨_,results_tmp rfl _ _ _,rfl,Below.refl _ _⟩
 ·have hl:0 < (toL x).length:=toL_len_pos.2 h0
  have hne':toL x≠[]:=fun e=>by rw [e] at hl;simp at hl
  obtain ⟨b,o,rfl,hb,hcell⟩:=hra (by rw [U64_length];omega)
  have hcx:=hcell ((toL x).length - 1) _ (U64_get (by omega))
  have ht:=(sm_toL x).get ((toL x).length - 1)
  have hne:(((toL x).length:Int)==0)=false:=by rw [beq_eq_false_iff_ne];omega
  have HW1:=Lib.hid (wr_one hne')
  have HRA:=Lib.hid hra
  clear hcell hra hne'
  generalize (toL x)[(toL x).length - 1]?.getD 0=t at *
  have hn9:=nDigits_limb ht
  rw [B_val] at ht
  have HR:=Lib.hid hr
  have HX0:=Lib.hid h0
  clear h0 hr
  have hbu:Lib.IsBuilder 285 5 w.heap.size w.heap.size [] (w.alloc (.cells #[.pointer none,.slice none 0 0] 285)) :=
   .inl ⟨Nat.le_refl _,.slice none 0 0,heap_alloc_new _ _,World.ownsRow_nil _ _ _ _,by simp [Value.ownBlock]⟩
  have hB0:Below w.heap.size w (w.alloc (.cells #[.pointer none,.slice none 0 0] 285)):=(Below.refl _ _).alloc (Nat.le_refl _) _
  have HBU:=Lib.hid hbu
  have HB0:=Lib.hid hB0
  clear hbu hB0
  refine (callsIn_wide (n:=3)).1 ?_
  have h1:1≤3:=by omega
  refine callsIn_of_wp_marks Tryz.func251 rfl trivial ?_ rfl
  simp only [Tryz.ntmps251,List.size_toArray,List.length_cons,List.length_nil,Nat.reduceAdd,Nat.reduceSub,Array.replicate_succ,Array.replicate_zero,List.push_toArray,List.append_toArray,List.nil_append,List.cons_append]
  have TK1:True:=trivial
  have TK2:True:=trivial
  have TK3:True:=trivial
  gi_wp2_with (clear TK1;refine ⟨trivial,?_⟩;gi_at_call 279;refine (callsIn_wide.2 (fmt_any t (by omega) _ (HR.out.below HB0.out))).mono ?_;rintro e w1 ⟨rfl,hb1⟩;have HB1:=Lib.hid (HB0.out.trans (hb1.mono HB0.out.size));have HU1:=Lib.hid (isBuilder_below HBU.out hb1);clear hb1)
  have hsz:=dec_size t
  gi_wp2_with (clear TK2;refine ⟨trivial,?_⟩;gi_at_call 280;refine (callsIn_wide.2 (Tryz.writeString w.heap.size w.heap.size [] ⟨(Lib.decDigits t).toArray⟩ _ HU1.out (by rw [hsz];simp;omega) HB1.out.size)).mono ?_;rintro e w2 ⟨rfl,hbt,hb2,_⟩;have HU2:=Lib.hid (show Lib.IsBuilder 285 5 w.heap.size w.heap.size (Lib.byteCells (wr (toL x) 1)) w2 from .inr (by rw [HW1.out];exact hbt));have HB2:=Lib.hid (HB1.out.trans hb2);clear hbt hb2)
  gi_wp2_with (clear TK3;refine ⟨trivial,?_⟩;gi_at_call 275;refine (backward_in Fence.wide 2 trivial rfl _ _ _ _).mono ?_;rintro e w' ⟨rfl,rfl⟩)
  have q0:Boxed (w2.alloc (.cells #[.slice (some ⟨b,o,none⟩) ((toL x).length - 1) c] 214)) w2.heap.size 214 _:=Boxed.new w2 _ _
  have q1:=isBuilder_below HU2.out ((Below.refl w2.heap.size w2).alloc (Nat.le_refl _) (.cells #[.slice (some ⟨b,o,none⟩) ((toL x).length - 1) c] 214))
  have q2:Below w.heap.size w (w2.alloc (.cells #[.slice (some ⟨b,o,none⟩) ((toL x).length - 1) c] 214)):=HB2.out.alloc HB2.out.size _
  have hwlt:w.heap.size < w2.heap.size:=builder_lt HU2.out
  clear HU1 HB1 HU2 HB2 HBU HB0 hcx
  generalize w2.heap.size=g2 at *
  generalize w2.alloc (.cells #[.slice (some ⟨b,o,none⟩) ((toL x).length - 1) c] 214)=W7 at *
  have hwlt7:w.heap.size < W7.heap.size:=builder_lt q1
  refine wpIn_range_ord rfl h1 (gf:=302) (lb:=#[.pointer (some ⟨g2,0,none⟩)]) rfl trivial eg_back
   (back_seq Fence.wide 2 trivial rfl (by omega) (fun i z=>z=(((toL x)[i]?.getD 0:Nat):Int)) g2 (some ⟨b,o,none⟩) ((toL x).length - 1) c (by omega)) (fun _=>rfl)
   (fun pre W=>pre.length≤(toL x).length - 1∧Lib.IsBuilder 285 5 w.heap.size w.heap.size (Lib.byteCells (wr (toL x) (1+pre.length))) W∧Boxed W g2 214 (.slice (some ⟨b,o,none⟩) ((toL x).length - 1) c)∧Below w.heap.size w W)
   (fun _ _ _=>False)
   ?hG ?hI (fun c s W W' row hs _ _=>hs) ⟨by simp,q1,q0,q2⟩ ?round ?done ?stop
  case hG =>
   rintro pre W ⟨_,_,p0,pB⟩
   refine ⟨p0.cell,fun h0=>?_⟩
   obtain ⟨b',o',e,hb',hcell⟩:=HRA.out.later pB (by rw [U64_length];omega)
   cases e
   exact ⟨b,o,rfl,fun i hi=>⟨_,hcell i _ (U64_get (by omega)),rfl⟩⟩
  case hI =>
   rintro s W W' row ⟨g1,g2,g3,g4⟩ hg hr
   exact ⟨g1,isBuilder_kept g2 hg (fun r e=>(hr r e).2),bx_own g3 hg hr,below_own_ g4 (Nat.le_refl _) (by have:=q2.size;omega) hg hr⟩
  case round =>
   rintro l pre ⟨i,z⟩ W K hi hnx hK
   have HNX:=Lib.hid hnx
   clear hnx q0 q1 q2
   gi_wp2
   refine hK _ _ (KeepsOthers.refl _) hi ?_
   clear hK hi
   rintro Wb _ ⟨hpl,q1,q0,q2⟩
   obtain ⟨m,hm,hcame,hieq,hz⟩:=HNX.out
   dsimp only at hieq hz
   have hml:=hcame.length
   have hx0:=(sm_toL x).get i
   have HWS:=Lib.hid (wr_step (can_toL x) (m:=1+pre.length) (by omega) (by omega))
   have hie:(toL x).length - 1 - (1+pre.length)=i:=by omega
   rw [hie] at HWS
   generalize (toL x)[i]?.getD 0=x0 at *
   have hn9x:=nDigits_limb hx0
   have HPD:=Lib.hid (padk_eq 9 x0 hn9x)
   rw [B_val] at hx0
   subst hz
   have hszx:=dec_size x0
   have HU:=Lib.hid q1
   have HBX:=Lib.hid q0
   have HBB:=Lib.hid q2
   have HLEN:=Lib.hid (show (wr (toL x) (1+pre.length)).length≤9*(1+pre.length) from by
    unfold wr
    rw [Lib.decDigits_length]
    refine nDigits_le (by omega) ?_
    have h1:=val_lt ((sm_toL x).drop ((toL x).length - (1+pre.length)))
    rw [B_pow,List.length_drop,show (toL x).length - ((toL x).length - (1+pre.length))=1+pre.length by omega] at h1
    exact h1)
   have HIE:=Lib.hid (And.intro hieq (And.intro hml hm))
   clear hieq hcame hml q1 q0 q2 hie hm hpl
   have TKA:True:=trivial
   have TKB:True:=trivial
   have TKC:True:=trivial
   gi_wp2_with (clear TKA;refine ⟨trivial,?_⟩;gi_at_call 279;refine (CallsIn.inRound l (callsIn_wide.2 (fmt_any x0 (by omega) _ (HR.out.below HBB.out)))).mono ?_;rintro e w5 ⟨rfl,hb5⟩;have HB5:=Lib.hid hb5;have HU5:=Lib.hid (isBuilder_below HU.out hb5);clear hb5)
   have hzs:=zeros_size (Lib.nDigits x0) hn9x
   have HPL:=Lib.hid (show pre.length≤40000 from by have:=HIE.out.2.1;have:=HIE.out.2.2;omega)
   gi_wp2_with (clear TKB;refine ⟨trivial,?_⟩;gi_at_call 280;refine (CallsIn.inRound l (callsIn_wide.2 (Tryz.writeString w.heap.size w.heap.size _ _ _ HU5.out (by rw [hzs,Lib.byteCells_length];have:=HLEN.out;have:=HPL.out;omega) (by have:=HBB.out.size;have:=HB5.out.size;omega)))).mono ?_;rintro e w6 ⟨rfl,hbt,hb6,hk6⟩;have HU6:=Lib.hid (show Lib.IsBuilder 285 5 w.heap.size w.heap.size _ w6 from .inr hbt);have HB6:=Lib.hid hb6;have HK6:=Lib.hid hk6;clear hbt hb6 hk6)
   gi_wp2_with (clear TKC;refine ⟨trivial,?_⟩;gi_at_call 280;refine (CallsIn.inRound l (callsIn_wide.2 (Tryz.writeString w.heap.size w.heap.size _ _ _ HU6.out (by rw [hszx,List.length_append,Lib.strCells_length,hzs,Lib.byteCells_length];have:=HLEN.out;have:=HPL.out;omega) (by have:=HBB.out.size;have:=HB5.out.size;have:=HB6.out.size;omega)))).mono ?_;rintro e w7 ⟨rfl,hbt,hb7,hk7⟩;have HU7:=Lib.hid (show Lib.IsBuilder 285 5 w.heap.size w.heap.size _ w7 from .inr hbt);have HB7:=Lib.hid hb7;have HK7:=Lib.hid hk7;clear hbt hb7 hk7)
   have hk5:KeepsOthers Wb w5:=keeps_of_below HB5.out
   have hk6:KeepsOthers w5 w6:=keeps_of_others HK6.out HB6.out.size (builder_cells HU5.out)
   have hk7:KeepsOthers w6 w7:=keeps_of_others HK7.out HB7.out.size (builder_cells HU6.out)
   have hbx5:Boxed w5 g2 214 (.slice (some ⟨b,o,none⟩) ((toL x).length - 1) c):=bx_below HBX.out HB5.out HBX.out.lt
   have hbx6:Boxed w6 g2 214 (.slice (some ⟨b,o,none⟩) ((toL x).length - 1) c):=HK6.out g2 _ hbx5 (by intro e;cases e;omega) (by intro cc fz e;cases e)
   have hbx7:Boxed w7 g2 214 (.slice (some ⟨b,o,none⟩) ((toL x).length - 1) c):=HK7.out g2 _ hbx6 (by intro e;cases e;omega) (by intro cc fz e;cases e)
   refine ⟨(hk5.trans hk6).trans hk7,?_,?_,hbx7,HBB.out.trans (((HB5.out.mono HBB.out.size).trans HB6.out).trans HB7.out)⟩
   ·rw [List.length_append,List.length_singleton];have:=HIE.out.2.1;have:=HIE.out.2.2;omega
   ·have hu:=HU7.out
    rw [zeros_extract _ hn9x,Lib.strCells_toArray,Lib.strCells_toArray,← Lib.byteCells_append,← Lib.byteCells_append,List.append_assoc,← HPD.out,← HWS.out] at hu
    rw [List.length_append,List.length_singleton,← Nat.add_assoc]
    exact hu
  case done =>
   rintro D ys W hD hS ⟨hpl,q1,q0,q2⟩ hK
   have hlen:=hS.length
   rw [hlen,show 1+((toL x).length - 1)=(toL x).length by omega,wr_all,val_toL] at q1
   have HU:=Lib.hid q1
   have HB:=Lib.hid q2
   have hsz:=q2.size
   clear q1 q0 q2 hS
   have TKD:True:=trivial
   gi_wp2_with (clear TKD;refine ⟨trivial,?_⟩;gi_at_call 281;refine (callsIn_wide.2 (Tryz.builderString w.heap.size w.heap.size _ _ HU.out (decDigits_ne x))).mono ?_;rintro e w9 ⟨rfl,hb9,hk9⟩;have HB9:=Lib.hid hb9;have HK9:=Lib.hid (hk9 D _ hK (by intro e;cases e;omega) (by intro cc fz e;cases e));clear hb9 hk9)
   refine ⟨by simp,.inl ⟨_,_,rfl,run_takeDeferred HK9.out,?_⟩⟩
   refine ⟨_,results_tmp rfl _ _ _,rfl,?_⟩
   exact (HB.out.trans HB9.out).trans (belowK_b (w:=w) (Nat.le_refl _) _ D _ _ (by omega) HK9.out rfl rfl)
  case stop =>
   rintro D c pre x' W hD _ h _
   exact h.elim
end Go.Proofs.YtigapglmipmbeaaGreatDoor
