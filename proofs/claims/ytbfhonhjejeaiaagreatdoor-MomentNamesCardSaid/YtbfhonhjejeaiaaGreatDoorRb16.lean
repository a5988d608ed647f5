/- moment.To: the walk (printed by mkmto.py). (printed by mkstage2.py) Regions that draw their order, in stages; a slot may be read by a read and written by one of the others that waits for it: reads (guarded or not) may come as soon as their edges allow, also behind some of the others; the others come in any order that their edges allow. The reference of chapter 10: share and To (printed by mkmref.py). The reference of chapter 10: Of (printed by mkmref.py). The reference of chapter 10: Add (printed by mkmref.py). -/
import Derived.Test.YtbfhonhjejeaiaaGreatDoorRb15
import Derived.Test.YtbfhonhjejeaiaaGreatDoorRb03
namespace Go.Proofs.YtbfhonhjejeaiaaGreatDoor
open Go.RowKit Go.Shelf
open Lim

attribute [local go_sem] Oper.semAt_some

/-- What the walk of To keeps ahead of the chain. -/
structure ToAt (w : World) (c : CT) (W : World) : Prop where
  kc : CBlk W w.heap.size c
  kz : Blk W (w.heap.size + 1) 24 #[.string ⟨#[]⟩, .string ⟨#[]⟩]
  below : Below w.heap.size w W
theorem ToAt.later {w W W' : World} {c : CT} (h : ToAt w c W) (hb : Below W.heap.size W W') : ToAt w c W' :=
  ⟨h.kc.later hb, h.kz.below hb h.kz.lt, h.below.trans (hb.mono h.below.size)⟩
theorem ToAt.new (w : World) (c : CT) : ToAt w c ((w.alloc (cvO c)).alloc (.cells #[.string ⟨#[]⟩, .string ⟨#[]⟩] 24)) := by
  have k1 := (CBlk.new w c).alloc (.cells #[.string ⟨#[]⟩, .string ⟨#[]⟩] 24)
  have k2 := Blk.new (w.alloc (cvO c)) 24 #[.string ⟨#[]⟩, .string ⟨#[]⟩]
  rw [World.size_alloc] at k2
  exact ⟨k1, k2, below_alloc (below_alloc (Below.refl _ _) _) _⟩
/-- And behind it. -/
structure ToCh (w : World) (gh : Nat) (c : CT) (W : World) : Prop where
  kc : CBlk W w.heap.size c
  kz : Blk W (w.heap.size + 1) 24 #[.string ⟨#[]⟩, .string ⟨#[]⟩]
  kh : Blk W gh 134 #[.int .i64 0]
  below : Below w.heap.size w W
theorem ToCh.later {w W W' : World} {gh : Nat} {c : CT} (h : ToCh w gh c W) (hb : Below W.heap.size W W') : ToCh w gh c W' :=
  ⟨h.kc.later hb, h.kz.below hb h.kz.lt, h.kh.below hb h.kh.lt, h.below.trans (hb.mono h.below.size)⟩
theorem ToAt.chain {w W : World} {c : CT} (h : ToAt w c W) : ToCh w W.heap.size c (W.alloc (.cells #[.int .i64 0] 134)) :=
  have hb := below_alloc (Below.refl W.heap.size W) (.cells #[.int .i64 0] 134)
  ⟨h.kc.later hb, h.kz.below hb h.kz.lt, Blk.new W 134 #[.int .i64 0], h.below.trans (hb.mono h.below.size)⟩
theorem loss_ret {F : Fence} {n : Nat} {fn : Func} {tmps : Array Value} {R : Ending → World → Prop} {p u : Tmp} {W w : World} {g : Nat} {x y a b : ByteArray} (hres : fn.results = #[.cell p 24, .tmp u]) (hp : tmps.getD p undef = .pointer (some ⟨g, 0, none⟩)) (hz : Blk W g 24 #[.string x, .string y])
    (hg : w.heap.size ≤ g) (hB : Below w.heap.size w W) (hR : ∀ W', Below w.heap.size w W' → R (.returned (.tuple #[.agg #[.string a, .string b], tmps.getD u undef])) W') :
    bodyPostM F n Tryz.prog fn R .ret { tmps := tmps, defers := [] } ((W.setCell ⟨g, 0, none⟩ (.string a)).setCell ⟨g, 1, none⟩ (.string b)) :=
  leavesM_nil ⟨_, run_cell_tmp hres hp (load_loss hz.two_set), hR _ ((hB.setCell (p := ⟨g, 0, none⟩) hg _).setCell (p := ⟨g, 1, none⟩) hg _)⟩
set_option maxRecDepth 100000 in
set_option maxHeartbeats 8000000 in
theorem mto_e1 (c : CT) (o : Int) (F : ByteArray) (n : Int) (hn : (errCT c : Int) = n) (hne : (n == 0) = false) (w : World) (hc : SmC c) (hr : Res w) :
    Calls Tryz.prog 42 #[cv c, .int .i64 o, .string F] w fun e w' => e = .returned (.tuple #[.agg #[.string ⟨#[]⟩, .string ⟨#[]⟩], .int .i64 n]) ∧ Below w.heap.size w w' := by
  have H0 := Lib.hid (ToAt.new w c)
  have HR := Lib.hid hr
  have HC := Lib.hid (fun (w : World) hr => mcheck_walk c w hc hr)
  obtain ⟨c0, c1, c2, c3, c4, c5, c6, c7⟩ := H0.out.kc.cells
  clear hr hc
  rw [hn] at HC
  clear hn
  have TK0 : True := trivial
  refine (callsIn_wide (n := 3)).1 ?_
  have h1 : 1 ≤ 3 := by omega
  have hmx : Tryz.prog.follows .mixedOrders = true := by kernel_rfl
  refine callsIn_of_wp_marks Tryz.func42 rfl trivial ?_ rfl
  simp only [Tryz.ntmps42, List.size_toArray, List.length_cons, List.length_nil, Nat.reduceAdd, Nat.reduceSub, Array.replicate_succ, Array.replicate_zero, List.push_toArray, List.append_toArray, List.nil_append, List.cons_append]
  gi_wp2_with ((clear TK0; refine ⟨trivial, ?_⟩; gi_at_call 48; refine (callsIn_wide.2 (HC.out _ (HR.out.below H0.out.below))).mono ?_; rintro e w1 ⟨rfl, hb⟩; have H1 := Lib.hid (H0.out.later hb); obtain ⟨q0, q1⟩ := cells2 H1.out.kz; have z0 := H1.out.kz.frozen 0; have z1 := H1.out.kz.frozen 1; clear hb c0 c1 c2 c3 c4 c5 c6 c7))
  exact loss_ret (g := w.heap.size + 1) rfl rfl H1.out.kz (Nat.le_succ _) H1.out.below (fun W' h => ⟨rfl, h⟩)
set_option maxRecDepth 100000 in
set_option maxHeartbeats 8000000 in
theorem mto_e2 (c : CT) (o : Int) (F : ByteArray) (hn : errCT c = 0) (ho : o < 2) (w : World) (hc : SmC c) (hr : Res w) :
    Calls Tryz.prog 42 #[cv c, .int .i64 o, .string F] w fun e w' => e = .returned (.tuple #[.agg #[.string ⟨#[]⟩, .string ⟨#[]⟩], .int .i64 2]) ∧ Below w.heap.size w w' := by
  have H0 := Lib.hid (ToAt.new w c)
  have HR := Lib.hid hr
  have HC := Lib.hid (fun (w : World) hr => mcheck_walk c w hc hr)
  obtain ⟨c0, c1, c2, c3, c4, c5, c6, c7⟩ := H0.out.kc.cells
  clear hr hc
  rw [hn] at HC
  have d1 : decide (o < 2) = true := decide_eq_true ho
  clear hn ho
  have TK0 : True := trivial
  refine (callsIn_wide (n := 3)).1 ?_
  have h1 : 1 ≤ 3 := by omega
  have hmx : Tryz.prog.follows .mixedOrders = true := by kernel_rfl
  refine callsIn_of_wp_marks Tryz.func42 rfl trivial ?_ rfl
  simp only [Tryz.ntmps42, List.size_toArray, List.length_cons, List.length_nil, Nat.reduceAdd, Nat.reduceSub, Array.replicate_succ, Array.replicate_zero, List.push_toArray, List.append_toArray, List.nil_append, List.cons_append]
  gi_wp2_with ((clear TK0; refine ⟨trivial, ?_⟩; gi_at_call 48; refine (callsIn_wide.2 (HC.out _ (HR.out.below H0.out.below))).mono ?_; rintro e w1 ⟨rfl, hb⟩; have H1 := Lib.hid (H0.out.later hb); obtain ⟨q0, q1⟩ := cells2 H1.out.kz; have z0 := H1.out.kz.frozen 0; have z1 := H1.out.kz.frozen 1; clear hb c0 c1 c2 c3 c4 c5 c6 c7))
  exact loss_ret (g := w.heap.size + 1) rfl rfl H1.out.kz (Nat.le_succ _) H1.out.below (fun W' h => ⟨rfl, h⟩)
set_option maxRecDepth 100000 in
set_option maxHeartbeats 8000000 in
theorem mto_e3 (c : CT) (o : Int) (F : ByteArray) (hn : errCT c = 0) (ho : ¬ o < 2) (ho2 : 8 < o) (w : World) (hc : SmC c) (hr : Res w) :
    Calls Tryz.prog 42 #[cv c, .int .i64 o, .string F] w fun e w' => e = .returned (.tuple #[.agg #[.string ⟨#[]⟩, .string ⟨#[]⟩], .int .i64 2]) ∧ Below w.heap.size w w' := by
  have H0 := Lib.hid (ToAt.new w c)
  have HR := Lib.hid hr
  have HC := Lib.hid (fun (w : World) hr => mcheck_walk c w hc hr)
  obtain ⟨c0, c1, c2, c3, c4, c5, c6, c7⟩ := H0.out.kc.cells
  clear hr hc
  rw [hn] at HC
  have d1 : decide (o < 2) = false := decide_eq_false ho
  have d2 : decide (8 < o) = true := decide_eq_true ho2
  clear hn ho ho2
  have TK0 : True := trivial
  refine (callsIn_wide (n := 3)).1 ?_
  have h1 : 1 ≤ 3 := by omega
  have hmx : Tryz.prog.follows .mixedOrders = true := by kernel_rfl
  refine callsIn_of_wp_marks Tryz.func42 rfl trivial ?_ rfl
  simp only [Tryz.ntmps42, List.size_toArray, List.length_cons, List.length_nil, Nat.reduceAdd, Nat.reduceSub, Array.replicate_succ, Array.replicate_zero, List.push_toArray, List.append_toArray, List.nil_append, List.cons_append]
  gi_wp2_with ((clear TK0; refine ⟨trivial, ?_⟩; gi_at_call 48; refine (callsIn_wide.2 (HC.out _ (HR.out.below H0.out.below))).mono ?_; rintro e w1 ⟨rfl, hb⟩; have H1 := Lib.hid (H0.out.later hb); obtain ⟨q0, q1⟩ := cells2 H1.out.kz; have z0 := H1.out.kz.frozen 0; have z1 := H1.out.kz.frozen 1; clear hb c0 c1 c2 c3 c4 c5 c6 c7))
  exact loss_ret (g := w.heap.size + 1) rfl rfl H1.out.kz (Nat.le_succ _) H1.out.below (fun W' h => ⟨rfl, h⟩)
set_option maxRecDepth 100000 in
set_option maxHeartbeats 8000000 in
theorem mto_e4 (c : CT) (i : Nat) (hi : i < 7) (F : ByteArray) (hs : F.size ≤ 270000) (hn : errCT c = 0) (n : Int) (hf : (errQ F.data.toList : Int) = n) (hne : (n == 0) = false) (w : World) (hc : SmC c) (hr : Res w) :
    Calls Tryz.prog 42 #[cv c, .int .i64 ((i : Int) + 2), .string F] w fun e w' => e = .returned (.tuple #[.agg #[.string ⟨#[]⟩, .string ⟨#[]⟩], .int .i64 n]) ∧ Below w.heap.size w w' := by
  have H0 := Lib.hid (ToAt.new w c)
  have HR := Lib.hid hr
  have HC := Lib.hid (fun (w : World) hr => mcheck_walk c w hc hr)
  obtain ⟨c0, c1, c2, c3, c4, c5, c6, c7⟩ := H0.out.kc.cells
  clear hr hc
  rw [hn] at HC
  have HF := Lib.hid (fun (w : World) hr => ratCheck_any F w hs hr)
  rw [hf] at HF
  have hi0 : (0 : Int) ≤ (i : Int) := by omega
  have hi1 : (i : Int) < 7 := by omega
  have d1 : decide ((i : Int) + 2 < 2) = false := decide_eq_false (by omega)
  have d2 : decide (8 < (i : Int) + 2) = false := decide_eq_false (by omega)
  clear hn hs hf hi
  have TK0 : True := trivial
  have TK1 : True := trivial
  refine (callsIn_wide (n := 3)).1 ?_
  have h1 : 1 ≤ 3 := by omega
  have hmx : Tryz.prog.follows .mixedOrders = true := by kernel_rfl
  refine callsIn_of_wp_marks Tryz.func42 rfl trivial ?_ rfl
  simp only [Tryz.ntmps42, List.size_toArray, List.length_cons, List.length_nil, Nat.reduceAdd, Nat.reduceSub, Array.replicate_succ, Array.replicate_zero, List.push_toArray, List.append_toArray, List.nil_append, List.cons_append]
  gi_wp2_with ((clear TK0; refine ⟨trivial, ?_⟩; gi_at_call 48; refine (callsIn_wide.2 (HC.out _ (HR.out.below H0.out.below))).mono ?_; rintro e w1 ⟨rfl, hb⟩; have H1 := Lib.hid (H0.out.later hb);  clear hb c0 c1 c2 c3 c4 c5 c6 c7))
  gi_wp2_with ((clear TK1; refine ⟨trivial, ?_⟩; gi_at_call 81; refine (callsIn_wide.2 (HF.out _ (HR.out.below H1.out.below))).mono ?_; rintro e w2 ⟨rfl, hb⟩; have H2 := Lib.hid (H1.out.later hb); obtain ⟨q0, q1⟩ := cells2 H2.out.kz; have z0 := H2.out.kz.frozen 0; have z1 := H2.out.kz.frozen 1; clear hb))
  exact loss_ret (g := w.heap.size + 1) rfl rfl H2.out.kz (Nat.le_succ _) H2.out.below (fun W' h => ⟨rfl, h⟩)
set_option maxRecDepth 100000 in
set_option maxHeartbeats 8000000 in
theorem mto_e5 (c : CT) (i : Nat) (hi : i < 7) (F : ByteArray) (hs : F.size ≤ 270000) (hn : errCT c = 0) (hf : errQ F.data.toList = 0) (hl : cmpQ (valQ F.data.toList) 1 < 0) (w : World) (hc : SmC c) (hr : Res w) :
    Calls Tryz.prog 42 #[cv c, .int .i64 ((i : Int) + 2), .string F] w fun e w' => e = .returned (.tuple #[.agg #[.string ⟨#[]⟩, .string ⟨#[]⟩], .int .i64 2]) ∧ Below w.heap.size w w' := by
  have H0 := Lib.hid (ToAt.new w c)
  have HR := Lib.hid hr
  have HC := Lib.hid (fun (w : World) hr => mcheck_walk c w hc hr)
  obtain ⟨c0, c1, c2, c3, c4, c5, c6, c7⟩ := H0.out.kc.cells
  clear hr hc
  rw [hn] at HC
  have HF := Lib.hid (fun (w : World) hr => ratCheck_any F w hs hr)
  rw [hf] at HF
  have HL := Lib.hid (fun (w : World) hr => mleast_any w (IsT.of hf) hr)
  rw [decide_eq_false (show ¬ 0 ≤ cmpQ (valQ F.data.toList) 1 by omega)] at HL
  have hi0 : (0 : Int) ≤ (i : Int) := by omega
  have hi1 : (i : Int) < 7 := by omega
  have d1 : decide ((i : Int) + 2 < 2) = false := decide_eq_false (by omega)
  have d2 : decide (8 < (i : Int) + 2) = false := decide_eq_false (by omega)
  clear hn hs hf hi hl
  have TK0 : True := trivial
  have TK1 : True := trivial
  have TK2 : True := trivial
  refine (callsIn_wide (n := 3)).1 ?_
  have h1 : 1 ≤ 3 := by omega
  have hmx : Tryz.prog.follows .mixedOrders = true := by kernel_rfl
  refine callsIn_of_wp_marks Tryz.func42 rfl trivial ?_ rfl
  simp only [Tryz.ntmps42, List.size_toArray, List.length_cons, List.length_nil, Nat.reduceAdd, Nat.reduceSub, Array.replicate_succ, Array.replicate_zero, List.push_toArray, List.append_toArray, List.nil_append, List.cons_append]
  gi_wp2_with ((clear TK0; refine ⟨trivial, ?_⟩; gi_at_call 48; refine (callsIn_wide.2 (HC.out _ (HR.out.below H0.out.below))).mono ?_; rintro e w1 ⟨rfl, hb⟩; have H1 := Lib.hid (H0.out.later hb);  clear hb c0 c1 c2 c3 c4 c5 c6 c7))
  gi_wp2_with ((clear TK1; refine ⟨trivial, ?_⟩; gi_at_call 81; refine (callsIn_wide.2 (HF.out _ (HR.out.below H1.out.below))).mono ?_; rintro e w2 ⟨rfl, hb⟩; have H2 := Lib.hid (H1.out.later hb);  clear hb))
  gi_wp2_with ((clear TK2; refine ⟨trivial, ?_⟩; gi_at_call 103; refine (callsIn_wide.2 (HL.out _ (HR.out.below H2.out.below))).mono ?_; rintro e w3 ⟨rfl, hb⟩; have H3 := Lib.hid (H2.out.later hb); obtain ⟨q0, q1⟩ := cells2 H3.out.kz; have z0 := H3.out.kz.frozen 0; have z1 := H3.out.kz.frozen 1; clear hb))
  exact loss_ret (g := w.heap.size + 1) rfl rfl H3.out.kz (Nat.le_succ _) H3.out.below (fun W' h => ⟨rfl, h⟩)
set_option maxRecDepth 100000 in
set_option maxHeartbeats 8000000 in
theorem mto_ok (c : CT) (i : Nat) (hi : i < 7) (F : ByteArray) (hs : F.size ≤ 270000) (hn : errCT c = 0) (hf : errQ F.data.toList = 0) (hl : ¬ cmpQ (valQ F.data.toList) 1 < 0) (t1 t2 A B sh pw u1 xx nx lt dd de : ByteArray)
    (I1 : Hid (∀ w, Res w → Calls Tryz.prog 106 #[.int .i64 ((i : Int) + 1)] w fun e w' => e = .returned (.string t1) ∧ Below w.heap.size w w')) (I2 : Hid (∀ w, Res w → Calls Tryz.prog 106 #[.int .i64 ((i : Int) + 2)] w fun e w' => e = .returned (.string t2) ∧ Below w.heap.size w w'))
    (P1 : Hid (PowIs 0 t1 ((i : Int) + 1) A)) (P2 : Hid (PowIs 0 t2 ((i : Int) + 2) B)) (D1 : Hid (DoIs 0 86 A B sh)) (P3 : Hid (PowIs 0 F ((i : Int) + 1) pw)) (D2 : Hid (DoIs 0 78 (c i) sh u1)) (D3 : Hid (DoIs 0 86 u1 pw xx))
    (D4 : Hid (DoIs 0 77 F ⟨#[49]⟩ nx)) (D5 : Hid (DoIs 0 78 nx (c 7) lt)) (D6 : Hid (DoIs 0 77 xx lt dd)) (D7 : Hid (DoIs 0 107 dd ⟨#[49]⟩ de)) (w : World) (hc : SmC c) (hr : Res w) :
    Calls Tryz.prog 42 #[cv c, .int .i64 ((i : Int) + 2), .string F] w fun e w' => e = .returned (.tuple #[.agg #[.string F, .string de], .int .i64 0]) ∧ Below w.heap.size w w' := by
  have H0 := Lib.hid (ToAt.new w c)
  have HR := Lib.hid hr
  have HC := Lib.hid (fun (w : World) hr => mcheck_walk c w hc hr)
  obtain ⟨c0, c1, c2, c3, c4, c5, c6, c7⟩ := H0.out.kc.cells
  clear hr hc
  rw [hn] at HC
  have HF := Lib.hid (fun (w : World) hr => ratCheck_any F w hs hr)
  rw [hf] at HF
  have HL := Lib.hid (fun (w : World) hr => mleast_any w (IsT.of hf) hr)
  rw [decide_eq_true (show 0 ≤ cmpQ (valQ F.data.toList) 1 by omega)] at HL
  have hi0 : (0 : Int) ≤ (i : Int) := by omega
  have hi1 : (i : Int) < 7 := by omega
  have d1 : decide ((i : Int) + 2 < 2) = false := decide_eq_false (by omega)
  have d2 : decide (8 < (i : Int) + 2) = false := decide_eq_false (by omega)
  have e21 : (i : Int) + 2 - 1 = (i : Int) + 1 := by omega
  have e22 : (i : Int) + 2 - 2 = (i : Int) := by omega
  clear hn hs hf hl
  have TK0 : True := trivial
  have TK1 : True := trivial
  have TK2 : True := trivial
  have TK3 : True := trivial
  have TK4 : True := trivial
  have TK5 : True := trivial
  have TK6 : True := trivial
  have TK7 : True := trivial
  have TK8 : True := trivial
  have TK9 : True := trivial
  have TK10 : True := trivial
  have TK11 : True := trivial
  have TK12 : True := trivial
  have TK13 : True := trivial
  have TK14 : True := trivial
  have TK15 : True := trivial
  refine (callsIn_wide (n := 3)).1 ?_
  have h1 : 1 ≤ 3 := by omega
  have hmx : Tryz.prog.follows .mixedOrders = true := by kernel_rfl
  refine callsIn_of_wp_marks Tryz.func42 rfl trivial ?_ rfl
  simp only [Tryz.ntmps42, List.size_toArray, List.length_cons, List.length_nil, Nat.reduceAdd, Nat.reduceSub, Array.replicate_succ, Array.replicate_zero, List.push_toArray, List.append_toArray, List.nil_append, List.cons_append]
  gi_wp2_with ((clear TK0; refine ⟨trivial, ?_⟩; gi_at_call 48; refine (callsIn_wide.2 (HC.out _ (HR.out.below H0.out.below))).mono ?_; rintro e w1 ⟨rfl, hb⟩; have H1 := Lib.hid (H0.out.later hb);  clear hb c0 c1 c2 c3 c4 c5 c6 c7))
  gi_wp2_with ((clear TK1; refine ⟨trivial, ?_⟩; gi_at_call 81; refine (callsIn_wide.2 (HF.out _ (HR.out.below H1.out.below))).mono ?_; rintro e w2 ⟨rfl, hb⟩; have H2 := Lib.hid (H1.out.later hb);  clear hb))
  gi_wp2_with ((clear TK2; refine ⟨trivial, ?_⟩; gi_at_call 103; refine (callsIn_wide.2 (HL.out _ (HR.out.below H2.out.below))).mono ?_; rintro e w3 ⟨rfl, hb⟩; have H3 := Lib.hid (H2.out.later hb).chain; clear hb))
  gi_wp2_with ((clear TK3; refine ⟨trivial, ?_⟩; gi_at_call 106; refine (callsIn_wide.2 (I1.out (w3.alloc (.cells #[.int .i64 0] 134)) (HR.out.below H3.out.below))).mono ?_; rintro e w4 ⟨rfl, hb⟩; have H4 := Lib.hid (H3.out.later hb); clear hb))
  gi_wp2_with ((clear TK4; refine ⟨trivial, ?_⟩; gi_at_call 105; refine (callsIn_wide.2 (P1.out w3.heap.size w4 (HR.out.below H4.out.below) H4.out.kh)).mono ?_; rintro e w5 ⟨rfl, hb⟩; have H5 := Lib.hid (H4.out.later hb); clear hb))
  gi_wp2_with ((clear TK5; refine ⟨trivial, ?_⟩; gi_at_call 106; refine (callsIn_wide.2 (I2.out w5 (HR.out.below H5.out.below))).mono ?_; rintro e w6 ⟨rfl, hb⟩; have H6 := Lib.hid (H5.out.later hb); clear hb))
  gi_wp2_with ((clear TK6; refine ⟨trivial, ?_⟩; gi_at_call 105; refine (callsIn_wide.2 (P2.out w3.heap.size w6 (HR.out.below H6.out.below) H6.out.kh)).mono ?_; rintro e w7 ⟨rfl, hb⟩; have H7 := Lib.hid (H6.out.later hb); clear hb))
  gi_wp2_with ((clear TK7; refine ⟨trivial, ?_⟩; gi_at_call 104; refine (callsIn_wide.2 (D1.out w3.heap.size w7 (HR.out.below H7.out.below) H7.out.kh)).mono ?_; rintro e w8 ⟨rfl, hb⟩; have H8 := Lib.hid (H7.out.later hb); clear hb))
  gi_wp2_with ((clear TK8; refine ⟨trivial, ?_⟩; gi_at_call 105; refine (callsIn_wide.2 (P3.out w3.heap.size w8 (HR.out.below H8.out.below) H8.out.kh)).mono ?_; rintro e w9 ⟨rfl, hb⟩; have H9 := Lib.hid (H8.out.later hb); have ci := H9.out.kc.cell (k := i) (by omega); clear hb))
  gi_wp2_with ((clear TK9; refine ⟨trivial, ?_⟩; gi_at_call 104; refine (callsIn_wide.2 (D2.out w3.heap.size w9 (HR.out.below H9.out.below) H9.out.kh)).mono ?_; rintro e w10 ⟨rfl, hb⟩; have H10 := Lib.hid (H9.out.later hb); clear ci; clear hb))
  gi_wp2_with ((clear TK10; refine ⟨trivial, ?_⟩; gi_at_call 104; refine (callsIn_wide.2 (D3.out w3.heap.size w10 (HR.out.below H10.out.below) H10.out.kh)).mono ?_; rintro e w11 ⟨rfl, hb⟩; have H11 := Lib.hid (H10.out.later hb); clear hb))
  gi_upto_region 15 with fail
  have hlc := H11.out.kc.lt
  have x7 : ∀ x : SameAt w11 (fun k => k < w11.heap.size), x.W.cell? ⟨w.heap.size, 7, none⟩ = some (.string (c 7)) := fun x => x.cell hlc (H11.out.kc.cell (by omega))
  clear hlc
  refine wpIn_stage (IsSame w11 (fun k => k < w11.heap.size)) [0, 2, 3] [] hmx (by kernel_rfl) (isSame_of fun _ _ => rfl) ?_
  change wpStage _ _ _ _ _ _ _ _ (3 + 3) _ _ _
  refine stage_reads [0, 2, 3] 3 _ _ (by kernel_rfl) ?_
  change wpQuietIn _ _ _ _ (fun W' => ∃ x : SameAt w11 (fun k => k < w11.heap.size), W' = x.W) _ _ _
  simp only [pick_cons, pick_nil, List.getElem?_cons_zero, List.getElem?_cons_succ, Option.elim_some]
  repeat (gi_big_quiet_step (fail))
  refine wpQuietIn_nil ?_
  have HD := Lib.hid (H11.out.later (below_drew (Below.refl w11.heap.size w11)))
  refine stage_one 1 (by kernel_rfl) rfl ?_
  gi_wp2
  refine ⟨trivial, ?_⟩
  refine (callsIn_wide.2 (D4.out w3.heap.size w11.drew (HR.out.below HD.out.below) HD.out.kh)).mono ?_
  rintro e w20 ⟨rfl, hb⟩
  have H20 := Lib.hid (HD.out.later hb)
  have B20 := Lib.hid (below_undrew hb)
  clear hb
  gi_wp2
  refine stage_post (isSame_below B20.out (fun k hk => hk)) ?_
  refine stage_one 4 (by kernel_rfl) rfl ?_
  gi_wp2
  refine ⟨trivial, ?_⟩
  refine (callsIn_wide.2 (D5.out w3.heap.size w20 (HR.out.below H20.out.below) H20.out.kh)).mono ?_
  rintro e w21 ⟨rfl, hb⟩
  have H21 := Lib.hid (H20.out.later hb)
  have B21 := Lib.hid (B20.out.trans (hb.mono B20.out.size))
  clear hb
  gi_wp2
  refine stage_post (isSame_below B21.out (fun k hk => hk)) ?_
  refine stage_one 5 (by kernel_rfl) rfl ?_
  gi_wp2
  refine stage_post (isSame_below B21.out (fun k hk => hk)) ?_
  refine stage_done (by kernel_rfl) ?_
  clear x7
  gi_wp2_with ((clear TK11; refine ⟨trivial, ?_⟩; gi_at_call 104; refine (callsIn_wide.2 (D6.out w3.heap.size w21 (HR.out.below H21.out.below) H21.out.kh)).mono ?_; rintro e w22 ⟨rfl, hb⟩; have H22 := Lib.hid (H21.out.later hb); clear hb))
  gi_wp2_with ((clear TK12; refine ⟨trivial, ?_⟩; gi_at_call 104; refine (callsIn_wide.2 (D7.out w3.heap.size w22 (HR.out.below H22.out.below) H22.out.kh)).mono ?_; rintro e w23 ⟨rfl, hb⟩; have H23 := Lib.hid (H22.out.later hb); have ch := cell0 H23.out.kh; clear hb))
  gi_wp2_with ((clear TK13; refine ⟨trivial, ?_⟩; gi_at_call 27; refine (callsIn_wide.2 (none_any w23)).mono ?_; rintro e w24 ⟨rfl, hb⟩; have H24 := Lib.hid (H23.out.later hb); obtain ⟨q0, q1⟩ := cells2 H24.out.kz; have z0 := H24.out.kz.frozen 0; have z1 := H24.out.kz.frozen 1; have hl := H24.out.kz.lt; clear hb ch))
  exact leavesM_nil ⟨_, run_cell_tmp rfl rfl (load_loss (H24.out.kz.two_set.alloc _)), rfl, below_alloc ((H24.out.below.setCell (p := ⟨w.heap.size + 1, 0, none⟩) (Nat.le_succ _) _).setCell (p := ⟨w.heap.size + 1, 1, none⟩) (Nat.le_succ _) _) _⟩
end Go.Proofs.YtbfhonhjejeaiaaGreatDoor
namespace Go.Proofs.YtbfhonhjejeaiaaGreatDoor.S2
open Go.RowKit Go.Proofs.YtbfhonhjejeaiaaGreatDoor

/-- A read, guarded or not. -/
def bareRead (o : Oper) : Bool := pureRead { o with guard := none }
/-- H: the indices of the reads. -/
def stageOk (ops : List Oper) (H : List Nat) : Bool :=
  (List.range ops.length).all fun j => match ops[j]? with
    | none => true
    | some o => ownEdges j o && noDefer o && noSel o && (match o.guard with | none => true | some (k, _) => waitsOn o k) &&
      (if H.contains j then bareRead o && farOf o o.dst else true) &&
      (List.range ops.length).all fun i => i == j || (match ops[i]? with | none => true | some h => (waitsOn o i || (farOf o h.dst || (waitsOn h j && !H.contains i))) && (h.dst.isNone || h.dst != o.dst))
structure StOk (ops : List Oper) (H : List Nat) (j : Nat) (o : Oper) : Prop where
  edges : ownEdges j o = true
  nd : noDefer o = true
  ns : noSel o = true
  gd : ∀ k b, o.guard = some (k, b) → waitsOn o k = true
  rd : j ∈ H → bareRead o = true ∧ farOf o o.dst = true
  far : ∀ i h, i ≠ j → ops[i]? = some h → (waitsOn o i = true ∨ farOf o h.dst = true ∨ (waitsOn h j = true ∧ i ∉ H)) ∧ (h.dst = none ∨ h.dst ≠ o.dst)
theorem stage_at {ops : List Oper} {H : List Nat} (hok : stageOk ops H = true) {j : Nat} {o : Oper} (hj : ops[j]? = some o) : StOk ops H j o := by
  have hlt : j < ops.length := (List.getElem?_eq_some_iff.1 hj).1
  have h2 := List.all_eq_true.1 hok j (List.mem_range.2 hlt)
  rw [hj] at h2
  simp only [Bool.and_eq_true] at h2
  obtain ⟨⟨⟨⟨⟨h3, h4⟩, h5⟩, h6⟩, h7⟩, h8⟩ := h2
  refine ⟨h3, h4, h5, fun k b hg => ?_, fun hm => ?_, fun i h hne hi => ?_⟩
  · rw [hg] at h6; exact h6
  · rw [if_pos (by simpa using hm)] at h7; simpa using h7
  · have := List.all_eq_true.1 h8 i (List.mem_range.2 (List.getElem?_eq_some_iff.1 hi).1)
    rw [hi] at this
    simp only [Bool.or_eq_true, beq_iff_eq, Bool.and_eq_true, Option.isNone_iff_eq_none, bne_iff_ne] at this
    rcases this with h | h
    · exact absurd h hne
    · refine ⟨?_, h.2⟩
      rcases h.1 with h1 | h1 | h1
      · exact .inl h1
      · exact .inr (.inl h1)
      · exact .inr (.inr ⟨h1.1, by have h2 := h1.2; simpa using h2⟩)

section
variable {F : Fence} {n : Nat} {P : Program} {C : World → Prop} {ops : List Oper} {H : List Nat}
theorem bare_runs {o : Oper} {a : Act} {K' : Act → World → Prop} {Q : Exit → Act → World → Prop} {w : World} {v : Value} (hp : bareRead o = true) (hrun : o.quietAtIn F n P a C w v) (hK : K' (a.put o.dst v) w)
    (ha : ∀ f, o.about P w a.eval = some f → F.fn f) : o.wpIn F n P a w K' Q := pure_runs (o := { o with guard := none }) hp hrun hK ha

theorem wanted_of {o : Oper} {a b : Act} (h : ∀ k bb, o.guard = some (k, bb) → ∀ s, (ops[k]?).bind (·.dst) = some s → a.tmps[s]? = b.tmps[s]?) :
    Region.wanted o (yielded ops.toArray a.tmps) = Region.wanted o (yielded ops.toArray b.tmps) := by
  unfold Region.wanted
  cases hg : o.guard with
  | none => rfl
  | some kb =>
    obtain ⟨k, bb⟩ := kb
    have : yielded ops.toArray a.tmps k = yielded ops.toArray b.tmps k := by
      unfold yielded
      rw [List.getElem?_toArray]
      cases hd : (ops[k]?).bind (·.dst) with
      | none => rfl
      | some s =>
        simp only [Option.bind_some]
        rw [h k bb hg s hd]
    simp only [this]

/-- What a read gives at a frame. -/
def HeadVal (F : Fence) (n : Nat) (P : Program) (C : World → Prop) (ops : List Oper) (o : Oper) (b : Act) (v : Value) : Prop :=
  o.askedIn F P b C ∧ ((Region.wanted o (yielded ops.toArray b.tmps) = true ∧ ∀ w, C w → o.quietAtIn F n P b C w v) ∨ (Region.wanted o (yielded ops.toArray b.tmps) = false ∧ v = undef))
theorem slot_other {b : Act} {d : Option Tmp} {u : Value} {s : Tmp} (h : d ≠ some s) : (b.put d u).tmps[s]? = b.tmps[s]? := by
  cases d with
  | none => rfl
  | some e => rw [put_get, if_neg (fun h' => h (by rw [h'.1]))]
/-- It gives the same at each frame that agrees in what it reads. -/
theorem HeadVal.of {o : Oper} {a b : Act} {v : Value} (h : HeadVal F n P C ops o b v) (hns : noSel o = true) (hev : ∀ x ∈ o.op.operands, a.eval x = b.eval x)
    (hg : ∀ k bb, o.guard = some (k, bb) → ∀ s, (ops[k]?).bind (·.dst) = some s → a.tmps[s]? = b.tmps[s]?) : HeadVal F n P C ops o a v := by
  obtain ⟨h1, h2⟩ := h
  obtain ⟨e1, e2⟩ := quietAt_of (P := P) (sel_of hns) hev
  refine ⟨fun w hw f hf => h1 w hw f (by rw [← e2]; exact hf), ?_⟩
  rw [wanted_of hg]
  rcases h2 with ⟨hw, hq⟩ | h2
  · refine .inl ⟨hw, fun w hw => ?_⟩
    have := hq w hw
    unfold Oper.quietAtIn at this ⊢
    rw [e1]
    exact this
  · exact .inr h2

/-- The walk in stages; LT: what has come. -/
def wpStage (F : Fence) (n : Nat) (P : Program) (ops : List Oper) (H : List Nat) (C : World → Prop) (waits : Nat → Bool) (Q' : Act → World → Prop) : Nat → Array Bool → Act → World → Prop
  | 0, LT, b, w => Region.ready .any ops.toArray LT = [] ∧ Q' b w
  | f + 1, LT, b, w =>
    (∃ i o, i ∈ H ∧ i ∈ Region.ready .any ops.toArray LT ∧ ops[i]? = some o ∧ ∃ v, HeadVal F n P C ops o b v ∧ wpStage F n P ops H C waits Q' f (LT.setIfInBounds i true) (b.put o.dst v) w) ∨
    ((Region.ready .any ops.toArray LT = [] → Q' b w) ∧
      ∀ j ∈ Region.ready .any ops.toArray LT, ∀ o, ops[j]? = some o → wpListIn F n P ops.toArray (fun e a' w' => e = .normal ∧ (waits j = false → C w') ∧ wpStage F n P ops H C waits Q' f (LT.setIfInBounds j true) a' w') [o] b w)

/-- Hoisted, not come. -/
def Owed (H : List Nat) (L LT : Array Bool) (i : Nat) : Prop := i ∈ H ∧ LT[i]? = some true ∧ L[i]? = some false
/-- What is owed is known. -/
def Known (F : Fence) (n : Nat) (P : Program) (C : World → Prop) (ops : List Oper) (H : List Nat) (L LT : Array Bool) (b : Act) : Prop :=
  ∀ i o, Owed H L LT i → ops[i]? = some o → ∃ v, b.put o.dst v = b ∧ HeadVal F n P C ops o b v
theorem set_get {L : Array Bool} {j i : Nat} (hj : j < L.size) : (L.setIfInBounds j true)[i]? = if j = i then some true else L[i]? := by
  by_cases h : j = i
  · subst h; rw [if_pos rfl, Array.getElem?_setIfInBounds_self_of_lt hj]
  · rw [if_neg h, Array.getElem?_setIfInBounds_ne h]
theorem get_or {L : Array Bool} {i : Nat} (h : i < L.size) : L[i]? = some true ∨ L[i]? = some false := by
  rw [Array.getElem?_eq_getElem h]
  cases L[i] <;> simp

/-- A frame that agrees but for what is owed gives an operation that is ready the same. -/
theorem owed_agree (hok : stageOk ops H = true) {L LT : Array Bool} (_hs1 : L.size = ops.length) {a b : Act} (hl : Lack ops (Owed H L LT) a b) {j : Nat} {o : Oper} (hoj : ops[j]? = some o) (hself : Owed H L LT j → farOf o o.dst = true)
    (hall : ∀ k, waitsOn o k = true → L[k]? = some true) : (∀ x ∈ o.op.operands, a.eval x = b.eval x) ∧ ∀ k bb, o.guard = some (k, bb) → ∀ s, (ops[k]?).bind (·.dst) = some s → a.tmps[s]? = b.tmps[s]? := by
  have hS := stage_at hok hoj
  refine ⟨hl.eval fun i h' hi hh d hd => ?_, fun k bb hg s hs => hl.same s fun i h' hi hh e => ?_⟩
  · by_cases hij : i = j
    · subst hij
      rw [hoj] at hh; cases hh
      exact farOf_spec (hself hi) d hd
    · rcases (hS.far i h' hij hh).1 with hw | hf | hf
      · have := hall i hw
        rw [hi.2.2] at this; cases this
      · exact farOf_spec hf d hd
      · exact absurd hi.1 hf.2
  · have hk := hall k (hS.gd k bb hg)
    have hik : i ≠ k := fun e' => by subst e'; rw [hi.2.2] at hk; cases hk
    obtain ⟨ok, hok', hd⟩ := Option.bind_eq_some_iff.1 hs
    rcases ((stage_at hok hok').far i h' hik hh).2 with h0 | h0
    · rw [h0] at e; cases e
    · exact h0 (by rw [e, hd])

/-- What is known stays so when another operation's slot is written. -/
theorem known_put (hok : stageOk ops H = true) {L LT : Array Bool} {b : Act} (hk : Known F n P C ops H L LT b) {j : Nat} {o : Oper} (hoj : ops[j]? = some o) (hj : LT[j]? = some false)
    (hcl : ∀ i o, i ∈ H → LT[i]? = some true → ops[i]? = some o → ∀ k, waitsOn o k = true → LT[k]? = some true) (u : Value) {i : Nat} {oi : Oper} (hi : Owed H L LT i) (hoi : ops[i]? = some oi) (hno : waitsOn o i = true → j ∈ H) :
    ∃ v, (b.put o.dst u).put oi.dst v = b.put o.dst u ∧ HeadVal F n P C ops oi (b.put o.dst u) v := by
  obtain ⟨v, h1, h2⟩ := hk i oi hi hoi
  have hij : i ≠ j := fun e => by subst e; rw [hi.2.1] at hj; cases hj
  have hSi := stage_at hok hoi
  have hSj := stage_at hok hoj
  have hw : ∀ k, waitsOn oi k = true → k ≠ j := fun k hk e => by
    subst e
    have := hcl i oi hi.1 hi.2.1 hoi k hk
    rw [hj] at this; cases this
  have hfar := (hSi.far j o (fun e => hij e.symm) hoj)
  refine ⟨v, ?_, h2.of hSi.ns (operands_far (farOf_spec ?_)) fun k bb hg s hs => slot_other fun e => ?_⟩
  · rcases hfar.2 with h | h
    · rw [h]; exact h1
    · have hc := Act.put_comm b (x := oi.dst) (y := o.dst) v u (fun d h1 h2 => h (h2.trans h1.symm))
      rw [← hc, h1]
  · rcases hfar.1 with h | h | h
    · exact absurd rfl (hw j h)
    · exact h
    · exact absurd (hno h.1) h.2
  · have hkj := hw k (hSi.gd k bb hg)
    obtain ⟨ok, hok', hd⟩ := Option.bind_eq_some_iff.1 hs
    rcases (hSj.far k ok hkj hok').2 with h0 | h0
    · rw [h0] at hd; cases hd
    · exact h0 (by rw [e, hd])

/-- The state of a run beside the walk in stages. -/
structure StInv (F : Fence) (n : Nat) (P : Program) (C : World → Prop) (ops : List Oper) (H : List Nat) (L LT : Array Bool) (a b : Act) (w : World) : Prop where
  s1 : L.size = ops.length
  s2 : LT.size = ops.length
  same : ∀ i : Nat, i < ops.length → i ∉ H → L[i]? = LT[i]?
  le : ∀ i : Nat, L[i]? = some true → LT[i]? = some true
  closed : ∀ (i : Nat) (o : Oper), i ∈ H → LT[i]? = some true → ops[i]? = some o → ∀ k, waitsOn o k = true → LT[k]? = some true
  known : (∀ i ∈ H, i < ops.length → L[i]? = some true) ∨ (C w ∧ Known F n P C ops H L LT b)
  lack : Lack ops (Owed H L LT) a b

theorem StInv.hoist (hok : stageOk ops H = true) {L LT : Array Bool} {a b : Act} {w : World} (h : StInv F n P C ops H L LT a b w) {i : Nat} {o : Oper} (hi : i ∈ H) (hoi : ops[i]? = some o) (hLT : LT[i]? = some false)
    (hall : ∀ k, waitsOn o k = true → LT[k]? = some true) {v : Value} (hv : HeadVal F n P C ops o b v) : StInv F n P C ops H L (LT.setIfInBounds i true) a (b.put o.dst v) w := by
  have hil := (List.getElem?_eq_some_iff.1 hoi).1
  have hlt : i < LT.size := by rw [h.s2]; exact hil
  have hLi : L[i]? = some false := by
    rcases get_or (L := L) (i := i) (by rw [h.s1]; exact hil) with e | e
    · have := h.le i e; rw [hLT] at this; cases this
    · exact e
  have hS := stage_at hok hoi
  have hwi : waitsOn o i = true → False := fun e => by have := hall i e; rw [hLT] at this; cases this
  refine ⟨h.s1, by simpa using h.s2, fun k hk hkH => ?_, fun k hk => ?_, fun k ok hk hkT hok' j hj => ?_, ?_, ?_⟩
  · rw [set_get hlt, if_neg (fun e => hkH (by rw [← e]; exact hi))]; exact h.same k hk hkH
  · rw [set_get hlt]; split
    · rfl
    · exact h.le k hk
  · rw [set_get hlt]
    by_cases e : i = j
    · rw [if_pos e]
    · rw [if_neg e]
      by_cases e2 : i = k
      · subst e2; rw [hoi] at hok'; cases hok'; exact hall j hj
      · rw [set_get hlt, if_neg e2] at hkT; exact h.closed k ok hk hkT hok' j hj
  · rcases h.known with hk | ⟨hC, hk⟩
    · have := hk i hi hil; rw [hLi] at this; cases this
    · refine .inr ⟨hC, fun k ok hkO hok' => ?_⟩
      by_cases e : i = k
      · subst e
        rw [hoi] at hok'; cases hok'
        refine ⟨v, put_put_same _ _ _, hv.of hS.ns (operands_far (farOf_spec (hS.rd hi).2)) fun k bb hg s hs => slot_other fun e => ?_⟩
        have hki : k ≠ i := fun e' => by subst e'; exact hwi (hS.gd k bb hg)
        obtain ⟨ok, hok', hd⟩ := Option.bind_eq_some_iff.1 hs
        rcases (hS.far k ok hki hok').2 with h0 | h0
        · rw [h0] at hd; cases hd
        · exact h0 (by rw [e, hd])
      · refine known_put hok hk hoi hLT h.closed v ⟨hkO.1, ?_, hkO.2.2⟩ hok' (fun _ => hi)
        have := hkO.2.1
        rwa [set_get hlt, if_neg e] at this
  · refine ⟨h.lack.defers.trans (put_defers _ _ _).symm, h.lack.size.trans (put_size _ _ _).symm, fun s hs => ?_⟩
    have h1 := h.lack.same s fun k ok hk hok' => hs k ok ⟨hk.1, by rw [set_get hlt]; split; rfl; exact hk.2.1, hk.2.2⟩ hok'
    rw [h1, slot_other (hs i o ⟨hi, by rw [set_get hlt, if_pos rfl], hLi⟩ hoi)]

/-- One that is owed has come. -/
theorem StInv.paid (_hok : stageOk ops H = true) {L LT : Array Bool} {a b : Act} {w : World} (h : StInv F n P C ops H L LT a b w) {j : Nat} {o : Oper} (hoj : ops[j]? = some o) (hO : Owed H L LT j) {v : Value} (hb : b.put o.dst v = b) :
    StInv F n P C ops H (L.setIfInBounds j true) LT (a.put o.dst v) b w := by
  have hjl : j < L.size := by rw [h.s1]; exact (List.getElem?_eq_some_iff.1 hoj).1
  have sub : ∀ k, Owed H (L.setIfInBounds j true) LT k → Owed H L LT k := fun k hk => by
    refine ⟨hk.1, hk.2.1, ?_⟩
    have := hk.2.2
    rw [set_get hjl] at this
    split at this
    · cases this
    · exact this
  refine ⟨by simpa using h.s1, h.s2, fun k hk hkH => ?_, fun k hk => ?_, h.closed, ?_, ?_⟩
  · rw [set_get hjl, if_neg (fun e => hkH (by rw [← e]; exact hO.1))]; exact h.same k hk hkH
  · rw [set_get hjl] at hk
    split at hk
    · rename_i e; rw [← e]; exact hO.2.1
    · exact h.le k hk
  · rcases h.known with hk | ⟨hC, hk⟩
    · exact .inl fun k hkH hkl => by rw [set_get hjl]; split; rfl; exact hk k hkH hkl
    · exact .inr ⟨hC, fun k ok hkO => hk k ok (sub k hkO)⟩
  · refine h.lack.head hoj hb fun k hk => ?_
    by_cases e : j = k
    · exact .inl e.symm
    · exact .inr ⟨hk.1, hk.2.1, by rw [set_get hjl, if_neg e]; exact hk.2.2⟩

/-- One of the others has come. -/
theorem StInv.step (hok : stageOk ops H = true) {L LT : Array Bool} {a b a' b' : Act} {w w' : World} (h : StInv F n P C ops H L LT a b w) {j : Nat} {o : Oper} (hoj : ops[j]? = some o) (_hL : L[j]? = some false) (hLT : LT[j]? = some false)
    (hall : ∀ k, waitsOn o k = true → L[k]? = some true) {u : Value} {b0 : Act} (hkn : Known F n P C ops H L LT b → Known F n P C ops H L LT b0) (hb' : b' = b0.put o.dst u) (hl' : Lack ops (Owed H L LT) a' b') (hC' : C w' ∨ ∀ i ∈ H, i < ops.length → waitsOn o i = true) :
    StInv F n P C ops H (L.setIfInBounds j true) (LT.setIfInBounds j true) a' b' w' := by
  have hjl : j < L.size := by rw [h.s1]; exact (List.getElem?_eq_some_iff.1 hoj).1
  have hjt : j < LT.size := by rw [h.s2]; exact (List.getElem?_eq_some_iff.1 hoj).1
  have sub : ∀ k, Owed H (L.setIfInBounds j true) (LT.setIfInBounds j true) k → Owed H L LT k := fun k hk => by
    have h1 := hk.2.1
    have h2 := hk.2.2
    rw [set_get hjl] at h2
    rw [set_get hjt] at h1
    split at h2
    · cases h2
    · rename_i e; rw [if_neg e] at h1; exact ⟨hk.1, h1, h2⟩
  refine ⟨by simpa using h.s1, by simpa using h.s2, fun k hk hkH => ?_, fun k hk => ?_, fun k ok hk hkT hok' m hm => ?_, ?_, ?_⟩
  · rw [set_get hjl, set_get hjt]; split
    · rfl
    · exact h.same k hk hkH
  · rw [set_get hjl] at hk; rw [set_get hjt]
    split
    · rfl
    · rename_i e; rw [if_neg e] at hk; exact h.le k hk
  · rw [set_get hjt]
    split
    · rfl
    · by_cases e2 : j = k
      · subst e2; rw [hoj] at hok'; cases hok'; exact h.le m (hall m hm)
      · rw [set_get hjt, if_neg e2] at hkT; exact h.closed k ok hk hkT hok' m hm
  · rcases h.known with hk | ⟨hC, hk⟩
    · exact .inl fun k hkH hkl => by rw [set_get hjl]; split; rfl; exact hk k hkH hkl
    · rcases hC' with hC' | hC'
      · refine .inr ⟨hC', fun k ok hkO hok' => ?_⟩
        rw [hb']
        exact known_put hok (hkn hk) hoj hLT h.closed u (sub k hkO) hok' (fun hw => by
          have h1 := hall k hw
          have h2 := (sub k hkO).2.2
          rw [h1] at h2; cases h2)
      · exact .inl fun k hkH hkl => by rw [set_get hjl]; split; rfl; exact hall k (hC' k hkH hkl)
  · exact hl'.mono fun k hkl hk => by
      refine ⟨hk.1, ?_, ?_⟩
      · rw [set_get hjt]; split; rfl; exact hk.2.1
      · rw [set_get hjl]
        split
        · rename_i e; subst e; have := hk.2.1; rw [hLT] at this; cases this
        · exact hk.2.2

theorem getD_false {L : Array Bool} {i : Nat} (hi : i < L.size) (h : L.getD i true = false) : L[i]? = some false := by
  rcases get_or hi with e | e
  · rw [getD_of e] at h; cases h
  · exact e
theorem ready_exists (hok : stageOk ops H = true) {L : Array Bool} (hsz : L.size = ops.length) (hu : unlisted ops.length L ≠ 0) : ∃ i, i ∈ Region.ready .any ops.toArray L := by
  have hne : ∃ i, i < ops.length ∧ L.getD i true = false := by
    have hpos : 0 < ((List.range ops.length).filter fun i => !L.getD i true).length := by unfold unlisted at hu; omega
    obtain ⟨i, hi⟩ := List.exists_mem_of_length_pos hpos
    obtain ⟨g1, g2⟩ := List.mem_filter.1 hi
    exact ⟨i, List.mem_range.1 g1, by simpa using g2⟩
  obtain ⟨i0, ⟨hi0, hu0⟩, hmin⟩ := exists_least (p := fun i => i < ops.length ∧ L.getD i true = false) hne
  have ho : ops[i0]? = some ops[i0] := by simp [hi0]
  refine ⟨i0, mem_ready.2 ⟨hu0, ops[i0], by simp [hi0], fun e he hb => ?_⟩⟩
  have hlt := ownEdges_spec (stage_at hok ho).edges e he hb
  have hnot : ¬ L.getD e.on true = false := fun hh => by have := hmin e.on ⟨by omega, hh⟩; omega
  exact getD_of (listed_of (k := ops.length) (by omega) (by omega) (.inl (by simpa using hnot)))
theorem ready_none {L : Array Bool} (hsz : L.size = ops.length) (hu : unlisted ops.length L = 0) : Region.ready .any ops.toArray L = [] := by
  rw [List.eq_nil_iff_forall_not_mem]
  intro j hj
  obtain ⟨hj1, o, ho, _⟩ := mem_ready.1 hj
  have hlt : j < ops.length := by have := (Array.getElem?_eq_some_iff.1 ho).1; simpa using this
  have := listed_of (k := ops.length) (by omega) hlt (.inr (unlisted_zero hu (by omega) j hlt))
  rw [getD_of this] at hj1; cases hj1
/-- What is ready. -/
theorem ready_facts (hok : stageOk ops H = true) {L : Array Bool} (hsz : L.size = ops.length) {j : Nat} (hj : j ∈ Region.ready .any ops.toArray L) : ∃ o, ops[j]? = some o ∧ ops.toArray[j]? = some o ∧ L[j]? = some false ∧ ∀ k, waitsOn o k = true → L[k]? = some true := by
  obtain ⟨hj1, o, ho, hall⟩ := mem_ready.1 hj
  have hjl : j < ops.length := by have := (Array.getElem?_eq_some_iff.1 ho).1; simpa using this
  have hoj : ops[j]? = some o := by rw [← ho]; simp
  refine ⟨o, hoj, ho, getD_false (by omega) hj1, fun k hk => ?_⟩
  obtain ⟨e, he, hb, hon⟩ := waitsOn_spec hk
  have h1 := hall e he hb
  have hel := ownEdges_spec (stage_at hok hoj).edges e he hb
  rw [hon] at h1 hel
  exact listed_of (k := ops.length) (by omega) (by omega) (.inr h1)
theorem ready_mono (hok : stageOk ops H = true) {L LT : Array Bool} (hs1 : L.size = ops.length) (_hs2 : LT.size = ops.length) (hle : ∀ i : Nat, L[i]? = some true → LT[i]? = some true) {j : Nat} (hj : j ∈ Region.ready .any ops.toArray L) (hLT : LT[j]? = some false) : j ∈ Region.ready .any ops.toArray LT := by
  obtain ⟨o, hoj, ho, hL, hall⟩ := ready_facts hok hs1 hj
  refine mem_ready.2 ⟨getD_of hLT, o, ho, fun e he hb => ?_⟩
  have hw : waitsOn o e.on = true := by
    unfold waitsOn
    rw [Array.any_eq_true']
    exact ⟨e, he, by simp [hb]⟩
  exact getD_of (hle _ (hall _ hw))

theorem Known.defers {L LT : Array Bool} {b : Act} (h : Known F n P C ops H L LT b) (ds : List Deferred) : Known F n P C ops H L LT { b with defers := ds } := by
  intro i o hi ho
  obtain ⟨u, h2, h3⟩ := h i o hi ho
  refine ⟨u, ?_, h3⟩
  cases hd : o.dst with
  | none => rfl
  | some d =>
    rw [hd] at h2
    have := congrArg Act.tmps h2
    simp only [Act.put] at this ⊢
    rw [this]
theorem stage_paid (hok : stageOk ops H = true) {L LT : Array Bool} {a b : Act} {w : World} (hI : StInv F n P C ops H L LT a b w) {j : Nat} {o : Oper} (hO : Owed H L LT j) (hoj : ops[j]? = some o) (ho : ops.toArray[j]? = some o)
    (hall : ∀ k, waitsOn o k = true → L[k]? = some true) {Q : Exit → Act → World → Prop} {K : Act → World → Prop} (hK : ∀ v, b.put o.dst v = b → K (a.put o.dst v) w) : wpOpIn F n P ops.toArray Q j K a w := by
  have hS := stage_at hok hoj
  rcases hI.known with hk | ⟨hC, hk⟩
  · have := hk j hO.1 (List.getElem?_eq_some_iff.1 hoj).1; rw [hO.2.2] at this; cases this
  · obtain ⟨v, hb, hv⟩ := hk j o hO hoj
    obtain ⟨hev, hgd⟩ := owed_agree hok hI.s1 hI.lack hoj (fun h => (hS.rd h.1).2) hall
    obtain ⟨hask, hcase⟩ := hv.of hS.ns hev hgd
    unfold wpOpIn
    rw [ho]
    dsimp only
    rcases hcase with ⟨hw, hq⟩ | ⟨hw, rfl⟩
    · rw [if_pos hw]
      exact bare_runs (hS.rd hO.1).1 (hq w hC) (hK v hb) (fun f hf => hask w hC f hf)
    · rw [if_neg (by rw [hw]; simp)]
      exact ⟨fun f hf => hask w hC f hf, hK _ hb⟩

theorem stage_run (hok : stageOk ops H = true) (waits : Nat → Bool) (hw : ∀ j o, ops[j]? = some o → waits j = true → ∀ i ∈ H, i < ops.length → waitsOn o i = true) (Q : Exit → Act → World → Prop) : ∀ (g f : Nat) (L LT : Array Bool) (a b : Act) (w : World),
    unlisted ops.length L = g → unlisted ops.length LT = f → StInv F n P C ops H L LT a b w → wpStage F n P ops H C waits (fun a w => Q .normal a w) f LT b w → wpAnyIn F n P .any ops.toArray Q g L a w := by
  intro g
  induction g with
  | zero =>
    intro f L LT a b w hg hf hI h
    have hall : ∀ i, i < ops.length → L[i]? = some true := fun i hi => listed_of (k := ops.length) (by rw [hI.s1]; omega) hi (.inr (unlisted_zero hg (by rw [hI.s1]; omega) i hi))
    have hut : unlisted ops.length LT = 0 := by
      unfold unlisted
      rw [List.length_eq_zero_iff, List.filter_eq_nil_iff]
      intro i hi
      have := hI.le i (hall i (List.mem_range.1 hi))
      simp [Array.getD_eq_getD_getElem?, this]
    rw [hut] at hf
    subst hf
    refine ⟨ready_none hI.s1 hg, ?_⟩
    rw [hI.lack.full fun i hi hn => by have := hall i hi; rw [hn.2.2] at this; cases this]
    exact h.2
  | succ g ih =>
    intro f
    have less : ∀ {L : Array Bool} {j k : Nat}, L.size = ops.length → j < ops.length → L[j]? = some false → unlisted ops.length L = k + 1 → unlisted ops.length (L.setIfInBounds j true) = k := fun hsz hj hf hu => by
      have := unlisted_set hj (by omega) (getD_of (d := true) hf)
      omega
    induction f with
    | zero =>
      intro L LT a b w hg hf hI h
      obtain ⟨r0, hr0⟩ := ready_exists hok hI.s1 (by omega)
      refine ⟨fun e => (by rw [e] at hr0; cases hr0), fun j hj => ?_⟩
      obtain ⟨o, hoj, ho, hL, hall⟩ := ready_facts hok hI.s1 hj
      have hjl := (List.getElem?_eq_some_iff.1 hoj).1
      have hLT : LT[j]? = some true := listed_of (k := ops.length) (by rw [hI.s2]; omega) hjl (.inr (unlisted_zero hf (by rw [hI.s2]; omega) j hjl))
      have hjH : j ∈ H := by
        by_cases hm : j ∈ H
        · exact hm
        · have := hI.same j hjl hm; rw [hL, hLT] at this; cases this
      have hO : Owed H L LT j := ⟨hjH, hLT, hL⟩
      exact stage_paid hok hI hO hoj ho hall fun v hb => ih 0 _ LT _ b w (less hI.s1 hjl hL hg) hf (hI.paid hok hoj hO hb) h
    | succ f ihf =>
      intro L LT a b w hg hf hI h
      rcases h with ⟨i, o, hiH, hir, hoi, v, hv, hst⟩ | ⟨h1, h2⟩
      · obtain ⟨o', hoi', _, hLTi, halli⟩ := ready_facts hok hI.s2 hir
        rw [hoi] at hoi'; cases hoi'
        have hil := (List.getElem?_eq_some_iff.1 hoi).1
        exact ihf L _ a _ w hg (less hI.s2 hil hLTi hf) (hI.hoist hok hiH hoi hLTi halli hv) hst
      · obtain ⟨r0, hr0⟩ := ready_exists hok hI.s1 (by omega)
        refine ⟨fun e => (by rw [e] at hr0; cases hr0), fun j hj => ?_⟩
        obtain ⟨o, hoj, ho, hL, hall⟩ := ready_facts hok hI.s1 hj
        have hjl := (List.getElem?_eq_some_iff.1 hoj).1
        rcases get_or (L := LT) (i := j) (by rw [hI.s2]; exact hjl) with hLT | hLT
        · have hjH : j ∈ H := by
            by_cases hm : j ∈ H
            · exact hm
            · have := hI.same j hjl hm; rw [hL, hLT] at this; cases this
          have hO : Owed H L LT j := ⟨hjH, hLT, hL⟩
          exact stage_paid hok hI hO hoj ho hall fun v hb => ih (f + 1) _ LT _ b w (less hI.s1 hjl hL hg) hf (hI.paid hok hoj hO hb) (.inr ⟨h1, h2⟩)
        · have hrT := ready_mono hok hI.s1 hI.s2 hI.le hj hLT
          have h3 := h2 j hrT o hoj
          have hS := stage_at hok hoj
          obtain ⟨hev, hgd⟩ := owed_agree hok hI.s1 hI.lack hoj (fun h => by have := h.2.1; rw [hLT] at this; cases this) hall
          obtain ⟨e1, e2⟩ := quietAt_of (P := P) (sel_of hS.ns) hev
          have hC' : ∀ w', (waits j = false → C w') → (C w' ∨ ∀ i ∈ H, i < ops.length → waitsOn o i = true) := fun w' h => by
            cases hwj : waits j with
            | true => exact .inr (hw j o hoj hwj)
            | false => exact .inl (h hwj)
          simp only [wpListIn] at h3
          unfold wpOpIn
          rw [ho]
          dsimp only
          rw [wanted_of hgd]
          by_cases hwt : Region.wanted o (yielded ops.toArray b.tmps) = true
          · rw [if_pos hwt] at h3 ⊢
            refine wpIn_move hS.nd e1 (e2 w) (fun v w' h' => ?_) (fun d w' h' => ?_) (fun e a w h => h.1) h3
            · exact ih f _ _ _ _ w' (less hI.s1 hjl hL hg) (less hI.s2 hjl hLT hf) (hI.step hok hoj hL hLT hall id rfl (hI.lack.tail _ _) (hC' w' h'.2.1)) h'.2.2
            · exact ih f _ _ _ _ w' (less hI.s1 hjl hL hg) (less hI.s2 hjl hLT hf) (hI.step hok hoj hL hLT hall (fun hk => hk.defers _) rfl ((hI.lack.defer d).tail _ _) (hC' w' h'.2.1)) h'.2.2
          · rw [if_neg hwt] at h3 ⊢
            obtain ⟨h4, h5⟩ := h3
            exact ⟨fun f hf => h4 f (by rw [← e2 w]; exact hf), ih f _ _ _ _ w (less hI.s1 hjl hL hg) (less hI.s2 hjl hLT hf) (hI.step hok hoj hL hLT hall id rfl (hI.lack.tail _ _) (hC' w h5.2.1)) h5.2.2⟩

/-- hs: reads, each ready behind those ahead of it. -/
def hoistOk (ops : List Oper) (H : List Nat) : List Nat → Array Bool → Bool
  | [], _ => true
  | i :: l, LT => H.contains i && !(LT.getD i true) && (match ops[i]? with | none => false | some o => o.after.all fun e => !Region.binds .any e || LT.getD e.on false) && hoistOk ops H l (LT.setIfInBounds i true)
def listAll (hs : List Nat) (LT : Array Bool) : Array Bool := hs.foldl (fun LT i => LT.setIfInBounds i true) LT
theorem stage_reads {waits : Nat → Bool} {Q' : Act → World → Prop} {w : World} : ∀ (hs : List Nat) (f : Nat) (LT : Array Bool) (b : Act), hoistOk ops H hs LT = true →
    wpQuietIn F n P ops.toArray C (fun b' => wpStage F n P ops H C waits Q' f (listAll hs LT) b' w) (pickOps ops hs) b → wpStage F n P ops H C waits Q' (f + hs.length) LT b w
  | [], f, LT, b, _, h => h
  | i :: l, f, LT, b, hh, h => by
    simp only [hoistOk, Bool.and_eq_true, Bool.not_eq_true'] at hh
    obtain ⟨⟨⟨h1, h2⟩, h3⟩, h4⟩ := hh
    cases ho : ops[i]? with
    | none => rw [ho] at h3; cases h3
    | some o =>
      rw [ho] at h3
      rw [pick_cons, ho] at h
      obtain ⟨hask, h⟩ := h
      have hr : i ∈ Region.ready .any ops.toArray LT := mem_ready.2 ⟨h2, o, by simpa using ho, fun e he hb => by
        have := Array.all_eq_true_iff_forall_mem.1 h3 e he
        rw [hb] at this
        simpa using this⟩
      have hH : i ∈ H := by simpa using h1
      by_cases hwt : Region.wanted o (yielded ops.toArray b.tmps) = true
      · rw [if_pos hwt] at h
        obtain ⟨v, hv, h⟩ := h
        exact .inl ⟨i, o, hH, hr, ho, v, ⟨hask, .inl ⟨hwt, hv⟩⟩, stage_reads l f _ _ h4 h⟩
      · rw [if_neg hwt] at h
        exact .inl ⟨i, o, hH, hr, ho, undef, ⟨hask, .inr ⟨by simpa using hwt, rfl⟩⟩, stage_reads l f _ _ h4 h⟩

def StagePost (F : Fence) (n : Nat) (P : Program) (ops : List Oper) (H : List Nat) (C : World → Prop) (waits : Nat → Bool) (Q' : Act → World → Prop) (f : Nat) (LT : Array Bool) (i : Nat) : Exit → Act → World → Prop :=
  fun e a' w' => e = .normal ∧ (waits i = false → C w') ∧ wpStage F n P ops H C waits Q' f (LT.setIfInBounds i true) a' w'
theorem stage_post {waits : Nat → Bool} {Q' : Act → World → Prop} {f : Nat} {LT : Array Bool} {i : Nat} {a : Act} {w : World} (hC : C w) (h : wpStage F n P ops H C waits Q' f (LT.setIfInBounds i true) a w) : StagePost F n P ops H C waits Q' f LT i .normal a w := ⟨rfl, fun _ => hC, h⟩
theorem stage_one {waits : Nat → Bool} {Q' : Act → World → Prop} {f : Nat} {LT : Array Bool} {a : Act} {w : World} (i : Nat) {o : Oper} (hr : Region.ready .any ops.toArray LT = [i]) (ho : ops[i]? = some o)
    (h : wpListIn F n P ops.toArray (StagePost F n P ops H C waits Q' f LT i) [o] a w) : wpStage F n P ops H C waits Q' (f + 1) LT a w :=
  .inr ⟨fun e => (by rw [hr] at e; cases e), fun j hj o' ho' => by
    rw [hr] at hj
    obtain rfl : j = i := by simpa using hj
    rw [ho] at ho'
    cases ho'
    exact h⟩
theorem stage_two {waits : Nat → Bool} {Q' : Act → World → Prop} {f : Nat} {LT : Array Bool} {a : Act} {w : World} (i j : Nat) {o o2 : Oper} (hr : Region.ready .any ops.toArray LT = [i, j]) (ho : ops[i]? = some o) (ho2 : ops[j]? = some o2)
    (h : wpListIn F n P ops.toArray (StagePost F n P ops H C waits Q' f LT i) [o] a w) (h2 : wpListIn F n P ops.toArray (StagePost F n P ops H C waits Q' f LT j) [o2] a w) : wpStage F n P ops H C waits Q' (f + 1) LT a w :=
  .inr ⟨fun e => (by rw [hr] at e; cases e), fun k hk o' ho' => by
    rw [hr] at hk
    simp only [List.mem_cons, List.not_mem_nil, or_false] at hk
    rcases hk with rfl | rfl
    · rw [ho] at ho'; cases ho'; exact h
    · rw [ho2] at ho'; cases ho'; exact h2⟩
theorem stage_done {waits : Nat → Bool} {Q' : Act → World → Prop} {LT : Array Bool} {a : Act} {w : World} (hr : Region.ready .any ops.toArray LT = []) (h : Q' a w) : wpStage F n P ops H C waits Q' 0 LT a w := ⟨hr, h⟩

def stageAll (ops : List Oper) (H ws : List Nat) : Bool :=
  stageOk ops H && ws.all fun j => match ops[j]? with | none => true | some o => H.all fun i => waitsOn o i
/-- A region that draws its order, in stages: H are reads (guarded or not), which read the same in every world of the class C; ws wait for all of them; behind each of the others the world is one of C. -/
theorem wpIn_stage {id : Nat} {Q : Exit → Act → World → Prop} {a : Act} {w : World} (C : World → Prop) (H ws : List Nat) (hm : P.follows .mixedOrders = true) (hB : stageAll ops H ws = true) (hC : C w.drew)
    (h : wpStage F n P ops H C (fun i => ws.contains i) (fun a w => Q .normal a w) ops.length (Array.replicate ops.length false) a w.drew) : (Code.region id ops.toArray true).wpIn F n P Q a w := by
  simp only [stageAll, Bool.and_eq_true] at hB
  obtain ⟨hok, hws⟩ := hB
  refine wpIn_region_any hm ?_
  have hun : unlisted ops.length (Array.replicate ops.length false) = ops.length := by
    unfold unlisted
    rw [List.filter_eq_self.2 (fun i hi => ?_), List.length_range]
    have := List.mem_range.1 hi
    simp only [Array.getD_eq_getD_getElem?]
    rw [Array.getElem?_replicate, if_pos (by omega)]; rfl
  have hno : ∀ i : Nat, (Array.replicate ops.length false)[i]? ≠ some true := fun i => by
    rw [Array.getElem?_replicate]; split <;> simp
  have hrun := stage_run (F := F) (n := n) (P := P) (C := C) hok (fun i => ws.contains i) (fun j o ho hj i hi _ => by
      have := List.all_eq_true.1 hws j (by simpa using hj)
      rw [ho] at this
      exact List.all_eq_true.1 this i hi) Q ops.length ops.length (Array.replicate ops.length false) (Array.replicate ops.length false) a a w.drew hun hun
    ⟨by simp, by simp, fun _ _ _ => rfl, fun _ h => h, fun i o _ h => absurd h (hno i), .inr ⟨hC, fun i o hO => absurd hO.2.1 (hno i)⟩, ⟨rfl, rfl, fun _ _ => rfl⟩⟩ h
  simpa using hrun
end
end Go.Proofs.YtbfhonhjejeaiaaGreatDoor.S2
namespace Go.Proofs.YtbfhonhjejeaiaaGreatDoor
open Go.RowKit Go.Shelf
open Lim

attribute [local go_sem] Oper.semAt_some

/-- What a call returns in every world, new memory aside. -/
def Ret (F : FuncId) (args : Array Value) (v : Value) : Prop := ∀ w, Res w → Calls Tryz.prog F args w fun e w' => e = .returned v ∧ Below w.heap.size w w'
namespace S2
end S2
end Go.Proofs.YtbfhonhjejeaiaaGreatDoor
namespace Go.Proofs.YtbfhonhjejeaiaaGreatDoor
open Go.RowKit Go.Shelf
open Lim

attribute [local go_sem] Oper.semAt_some

end Go.Proofs.YtbfhonhjejeaiaaGreatDoor
namespace Go.Proofs.YtbfhonhjejeaiaaGreatDoor
open Go.RowKit Go.Shelf
open Lim

attribute [local go_sem] Oper.semAt_some

/-- What the reference's Add keeps ahead of its loop, and within it. -/
structure RAd0 (w : World) (a b : CT) (W : World) : Prop where
  ka : CBlk W w.heap.size a
  kb : CBlk W (w.heap.size + 1) b
  kz : CBlk W (w.heap.size + 1 + 1) zC
  below : Below w.heap.size w W
theorem RAd0.later {w W W' : World} {a b : CT} (h : RAd0 w a b W) (hb : Below W.heap.size W W') : RAd0 w a b W' := ⟨h.ka.later hb, h.kb.later hb, h.kz.later hb, h.below.trans (hb.mono h.below.size)⟩
theorem RAd0.new (w : World) (a b : CT) : RAd0 w a b (((w.alloc (cvO a)).alloc (cvO b)).alloc (cvO zC)) := by
  have k1 := ((CBlk.new w a).alloc (cvO b)).alloc (cvO zC)
  have k2 := (CBlk.new (w.alloc (cvO a)) b).alloc (cvO zC)
  have k3 : CBlk (((w.alloc (cvO a)).alloc (cvO b)).alloc (cvO zC)) ((w.alloc (cvO a)).alloc (cvO b)).heap.size zC := CBlk.new ((w.alloc (cvO a)).alloc (cvO b)) zC
  rw [World.size_alloc] at k2
  rw [World.size_alloc, World.size_alloc] at k3
  exact ⟨k1, k2, k3, below_alloc (below_alloc (below_alloc (Below.refl _ _) _) _) _⟩
structure RAd1 (w : World) (gc : Nat) (a b r : CT) (m : Nat) (W : World) : Prop where
  ka : CBlk W w.heap.size a
  kb : CBlk W (w.heap.size + 1) b
  kz : CBlk W (w.heap.size + 1 + 1) zC
  kc : CBlk W gc (mixC zC r m)
  below : Below w.heap.size w W
theorem RAd1.later {w W W' : World} {gc : Nat} {a b r : CT} {m : Nat} (h : RAd1 w gc a b r m W) (hb : Below W.heap.size W W') : RAd1 w gc a b r m W' := ⟨h.ka.later hb, h.kb.later hb, h.kz.later hb, h.kc.later hb, h.below.trans (hb.mono h.below.size)⟩
theorem RAd1.cells7 {w W : World} {gc : Nat} {a b r : CT} (h : RAd1 w gc a b r 7 W) : W.cell? ⟨gc, 0, none⟩ = some (.string (r 0)) ∧ W.cell? ⟨gc, 1, none⟩ = some (.string (r 1)) ∧ W.cell? ⟨gc, 2, none⟩ = some (.string (r 2)) ∧ W.cell? ⟨gc, 3, none⟩ = some (.string (r 3)) ∧
    W.cell? ⟨gc, 4, none⟩ = some (.string (r 4)) ∧ W.cell? ⟨gc, 5, none⟩ = some (.string (r 5)) ∧ W.cell? ⟨gc, 6, none⟩ = some (.string (r 6)) ∧ W.cell? ⟨gc, 7, none⟩ = some (.string ⟨#[]⟩) := h.kc.cells
set_option maxRecDepth 100000 in
set_option maxHeartbeats 8000000 in
theorem rmadd_ok (a b : CT) (hn : (errCC a b : Int) = 0) (r : CT) (s : ByteArray) (M1 : Hid (∀ i : Nat, i < 7 → Ret 34 #[.string (a i), .string (b i)] (.tuple #[.string (r i), .int .i64 0]))) (A1 : Hid (Ret 68 #[.string (a 7), .string (b 7)] (.tuple #[.string s, .int .i64 0]))) (N1 : Hid (Ret 113 #[.string s, .string ⟨#[49]⟩] (.tuple #[.string (r 7), .int .i64 0]))) (w : World) (ha : SmC a) (hb : SmC b) (hr : Res w) :
    Calls Tryz.prog 50 #[cv a, cv b] w fun e w' => e = .returned (.tuple #[cv r, .int .i64 0]) ∧ Below w.heap.size w w' := by
  have H0 := Lib.hid (RAd0.new w a b)
  have HR := Lib.hid hr
  have HC := Lib.hid (fun (w : World) (hr : Res w) => rmboth_any a b w ha hb hr)
  obtain ⟨c0, c1, c2, c3, c4, c5, c6, c7⟩ := H0.out.ka.cells
  obtain ⟨d0, d1, d2, d3, d4, d5, d6, d7⟩ := H0.out.kb.cells
  rw [hn] at HC
  clear hr ha hb hn
  have TK0 : True := trivial
  have TK1 : True := trivial
  have TK2 : True := trivial
  refine (callsIn_wide (n := 3)).1 ?_
  have h1 : 1 ≤ 3 := by omega
  have hmx : Tryz.prog.follows .mixedOrders = true := by kernel_rfl
  refine callsIn_of_wp_marks Tryz.func50 rfl trivial ?_ rfl
  simp only [Tryz.ntmps50, List.size_toArray, List.length_cons, List.length_nil, Nat.reduceAdd, Nat.reduceSub, Array.replicate_succ, Array.replicate_zero, List.push_toArray, List.append_toArray, List.nil_append, List.cons_append]
  gi_wp2_with ((clear TK0; refine ⟨trivial, ?_⟩; gi_at_call 112; refine (callsIn_wide.2 (HC.out _ (HR.out.below H0.out.below))).mono ?_; rintro e w1 ⟨rfl, hb⟩; have H1 := Lib.hid (H0.out.later hb); clear c0 c1 c2 c3 c4 c5 c6 c7 d0 d1 d2 d3 d4 d5 d6 d7; clear hb))
  have H2 : Hid (RAd1 w w1.heap.size a b r 0 (w1.alloc (cvO zC))) := Lib.hid (by
    have hb := below_alloc (Below.refl w1.heap.size w1) (cvO zC)
    exact ⟨H1.out.ka.later hb, H1.out.kb.later hb, H1.out.kz.later hb, by rw [mixC_zero]; exact CBlk.new w1 zC, H1.out.below.trans (hb.mono H1.out.below.size)⟩)
  have HG := Lib.hid H1.out.kz.lt
  have HGS := Lib.hid H1.out.below.size
  gi_wp2
  generalize w1.heap.size = gc at *
  clear H0 H1
  gi_loopw [8] (fun v8 wr => ∃ k : Nat, k ≤ 7 ∧ v8 = .int .i64 (k : Int) ∧ Hid (RAd1 w gc a b r k wr)) (fun v8 _ => 7 - (intOf v8).toNat)
  case atStart => exact ⟨0, by omega, rfl, H2⟩
  case round =>
    obtain ⟨k, hk, rfl, H⟩ := hrel
    clear H2
    rcases Nat.lt_or_ge k 7 with hlt | hge
    · have hi0 : (0 : Int) ≤ (k : Int) := by omega
      have hi1 : (k : Int) < 7 := by omega
      gi_upto_region 8 with fail
      have hg1 := HG.out
      have la := H.out.ka.lt
      have lb := H.out.kb.lt
      have xa : ∀ x : SameAt wr (fun k => k < wr.heap.size ∧ k ≠ gc), x.W.cell? ⟨w.heap.size, k, none⟩ = some (.string (a k)) := fun x => x.cell ⟨la, by omega⟩ (H.out.ka.cell (by omega))
      have xb : ∀ x : SameAt wr (fun k => k < wr.heap.size ∧ k ≠ gc), x.W.cell? ⟨w.heap.size + 1, k, none⟩ = some (.string (b k)) := fun x => x.cell ⟨lb, by omega⟩ (H.out.kb.cell (by omega))
      clear la lb
      refine wpIn_stage (IsSame wr (fun k => k < wr.heap.size ∧ k ≠ gc)) [0, 1, 2, 3, 4, 5, 6, 7, 8, 10, 11, 12, 13, 14, 16] [] hmx (by kernel_rfl) (isSame_of fun _ _ => rfl) ?_
      change wpStage _ _ _ _ _ _ _ _ (7 + 10) _ _ _
      refine stage_reads [0, 1, 2, 3, 4, 5, 6, 7, 8, 13] 7 _ _ (by kernel_rfl) ?_
      change wpQuietIn _ _ _ _ (fun W' => ∃ x : SameAt wr (fun k => k < wr.heap.size ∧ k ≠ gc), W' = x.W) _ _ _
      simp only [pick_cons, pick_nil, List.getElem?_cons_zero, List.getElem?_cons_succ, Option.elim_some]
      repeat (gi_big_quiet_step (fail))
      refine wpQuietIn_nil ?_
      have HD := Lib.hid (H.out.later (below_drew (Below.refl wr.heap.size wr)))
      refine stage_one 9 (by kernel_rfl) rfl ?_
      gi_wp2
      refine ⟨trivial, ?_⟩
      refine (callsIn_wide.2 (M1.out k hlt wr.drew (HR.out.below HD.out.below))).mono ?_
      rintro e w20 ⟨rfl, hb⟩
      have H20 := Lib.hid (HD.out.later hb)
      have B20 := Lib.hid (below_undrew hb)
      clear hb xa xb
      gi_wp2
      refine stage_post (isSame_below B20.out (fun k hk => hk.1)) ?_
      change wpStage _ _ _ _ _ _ _ _ (2 + 4) _ _ _
      refine stage_reads [10, 11, 12, 14] 2 _ _ (by kernel_rfl) ?_
      change wpQuietIn _ _ _ _ (fun W' => ∃ x : SameAt wr (fun k => k < wr.heap.size ∧ k ≠ gc), W' = x.W) _ _ _
      simp only [pick_cons, pick_nil, List.getElem?_cons_zero, List.getElem?_cons_succ, Option.elim_some]
      repeat (gi_big_quiet_step (fail))
      refine wpQuietIn_nil ?_
      have hcc := H20.out.kc.cell (k := k) (by omega)
      have hfc := H20.out.kc.frozen k
      refine stage_one 15 (by kernel_rfl) rfl ?_
      gi_wp2
      refine stage_post (isSame_of fun j hj => (set_far _ (p := ⟨gc, k, none⟩) hj.2 _).trans (B20.out.block j hj.1)) ?_
      change wpStage _ _ _ _ _ _ _ _ (0 + 1) _ _ _
      refine stage_reads [16] 0 _ _ (by kernel_rfl) ?_
      change wpQuietIn _ _ _ _ (fun W' => ∃ x : SameAt wr (fun k => k < wr.heap.size ∧ k ≠ gc), W' = x.W) _ _ _
      simp only [pick_cons, pick_nil, List.getElem?_cons_zero, List.getElem?_cons_succ, Option.elim_some]
      repeat (gi_big_quiet_step (fail))
      refine wpQuietIn_nil ?_
      refine stage_done (by kernel_rfl) ?_
      gi_wp2
      go_roundw
      case rel =>
        have hgs := HGS.out
        refine ⟨k + 1, by omega, by go_num, Lib.hid ⟨Blk.far H20.out.ka (p := ⟨gc, k, none⟩) (by show w.heap.size ≠ gc; omega) _, Blk.far H20.out.kb (p := ⟨gc, k, none⟩) (by show w.heap.size + 1 ≠ gc; omega) _, Blk.far H20.out.kz (p := ⟨gc, k, none⟩) (by show w.heap.size + 1 + 1 ≠ gc; omega) _, ?_, H20.out.below.setCell hgs _⟩⟩
        rw [← mixC_upd]
        exact H20.out.kc.set_ (by omega) (r k)
      case measure => simp [intOf]; omega
    · obtain rfl : k = 7 := by omega
      have ca := H.out.ka.cell (k := 7) (by omega)
      have cb := H.out.kb.cell (k := 7) (by omega)
      have hg1 := HG.out
      gi_wp2_with ((clear TK1; refine ⟨trivial, ?_⟩; gi_at_call 68; refine (callsIn_wide.2 (A1.out _ (HR.out.below H.out.below))).mono ?_; rintro e w21 ⟨rfl, hb⟩; have H21 := Lib.hid (H.out.later hb); clear ca cb; clear hb))
      gi_wp2_with ((clear TK2; refine ⟨trivial, ?_⟩; gi_at_call 113; refine (callsIn_wide.2 (N1.out _ (HR.out.below H21.out.below))).mono ?_; rintro e w22 ⟨rfl, hb⟩; have H22 := Lib.hid (H21.out.later hb); obtain ⟨q0, q1, q2, q3, q4, q5, q6, q7⟩ := H22.out.cells7; have qz := H22.out.kc.frozen 7; obtain ⟨z0, z1, z2, z3, z4, z5, z6, z7⟩ := H22.out.kz.cells; obtain ⟨y0, y1, y2, y3, y4, y5, y6, y7⟩ := H22.out.kz.frozens; have hne1 : w.heap.size + 1 + 1 ≠ gc := (by omega); have hne2 : gc ≠ w.heap.size + 1 + 1 := (by omega); clear hb))
      have hgs := HGS.out
      exact curve_ret (W := w22.setCell ⟨gc, 7, none⟩ (.string (r 7))) (g := w.heap.size + 1 + 1) (c := r) rfl rfl (Blk.far H22.out.kz (p := ⟨gc, 7, none⟩) (by show w.heap.size + 1 + 1 ≠ gc; omega) _) (Nat.le_trans (Nat.le_succ _) (Nat.le_succ _)) (H22.out.below.setCell hgs _) (fun W' h => ⟨rfl, h⟩)
end Go.Proofs.YtbfhonhjejeaiaaGreatDoor
