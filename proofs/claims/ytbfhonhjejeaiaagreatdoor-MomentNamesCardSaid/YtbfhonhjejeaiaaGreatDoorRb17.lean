/- The reference of chapter 10: Fits (printed by mkmref.py). slices.MinFunc over candidates, and the comparison of two candidates. moment.Best: the walk. moment.Best where To has an error. The reference of chapter 10: Best. What Of, To and Best come to: the numbers and their sizes. rat: Parts, Int; the natural numbers' reference: both, number, Mul, Gcd. The reference's FromInt, small, Int. The reference's Pow of a positive number where the result fits. What the functions of chapter 10 and their references return, in plain rationals. -/
import Derived.Test.YtbfhonhjejeaiaaGreatDoorRb16
import Derived.OwnWalkIn
import Derived.Test.YtbfhonhjejeaiaaGreatDoorRb15
import Derived.Test.YtbfhonhjejeaiaaGreatDoorRb10
import Derived.Test.YtbfhonhjejeaiaaGreatDoorRb12
import Derived.Test.YtbfhonhjejeaiaaGreatDoorRb13
import Derived.Test.YtbfhonhjejeaiaaGreatDoorRb06
import Derived.Laws.Runes
import Derived.Test.YtbfhonhjejeaiaaGreatDoorRb14
namespace Go.Proofs.YtbfhonhjejeaiaaGreatDoor
open Go.RowKit Go.Shelf
open Lim

attribute [local go_sem] Oper.semAt_some

namespace S2
end S2
end Go.Proofs.YtbfhonhjejeaiaaGreatDoor
namespace Go.Proofs.YtbfhonhjejeaiaaGreatDoor
open Go.RowKit Go.Shelf
open Lim

attribute [local go_sem] Oper.semAt_some

/-- A candidate: an order and a loss. -/
abbrev cnd (o : Int) (F x : ByteArray) : Value := .agg #[.int .i64 o, .string F, .string x]
theorem dsize : (Tryz.prog.info? 130).map (·.size) = some 3 := by kernel_rfl
theorem load_cnd {W : World} {g : Nat} {t : TypeId} {u v x : Value} (h : Blk W g t #[u, v, x]) : (loadVar 130 ⟨g, 0, none⟩).run Tryz.prog W = .ok (.agg #[u, v, x]) W :=
  run_loadVar_row W g t 130 #[u, v, x] (0, 0) _ h Tryz.underlying130 rfl dsize
set_option maxRecDepth 100000 in
set_option maxHeartbeats 2000000 in
theorem cmpc_any (o p : Int) (F x y : ByteArray) (k : Int) (w : World) (hr : Res w) (HC : Hid (Ret 102 #[.string x, .string y] (.tuple #[.int .i64 k, .int .i64 0]))) :
    Calls Tryz.prog 101 #[cnd o F x, cnd p F y] w fun e w' => e = .returned (.int .i64 k) ∧ Below w.heap.size w w' := by
  have HB := Lib.hid (below_alloc (below_alloc (Below.refl w.heap.size w) (.cells #[.int .i64 o, .string F, .string x] 130)) (.cells #[.int .i64 p, .string F, .string y] 130))
  have HR := Lib.hid (hr.below HB.out)
  clear hr
  go_enter Tryz.func101, Tryz.ntmps101
  go_wp2_with (go_at_call 102; refine (HC.out _ HR.out).mono ?_; rintro e w1 ⟨rfl, hb⟩; have HB1 := Lib.hid (HB.out.trans (hb.mono HB.out.size)); clear hb)
  go_ret
  exact ⟨rfl, HB1.out⟩
/-- Candidates in a row. -/
def Cnds (W : World) (g : Nat) (F : ByteArray) (de : Nat → ByteArray) (n : Nat) : Prop := ∀ i, i < n → W.cell? ⟨g, i * 3, none⟩ = some (.int .i64 ((i : Int) + 2)) ∧ W.cell? ⟨g, i * 3 + 1, none⟩ = some (.string F) ∧ W.cell? ⟨g, i * 3 + 2, none⟩ = some (.string (de i))
theorem Cnds.later {W W' : World} {g : Nat} {F : ByteArray} {de : Nat → ByteArray} {n : Nat} (h : Cnds W g F de n) (hg : g < W.heap.size) (hb : Below W.heap.size W W') : Cnds W' g F de n := fun i hi =>
  ⟨(hb.cell (p := ⟨g, i * 3, none⟩) hg).trans (h i hi).1, (hb.cell (p := ⟨g, i * 3 + 1, none⟩) hg).trans (h i hi).2.1, (hb.cell (p := ⟨g, i * 3 + 2, none⟩) hg).trans (h i hi).2.2⟩
/-- The first least of the first n + 1. -/
def bestK (κ : Nat → Nat → Int) : Nat → Nat
  | 0 => 0
  | n + 1 => if κ (n + 1) (bestK κ n) < 0 then n + 1 else bestK κ n
theorem bestK_le (κ : Nat → Nat → Int) (n : Nat) : bestK κ n ≤ n := by
  induction n with
  | zero => exact Nat.le_refl _
  | succ n ih => unfold bestK; split <;> omega
/-- What the walk of MinFunc keeps. -/
structure MinAt (w : World) (F : ByteArray) (de : Nat → ByteArray) (b : Nat) (W : World) : Prop where
  kz : Blk W w.heap.size 130 #[.int .i64 0, .string ⟨#[]⟩, .string ⟨#[]⟩]
  km : Blk W (w.heap.size + 1) 130 #[.int .i64 ((b : Int) + 2), .string F, .string (de b)]
  below : Below w.heap.size w W
theorem MinAt.later {w W W' : World} {F : ByteArray} {de : Nat → ByteArray} {b : Nat} (h : MinAt w F de b W) (hb : Below W.heap.size W W') : MinAt w F de b W' :=
  ⟨h.kz.below hb h.kz.lt, h.km.below hb h.km.lt, h.below.trans (hb.mono h.below.size)⟩
theorem MinAt.new (w : World) (F : ByteArray) (de : Nat → ByteArray) : MinAt w F de 0 ((w.alloc (.cells #[.int .i64 0, .string ⟨#[]⟩, .string ⟨#[]⟩] 130)).alloc (.cells #[.int .i64 2, .string F, .string (de 0)] 130)) := by
  have k2 := Blk.new (w.alloc (.cells #[.int .i64 0, .string ⟨#[]⟩, .string ⟨#[]⟩] 130)) 130 #[.int .i64 2, .string F, .string (de 0)]
  rw [World.size_alloc] at k2
  exact ⟨(Blk.new w _ _).alloc _, k2, below_alloc (below_alloc (Below.refl _ _) _) _⟩
set_option maxRecDepth 100000 in
set_option maxHeartbeats 8000000 in
theorem minf_any (κ : Nat → Nat → Int) (F : ByteArray) (de : Nat → ByteArray) (g cap : Nat) (w : World) (hr : Res w) (hg : g < w.heap.size) (hc : Cnds w g F de 7)
    (HC : Hid (∀ i j : Nat, i < 7 → j < 7 → Ret 102 #[.string (de i), .string (de j)] (.tuple #[.int .i64 (κ i j), .int .i64 0]))) :
    Calls Tryz.prog 100 #[.slice (some ⟨g, 0, none⟩) 7 cap, .func (.func 101) #[] #[]] w fun e w' => e = .returned (cnd ((bestK κ 6 : Int) + 2) F (de (bestK κ 6))) ∧ Below w.heap.size w w' := by
  have H0 := Lib.hid (MinAt.new w F de)
  have HR := Lib.hid hr
  have HG := Lib.hid (And.intro hg hc)
  obtain ⟨c0, c1, c2⟩ := hc 0 (by omega)
  simp only [Nat.zero_mul, Nat.zero_add, Int.natCast_zero, Int.zero_add] at c0 c1 c2
  clear hr hc
  refine (callsIn_wide (n := 3)).1 ?_
  have h1 : 1 ≤ 3 := by omega
  have hmx : Tryz.prog.follows .mixedOrders = true := by kernel_rfl
  refine callsIn_of_wp Tryz.func100 rfl trivial ?_ rfl
  simp only [Tryz.ntmps100, List.size_toArray, List.length_cons, List.length_nil, Nat.reduceAdd, Nat.reduceSub, Array.replicate_succ, Array.replicate_zero, List.push_toArray, List.append_toArray, List.nil_append, List.cons_append]
  gi_wp2
  clear c0 c1 c2
  gi_loopw [6] (fun v6 wr => ∃ k : Nat, k < 7 ∧ v6 = .int .i64 ((k : Int) + 1) ∧ Hid (MinAt w F de (bestK κ k) wr)) (fun v6 _ => 8 - (intOf v6).toNat)
  case atStart => exact ⟨0, by omega, rfl, H0⟩
  case round =>
    obtain ⟨k, hk, rfl, H⟩ := hrel
    clear H0
    rcases Nat.lt_or_ge k 6 with hlt | hge
    · have hi0 : (0 : Int) ≤ (k : Int) := by omega
      have hi1 : (k : Int) < 6 := by omega
      have hgw := Nat.lt_of_lt_of_le hg H.out.below.size
      have HCW := Lib.hid (HG.out.2.later HG.out.1 (show Below w.heap.size w wr from H.out.below))
      obtain ⟨e0, e1, e2⟩ := HCW.out (k + 1) (by omega)
      have es : ((k + 1 : Nat) : Int) + 2 = (k : Int) + 3 := by omega
      rw [es] at e0
      have hml := H.out.km.lt
      have xe0 : ∀ x : SameAt wr (fun k => k < wr.heap.size), x.W.cell? ⟨g, (k + 1) * 3, none⟩ = some (.int .i64 ((k : Int) + 3)) := fun x => x.cell hgw e0
      have xe1 : ∀ x : SameAt wr (fun k => k < wr.heap.size), x.W.cell? ⟨g, (k + 1) * 3 + 1, none⟩ = some (.string F) := fun x => x.cell hgw e1
      have xe2 : ∀ x : SameAt wr (fun k => k < wr.heap.size), x.W.cell? ⟨g, (k + 1) * 3 + 2, none⟩ = some (.string (de (k + 1))) := fun x => x.cell hgw e2
      have xm0 : ∀ x : SameAt wr (fun k => k < wr.heap.size), x.W.cell? ⟨w.heap.size + 1, 0, none⟩ = some (.int .i64 ((bestK κ k : Int) + 2)) := fun x => x.cell hml (rows3 H.out.km).1
      have xm1 : ∀ x : SameAt wr (fun k => k < wr.heap.size), x.W.cell? ⟨w.heap.size + 1, 1, none⟩ = some (.string F) := fun x => x.cell hml (rows3 H.out.km).2.1
      have xm2 : ∀ x : SameAt wr (fun k => k < wr.heap.size), x.W.cell? ⟨w.heap.size + 1, 2, none⟩ = some (.string (de (bestK κ k))) := fun x => x.cell hml (rows3 H.out.km).2.2
      have HD := Lib.hid (H.out.later (below_drew (Below.refl wr.heap.size wr)))
      have hbk := bestK_le κ k
      have HCM := Lib.hid (fun (w : World) hr => cmpc_any ((k : Int) + 3) ((bestK κ k : Int) + 2) F (de (k + 1)) (de (bestK κ k)) (κ (k + 1) (bestK κ k)) w hr (Lib.hid (HC.out (k + 1) (bestK κ k) (by omega) (by omega))))
      have HBK : Hid (bestK κ (k + 1) = if κ (k + 1) (bestK κ k) < 0 then k + 1 else bestK κ k) := Lib.hid rfl
      clear hml e0 e1 e2 hbk
      by_cases hneg : κ (k + 1) (bestK κ k) < 0
      · have d1 : decide (κ (k + 1) (bestK κ k) < 0) = true := decide_eq_true hneg
        rw [if_pos hneg] at HBK
        clear hneg
        gi_upto_region 7 with fail
        refine wpIn_stage (IsSame wr (fun k => k < wr.heap.size)) [0, 1, 2, 3, 4, 5, 7] [] hmx (by kernel_rfl) (isSame_of fun _ _ => rfl) ?_
        change wpStage _ _ _ _ _ _ _ _ (2 + 6) _ _ _
        refine stage_reads [0, 1, 2, 3, 4, 5] 2 _ _ (by kernel_rfl) ?_
        change wpQuietIn _ _ _ _ (fun W' => ∃ x : SameAt wr (fun k => k < wr.heap.size), W' = x.W) _ _ _
        simp only [pick_cons, pick_nil, List.getElem?_cons_zero, List.getElem?_cons_succ, Option.elim_some]
        repeat (gi_big_quiet_step (fail))
        refine wpQuietIn_nil ?_
        refine stage_one 6 (by kernel_rfl) rfl ?_
        gi_wp2
        refine ⟨trivial, ?_⟩
        refine (callsIn_wide.2 (HCM.out wr.drew (HR.out.below HD.out.below))).mono ?_
        rintro e w20 ⟨rfl, hb⟩
        have H20 := Lib.hid (HD.out.later hb)
        have B20 := Lib.hid (below_undrew hb)
        clear hb
        gi_wp2
        refine stage_post (isSame_below B20.out (fun k hk => hk)) ?_
        change wpStage _ _ _ _ _ _ _ _ (0 + 1) _ _ _
        refine stage_reads [7] 0 _ _ (by kernel_rfl) ?_
        change wpQuietIn _ _ _ _ (fun W' => ∃ x : SameAt wr (fun k => k < wr.heap.size), W' = x.W) _ _ _
        simp only [pick_cons, pick_nil, List.getElem?_cons_zero, List.getElem?_cons_succ, Option.elim_some]
        repeat (gi_big_quiet_step (fail))
        refine wpQuietIn_nil ?_
        refine stage_done (by kernel_rfl) ?_
        clear xe0 xe1 xe2 xm0 xm1 xm2
        obtain ⟨f0, f1, f2⟩ := (HCW.out.later hgw B20.out) (k + 1) (by omega)
        rw [es] at f0
        obtain ⟨m0, m1, m2⟩ := rows3 H20.out.km
        have z0 := H20.out.km.frozen 0
        have z1 := H20.out.km.frozen 1
        have z2 := H20.out.km.frozen 2
        gi_wp2
        go_roundw
        case rel =>
          refine ⟨k + 1, by omega, by go_num, Lib.hid ⟨?_, ?_, ?_⟩⟩
          · exact (((H20.out.kz.far (p := ⟨w.heap.size + 1, 0, none⟩) (Nat.ne_of_lt (Nat.lt_succ_self _)) _).far (p := ⟨w.heap.size + 1, 1, none⟩) (Nat.ne_of_lt (Nat.lt_succ_self _)) _).far (p := ⟨w.heap.size + 1, 2, none⟩) (Nat.ne_of_lt (Nat.lt_succ_self _)) _)
          · rw [HBK.out, es]
            exact set3 H20.out.km
          · exact ((H20.out.below.setCell (p := ⟨w.heap.size + 1, 0, none⟩) (Nat.le_succ _) _).setCell (p := ⟨w.heap.size + 1, 1, none⟩) (Nat.le_succ _) _).setCell (p := ⟨w.heap.size + 1, 2, none⟩) (Nat.le_succ _) _
        case measure => simp [intOf]; omega
      · have d1 : decide (κ (k + 1) (bestK κ k) < 0) = false := decide_eq_false hneg
        rw [if_neg hneg] at HBK
        clear hneg
        gi_upto_region 7 with fail
        refine wpIn_stage (IsSame wr (fun k => k < wr.heap.size)) [0, 1, 2, 3, 4, 5, 7] [] hmx (by kernel_rfl) (isSame_of fun _ _ => rfl) ?_
        change wpStage _ _ _ _ _ _ _ _ (2 + 6) _ _ _
        refine stage_reads [0, 1, 2, 3, 4, 5] 2 _ _ (by kernel_rfl) ?_
        change wpQuietIn _ _ _ _ (fun W' => ∃ x : SameAt wr (fun k => k < wr.heap.size), W' = x.W) _ _ _
        simp only [pick_cons, pick_nil, List.getElem?_cons_zero, List.getElem?_cons_succ, Option.elim_some]
        repeat (gi_big_quiet_step (fail))
        refine wpQuietIn_nil ?_
        refine stage_one 6 (by kernel_rfl) rfl ?_
        gi_wp2
        refine ⟨trivial, ?_⟩
        refine (callsIn_wide.2 (HCM.out wr.drew (HR.out.below HD.out.below))).mono ?_
        rintro e w20 ⟨rfl, hb⟩
        have H20 := Lib.hid (HD.out.later hb)
        have B20 := Lib.hid (below_undrew hb)
        clear hb
        gi_wp2
        refine stage_post (isSame_below B20.out (fun k hk => hk)) ?_
        change wpStage _ _ _ _ _ _ _ _ (0 + 1) _ _ _
        refine stage_reads [7] 0 _ _ (by kernel_rfl) ?_
        change wpQuietIn _ _ _ _ (fun W' => ∃ x : SameAt wr (fun k => k < wr.heap.size), W' = x.W) _ _ _
        simp only [pick_cons, pick_nil, List.getElem?_cons_zero, List.getElem?_cons_succ, Option.elim_some]
        repeat (gi_big_quiet_step (fail))
        refine wpQuietIn_nil ?_
        refine stage_done (by kernel_rfl) ?_
        clear xe0 xe1 xe2 xm0 xm1 xm2
        gi_wp2
        go_roundw
        case rel => exact ⟨k + 1, by omega, by go_num, by rw [HBK.out]; exact H20⟩
        case measure => simp [intOf]; omega
    · obtain rfl : k = 6 := by omega
      obtain ⟨m0, m1, m2⟩ := rows3 H.out.km
      obtain ⟨q0, q1, q2⟩ := rows3 H.out.kz
      have z0 := H.out.kz.frozen 0
      have z1 := H.out.kz.frozen 1
      have z2 := H.out.kz.frozen 2
      gi_wp2
      exact bodyPost_ret (run_cell rfl rfl (load_cnd (set3 H.out.kz))) rfl ⟨rfl, ((H.out.below.setCell (p := ⟨w.heap.size, 0, none⟩) (Nat.le_refl _) _).setCell (p := ⟨w.heap.size, 1, none⟩) (Nat.le_refl _) _).setCell (p := ⟨w.heap.size, 2, none⟩) (Nat.le_refl _) _⟩
end Go.Proofs.YtbfhonhjejeaiaaGreatDoor
namespace Go.Proofs.YtbfhonhjejeaiaaGreatDoor
open Go.RowKit Go.Shelf
open Lim

attribute [local go_sem] Oper.semAt_some

theorem Tryz.infoC : (Tryz.prog.info? 130).map (fun i => (i.zero, i.size, i.bytes)) = some (some (.agg #[.int .i64 0, .string ⟨#[]⟩, .string ⟨#[]⟩]), 3, 40) := by kernel_rfl
theorem run_int {W : World} {e : Nat} {n : Int} (h : Blk W e 3 #[.int .i64 n]) : (loadVar 3 ⟨e, 0, none⟩).run Tryz.prog W = .ok (.int .i64 n) W := by
  have hc := cell0 h
  simp [go_sem, hc]
theorem run_ccc {fn : Func} {tmps : Array Value} {W : World} {u p v : Tmp} {a g e : Nat} {i n : Int} {x y : Value} (h : fn.results = #[.cell u 3, .cell p 24, .cell v 27]) (hu : tmps.getD u undef = .pointer (some ⟨a, 0, none⟩)) (hp : tmps.getD p undef = .pointer (some ⟨g, 0, none⟩))
    (hv : tmps.getD v undef = .pointer (some ⟨e, 0, none⟩)) (h1 : Blk W a 3 #[.int .i64 i]) (h2 : Blk W g 24 #[x, y]) (h3 : Blk W e 27 #[.int .i64 n]) :
    (results fn tmps).run Tryz.prog W = .ok (.tuple #[.int .i64 i, .agg #[x, y], .int .i64 n]) W := by
  have e1 := run_int h1
  have e2 := load_loss h2
  have e3 := run_errno h3
  have hu' : tmps[u]?.getD undef = .pointer (some ⟨a, 0, none⟩) := by simpa using hu
  have hp' : tmps[p]?.getD undef = .pointer (some ⟨g, 0, none⟩) := by simpa using hp
  have hv' : tmps[v]?.getD undef = .pointer (some ⟨e, 0, none⟩) := by simpa using hv
  simp only [results, h]
  simp [Result.andThen, hu', hp', hv', asAddr, e1, e2, e3]
/-- The cells of the first candidates. -/
def candL (F : ByteArray) (de : Nat → ByteArray) : Nat → List Value
  | 0 => []
  | i + 1 => candL F de i ++ [.int .i64 ((i : Int) + 2), .string F, .string (de i)]
theorem candL_length (F : ByteArray) (de : Nat → ByteArray) (n : Nat) : (candL F de n).length = n * 3 := by
  induction n with
  | zero => rfl
  | succ n ih => unfold candL; rw [List.length_append, ih]; simp only [List.length_cons, List.length_nil]; omega
theorem candL_at (F : ByteArray) (de : Nat → ByteArray) : ∀ (n i : Nat), i < n → (candL F de n)[i * 3]? = some (.int .i64 ((i : Int) + 2)) ∧ (candL F de n)[i * 3 + 1]? = some (.string F) ∧ (candL F de n)[i * 3 + 2]? = some (.string (de i))
  | n + 1, i, hi => by
    unfold candL
    have hl := candL_length F de n
    by_cases h : i = n
    · subst h
      rw [List.getElem?_append_right (by omega), List.getElem?_append_right (by omega), List.getElem?_append_right (by omega), hl, Nat.sub_self, show i * 3 + 1 - i * 3 = 1 by omega, show i * 3 + 2 - i * 3 = 2 by omega]
      exact ⟨rfl, rfl, rfl⟩
    · rw [List.getElem?_append_left (by omega), List.getElem?_append_left (by omega), List.getElem?_append_left (by omega)]
      exact candL_at F de n i (by omega)
theorem row_same {W W' : World} {base size n : Nat} {e : TypeId} {v : Value} {xs : List Value} (h : W.ownsRow base e size v n xs) (hs : ∀ k, v.ownBlock = some k → W'.heap[k]? = W.heap[k]?) : W'.ownsRow base e size v n xs :=
  ⟨h.1, h.2.imp id fun ⟨g, cap, cur, hv, hb, hg, r⟩ => ⟨g, cap, cur, hv, hb, by rw [hs g (by rw [hv]; rfl)]; exact hg, r⟩⟩
theorem row_far {W : World} {base size n : Nat} {e : TypeId} {v : Value} {xs : List Value} (h : W.ownsRow base e size v n xs) : ∀ k, v.ownBlock = some k → base ≤ k ∧ k < W.heap.size := by
  intro k hk
  rcases h.2 with ⟨hv, _⟩ | ⟨g, cap, cur, hv, hb, hg, _⟩
  · rw [hv] at hk; cases hk
  · rw [hv] at hk
    cases hk
    exact ⟨hb, heap_lt hg⟩
theorem row_cells {W : World} {base size n : Nat} {e : TypeId} {v : Value} {xs : List Value} (h : W.ownsRow base e size v n xs) : ∀ k, v.ownBlock = some k → ∃ o : Obj, W.heap[k]? = some o ∧ o.isCells = true := by
  intro k hk
  rcases h.2 with ⟨hv, _⟩ | ⟨g, cap, cur, hv, hb, hg, _⟩
  · rw [hv] at hk; cases hk
  · rw [hv] at hk
    cases hk
    exact ⟨_, hg, rfl⟩
theorem cells3_new {W : World} {g : Nat} {t : TypeId} {x y z : Value} (h : Blk W g t #[x, y, z]) : ∀ j u, [x, y, z][j]? = some u → W.cell? ((⟨g, 0, none⟩ : Addr).add j) = some u := by
  intro j u hj
  obtain ⟨h0, h1, h2⟩ := rows3 h
  have e : (⟨g, 0, none⟩ : Addr).add j = ⟨g, j, none⟩ := by unfold Addr.add; split <;> simp_all
  rw [e]
  match j, hj with
  | 0, hj => cases hj; exact h0
  | 1, hj => cases hj; exact h1
  | 2, hj => cases hj; exact h2
  | j + 3, hj => simp at hj
/-- What the walk of Best keeps; base: from where on the candidates lie. -/
structure BstAt (w : World) (base : Nat) (c : CT) (F : ByteArray) (de : Nat → ByteArray) (m : Nat) (W : World) : Prop where
  kc : CBlk W w.heap.size c
  kf : Blk W (w.heap.size + 1) 22 #[.string F]
  k4 : Blk W (w.heap.size + 1 + 1) 3 #[.int .i64 0]
  k5 : Blk W (w.heap.size + 1 + 1 + 1) 24 #[.string ⟨#[]⟩, .string ⟨#[]⟩]
  k6 : Blk W (w.heap.size + 1 + 1 + 1 + 1) 27 #[.int .i64 0]
  ka : ∃ v, Blk W (w.heap.size + 1 + 1 + 1 + 1 + 1) 125 #[v] ∧ W.ownsRow base 130 3 v m (candL F de m)
  ko : CBlk W (w.heap.size + 1 + 1 + 1 + 1 + 1 + 1) c
  below : Below w.heap.size w W
theorem BstAt.grown {w W W' : World} {base : Nat} {c : CT} {F : ByteArray} {de : Nat → ByteArray} {m : Nat} {row : Option Nat} (h : BstAt w base c F de m W) (hg : W.grownBy W' row) (hr : ∀ r, row = some r → ∃ o : Obj, W.heap[r]? = some o ∧ o.isCells = false) (hw : ∀ r, row = some r → w.heap.size ≤ r) : BstAt w base c F de m W' := by
  have k : ∀ {g : Nat} {t : TypeId} {cs : Array Value}, Blk W g t cs → Blk W' g t cs := fun hb => hb.grown hg (fun e => by
    obtain ⟨o, ho, hc⟩ := hr _ e.symm
    rw [show W.heap[_]? = _ from hb] at ho; cases ho; cases hc)
  obtain ⟨v, hv, hown⟩ := h.ka
  refine ⟨k h.kc, k h.kf, k h.k4, k h.k5, k h.k6, ⟨v, k hv, row_same hown fun b hb => hg.block b (row_far hown b hb).2 (fun e => ?_)⟩, k h.ko, h.below.grown hg h.below.size hw⟩
  obtain ⟨o, ho, hc⟩ := row_cells hown b hb
  obtain ⟨o2, ho2, hc2⟩ := hr b e.symm
  rw [ho] at ho2; cases ho2
  rw [hc] at hc2; cases hc2
theorem BstAt.later {w W W' : World} {base : Nat} {c : CT} {F : ByteArray} {de : Nat → ByteArray} {m : Nat} (h : BstAt w base c F de m W) (hb : Below W.heap.size W W') : BstAt w base c F de m W' := by
  obtain ⟨v, hv, hown⟩ := h.ka
  exact ⟨h.kc.later hb, h.kf.below hb h.kf.lt, h.k4.below hb h.k4.lt, h.k5.below hb h.k5.lt, h.k6.below hb h.k6.lt, ⟨v, hv.below hb hv.lt, row_same hown fun b hb2 => hb.block b (row_far hown b hb2).2⟩, h.ko.later hb, h.below.trans (hb.mono h.below.size)⟩
/-- One candidate more. -/
theorem BstAt.step {w W W' : World} {base : Nat} {c : CT} {F : ByteArray} {de : Nat → ByteArray} {m : Nat} (h : BstAt w base c F de m W) (hbase : base = w.heap.size + 1 + 1 + 1 + 1 + 1 + 1 + 1) {v v' : Value} (hv : W.ownsRow base 130 3 v m (candL F de m)) (hg : W.grownBy W' v.ownBlock)
    (hown : W'.ownsRow base 130 3 v' (m + 1) (candL F de m ++ [.int .i64 ((m : Int) + 2), .string F, .string (de m)])) : BstAt w base c F de (m + 1) (W'.setCell ⟨w.heap.size + 1 + 1 + 1 + 1 + 1, 0, none⟩ v') := by
  have k : ∀ {g : Nat} {t : TypeId} {cs : Array Value}, Blk W g t cs → g < base → Blk W' g t cs := fun hb hlt => hb.grown hg (fun e => by
    have := (row_far hv _ e.symm).1
    omega)
  obtain ⟨v0, hv0, _⟩ := h.ka
  have hf : ∀ {g : Nat} {t : TypeId} {cs : Array Value}, Blk W g t cs → g < base → g ≠ w.heap.size + 1 + 1 + 1 + 1 + 1 → Blk (W'.setCell ⟨w.heap.size + 1 + 1 + 1 + 1 + 1, 0, none⟩ v') g t cs := fun hb hlt hne => (k hb hlt).far (p := ⟨w.heap.size + 1 + 1 + 1 + 1 + 1, 0, none⟩) hne v'
  refine ⟨hf h.kc (by omega) (by omega), hf h.kf (by omega) (by omega), hf h.k4 (by omega) (by omega), hf h.k5 (by omega) (by omega), hf h.k6 (by omega) (by omega), ⟨v', (k hv0 (by omega)).set_ 0 v', ?_⟩, hf h.ko (by omega) (by omega), ?_⟩
  · refine row_same hown fun b hb => set_far _ (p := ⟨w.heap.size + 1 + 1 + 1 + 1 + 1, 0, none⟩) ?_ v'
    have := (row_far hown b hb).1
    show b ≠ w.heap.size + 1 + 1 + 1 + 1 + 1
    omega
  · exact (h.below.grown hg h.below.size (fun r hr => by have := (row_far hv r hr).1; omega)).setCell (p := ⟨w.heap.size + 1 + 1 + 1 + 1 + 1, 0, none⟩) (by show w.heap.size ≤ w.heap.size + 1 + 1 + 1 + 1 + 1; omega) v'
theorem BstAt.boxed {w W W' : World} {base : Nat} {c : CT} {F : ByteArray} {de : Nat → ByteArray} {m : Nat} (h : BstAt w base c F de m W) (hbase : base = w.heap.size + 1 + 1 + 1 + 1 + 1 + 1 + 1) {v : Value} (hv : W.ownsRow base 130 3 v m (candL F de m)) (hg : W.grownBy W' v.ownBlock) :
    ∃ v0, W'.cell? ⟨w.heap.size + 1 + 1 + 1 + 1 + 1, 0, none⟩ = some v0 ∧ W'.frozen? ⟨w.heap.size + 1 + 1 + 1 + 1 + 1, 0, none⟩ = false := by
  obtain ⟨v0, hv0, _⟩ := h.ka
  have h2 := hv0.grown hg (fun e => by
    have := (row_far hv _ e.symm).1
    omega)
  exact ⟨v0, cell0 h2, h2.frozen 0⟩
theorem BstAt.new (w : World) (c : CT) (F : ByteArray) (de : Nat → ByteArray) : BstAt w (w.heap.size + 1 + 1 + 1 + 1 + 1 + 1 + 1) c F de 0 (((((((w.alloc (cvO c)).alloc (.cells #[.string F] 22)).alloc (.cells #[.int .i64 0] 3)).alloc (.cells #[.string ⟨#[]⟩, .string ⟨#[]⟩] 24)).alloc (.cells #[.int .i64 0] 27)).alloc (.cells #[.slice none 0 0] 125)).alloc (cvO c)) := by
  have a1 := CBlk.new w c
  have a2 := Blk.new (w.alloc (cvO c)) 22 #[.string F]
  have a3 := Blk.new ((w.alloc (cvO c)).alloc (.cells #[.string F] 22)) 3 #[.int .i64 0]
  have a4 := Blk.new (((w.alloc (cvO c)).alloc (.cells #[.string F] 22)).alloc (.cells #[.int .i64 0] 3)) 24 #[.string ⟨#[]⟩, .string ⟨#[]⟩]
  have a5 := Blk.new ((((w.alloc (cvO c)).alloc (.cells #[.string F] 22)).alloc (.cells #[.int .i64 0] 3)).alloc (.cells #[.string ⟨#[]⟩, .string ⟨#[]⟩] 24)) 27 #[.int .i64 0]
  have a6 := Blk.new (((((w.alloc (cvO c)).alloc (.cells #[.string F] 22)).alloc (.cells #[.int .i64 0] 3)).alloc (.cells #[.string ⟨#[]⟩, .string ⟨#[]⟩] 24)).alloc (.cells #[.int .i64 0] 27)) 125 #[.slice none 0 0]
  have a7 := CBlk.new ((((((w.alloc (cvO c)).alloc (.cells #[.string F] 22)).alloc (.cells #[.int .i64 0] 3)).alloc (.cells #[.string ⟨#[]⟩, .string ⟨#[]⟩] 24)).alloc (.cells #[.int .i64 0] 27)).alloc (.cells #[.slice none 0 0] 125)) c
  simp only [World.size_alloc] at a2 a3 a4 a5 a6 a7
  exact ⟨(((((a1.alloc _).alloc _).alloc _).alloc _).alloc _).alloc _, ((((a2.alloc _).alloc _).alloc _).alloc _).alloc _, (((a3.alloc _).alloc _).alloc _).alloc _, ((a4.alloc _).alloc _).alloc _, (a5.alloc _).alloc _, ⟨_, a6.alloc _, World.ownsRow_nil _ _ _ _⟩, a7,
    below_alloc (below_alloc (below_alloc (below_alloc (below_alloc (below_alloc (below_alloc (Below.refl _ _) _) _) _) _) _) _) _⟩
set_option maxRecDepth 100000 in
set_option maxHeartbeats 8000000 in
theorem mbest_ok (κ : Nat → Nat → Int) (c : CT) (F : ByteArray) (de : Nat → ByteArray) (w : World) (hr : Res w)
    (HT : Hid (∀ i : Nat, i < 7 → Ret 42 #[cv c, .int .i64 ((i : Int) + 2), .string F] (.tuple #[.agg #[.string F, .string (de i)], .int .i64 0])))
    (HC : Hid (∀ i j : Nat, i < 7 → j < 7 → Ret 102 #[.string (de i), .string (de j)] (.tuple #[.int .i64 (κ i j), .int .i64 0]))) :
    Calls Tryz.prog 41 #[cv c, .string F] w fun e w' => e = .returned (.tuple #[.int .i64 ((bestK κ 6 : Int) + 2), .agg #[.string F, .string (de (bestK κ 6))], .int .i64 0]) ∧ Below w.heap.size w w' := by
  have hI0 := BstAt.new w c F de
  have HR := Lib.hid hr
  obtain ⟨c0, c1, c2, c3, c4, c5, c6, c7⟩ := (CBlk.new w c).cells
  clear hr
  refine (callsIn_wide (n := 3)).1 ?_
  have h1 : 1 ≤ 3 := by omega
  have hmx : Tryz.prog.follows .mixedOrders = true := by kernel_rfl
  refine callsIn_of_wp_marks Tryz.func41 rfl trivial ?_ rfl
  simp only [Tryz.ntmps41, List.size_toArray, List.length_cons, List.length_nil, Nat.reduceAdd, Nat.reduceSub, Array.replicate_succ, Array.replicate_zero, List.push_toArray, List.append_toArray, List.nil_append, List.cons_append]
  gi_wp2_with (refine ⟨trivial, ?_⟩; gi_at_call 99; refine (orders_in Fence.wide 2 trivial rfl c _).mono ?_; rintro e w' ⟨rfl, rfl⟩; clear c0 c1 c2 c3 c4 c5 c6 c7)
  generalize ((((((w.alloc (cvO c)).alloc (.cells #[.string F] 22)).alloc (.cells #[.int .i64 0] 3)).alloc (.cells #[.string ⟨#[]⟩, .string ⟨#[]⟩] 24)).alloc (.cells #[.int .i64 0] 27)).alloc (.cells #[.slice none 0 0] 125)).alloc (cvO c) = WR at *
  have hgo := hI0.ko.lt
  have hszR := hI0.below.size
  refine wpIn_range_ord rfl h1 (gf := 144) (lb := #[.pointer (some ⟨w.heap.size + 1 + 1 + 1 + 1 + 1 + 1, 0, none⟩)]) rfl trivial eg_orders
    (orders_seq Fence.wide 2 trivial rfl (by omega) (w.heap.size + 1 + 1 + 1 + 1 + 1 + 1) c) (fun _ => rfl)
    (fun pre W => BstAt w (w.heap.size + 1 + 1 + 1 + 1 + 1 + 1 + 1) c F de pre.length W) (fun _ _ _ => False)
    ?hG ?hI (fun _ _ _ _ _ hs _ _ => hs) hI0 ?round ?done ?stop
  case hG => rintro pre W h; exact h.ko
  case hI =>
    rintro s W W' row h hg hr
    exact h.grown hg (fun r hr2 => (hr r hr2).2) (fun r hr2 => Nat.le_trans hszR (hr r hr2).1)
  case round =>
    rintro l pre i W K hi hnx hK
    have HNX := Lib.hid hnx
    clear hnx hI0
    gi_wp2
    refine hK _ _ (KeepsOthers.refl _) hi ?_
    clear hK hi
    rintro Wb _ hm
    obtain ⟨hpre, hi7⟩ := HNX.out
    have hlen : pre.length = i := by rw [hpre, List.length_range]
    rw [hlen] at hm
    have HLEN := Lib.hid hlen
    have HI7 := Lib.hid hi7
    have HM0 := Lib.hid hm
    obtain ⟨c0, c1, c2, c3, c4, c5, c6, c7⟩ := hm.kc.cells
    have cf := cell0 hm.kf
    have hi0 : (0 : Int) ≤ (i : Int) := by omega
    have hi1 : (i : Int) < 7 := by omega
    obtain ⟨i0, hi3, hz0, hz1, hz2⟩ := info_parts Tryz.infoC
    clear hm hpre hi7 hlen
    gi_wp2_with (first
      | (refine ⟨trivial, ?_⟩; gi_at_call 42; refine (CallsIn.inRound l (callsIn_wide.2 (HT.out i HI7.out Wb (HR.out.below HM0.out.below)))).mono ?_; rintro e w2 ⟨rfl, hb⟩; have HM1 := Lib.hid (HM0.out.later hb); have HB1 := Lib.hid hb; obtain ⟨v, hv, hown⟩ := HM1.out.ka; have cv7 := cell0 hv; have hlv := hv.lt; have hbc := below_alloc (below_alloc (Below.refl w2.heap.size w2) (.cells #[.string F, .string (de i)] 24)) (.cells #[.int .i64 ((i : Int) + 2), .string F, .string (de i)] 130); have HM2 := Lib.hid (HM1.out.later hbc); have HOW := Lib.hid (row_same hown fun b hb2 => hbc.block b (row_far hown b hb2).2); have HBC := Lib.hid (HB1.out.trans (hbc.mono HB1.out.size)); have hW := HM1.out.below.size; have hrw : Blk ((w2.alloc (.cells #[.string F, .string (de i)] 24)).alloc (.cells #[.int .i64 ((i : Int) + 2), .string F, .string (de i)] 130)) (w2.heap.size + 1) 130 #[.int .i64 ((i : Int) + 2), .string F, .string (de i)] := (by have := Blk.new (w2.alloc (.cells #[.string F, .string (de i)] 24)) 130 #[.int .i64 ((i : Int) + 2), .string F, .string (de i)]; rwa [World.size_alloc] at this); have HRW := Lib.hid hrw; clear hb hv hown hbc hrw c0 c1 c2 c3 c4 c5 c6 c7 cf)
      | (gi_at_builtin; refine wpListIn_append_own _ rfl _ _ 125 rfl (w.heap.size + 1 + 1 + 1 + 1 + 1 + 1 + 1) 130 i0 _ 3 40 Tryz.underlying125 hi3 hz0 hz1 hz2 rfl (by decide) v i (candL F de i) rfl HOW.out ⟨w2.heap.size + 1, 0, none⟩ 1 1 [.int .i64 ((i : Int) + 2), .string F, .string (de i)] rfl rfl (cells3_new HRW.out) (by simp [Value.oneCell']) (by unfold maxLen; omega) (by omega) (by have := HM2.out.ko.lt; omega) ?_; intro v1 w6 hown1 hgrow1 _; obtain ⟨g2, cap2, rfl, -, -⟩ := hown1.form (by omega); obtain ⟨v0, cb, zb⟩ := HM2.out.boxed rfl HOW.out hgrow1; have HFIN := Lib.hid (And.intro (((keeps_of_below HBC.out).trans (KeepsOthers.of_grownBy hgrow1 (fun j o hj ho => by obtain ⟨o2, h2, h3⟩ := row_cells HOW.out j hj; rw [ho] at h2; cases h2; exact h3))).trans (KeepsOthers.setCell w6 ⟨w.heap.size + 1 + 1 + 1 + 1 + 1, 0, none⟩ (.slice (some ⟨g2, 0, none⟩) (i + 1) cap2))) (HM2.out.step rfl HOW.out hgrow1 hown1)); clear hown1 hgrow1))
    have el : (pre ++ [i]).length = i + 1 := by rw [List.length_append, HLEN.out]; rfl
    refine ⟨HFIN.out.1, ?_⟩
    show BstAt w _ c F de (pre ++ [i]).length _
    rw [el]
    exact HFIN.out.2
  case done =>
    rintro D ys W hD hS hm hK
    rw [hS, List.length_range] at hm
    have HM0 := Lib.hid hm
    have HKD := Lib.hid hK
    have HDD := Lib.hid (And.intro (Nat.le_trans hszR hD) (heap_lt hK))
    obtain ⟨v, hv, hown⟩ := hm.ka
    obtain ⟨g, cap, rfl, -, hlt2⟩ := hown.form (by omega)
    have ca := cell0 hv
    have hcn : Cnds W g F de 7 := fun i hi => by
      obtain ⟨a0, a1, a2⟩ := candL_at F de 7 i hi
      have e : ∀ j, (⟨g, 0, none⟩ : Addr).add j = ⟨g, j, none⟩ := fun j => by unfold Addr.add; split <;> simp_all
      have b0 := hown.cells (g := g) rfl _ _ a0
      have b1 := hown.cells (g := g) rfl _ _ a1
      have b2 := hown.cells (g := g) rfl _ _ a2
      rw [e] at b0 b1 b2
      exact ⟨b0, b1, b2⟩
    have HMIN := Lib.hid (minf_any κ F de g cap W (HR.out.below hm.below) hlt2 hcn HC)
    clear hS hm hK hI0 hcn hv hown
    gi_wp2_with (refine ⟨trivial, ?_⟩; gi_at_call 100; refine (callsIn_wide.2 HMIN.out).mono ?_; rintro e w2 ⟨rfl, hb⟩; have HM1 := Lib.hid (HM0.out.later hb); have HB1 := Lib.hid hb; clear hb ca)
    obtain ⟨b, hbe⟩ : ∃ b, b = bestK κ 6 := ⟨_, rfl⟩
    rw [← hbe]
    have HBE := Lib.hid hbe
    clear hbe
    have hb9 := below_alloc (Below.refl w2.heap.size w2) (.cells #[.int .i64 ((b : Int) + 2), .string F, .string (de b)] 130)
    have HM9 := Lib.hid (HM1.out.later hb9)
    have k9 := Blk.new w2 130 #[.int .i64 ((b : Int) + 2), .string F, .string (de b)]
    have hKK := (hb9.block D (Nat.lt_of_lt_of_le HDD.out.2 HB1.out.size)).trans ((HB1.out.block D HDD.out.2).trans HKD.out)
    have hg9 := HM1.out.ko.lt
    gi_upto_region 9 with fail
    generalize w2.alloc (.cells #[.int .i64 ((b : Int) + 2), .string F, .string (de b)] 130) = W9 at *
    generalize w2.heap.size = g9 at *
    have HKK := Lib.hid hKK
    have hl9 := k9.lt
    have x0 : ∀ x : SameAt W9 (fun k => k < W9.heap.size ∧ k ≠ w.heap.size + 1 + 1 ∧ k ≠ w.heap.size + 1 + 1 + 1 ∧ k ≠ w.heap.size + 1 + 1 + 1 + 1), x.W.cell? ⟨g9, 0, none⟩ = some (.int .i64 ((b : Int) + 2)) := fun x => x.cell ⟨hl9, by omega, by omega, by omega⟩ (rows3 k9).1
    have x1 : ∀ x : SameAt W9 (fun k => k < W9.heap.size ∧ k ≠ w.heap.size + 1 + 1 ∧ k ≠ w.heap.size + 1 + 1 + 1 ∧ k ≠ w.heap.size + 1 + 1 + 1 + 1), x.W.cell? ⟨g9, 1, none⟩ = some (.string F) := fun x => x.cell ⟨hl9, by omega, by omega, by omega⟩ (rows3 k9).2.1
    have x2 : ∀ x : SameAt W9 (fun k => k < W9.heap.size ∧ k ≠ w.heap.size + 1 + 1 ∧ k ≠ w.heap.size + 1 + 1 + 1 ∧ k ≠ w.heap.size + 1 + 1 + 1 + 1), x.W.cell? ⟨g9, 2, none⟩ = some (.string (de b)) := fun x => x.cell ⟨hl9, by omega, by omega, by omega⟩ (rows3 k9).2.2
    clear hKK k9 hb9 hl9
    refine wpIn_stage (IsSame W9 (fun k => k < W9.heap.size ∧ k ≠ w.heap.size + 1 + 1 ∧ k ≠ w.heap.size + 1 + 1 + 1 ∧ k ≠ w.heap.size + 1 + 1 + 1 + 1)) [0, 1, 2, 3] [] hmx (by kernel_rfl) (isSame_of fun _ _ => rfl) ?_
    change wpStage _ _ _ _ _ _ _ _ (3 + 4) _ _ _
    refine stage_reads [0, 1, 2, 3] 3 _ _ (by kernel_rfl) ?_
    change wpQuietIn _ _ _ _ (fun W' => ∃ x : SameAt W9 (fun k => k < W9.heap.size ∧ k ≠ w.heap.size + 1 + 1 ∧ k ≠ w.heap.size + 1 + 1 + 1 ∧ k ≠ w.heap.size + 1 + 1 + 1 + 1), W' = x.W) _ _ _
    simp only [pick_cons, pick_nil, List.getElem?_cons_zero, List.getElem?_cons_succ, Option.elim_some]
    repeat (gi_big_quiet_step (fail))
    refine wpQuietIn_nil ?_
    clear x0 x1 x2
    have j4 := HM9.out.k4.drew
    have j5 := HM9.out.k5.drew
    have j6 := HM9.out.k6.drew
    have jb := below_drew HM9.out.below
    have jk : W9.drew.heap[D]? = some (.deferred (some [])) := HKK.out
    have js : ∀ k : Nat, W9.drew.heap[k]? = W9.heap[k]? := fun k => rfl
    generalize W9.drew = W0 at *
    have m4 := cell0 j4
    have z4 := j4.frozen 0
    refine stage_one 4 (by kernel_rfl) rfl ?_
    gi_wp2
    have i4 := j4.set_ 0 (.int .i64 ((b : Int) + 2))
    have i5 := j5.far (p := ⟨w.heap.size + 1 + 1, 0, none⟩) (by show w.heap.size + 1 + 1 + 1 ≠ w.heap.size + 1 + 1; omega) (.int .i64 ((b : Int) + 2))
    have i6 := j6.far (p := ⟨w.heap.size + 1 + 1, 0, none⟩) (by show w.heap.size + 1 + 1 + 1 + 1 ≠ w.heap.size + 1 + 1; omega) (.int .i64 ((b : Int) + 2))
    have ib := jb.setCell (p := ⟨w.heap.size + 1 + 1, 0, none⟩) (by show w.heap.size ≤ w.heap.size + 1 + 1; omega) (.int .i64 ((b : Int) + 2))
    have ik := (KeepsOthers.setCell W0 ⟨w.heap.size + 1 + 1, 0, none⟩ (.int .i64 ((b : Int) + 2))).same D _ jk rfl
    have is : ∀ k : Nat, k ≠ w.heap.size + 1 + 1 → (W0.setCell ⟨w.heap.size + 1 + 1, 0, none⟩ (.int .i64 ((b : Int) + 2))).heap[k]? = W9.heap[k]? := fun k hk => (set_far _ (p := ⟨w.heap.size + 1 + 1, 0, none⟩) hk _).trans (js k)
    clear m4 z4 j4 j5 j6 jb jk js
    generalize W0.setCell ⟨w.heap.size + 1 + 1, 0, none⟩ (.int .i64 ((b : Int) + 2)) = W1 at *
    refine stage_post (isSame_of fun j hj => is j hj.2.1) ?_
    obtain ⟨m0, m1⟩ := cells2 i5
    have z0 := i5.frozen 0
    have z1 := i5.frozen 1
    refine stage_one 5 (by kernel_rfl) rfl ?_
    gi_wp2
    have q5 := i5.two_set (x := .string F) (y := .string (de b))
    have q4 := i4.two_far (b := w.heap.size + 1 + 1 + 1) (x := .string F) (y := .string (de b)) (by omega)
    have q6 := i6.two_far (b := w.heap.size + 1 + 1 + 1) (x := .string F) (y := .string (de b)) (by omega)
    have qb := (ib.setCell (p := ⟨w.heap.size + 1 + 1 + 1, 0, none⟩) (by show w.heap.size ≤ w.heap.size + 1 + 1 + 1; omega) (.string F)).setCell (p := ⟨w.heap.size + 1 + 1 + 1, 1, none⟩) (by show w.heap.size ≤ w.heap.size + 1 + 1 + 1; omega) (.string (de b))
    have qk := ((KeepsOthers.setCell W1 ⟨w.heap.size + 1 + 1 + 1, 0, none⟩ (.string F)).trans (KeepsOthers.setCell _ ⟨w.heap.size + 1 + 1 + 1, 1, none⟩ (.string (de b)))).same D _ ik rfl
    have qs : ∀ k : Nat, k ≠ w.heap.size + 1 + 1 → k ≠ w.heap.size + 1 + 1 + 1 → ((W1.setCell ⟨w.heap.size + 1 + 1 + 1, 0, none⟩ (.string F)).setCell ⟨w.heap.size + 1 + 1 + 1, 1, none⟩ (.string (de b))).heap[k]? = W9.heap[k]? := fun k hk hk2 => (set_far _ (p := ⟨w.heap.size + 1 + 1 + 1, 1, none⟩) hk2 _).trans ((set_far _ (p := ⟨w.heap.size + 1 + 1 + 1, 0, none⟩) hk2 _).trans (is k hk))
    clear m0 m1 z0 z1 i4 i5 i6 ib ik is
    generalize (W1.setCell ⟨w.heap.size + 1 + 1 + 1, 0, none⟩ (.string F)).setCell ⟨w.heap.size + 1 + 1 + 1, 1, none⟩ (.string (de b)) = W2 at *
    refine stage_post (isSame_of fun j hj => qs j hj.2.1 hj.2.2.1) ?_
    have m6 := cell0 q6
    have z6 := q6.frozen 0
    refine stage_one 6 (by kernel_rfl) rfl ?_
    gi_wp2
    refine stage_post (isSame_of fun j hj => (set_far _ (p := ⟨w.heap.size + 1 + 1 + 1 + 1, 0, none⟩) hj.2.2.2 _).trans (qs j hj.2.1 hj.2.2.1)) ?_
    refine stage_done (by kernel_rfl) ?_
    gi_wp2
    have t4 := q4.far (p := ⟨w.heap.size + 1 + 1 + 1 + 1, 0, none⟩) (by show w.heap.size + 1 + 1 ≠ w.heap.size + 1 + 1 + 1 + 1; omega) (.int .i64 0)
    have t5 := q5.far (p := ⟨w.heap.size + 1 + 1 + 1 + 1, 0, none⟩) (by show w.heap.size + 1 + 1 + 1 ≠ w.heap.size + 1 + 1 + 1 + 1; omega) (.int .i64 0)
    have t6 := q6.set_ 0 (.int .i64 0)
    have tk := (KeepsOthers.setCell W2 ⟨w.heap.size + 1 + 1 + 1 + 1, 0, none⟩ (.int .i64 0)).same D _ qk rfl
    have tb := qb.setCell (p := ⟨w.heap.size + 1 + 1 + 1 + 1, 0, none⟩) (by show w.heap.size ≤ w.heap.size + 1 + 1 + 1 + 1; omega) (.int .i64 0)
    have gD : ∀ {g : Nat} {t : TypeId} {cs : Array Value}, Blk (W2.setCell ⟨w.heap.size + 1 + 1 + 1 + 1, 0, none⟩ (.int .i64 0)) g t cs → Blk _ g t cs := fun hb => hb.grown (grownBy_putObj' _ D (.deferred none)) (fun e => by
      injection e with e
      subst e
      rw [show (W2.setCell ⟨w.heap.size + 1 + 1 + 1 + 1, 0, none⟩ (.int .i64 0)).heap[_]? = _ from hb] at tk
      cases tk)
    exact ⟨by simp, .inl ⟨_, _, rfl, run_takeDeferred tk, ⟨_, run_ccc rfl rfl rfl rfl (gD t4) (gD t5) (gD t6), by rw [HBE.out], tb.trans (belowK_b (w := w) (Nat.le_refl _) _ D _ _ HDD.out.1 tk rfl rfl)⟩⟩⟩
  case stop =>
    rintro D cd pre x' W hD _ h hK
    exact h.elim
end Go.Proofs.YtbfhonhjejeaiaaGreatDoor
namespace Go.Proofs.YtbfhonhjejeaiaaGreatDoor
open Go.RowKit Go.Shelf
open Lim

attribute [local go_sem] Oper.semAt_some

end Go.Proofs.YtbfhonhjejeaiaaGreatDoor
namespace Go.Proofs.YtbfhonhjejeaiaaGreatDoor
open Go.RowKit Go.Shelf
open Lim

attribute [local go_sem] Oper.semAt_some

end Go.Proofs.YtbfhonhjejeaiaaGreatDoor
namespace Go.Proofs.YtbfhonhjejeaiaaGreatDoor
open Go.RowKit Go.Shelf
open Lim

/-! ### Of -/
def ofX (F : Rat) (i : Nat) : Rat := F ^ ((i : Int) + 2)
def ofY (F : Rat) (i : Nat) : Rat := F ^ (-1 - (i : Int))
def ofM (F l : Rat) : Nat → Rat := fun i => if i = 7 then l else (ofX F i + ofY F i) * (F + 1)⁻¹
theorem ofM_i (F l : Rat) {i : Nat} (h : i < 7) : ofM F l i = (ofX F i + ofY F i) * (F + 1)⁻¹ := if_neg (by omega)
theorem sz_ofX {F : Rat} {k i : Nat} (h : Sz k F) (hi : i < 7) : Sz (k * 8 + 1) (ofX F i) :=
  (Sz.zpow h ((i : Int) + 2)).mono (by have := Nat.mul_le_mul_left k (show ((i : Int) + 2).natAbs ≤ 8 by omega); omega)
theorem sz_ofY {F : Rat} {k i : Nat} (h : Sz k F) (hi : i < 7) : Sz (k * 7 + 1) (ofY F i) :=
  (Sz.zpow h (-1 - (i : Int))).mono (by have := Nat.mul_le_mul_left k (show (-1 - (i : Int)).natAbs ≤ 7 by omega); omega)
theorem sz_ofS {F : Rat} {k i : Nat} (h : Sz k F) (hi : i < 7) : Sz (k * 15 + 3) (ofX F i + ofY F i) :=
  ((sz_ofX h hi).add (sz_ofY h hi)).mono (by omega)
theorem sz_next {F : Rat} {k : Nat} (h : Sz k F) : Sz (k + 2) (F + 1) := (h.add Sz.one).mono (by omega)
theorem sz_ofM {F l : Rat} {k j : Nat} (h : Sz k F) (hl : Sz j l) (hj : j ≤ k * 16 + 5) : SzC (k * 16 + 5) (ofM F l) := by
  intro i hi
  by_cases h7 : i = 7
  · subst h7; exact hl.mono hj
  · rw [ofM_i F l (by omega)]
    exact ((sz_ofS h (by omega)).mul (sz_next h).inv).mono (by omega)
theorem next_ne {F : Rat} (h : 1 ≤ F) : F + 1 ≠ 0 := by grind
theorem ne_of_one {F : Rat} (h : 1 ≤ F) : F ≠ 0 := by grind
/-! ### To -/
/-- What the order adds: (o-1)^(o-1) / o^o, for the order i + 2. -/
def shA (i : Nat) : Rat := (((i + 1 : Nat) : Int) : Rat) ^ (((i + 1 : Nat) : Int))
def shB (i : Nat) : Rat := (((i + 2 : Nat) : Int) : Rat) ^ (((i + 2 : Nat) : Int))
def shM (i : Nat) : Rat := shA i * (shB i)⁻¹
def pwM (F : Rat) (i : Nat) : Rat := F ^ (((i + 1 : Nat) : Int))
def xM (m : Nat → Rat) (F : Rat) (i : Nat) : Rat := m i * shM i * (pwM F i)⁻¹
def lateM (m : Nat → Rat) (F : Rat) : Rat := (F + 1) * m 7
def dM (m : Nat → Rat) (F : Rat) (i : Nat) : Rat := xM m F i + lateM m F
def toM (m : Nat → Rat) (F : Rat) (i : Nat) : Rat := minQ (dM m F i) 1
theorem sz_shA {i : Nat} (hi : i < 7) : Sz 8 (shA i) := by
  have h : ((List.range 7).all fun i => decide (nm (shA i) < 10 ^ 8 ∧ (shA i).den < 10 ^ 8)) = true := by decide +kernel
  exact of_decide_eq_true (p := nm _ < _ ∧ _) (List.all_eq_true.1 h i (List.mem_range.2 hi))
theorem sz_shB {i : Nat} (hi : i < 7) : Sz 8 (shB i) := by
  have h : ((List.range 7).all fun i => decide (nm (shB i) < 10 ^ 8 ∧ (shB i).den < 10 ^ 8)) = true := by decide +kernel
  exact of_decide_eq_true (p := nm _ < _ ∧ _) (List.all_eq_true.1 h i (List.mem_range.2 hi))
theorem sz_shM {i : Nat} (hi : i < 7) : Sz 16 (shM i) := (sz_shA hi).mul (sz_shB hi).inv
theorem sz_int {i : Nat} (hi : i < 10) : Sz 1 ((i : Int) : Rat) := by
  have h : ((List.range 10).all fun i => decide (nm (((i : Nat) : Int) : Rat) < 10 ^ 1 ∧ (((i : Nat) : Int) : Rat).den < 10 ^ 1)) = true := by decide +kernel
  exact of_decide_eq_true (p := nm _ < _ ∧ _) (List.all_eq_true.1 h i (List.mem_range.2 hi))
theorem shB_ne {i : Nat} (hi : i < 7) : shB i ≠ 0 := by
  have h : ((List.range 7).all fun i => decide (shB i ≠ 0)) = true := by decide +kernel
  exact of_decide_eq_true (List.all_eq_true.1 h i (List.mem_range.2 hi))
theorem shM_pos {i : Nat} (hi : i < 7) : 0 < shM i := by
  have h : ((List.range 7).all fun i => decide (0 < shM i)) = true := by decide +kernel
  exact of_decide_eq_true (List.all_eq_true.1 h i (List.mem_range.2 hi))
theorem pos_zpow {F : Rat} (h : 1 ≤ F) (n : Nat) : 0 < F ^ ((n : Nat) : Int) := by
  rw [Rat.zpow_natCast]
  exact Rat.pow_pos (by grind)
theorem pwM_pos {F : Rat} (h : 1 ≤ F) (i : Nat) : 0 < pwM F i := pos_zpow h (i + 1)
theorem sz_pwM {F : Rat} {k i : Nat} (h : Sz k F) (hi : i < 7) : Sz (k * 7 + 1) (pwM F i) :=
  (Sz.zpow h _).mono (by have := Nat.mul_le_mul_left k (show (((i + 1 : Nat) : Int)).natAbs ≤ 7 by omega); omega)
theorem sz_mM {m : Nat → Rat} {k i : Nat} (hm : SzC k m) (hi : i < 7) : Sz (k + 16) (m i * shM i) := (hm i (by omega)).mul (sz_shM hi)
theorem sz_xM {m : Nat → Rat} {F : Rat} {j k i : Nat} (hm : SzC k m) (h : Sz j F) (hi : i < 7) : Sz (k + 16 + (j * 7 + 1)) (xM m F i) :=
  (sz_mM hm hi).mul (sz_pwM h hi).inv
theorem sz_lateM {m : Nat → Rat} {F : Rat} {j k : Nat} (hm : SzC k m) (h : Sz j F) : Sz (j + 2 + k) (lateM m F) := (sz_next h).mul (hm 7 (by omega))
theorem sz_dM {m : Nat → Rat} {F : Rat} {j k i : Nat} (hm : SzC k m) (h : Sz j F) (hi : i < 7) : Sz (k * 2 + j * 8 + 20) (dM m F i) :=
  ((sz_xM hm h hi).add (sz_lateM hm h)).mono (by omega)
theorem sz_toM {m : Nat → Rat} {F : Rat} {j k i : Nat} (hm : SzC k m) (h : Sz j F) (hi : i < 7) : Sz (k * 2 + j * 8 + 20) (toM m F i) := by
  unfold toM minQ
  split
  · exact Sz.one.mono (by omega)
  · exact sz_dM hm h hi
theorem inv_pos' {x : Rat} (h : 0 < x) : 0 < x⁻¹ := Rat.inv_pos.2 h
theorem toM_zero {c : CT} {m : Nat → Rat} {F : Rat} (hc : CIs c m) (h : 1 ≤ F) {i : Nat} (hi : i < 7) : 0 ≤ toM m F i := by
  have h1 := hc.one i hi
  have h2 : 0 ≤ m i * shM i := Rat.mul_nonneg (by grind) (by have := shM_pos hi; grind)
  have h3 : 0 ≤ xM m F i := Rat.mul_nonneg h2 (by have := inv_pos' (pwM_pos h i); grind)
  have h4 : 0 ≤ lateM m F := Rat.mul_nonneg (by grind) hc.zero
  exact le_minQ (by unfold dM; grind) (by decide +kernel)
/-- A greater curve has greater losses. -/
theorem toM_mono {m n : Nat → Rat} {F : Rat} (h : ∀ i, i < 8 → m i ≤ n i) (hF : 1 ≤ F) {i : Nat} (hi : i < 7) : toM m F i ≤ toM n F i := by
  have h1 : m i * shM i ≤ n i * shM i := Rat.mul_le_mul_of_nonneg_right (h i (by omega)) (by have := shM_pos hi; grind)
  have h2 : xM m F i ≤ xM n F i := Rat.mul_le_mul_of_nonneg_right h1 (by have := inv_pos' (pwM_pos hF i); grind)
  have h3 : lateM m F ≤ lateM n F := Rat.mul_le_mul_of_nonneg_left (h 7 (by omega)) (by grind)
  have h4 : dM m F i ≤ dM n F i := by unfold dM; grind
  exact le_minQ (Rat.le_trans (minQ_le _ _).1 h4) (minQ_le _ _).2
/-! ### Best -/
/-- The first of the numbers 0 to n where f is least. -/
def bestI (f : Nat → Rat) : Nat → Nat
  | 0 => 0
  | n + 1 => if f (n + 1) < f (bestI f n) then n + 1 else bestI f n
theorem bestI_le (f : Nat → Rat) (n : Nat) : bestI f n ≤ n := by
  induction n with
  | zero => exact Nat.le_refl _
  | succ n ih => unfold bestI; split <;> omega
theorem bestI_least (f : Nat → Rat) (n : Nat) : (∀ j, j ≤ n → f (bestI f n) ≤ f j) ∧ ∀ j, j < bestI f n → f (bestI f n) < f j := by
  induction n with
  | zero =>
    refine ⟨fun j hj => ?_, fun j hj => absurd hj (Nat.not_lt_zero _)⟩
    obtain rfl : j = 0 := by omega
    exact Rat.le_refl
  | succ n ih =>
    have hle := bestI_le f n
    unfold bestI
    split
    · rename_i hlt
      refine ⟨fun j hj => ?_, fun j hj => ?_⟩
      · rcases Nat.lt_or_ge j (n + 1) with h | h
        · have := ih.1 j (by omega); grind
        · obtain rfl : j = n + 1 := by omega
          exact Rat.le_refl
      · have := ih.1 j (by omega); grind
    · rename_i hlt
      refine ⟨fun j hj => ?_, ih.2⟩
      rcases Nat.lt_or_ge j (n + 1) with h | h
      · exact ih.1 j (by omega)
      · obtain rfl : j = n + 1 := by omega
        exact Rat.not_lt.1 hlt
end Go.Proofs.YtbfhonhjejeaiaaGreatDoor
namespace Go.Proofs.YtbfhonhjejeaiaaGreatDoor
open Go.RowKit Go.Shelf
open Lim

set_option maxRecDepth 100000 in
/-- rat.Int. -/
theorem ratInt_any (n : Int) (w : World) (hr : Res w) (h0 : -9223372036854775808 ≤ n) (h1 : n ≤ 9223372036854775807) :
    Calls Tryz.prog 106 #[.int .i64 n] w fun e w' => e = .returned (.string ⟨(Lib.itoa n).toArray⟩) ∧ Below w.heap.size w w' := by
  have HC := Lib.hid (Tryz.strconv_Itoa n h0 h1 w hr.tab)
  generalize Lib.itoa n = l at *
  clear hr
  go_enter Tryz.func106, Tryz.ntmps106
  go_wp2_with (go_at_call 149; refine HC.out.mono ?_; rintro e w1 ⟨rfl, k, os, rfl⟩)
  go_ret
  exact ⟨rfl, Lib.below_grow _ _ (Nat.le_refl _) _ _⟩
theorem itoa_text (n : Int) : Lib.itoa n = ratText (n : Rat) := by
  unfold Lib.itoa ratText ng nm
  rw [Rat.num_intCast, Rat.den_intCast]
  by_cases h : n < 0
  · simp [h]
  · have : n.toNat = n.natAbs := by omega
    simp [h, this]
theorem intT {c : ByteArray} (n : Int) (w : World) (hc : IsT c (n : Rat)) (hr : Res w) (h0 : -9223372036854775808 ≤ n) (h1 : n ≤ 9223372036854775807) :
    Calls Tryz.prog 106 #[.int .i64 n] w fun e w' => e = .returned (.string c) ∧ Below w.heap.size w w' := by
  refine (ratInt_any n w hr h0 h1).mono ?_
  rintro e w' ⟨rfl, h⟩
  refine ⟨?_, h⟩
  rw [itoa_text, ← hc.1]

/-! ### the reference of natural numbers -/
end Go.Proofs.YtbfhonhjejeaiaaGreatDoor
namespace Go.Proofs.YtbfhonhjejeaiaaGreatDoor
open Go.RowKit Go.Shelf
open Lim

end Go.Proofs.YtbfhonhjejeaiaaGreatDoor
namespace Go.Proofs.YtbfhonhjejeaiaaGreatDoor
open Go.RowKit Go.Shelf
open Lim

end Go.Proofs.YtbfhonhjejeaiaaGreatDoor
namespace Go.Proofs.YtbfhonhjejeaiaaGreatDoor
open Go.RowKit Go.Shelf
open Lim

theorem runs_rAdd : Runs 77 := runs_of Tryz.func77 (by kernel_rfl) (by kernel_rfl)
theorem runs_rMul : Runs 78 := runs_of Tryz.func78 (by kernel_rfl) (by kernel_rfl)
theorem runs_rDiv : Runs 86 := runs_of Tryz.func86 (by kernel_rfl) (by kernel_rfl)
theorem runs_rMin : Runs 107 := runs_of Tryz.func107 (by kernel_rfl) (by kernel_rfl)
section
variable {a b c : ByteArray} {p q : Rat}
theorem isAdd (ha : IsT a p) (hb : IsT b q) (hc : IsT c (p + q)) : DoIs 0 77 a b c := doIs_ok runs_rAdd fun w hr => addT w ha hb hc hr
theorem isMul (ha : IsT a p) (hb : IsT b q) (hc : IsT c (p * q)) : DoIs 0 78 a b c := doIs_ok runs_rMul fun w hr => mulT w ha hb hc hr
theorem isDiv (ha : IsT a p) (hb : IsT b q) (hc : IsT c (p * q⁻¹)) (h0 : q ≠ 0) : DoIs 0 86 a b c := doIs_ok runs_rDiv fun w hr => divT w ha hb hc h0 hr
theorem isMin1 (ha : IsT a p) : DoIs 0 107 a ⟨#[49]⟩ (rT (minQ p 1)) := doIs_ok runs_rMin fun w hr => minT w ha IsT.one (rT_min ha IsT.one).symm hr
theorem isPow {n : Int} (ha : IsT a p) (h0 : p ≠ 0) (hc : IsT c (p ^ n)) (h1 : -1000 ≤ n) (h2 : n ≤ 1000) : PowIs 0 a n c := fun h w hr hk => pow_ok h w hk ha (fun h => h0 h.2) hc (by omega) (by omega) hr
theorem retAdd (ha : IsT a p) (hb : IsT b q) (hc : IsT c (p + q)) : Ret 68 #[.string a, .string b] (.tuple #[.string c, .int .i64 0]) := fun w _ => raddT w ha hb hc
theorem retMul (ha : IsT a p) (hb : IsT b q) (hc : IsT c (p * q)) : Ret 34 #[.string a, .string b] (.tuple #[.string c, .int .i64 0]) := fun w _ => rmulT w ha hb hc
theorem retMin1 (ha : IsT a p) : Ret 113 #[.string a, .string ⟨#[49]⟩] (.tuple #[.string (rT (minQ p 1)), .int .i64 0]) := fun w _ => rminT w ha IsT.one
theorem retCmp (ha : IsT a p) (hb : IsT b q) : Ret 102 #[.string a, .string b] (.tuple #[.int .i64 (cmpQ p q), .int .i64 0]) := fun w hr => cmpT w ha hb rfl hr
end
theorem isT_int {n : Nat} (h : n < 10) : IsT (rT (((n : Nat) : Int) : Rat)) (((n : Nat) : Int) : Rat) := isT_rT (fits_sz.2 ((sz_int h).mono (by decide)))
theorem retInt (n : Nat) (h : n < 10) : Ret 106 #[.int .i64 (n : Int)] (.string (rT (((n : Nat) : Int) : Rat))) := fun w hr => intT (n : Int) w (isT_int h) hr (by omega) (by omega)
/-! ### Fits -/
theorem same_text {a b : ByteArray} {p q : Rat} (ha : IsT a p) (hb : IsT b q) : ((if cmpQ p q < 0 then b else a).toList == b.toList) = decide (p ≤ q) := by
  split
  · rename_i h
    rw [cmpQ_lt] at h
    rw [decide_eq_true (by grind)]
    simp
  · rename_i h
    rw [cmpQ_lt] at h
    by_cases e : p = q
    · subst e
      rw [ha.eq hb, decide_eq_true Rat.le_refl]
      simp
    · rw [ne_toList ha hb e, decide_eq_false (by grind)]
theorem leM_and (m n : Nat → Rat) : leM m n = (decide (m 0 ≤ n 0) && (decide (m 1 ≤ n 1) && (decide (m 2 ≤ n 2) && (decide (m 3 ≤ n 3) && (decide (m 4 ≤ n 4) && (decide (m 5 ≤ n 5) && (decide (m 6 ≤ n 6) && decide (m 7 ≤ n 7)))))))) := by
  have e : List.range 8 = [0, 1, 2, 3, 4, 5, 6, 7] := by decide
  unfold leM
  rw [e]
  simp only [List.all_cons, List.all_nil, Bool.and_true]
section
variable {a b c : CT} {m n : Nat → Rat} {j k : Nat}
theorem mfitsV (ha : CIs a m) (hb : CIs b n) : Ret 46 #[cv a, cv b] (.tuple #[.bool (leM m n), .int .i64 0]) := fun w hr => by
  have h := mfits_ok a b (fun i => if cmpQ (m i) (n i) < 0 then b i else a i) w ha.sm hb.sm hr (by rw [ha.errs hb]; rfl) (Lib.hid fun i hi w hr => maxT w (ha.t i hi) (hb.t i hi) rfl hr)
  have e : eqCT (fun i => if cmpQ (m i) (n i) < 0 then b i else a i) b = leM m n := by
    have s : ∀ i, i < 8 → ((if cmpQ (m i) (n i) < 0 then b i else a i).toList == (b i).toList) = decide (m i ≤ n i) := fun i hi => same_text (ha.t i hi) (hb.t i hi)
    unfold eqCT
    rw [leM_and, s 0 (by omega), s 1 (by omega), s 2 (by omega), s 3 (by omega), s 4 (by omega), s 5 (by omega), s 6 (by omega), s 7 (by omega)]
    simp only [Bool.and_assoc]
  rwa [e] at h
/-! ### Add -/
theorem maddR (ha : CIs a m) (hb : CIs b n) (sm : SzC j m) (sn : SzC k n) (h : j + k + 1 ≤ maxD) : Ret 44 #[cv a, cv b] (.tuple #[cv (txt (sumM m n)), .int .i64 0]) := fun w hr => maddV ha hb sm sn h w hr
theorem rmaddR (ha : CIs a m) (hb : CIs b n) (sm : SzC j m) (sn : SzC k n) (h : j + k + 1 ≤ maxD) : Ret 50 #[cv a, cv b] (.tuple #[cv (txt (sumM m n)), .int .i64 0]) := fun w hr => by
  have hs := sumM_is ha hb sm sn h
  have h7 : Sz (j + k + 1) (m 7 + n 7) := (sm 7 (by omega)).add (sn 7 (by omega))
  have i7 : IsT (rT (m 7 + n 7)) (m 7 + n 7) := isT_rT (fits_sz.2 (h7.mono h))
  refine rmadd_ok a b (by rw [ha.errs hb]; rfl) (txt (sumM m n)) (rT (m 7 + n 7)) (Lib.hid fun i hi => retMul (ha.t i (by omega)) (hb.t i (by omega)) ?_) (Lib.hid (retAdd (ha.t 7 (by omega)) (hb.t 7 (by omega)) i7)) (Lib.hid ?_) w ha.sm hb.sm hr
  · have := hs.t i (by omega)
    rwa [sumM_i m n hi] at this
  · have h2 := retMin1 i7
    rwa [show rT (minQ (m 7 + n 7) 1) = txt (sumM m n) 7 by show _ = rT (sumM m n 7); rw [sumM_7]] at h2
/-! ### To -/
theorem mtoV (hc : CIs c m) (sm : SzC k m) (hk : k ≤ 500) {F : ByteArray} {f : Rat} (hF : IsT F f) (sf : Sz 120 f) (h1 : 1 ≤ f) {i : Nat} (hi : i < 7) : Ret 42 #[cv c, .int .i64 ((i : Int) + 2), .string F] (.tuple #[.agg #[.string F, .string (rT (toM m f i))], .int .i64 0]) := fun w hr => by
  have mx : ∀ {j : Nat} {q : Rat}, Sz j q → j ≤ 4000 → IsT (rT q) q := fun h hj => isT_rT (fits_sz.2 (h.mono hj))
  have f0 := ne_of_one h1
  have z1 : ((((i + 1 : Nat) : Int)) : Rat) ≠ 0 := fun h => by have := Rat.intCast_inj.1 (h.trans (show (0 : Rat) = ((0 : Int) : Rat) from rfl)); omega
  have z2 : ((((i + 2 : Nat) : Int)) : Rat) ≠ 0 := fun h => by have := Rat.intCast_inj.1 (h.trans (show (0 : Rat) = ((0 : Int) : Rat) from rfl)); omega
  have iA : IsT (rT (shA i)) (shA i) := mx (sz_shA hi) (by omega)
  have iB : IsT (rT (shB i)) (shB i) := mx (sz_shB hi) (by omega)
  have iS : IsT (rT (shM i)) (shM i) := mx (sz_shM hi) (by omega)
  have iP : IsT (rT (pwM f i)) (pwM f i) := mx (sz_pwM sf hi) (by omega)
  have iU : IsT (rT (m i * shM i)) (m i * shM i) := mx (sz_mM sm hi) (by omega)
  have iX : IsT (rT (xM m f i)) (xM m f i) := mx (sz_xM sm sf hi) (by omega)
  have iN : IsT (rT (f + 1)) (f + 1) := mx (sz_next sf) (by omega)
  have iL : IsT (rT (lateM m f)) (lateM m f) := mx (sz_lateM sm sf) (by omega)
  have iD : IsT (rT (dM m f i)) (dM m f i) := mx (sz_dM sm sf hi) (by omega)
  exact mto_ok c i hi F hF.size hc.err hF.err (by rw [hF.val, cmpQ_lt]; exact Rat.not_lt.2 h1) _ _ _ _ _ _ _ _ _ _ _ _
    (Lib.hid (retInt (i + 1) (by omega))) (Lib.hid (retInt (i + 2) (by omega)))
    (Lib.hid (isPow (isT_int (by omega)) z1 iA (by omega) (by omega))) (Lib.hid (isPow (isT_int (by omega)) z2 iB (by omega) (by omega)))
    (Lib.hid (isDiv iA iB iS (shB_ne hi))) (Lib.hid (isPow hF f0 iP (by omega) (by omega))) (Lib.hid (isMul (hc.t i (by omega)) iS iU)) (Lib.hid (isDiv iU iP iX (by have := pwM_pos h1 i; grind)))
    (Lib.hid (isAdd hF IsT.one iN)) (Lib.hid (isMul iN (hc.t 7 (by omega)) iL)) (Lib.hid (isAdd iX iL iD)) (Lib.hid (isMin1 iD)) w hc.sm hr
/-! ### Best -/
theorem toM_is (hc : CIs c m) (sm : SzC k m) (hk : k ≤ 500) {f : Rat} (sf : Sz 120 f) {i : Nat} (hi : i < 7) : IsT (rT (toM m f i)) (toM m f i) :=
  isT_rT (fits_sz.2 ((sz_toM sm sf hi).mono (by have := hc.zero; show _ ≤ 4000; omega)))
theorem bestK_eq (δ : Nat → Rat) (n : Nat) : bestK (fun i j => cmpQ (δ i) (δ j)) n = bestI δ n := by
  induction n with
  | zero => rfl
  | succ n ih =>
    unfold bestK bestI
    rw [ih]
    simp only [cmpQ_lt]
theorem mbestV (hc : CIs c m) (sm : SzC k m) (hk : k ≤ 500) {F : ByteArray} {f : Rat} (hF : IsT F f) (sf : Sz 120 f) (h1 : 1 ≤ f) :
    Ret 41 #[cv c, .string F] (.tuple #[.int .i64 ((bestI (toM m f) 6 : Int) + 2), .agg #[.string F, .string (rT (toM m f (bestI (toM m f) 6)))], .int .i64 0]) := fun w hr => by
  have h := mbest_ok (fun i j => cmpQ (toM m f i) (toM m f j)) c F (fun i => rT (toM m f i)) w hr (Lib.hid fun i hi => mtoV hc sm hk hF sf h1 hi) (Lib.hid fun i j hi hj => retCmp (toM_is hc sm hk sf hi) (toM_is hc sm hk sf hj))
  rwa [bestK_eq] at h
end
end Go.Proofs.YtbfhonhjejeaiaaGreatDoor
