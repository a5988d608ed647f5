/- Neighbours: the closure that goes through one table's owners. -/
import Derived.Test.YtlocafmglficnaaGreatDoorTabWithout
import Derived.Test.YtlocafmglficnaaGreatDoorTabOwners
import Derived.Test.YtlocafmglficnaaGreatDoorTabSameT
import Derived.Test.YtlocafmglficnaaGreatDoorStage
namespace Go.Proofs.YtlocafmglficnaaGreatDoor
open Go.RowKit Go.Maps Go.Sort Go.Shelf

/-- Sizes that the copies want. -/
def Small (T : Tbl) : Prop := T.sch.cols.length ≤ 1000000 ∧ (∀ c ∈ T.sch.cols, c.words.length ≤ 1000000) ∧ T.rows.length ≤ 1000000 ∧ ∀ r ∈ T.rows, r.vals.length ≤ 1000000
def withoutT (T : Tbl) (o : Int) : Tbl := { T with rows := keptR T o }
theorem without_val {C : TypeId → Nat → Prop} {v : Value} {T : Tbl} (o : Int) {w : World} (h : TblVal C w v T) (hs : Small T) :
    Calls Tryz.prog 41 #[v, .int .i64 o] w fun e w' => ∃ u, e = .returned u ∧ TblVal (Own w.heap.size w') w' u (withoutT T o) ∧ Below w.heap.size w w' := by
  have hh := h
  obtain ⟨_, _, _, _, _, hn⟩ := hh
  refine (without_any C v T o w h hs.1 hs.2.1 hs.2.2.1 hs.2.2.2).mono ?_
  rintro e w' ⟨cu, ru, rfl, h1, h2, h3⟩
  exact ⟨_, rfl, ⟨cu, ru, rfl, h1.row, h2.row, hn⟩, h3⟩
theorem TblVal.low {n : Nat} {w w' : World} {v : Value} {T : Tbl} (h : TblVal (Lt n) w v T) (hb : ∀ k, k < n → w'.heap[k]? = w.heap[k]?) : TblVal (Lt n) w' v T := by
  obtain ⟨cu, ru, e, h1, h2, h3⟩ := h
  exact ⟨cu, ru, e, h1.keep fun E b _ _ hC => ⟨hC, hb b hC⟩, h2.keep fun E b _ _ hC => ⟨hC, hb b hC⟩, h3⟩

noncomputable def stepE (T U : Tbl) (st : Int × Bool) (o : Int) : Int × Bool := if ((!st.2 || decide (o < st.1)) && eqB (withoutT T o) U) = true then (o, true) else st
noncomputable def eachE (T U : Tbl) (st : Int × Bool) (k : Nat) : Int × Bool := ((asc (ownersT T)).take k).foldl (stepE T U) st
theorem eachE_succ (T U : Tbl) (st : Int × Bool) (k : Nat) (h : k < (asc (ownersT T)).length) : eachE T U st (k + 1) = stepE T U (eachE T U st k) (asc (ownersT T))[k] := by
  unfold eachE
  rw [List.take_succ_eq_append_getElem h, List.foldl_append]
  rfl
/-- All stays but two blocks. -/
structure Bes (w w' : World) (p q : Nat) : Prop where
  os : w'.os = w.os
  tape : w'.tape = w.tape
  out : w'.output = w.output
  size : w.heap.size ≤ w'.heap.size
  blk : ∀ k, k < w.heap.size → k ≠ p → k ≠ q → w'.heap[k]? = w.heap[k]?
theorem Bes.refl (w : World) (p q : Nat) : Bes w w p q := ⟨rfl, rfl, rfl, Nat.le_refl _, fun _ _ _ _ => rfl⟩
theorem Bes.trans {w w' w'' : World} {p q : Nat} (h : Bes w w' p q) (h' : Bes w' w'' p q) : Bes w w'' p q :=
  ⟨h'.os.trans h.os, h'.tape.trans h.tape, h'.out.trans h.out, Nat.le_trans h.size h'.size, fun k hk h1 h2 => (h'.blk k (Nat.lt_of_lt_of_le hk h.size) h1 h2).trans (h.blk k hk h1 h2)⟩
theorem Bes.of_below {w w' : World} {p q : Nat} (h : Below w.heap.size w w') : Bes w w' p q := ⟨h.os, h.tape, h.output, h.size, fun k hk _ _ => h.block k hk⟩
theorem Bes.setp {w : World} {p q i : Nat} {v : Value} : Bes w (w.setCell ⟨p, i, none⟩ v) p q := ⟨rfl, rfl, rfl, by simp [World.setCell], fun k _ h1 _ => Below.heap_setCell _ _ _ _ (by exact h1)⟩
theorem Bes.setq {w : World} {p q i : Nat} {v : Value} : Bes w (w.setCell ⟨q, i, none⟩ v) p q := ⟨rfl, rfl, rfl, by simp [World.setCell], fun k _ _ h2 => Below.heap_setCell _ _ _ _ (by exact h2)⟩

/-- What the closure has captured. -/
structure Cap (w : World) (n p2 p3 p4 p5 p6 : Nat) (st : Int × Bool) : Prop where
  c2 : w.cell? ⟨p2, 0, none⟩ = some (.func (.func 30) #[] #[])
  c5 : w.cell? ⟨p5, 0, none⟩ = some (.func (.func 13) #[] #[])
  c6 : w.cell? ⟨p6, 0, none⟩ = some (.func (.func 41) #[] #[])
  b3 : w.heap[p3]? = some (.cells #[.bool st.2] 4 (0, 0))
  b4 : w.heap[p4]? = some (.cells #[.int .i64 st.1] 3 (0, 0))
  le : n ≤ p2 ∧ n ≤ p3 ∧ n ≤ p4 ∧ n ≤ p5 ∧ n ≤ p6
  ne : p2 ≠ p3 ∧ p2 ≠ p4 ∧ p5 ≠ p3 ∧ p5 ≠ p4 ∧ p6 ≠ p3 ∧ p6 ≠ p4 ∧ p3 ≠ p4
theorem Cap.below {w w' : World} {n p2 p3 p4 p5 p6 : Nat} {st : Int × Bool} (h : Cap w n p2 p3 p4 p5 p6 st) (hb : Below w.heap.size w w') : Cap w' n p2 p3 p4 p5 p6 st :=
  ⟨cell_later hb h.c2, cell_later hb h.c5, cell_later hb h.c6, (hb.block _ (Array.getElem?_eq_some_iff.1 h.b3).1).trans h.b3, (hb.block _ (Array.getElem?_eq_some_iff.1 h.b4).1).trans h.b4, h.le, h.ne⟩
theorem Cap.put {w : World} {n p2 p3 p4 p5 p6 : Nat} {st : Int × Bool} (h : Cap w n p2 p3 p4 p5 p6 st) (x : Int) : Cap ((w.setCell ⟨p4, 0, none⟩ (.int .i64 x)).setCell ⟨p3, 0, none⟩ (.bool true)) n p2 p3 p4 p5 p6 (x, true) := by
  obtain ⟨c2, c5, c6, b3, b4, le, n23, n24, n53, n54, n63, n64, n34⟩ := h
  have far : ∀ k, k ≠ p3 → k ≠ p4 → ((w.setCell ⟨p4, 0, none⟩ (.int .i64 x)).setCell ⟨p3, 0, none⟩ (.bool true)).heap[k]? = w.heap[k]? := fun k h3 h4 => by
    rw [Below.heap_setCell _ _ _ _ (by exact h3), Below.heap_setCell _ _ _ _ (by exact h4)]
  refine ⟨(World.cell?_of_block (far _ n23 n24)).trans c2, (World.cell?_of_block (far _ n53 n54)).trans c5, (World.cell?_of_block (far _ n63 n64)).trans c6, ?_, ?_, le, n23, n24, n53, n54, n63, n64, n34⟩
  · have := heap_setCell_same (w.setCell ⟨p4, 0, none⟩ (.int .i64 x)) p3 0 _ _ (.bool true) ((Below.heap_setCell _ _ _ _ (by exact n34)).trans b3)
    simpa using this
  · rw [Below.heap_setCell _ _ _ _ (by exact fun e => n34 e.symm)]
    have := heap_setCell_same w p4 0 _ _ (.int .i64 x) b4
    simpa using this
attribute [local go_sem] Oper.semAt_some
set_option maxRecDepth 100000 in
set_option maxHeartbeats 4000000 in
theorem each_any (n p2 p3 p4 p5 p6 : Nat) (v v' : Value) (T U : Tbl) (st : Int × Bool) (w : World) (h : TblVal (Lt n) w v T) (h' : TblVal (Lt n) w v' U) (hT : Small T) (hc : Cap w n p2 p3 p4 p5 p6 st) :
    Calls Tryz.prog 63 #[v, v', .pointer (some ⟨p2, 0, none⟩), .pointer (some ⟨p3, 0, none⟩), .pointer (some ⟨p4, 0, none⟩), .pointer (some ⟨p5, 0, none⟩), .pointer (some ⟨p6, 0, none⟩)] w fun e w' =>
      e = .returned (.tuple #[]) ∧ Cap w' n p2 p3 p4 p5 p6 (eachE T U st (asc (ownersT T)).length) ∧ Bes w w' p3 p4 := by
  have HT := Lib.hid h
  have HU := Lib.hid h'
  obtain ⟨cu, ru, rfl, hcu, hru, _⟩ := h
  obtain ⟨cu', ru', rfl, hcu', hru', _⟩ := h'
  obtain ⟨A1, c1, rfl, _, _⟩ := hcu.slice
  obtain ⟨A2, c2, rfl, _, _⟩ := hru.slice
  obtain ⟨A3, c3, rfl, _, _⟩ := hcu'.slice
  obtain ⟨A4, c4, rfl, _, _⟩ := hru'.slice
  have HS := Lib.hid hT
  have HC := Lib.hid hc
  have y2 := hc.c2
  have hl2 : p2 < w.heap.size := World.block_lt_of_cell? w _ y2
  have hl3 : p3 < w.heap.size := (Array.getElem?_eq_some_iff.1 hc.b3).1
  have hl4 : p4 < w.heap.size := (Array.getElem?_eq_some_iff.1 hc.b4).1
  have hl5 : p5 < w.heap.size := World.block_lt_of_cell? w _ hc.c5
  have hl6 : p6 < w.heap.size := World.block_lt_of_cell? w _ hc.c6
  have HC0 := Lib.hid (show n ≤ w.heap.size ∧ n ≤ p3 ∧ n ≤ p4 from ⟨by have := hc.le; omega, hc.le.2.1, hc.le.2.2.1⟩)
  clear hcu hru hcu' hru' hc hT
  refine (callsIn_wide (n := 6)).1 ?_
  have h1 : 1 ≤ 6 := by omega
  refine callsIn_of_wp Tryz.func63 rfl trivial ?_ rfl
  simp only [Tryz.ntmps63, List.size_toArray, List.length_cons, List.length_nil, Nat.reduceAdd, Nat.reduceSub, Array.replicate_succ, Array.replicate_zero, List.push_toArray, List.append_toArray, List.nil_append, List.cons_append]
  have hB2 : Below w.heap.size w ((w.alloc (.cells #[.string T.sch.name, .bool T.sch.pub, .int .i64 T.sch.many, .slice A1 T.sch.cols.length c1, .slice A2 T.rows.length c2] 37)).alloc (.cells #[.string U.sch.name, .bool U.sch.pub, .int .i64 U.sch.many, .slice A3 U.sch.cols.length c3, .slice A4 U.rows.length c4] 37)) := by go_grown
  have HB7 := Lib.hid (show ((w.alloc (.cells #[.string T.sch.name, .bool T.sch.pub, .int .i64 T.sch.many, .slice A1 T.sch.cols.length c1, .slice A2 T.rows.length c2] 37)).alloc (.cells #[.string U.sch.name, .bool U.sch.pub, .int .i64 U.sch.many, .slice A3 U.sch.cols.length c3, .slice A4 U.rows.length c4] 37)).heap[w.heap.size]? = some (.cells #[.string T.sch.name, .bool T.sch.pub, .int .i64 T.sch.many, .slice A1 T.sch.cols.length c1, .slice A2 T.rows.length c2] 37 (0, 0)) from (heap_alloc_old _ _ (by simp)).trans (heap_alloc_new w _))
  have HB8 := Lib.hid (show ((w.alloc (.cells #[.string T.sch.name, .bool T.sch.pub, .int .i64 T.sch.many, .slice A1 T.sch.cols.length c1, .slice A2 T.rows.length c2] 37)).alloc (.cells #[.string U.sch.name, .bool U.sch.pub, .int .i64 U.sch.many, .slice A3 U.sch.cols.length c3, .slice A4 U.rows.length c4] 37)).heap[w.heap.size + 1]? = some (.cells #[.string U.sch.name, .bool U.sch.pub, .int .i64 U.sch.many, .slice A3 U.sch.cols.length c3, .slice A4 U.rows.length c4] 37 (0, 0)) from by
    have := heap_alloc_new (w.alloc (.cells #[.string T.sch.name, .bool T.sch.pub, .int .i64 T.sch.many, .slice A1 T.sch.cols.length c1, .slice A2 T.rows.length c2] 37)) (.cells #[.string U.sch.name, .bool U.sch.pub, .int .i64 U.sch.many, .slice A3 U.sch.cols.length c3, .slice A4 U.rows.length c4] 37)
    simpa using this)
  have HBB := Lib.hid hB2
  have HT2 := Lib.hid (HT.out.below hB2)
  clear hB2
  gi_wp2
  refine ⟨trivial, ?_⟩
  gi_at_call 30
  refine (callsIn_wide.2 (owners_any (Lt n) _ T _ HT2.out HS.out.2.2.1)).mono ?_
  rintro e w1 ⟨v1, rfl, ho1, hb1⟩
  obtain ⟨Ao, co, rfl, hol, hom, hof, hoc⟩ := ho1.row.ints
  have hs1 : w.heap.size + 1 + 1 ≤ w1.heap.size := by have := hb1.size; simp at this; omega
  have HOS := Lib.hid (show ∃ zs, zs = asc (ownersT T) from ⟨_, rfl⟩)
  have HOB := Lib.hid (show ∀ b o', Ao = some ⟨b, o', none⟩ → 0 < (asc (ownersT T)).length → w.heap.size + 1 + 1 ≤ b ∧ b < w1.heap.size from by
    intro b o' e h0
    subst e
    obtain ⟨us, hraw⟩ := ho1.raw
    have := hraw.lt b rfl
    simp at this
    omega)
  have HOC := Lib.hid hoc
  have HB71 := Lib.hid ((hb1.block w.heap.size (by simp; omega)).trans HB7.out)
  have HB81 := Lib.hid ((hb1.block (w.heap.size + 1) (by simp)).trans HB8.out)
  have HBW := Lib.hid (HBB.out.trans (hb1.mono (by simp; omega)))
  unfold maxLen at hom
  clear ho1 hb1 hoc HB7 HB8 HBB HT2 y2
  gi_wp2
  have HCAP := Lib.hid (show Cap w1 n p2 p3 p4 p5 p6 st from HC.out.below HBW.out)
  generalize hzs : asc (ownersT T) = zs at *
  have HZS := Lib.hid hzs
  have hzl : zs.length ≤ 9223372036854775807 := by omega
  clear hzs HOS HC
  gi_loopw [15] (fun i wr => ∃ k : Nat, k ≤ zs.length ∧ i = .int .i64 k ∧ Cap wr n p2 p3 p4 p5 p6 (eachE T U st k) ∧ Bes w1 wr p3 p4) (fun i _ => zs.length - (intOf i).toNat)
  case atStart => exact ⟨0, Nat.zero_le _, rfl, HCAP.out, Bes.refl _ _ _⟩
  case round =>
    obtain ⟨k, hk, rfl, hcap, hbes⟩ := hrel
    have HK := Lib.hid hcap
    have HE := Lib.hid hbes
    clear hcap hbes
    rcases Nat.lt_or_ge k zs.length with hlt | hge
    · obtain ⟨b, o, rfl, hcell⟩ := HOC.out (by omega)
      have hb := HOB.out b o rfl (by omega)
      have y := (World.cell?_of_block (HE.out.blk b hb.2 (by omega) (by omega))).trans (hcell k hlt)
      have hi0 : (0 : Int) ≤ (k : Int) := by omega
      have hi1 : (k : Int) < (zs.length : Int) := by omega
      have HSU := Lib.hid (show eachE T U st (k + 1) = stepE T U (eachE T U st k) zs[k] by
        have h0 := HZS.out; subst h0; exact eachE_succ T U st k hlt)
      clear hcell
      generalize zs[k] = x at *
      generalize hst : eachE T U st k = sk at *
      clear hst
      obtain ⟨pn, fd⟩ := sk
      have z2 := HK.out.c2
      have z5 := HK.out.c5
      have z6 := HK.out.c6
      have z3 := (cellrow HK.out.b3 0 (by simp)).1
      have z4 := (cellrow HK.out.b4 0 (by simp)).1
      have l1 := HE.out.size
      have m7 := (HE.out.blk w.heap.size (by omega) (by omega) (by omega)).trans HB71.out
      have m8 := (HE.out.blk (w.heap.size + 1) (by omega) (by omega) (by omega)).trans HB81.out
      have HTR := Lib.hid (show TblVal (Lt n) wr.drew _ T from HT.out.low fun k hk => (HE.out.blk k (by have := HC0.out; omega) (by have := HC0.out; omega) (by have := HC0.out; omega)).trans (HBW.out.block k (by have := HC0.out; omega)))
      have HUR := Lib.hid (show TblVal (Lt n) wr.drew _ U from HU.out.low fun k hk => (HE.out.blk k (by have := HC0.out; omega) (by have := HC0.out; omega) (by have := HC0.out; omega)).trans (HBW.out.block k (by have := HC0.out; omega)))
      have x5 : ∀ X : SameAt wr (fun k => k < wr.heap.size), X.W.cell? ⟨p5, 0, none⟩ = _ := fun X => X.cell (by omega) z5
      have x6 : ∀ X : SameAt wr (fun k => k < wr.heap.size), X.W.cell? ⟨p6, 0, none⟩ = _ := fun X => X.cell (by omega) z6
      have x4 : ∀ X : SameAt wr (fun k => k < wr.heap.size), X.W.cell? ⟨p4, 0, none⟩ = _ := fun X => X.cell (by omega) z4
      have xm70 : ∀ X : SameAt wr (fun k => k < wr.heap.size), X.W.cell? ⟨w.heap.size, 0, none⟩ = _ := fun X => X.cell (by omega) (cellrow m7 0 (by simp)).1
      have xm71 : ∀ X : SameAt wr (fun k => k < wr.heap.size), X.W.cell? ⟨w.heap.size, 1, none⟩ = _ := fun X => X.cell (by omega) (cellrow m7 1 (by simp)).1
      have xm72 : ∀ X : SameAt wr (fun k => k < wr.heap.size), X.W.cell? ⟨w.heap.size, 2, none⟩ = _ := fun X => X.cell (by omega) (cellrow m7 2 (by simp)).1
      have xm73 : ∀ X : SameAt wr (fun k => k < wr.heap.size), X.W.cell? ⟨w.heap.size, 3, none⟩ = _ := fun X => X.cell (by omega) (cellrow m7 3 (by simp)).1
      have xm74 : ∀ X : SameAt wr (fun k => k < wr.heap.size), X.W.cell? ⟨w.heap.size, 4, none⟩ = _ := fun X => X.cell (by omega) (cellrow m7 4 (by simp)).1
      have xm80 : ∀ X : SameAt wr (fun k => k < wr.heap.size), X.W.cell? ⟨w.heap.size + 1, 0, none⟩ = _ := fun X => X.cell (by omega) (cellrow m8 0 (by simp)).1
      have xm81 : ∀ X : SameAt wr (fun k => k < wr.heap.size), X.W.cell? ⟨w.heap.size + 1, 1, none⟩ = _ := fun X => X.cell (by omega) (cellrow m8 1 (by simp)).1
      have xm82 : ∀ X : SameAt wr (fun k => k < wr.heap.size), X.W.cell? ⟨w.heap.size + 1, 2, none⟩ = _ := fun X => X.cell (by omega) (cellrow m8 2 (by simp)).1
      have xm83 : ∀ X : SameAt wr (fun k => k < wr.heap.size), X.W.cell? ⟨w.heap.size + 1, 3, none⟩ = _ := fun X => X.cell (by omega) (cellrow m8 3 (by simp)).1
      have xm84 : ∀ X : SameAt wr (fun k => k < wr.heap.size), X.W.cell? ⟨w.heap.size + 1, 4, none⟩ = _ := fun X => X.cell (by omega) (cellrow m8 4 (by simp)).1
      have hmx : Tryz.prog.follows .mixedOrders = true := by kernel_rfl
      have hn34 : p3 ≠ p4 := HK.out.ne.2.2.2.2.2.2
      have l3 : p3 < wr.heap.size := by omega
      have l4 : p4 < wr.heap.size := by omega
      clear m7 m8
      cases fd with
      | false =>
        gi_wp2
        refine wpIn_stage (IsSame wr (fun k => k < wr.heap.size)) [3, 4, 8, 9, 10, 11, 13] [] hmx (by kernel_rfl) (isSame_of fun _ _ => rfl) ?_
        refine stage_one 0 (by kernel_rfl) rfl ?_
        gi_wp2
        refine stage_post (isSame_of fun _ _ => rfl) ?_
        refine stage_one 1 (by kernel_rfl) rfl ?_
        gi_wp2
        refine stage_post (isSame_of fun _ _ => rfl) ?_
        refine stage_one 2 (by kernel_rfl) rfl ?_
        gi_wp2
        refine stage_post (isSame_of fun _ _ => rfl) ?_
        change wpStage _ _ _ _ _ _ _ _ (11 + 2) _ _ _
        refine stage_reads [3, 4] 11 _ _ (by kernel_rfl) ?_
        change wpQuietIn _ _ _ _ (fun W => ∃ x : SameAt wr (fun k => k < wr.heap.size), W = x.W) _ _ _
        simp only [pick_cons, pick_nil, List.getElem?_cons_zero, List.getElem?_cons_succ, Option.elim_some]
        repeat (gi_big_quiet_step (fail))
        refine wpQuietIn_nil ?_
        refine stage_one 5 (by kernel_rfl) rfl ?_
        gi_wp2
        refine stage_post (isSame_of fun _ _ => rfl) ?_
        refine stage_one 6 (by kernel_rfl) rfl ?_
        gi_wp2
        refine stage_post (isSame_of fun _ _ => rfl) ?_
        refine stage_one 7 (by kernel_rfl) rfl ?_
        gi_wp2
        refine stage_post (isSame_of fun _ _ => rfl) ?_
        change wpStage _ _ _ _ _ _ _ _ (3 + 5) _ _ _
        refine stage_reads [8, 9, 10, 11, 13] 3 _ _ (by kernel_rfl) ?_
        change wpQuietIn _ _ _ _ (fun W => ∃ x : SameAt wr (fun k => k < wr.heap.size), W = x.W) _ _ _
        simp only [pick_cons, pick_nil, List.getElem?_cons_zero, List.getElem?_cons_succ, Option.elim_some]
        repeat (gi_big_quiet_step (fail))
        refine wpQuietIn_nil ?_
        refine stage_one 12 (by kernel_rfl) rfl ?_
        gi_wp2_with (refine ⟨trivial, ?_⟩; gi_at_call 41; refine (callsIn_wide.2 (without_val x HTR.out HS.out)).mono ?_; rintro e wc ⟨u6, rfl, hu6, hb6⟩; have HU6 := Lib.hid hu6; have HB6 := Lib.hid hb6; have HB6d := Lib.hid (show Below wr.heap.size wr wc from ⟨hb6.os, hb6.tape, hb6.output, hb6.size, hb6.block⟩); obtain ⟨cu6, ru6, rfl, hcc6, hrr6, _⟩ := hu6; obtain ⟨A6, c6, rfl, _, _⟩ := hcc6.slice; obtain ⟨A7, c7, rfl, _, _⟩ := hrr6.slice; clear hcc6 hrr6 hb6)
        refine stage_post (isSame_below HB6d.out (fun _ h => h)) ?_
        refine stage_one 14 (by kernel_rfl) rfl ?_
        gi_wp2_with (refine ⟨trivial, ?_⟩; gi_at_call 13; refine (callsIn_wide.2 (sameTbl_any _ (Lt n) _ _ _ _ _ HU6.out (HUR.out.below HB6.out))).mono ?_; rintro e wd ⟨rfl, hb7⟩; have HB7 := Lib.hid hb7; clear hb7)
        refine stage_post (isSame_below (HB6d.out.trans (HB7.out.mono HB6d.out.size)) (fun _ h => h)) ?_
        refine stage_one 15 (by kernel_rfl) rfl ?_
        gi_wp2
        refine stage_post (isSame_below (HB6d.out.trans (HB7.out.mono HB6d.out.size)) (fun _ h => h)) ?_
        refine stage_done (by kernel_rfl) ?_
        have HBd := Lib.hid (show Below wr.heap.size wr wd from HB6d.out.trans (HB7.out.mono HB6d.out.size))
        have HKd := Lib.hid (HK.out.below HBd.out)
        obtain ⟨d3, f3⟩ := cellrow HKd.out.b3 0 (by simp)
        obtain ⟨d4, f4⟩ := cellrow HKd.out.b4 0 (by simp)
        have ld3 : p3 < wd.heap.size := by have := HBd.out.size; omega
        have ld4 : p4 < wd.heap.size := by have := HBd.out.size; omega
        cases hE : eqB (withoutT T x) U with
        | true =>
          gi_wp2
          go_roundw
          case rel =>
            refine ⟨k + 1, by omega, by go_num, ?_, (HE.out.trans (Bes.of_below HBd.out)).trans (Bes.setq.trans Bes.setp)⟩
            rw [HSU.out, show stepE T U (pn, false) x = (x, true) from by unfold stepE; simp [hE, Bool.not_false]]
            exact HKd.out.put x
          case measure => simp [intOf]; omega
        | false =>
          gi_wp2
          go_roundw
          case rel =>
            refine ⟨k + 1, by omega, by go_num, ?_, HE.out.trans (Bes.of_below HBd.out)⟩
            rw [HSU.out, show stepE T U (pn, false) x = (pn, false) from by unfold stepE; simp [hE]]
            exact HKd.out
          case measure => simp [intOf]; omega
      | true =>
        by_cases hxp : x < pn
        · gi_wp2
          refine wpIn_stage (IsSame wr (fun k => k < wr.heap.size)) [3, 4, 8, 9, 10, 11, 13] [] hmx (by kernel_rfl) (isSame_of fun _ _ => rfl) ?_
          refine stage_one 0 (by kernel_rfl) rfl ?_
          gi_wp2
          refine stage_post (isSame_of fun _ _ => rfl) ?_
          refine stage_one 1 (by kernel_rfl) rfl ?_
          gi_wp2
          refine stage_post (isSame_of fun _ _ => rfl) ?_
          refine stage_one 2 (by kernel_rfl) rfl ?_
          gi_wp2
          refine stage_post (isSame_of fun _ _ => rfl) ?_
          change wpStage _ _ _ _ _ _ _ _ (11 + 2) _ _ _
          refine stage_reads [3, 4] 11 _ _ (by kernel_rfl) ?_
          change wpQuietIn _ _ _ _ (fun W => ∃ x : SameAt wr (fun k => k < wr.heap.size), W = x.W) _ _ _
          simp only [pick_cons, pick_nil, List.getElem?_cons_zero, List.getElem?_cons_succ, Option.elim_some]
          repeat (gi_big_quiet_step (fail))
          refine wpQuietIn_nil ?_
          refine stage_one 5 (by kernel_rfl) rfl ?_
          gi_wp2
          refine stage_post (isSame_of fun _ _ => rfl) ?_
          refine stage_one 6 (by kernel_rfl) rfl ?_
          gi_wp2
          refine stage_post (isSame_of fun _ _ => rfl) ?_
          refine stage_one 7 (by kernel_rfl) rfl ?_
          gi_wp2
          refine stage_post (isSame_of fun _ _ => rfl) ?_
          change wpStage _ _ _ _ _ _ _ _ (3 + 5) _ _ _
          refine stage_reads [8, 9, 10, 11, 13] 3 _ _ (by kernel_rfl) ?_
          change wpQuietIn _ _ _ _ (fun W => ∃ x : SameAt wr (fun k => k < wr.heap.size), W = x.W) _ _ _
          simp only [pick_cons, pick_nil, List.getElem?_cons_zero, List.getElem?_cons_succ, Option.elim_some]
          repeat (gi_big_quiet_step (fail))
          refine wpQuietIn_nil ?_
          refine stage_one 12 (by kernel_rfl) rfl ?_
          gi_wp2_with (refine ⟨trivial, ?_⟩; gi_at_call 41; refine (callsIn_wide.2 (without_val x HTR.out HS.out)).mono ?_; rintro e wc ⟨u6, rfl, hu6, hb6⟩; have HU6 := Lib.hid hu6; have HB6 := Lib.hid hb6; have HB6d := Lib.hid (show Below wr.heap.size wr wc from ⟨hb6.os, hb6.tape, hb6.output, hb6.size, hb6.block⟩); obtain ⟨cu6, ru6, rfl, hcc6, hrr6, _⟩ := hu6; obtain ⟨A6, c6, rfl, _, _⟩ := hcc6.slice; obtain ⟨A7, c7, rfl, _, _⟩ := hrr6.slice; clear hcc6 hrr6 hb6)
          refine stage_post (isSame_below HB6d.out (fun _ h => h)) ?_
          refine stage_one 14 (by kernel_rfl) rfl ?_
          gi_wp2_with (refine ⟨trivial, ?_⟩; gi_at_call 13; refine (callsIn_wide.2 (sameTbl_any _ (Lt n) _ _ _ _ _ HU6.out (HUR.out.below HB6.out))).mono ?_; rintro e wd ⟨rfl, hb7⟩; have HB7 := Lib.hid hb7; clear hb7)
          refine stage_post (isSame_below (HB6d.out.trans (HB7.out.mono HB6d.out.size)) (fun _ h => h)) ?_
          refine stage_one 15 (by kernel_rfl) rfl ?_
          gi_wp2
          refine stage_post (isSame_below (HB6d.out.trans (HB7.out.mono HB6d.out.size)) (fun _ h => h)) ?_
          refine stage_done (by kernel_rfl) ?_
          have HBd := Lib.hid (show Below wr.heap.size wr wd from HB6d.out.trans (HB7.out.mono HB6d.out.size))
          have HKd := Lib.hid (HK.out.below HBd.out)
          obtain ⟨d3, f3⟩ := cellrow HKd.out.b3 0 (by simp)
          obtain ⟨d4, f4⟩ := cellrow HKd.out.b4 0 (by simp)
          have ld3 : p3 < wd.heap.size := by have := HBd.out.size; omega
          have ld4 : p4 < wd.heap.size := by have := HBd.out.size; omega
          cases hE : eqB (withoutT T x) U with
          | true =>
            gi_wp2
            go_roundw
            case rel =>
              refine ⟨k + 1, by omega, by go_num, ?_, (HE.out.trans (Bes.of_below HBd.out)).trans (Bes.setq.trans Bes.setp)⟩
              rw [HSU.out, show stepE T U (pn, true) x = (x, true) from by unfold stepE; simp [hE, hxp]]
              exact HKd.out.put x
            case measure => simp [intOf]; omega
          | false =>
            gi_wp2
            go_roundw
            case rel =>
              refine ⟨k + 1, by omega, by go_num, ?_, HE.out.trans (Bes.of_below HBd.out)⟩
              rw [HSU.out, show stepE T U (pn, true) x = (pn, true) from by unfold stepE; simp [hE]]
              exact HKd.out
            case measure => simp [intOf]; omega
        · have hxd : decide (x < pn) = false := by simpa using hxp
          gi_wp2
          refine wpIn_stage (IsSame wr (fun k => k < wr.heap.size)) [3, 4, 8, 9, 10, 11, 13] [] hmx (by kernel_rfl) (isSame_of fun _ _ => rfl) ?_
          refine stage_one 0 (by kernel_rfl) rfl ?_
          gi_wp2
          refine stage_post (isSame_of fun _ _ => rfl) ?_
          refine stage_one 1 (by kernel_rfl) rfl ?_
          gi_wp2
          refine stage_post (isSame_of fun _ _ => rfl) ?_
          refine stage_one 2 (by kernel_rfl) rfl ?_
          gi_wp2
          refine stage_post (isSame_of fun _ _ => rfl) ?_
          change wpStage _ _ _ _ _ _ _ _ (11 + 2) _ _ _
          refine stage_reads [3, 4] 11 _ _ (by kernel_rfl) ?_
          change wpQuietIn _ _ _ _ (fun W => ∃ x : SameAt wr (fun k => k < wr.heap.size), W = x.W) _ _ _
          simp only [pick_cons, pick_nil, List.getElem?_cons_zero, List.getElem?_cons_succ, Option.elim_some]
          repeat (gi_big_quiet_step (fail))
          refine wpQuietIn_nil ?_
          refine stage_one 5 (by kernel_rfl) rfl ?_
          gi_wp2
          refine stage_post (isSame_of fun _ _ => rfl) ?_
          refine stage_one 6 (by kernel_rfl) rfl ?_
          gi_wp2
          refine stage_post (isSame_of fun _ _ => rfl) ?_
          refine stage_one 7 (by kernel_rfl) rfl ?_
          gi_wp2
          refine stage_post (isSame_of fun _ _ => rfl) ?_
          change wpStage _ _ _ _ _ _ _ _ (3 + 5) _ _ _
          refine stage_reads [8, 9, 10, 11, 13] 3 _ _ (by kernel_rfl) ?_
          change wpQuietIn _ _ _ _ (fun W => ∃ x : SameAt wr (fun k => k < wr.heap.size), W = x.W) _ _ _
          simp only [pick_cons, pick_nil, List.getElem?_cons_zero, List.getElem?_cons_succ, Option.elim_some]
          repeat (gi_big_quiet_step (fail))
          refine wpQuietIn_nil ?_
          refine stage_one 12 (by kernel_rfl) rfl ?_
          gi_wp2_with (refine ⟨fun _ h => (by cases h), ?_⟩)
          refine stage_post (isSame_of fun _ _ => rfl) ?_
          refine stage_one 14 (by kernel_rfl) rfl ?_
          gi_wp2_with (refine ⟨fun _ h => (by cases h), ?_⟩)
          refine stage_post (isSame_of fun _ _ => rfl) ?_
          refine stage_one 15 (by kernel_rfl) rfl ?_
          gi_wp2
          refine stage_post (isSame_of fun _ _ => rfl) ?_
          refine stage_done (by kernel_rfl) ?_
          gi_wp2
          go_roundw
          case rel =>
            refine ⟨k + 1, by omega, by go_num, ?_, HE.out.trans ⟨rfl, rfl, rfl, Nat.le_refl _, fun _ _ _ _ => rfl⟩⟩
            rw [HSU.out, show stepE T U (pn, true) x = (pn, true) from by unfold stepE; simp only [hxd]; simp]
            exact HK.out.below ⟨rfl, rfl, rfl, Nat.le_refl _, fun _ _ => rfl⟩
          case measure => simp [intOf]; omega
    · obtain rfl : k = zs.length := by omega
      gi_wp2
      refine ⟨rfl, _, results_none rfl _ _ _, ?_⟩
      rw [HZS.out]
      exact ⟨rfl, HK.out, (Bes.of_below HBW.out).trans HE.out⟩
end Go.Proofs.YtlocafmglficnaaGreatDoor
