/- The reference's neighbours: the walk. -/
import Derived.Test.YtlocafmglficnaaGreatDoorTabRCmp
namespace Go.Proofs.YtlocafmglficnaaGreatDoor
open Go.RowKit Go.Maps Go.Sort Go.Shelf

/-- An element of a list of ints that lies. -/
theorem int_atZ {C : TypeId → Nat → Prop} {w : World} {A : Option Addr} {c : Nat} {zs : List Int} (h : SRow intK C w (.slice A zs.length c) zs) {j : Nat} (hj : j < zs.length) : ∃ b o, A = some ⟨b, o, none⟩ ∧ w.cell? ⟨b, o + j, none⟩ = some (.int .i64 zs[j]) ∧ Fit zs[j] := by
  obtain ⟨A', c', e, _, _, hf, h3⟩ := h.ints
  simp only [Value.slice.injEq, true_and] at e
  obtain ⟨rfl, rfl⟩ := e
  obtain ⟨b, o, eA, hx⟩ := h3 (by omega)
  exact ⟨b, o, eA, hx j hj, hf j hj⟩
set_option maxRecDepth 100000 in
set_option maxHeartbeats 16000000 in
theorem rneighboursOf_any (C C' : TypeId → Nat → Prop) (v v' : Value) (ts us : List Tbl) (w : World) (h : SRow tblK C w v ts) (h' : SRow tblK C' w v' us) (hT : SmallB ts) (hU : SmallB us) (hn : ts.length ≤ 400) (hn' : us.length ≤ 400) :
    Calls Tryz.prog 8 #[v, v'] w fun e w' => e = .returned (.tuple #[.int .i64 (nbrB ts us).1, .bool (nbrB ts us).2]) ∧ Below w.heap.size w w' := by
  have HT := Lib.hid h
  have HU := Lib.hid h'
  have HST := Lib.hid hT
  have HSU := Lib.hid hU
  obtain ⟨A, ca, rfl, hl, hm⟩ := h.slice
  obtain ⟨B, cb, rfl, hl', hm'⟩ := h'.slice
  unfold maxLen at hm hm'
  clear h h' hT hU
  obtain ⟨i31, hi31, hz10, hz11, hz12⟩ := info_parts info31
  refine (callsIn_wide (n := 6)).1 ?_
  have h1 : 1 ≤ 6 := by omega
  refine callsIn_of_wp Tryz.func8 rfl trivial ?_ rfl
  simp only [Tryz.ntmps8, List.size_toArray, List.length_cons, List.length_nil, Nat.reduceAdd, Nat.reduceSub, Array.replicate_succ, Array.replicate_zero, List.push_toArray, List.append_toArray, List.nil_append, List.cons_append]
  have TK1 : True := trivial
  cases he : eqB ts us with
  | true =>
    have HE := Lib.hid he
    have HV := Lib.hid (show nbrB ts us = (0, false) by unfold nbrB; rw [if_pos he])
    clear he
    gi_wp2_with (clear TK1; refine ⟨trivial, ?_⟩; gi_at_call 18; refine (callsIn_wide.2 (rsameOf_any C C' _ _ ts us _ HT.out HU.out)).mono ?_; rintro e w1 ⟨rfl, hb⟩; rw [HE.out]; have HB1 := Lib.hid hb; clear hb)
    refine bodyPost_ret (v := .tuple #[.int .i64 (nbrB ts us).1, .bool (nbrB ts us).2]) (by rw [HV.out]; simp [results, Tryz.results8, go_sem]) rfl ⟨rfl, HB1.out⟩
  | false =>
    have HE := Lib.hid he
    have HV := Lib.hid (show nbrB ts us = firstB (asc (ownersOf (ts ++ us))) fun o => eqB (withoutB ts o) us || eqB ts (withoutB us o) by unfold nbrB; rw [if_neg (by rw [he]; simp)])
    clear he
    gi_upto_region 3 with (clear TK1; refine ⟨trivial, ?_⟩; gi_at_call 18; refine (callsIn_wide.2 (rsameOf_any C C' _ _ ts us _ HT.out HU.out)).mono ?_; rintro e w1 ⟨rfl, hb⟩; rw [HE.out]; have HB1 := Lib.hid hb; have HT1 := Lib.hid (HT.out.below hb); have HU1 := Lib.hid (HU.out.below hb); clear hb)
    have HBA := Lib.hid (below_alloc w1 (.cells #[] 37))
    have HO0 := Lib.hid (own_empty w1 w1.heap.size 37 5 (Nat.le_refl _))
    obtain ⟨ls1, hll1, hls1, hsrc1⟩ := HT1.out.lt.list (by decide)
    obtain ⟨ls2, hll2, hls2, hsrc2⟩ := HU1.out.lt.list (by decide)
    have HS1 := Lib.hid (hsrc1.later HBA.out)
    have HS2 := Lib.hid hsrc2
    have HO1 := Lib.hid (one_tbls hll1 hls1)
    have HO2 := Lib.hid (one_tbls hll2 hls2)
    have HLS := Lib.hid (And.intro (And.intro hll1 hls1) (And.intro hll2 hls2))
    have hB0 := HBA.out.size
    clear hll1 hls1 hll2 hls2 hsrc1 hsrc2
    have TK2 : True := trivial
    have TK3 : True := trivial
    gi_wp2_with (first
      | (clear TK2; gi_at_builtin; go_loud (refine wpListIn_append_src _ rfl _ _ 22 rfl w1.heap.size 37 i31 _ 5 80 Tryz.underlying22 hi31 hz10 hz11 hz12 rfl (by decide) (.slice (some ⟨w1.heap.size, 0, none⟩) 0 0) 0 [] rfl HO0.out _ ts.length ls1.flatten rfl HS1.out HO1.out (by unfold maxLen; omega) (by omega) hB0 ?_; intro v1 w3 hown1 hgrow1; rw [Nat.zero_add, List.nil_append] at hown1; have HG1 := Lib.hid (grow_below HBA.out hB0 HO0.out hgrow1); have hB1 : w1.heap.size ≤ w3.heap.size := HG1.out.size; have HW1 := Lib.hid hown1; have HS3 := Lib.hid (HS2.out.later HG1.out); clear hown1 hgrow1))
      | (clear TK3; gi_at_builtin; go_loud (refine wpListIn_append_src _ rfl _ _ 22 rfl w1.heap.size 37 i31 _ 5 80 Tryz.underlying22 hi31 hz10 hz11 hz12 rfl (by decide) v1 ts.length ls1.flatten rfl HW1.out _ us.length ls2.flatten rfl HS3.out HO2.out (by unfold maxLen; omega) (by omega) hB1 ?_; intro v2 w4 hown2 hgrow2; have HG2 := Lib.hid (grow_below HG1.out hB1 HW1.out hgrow2); have HW2 := Lib.hid hown2; clear hown2 hgrow2)))
    have HTU := Lib.hid (show SRow tblK Any w4 v2 (ts ++ us) from by
      obtain ⟨⟨hll1, hls1⟩, hll2, hls2⟩ := HLS.out
      have hk : ∀ (l : List Value) (x : Tbl), tblK.is (Lt w1.heap.size) w1 l x → tblK.is Any w4 l x := fun l x hx => tblK.keep hx fun E b _ hlt _ => ⟨trivial, HG2.out.block b hlt⟩
      refine SRow.of_own (C := Any) (ls := ls1 ++ ls2) (base := w1.heap.size) ?_ (by simp [hll1, hll2]) fun j x hj => ?_
      · have := HW2.out
        rw [List.flatten_append, List.length_append]
        exact this
      · rcases Nat.lt_or_ge j ts.length with hlt | hge
        · rw [List.getElem?_append_left hlt] at hj
          obtain ⟨l, e, hx⟩ := hls1 j x hj
          exact ⟨l, by rw [List.getElem?_append_left (by omega)]; exact e, hk l x hx⟩
        · rw [List.getElem?_append_right hge] at hj
          obtain ⟨l, e, hx⟩ := hls2 _ x hj
          exact ⟨l, by rw [List.getElem?_append_right (by omega), hll1]; exact e, hk l x hx⟩)
    have HB4 := Lib.hid (HB1.out.trans (HG2.out.mono HB1.out.size))
    have HT4 := Lib.hid (HT.out.below HB4.out)
    have HU4 := Lib.hid (HU.out.below HB4.out)
    obtain ⟨A2, c2, rfl, _, _⟩ := HTU.out.slice
    have TK4 : True := trivial
    gi_wp2_with (clear TK4; refine ⟨trivial, ?_⟩; gi_at_call 36; refine (callsIn_wide.2 (rownersOf_any Any _ (ts ++ us) _ HTU.out (by simp; omega) (fun T hT => by
      rcases List.mem_append.1 hT with h | h
      · exact (HST.out.2 T h).2
      · exact (HSU.out.2 T h).2))).mono ?_; rintro e w5 ⟨v5, rfl, ho, hb⟩; have HL5 := Lib.hid ho.any; have HB5 := Lib.hid (HB4.out.trans (hb.mono HB4.out.size)); clear ho hb)
    have hol := asc_length (ownersOf (ts ++ us))
    have HLB := Lib.hid (show (asc (ownersOf (ts ++ us))).length ≤ 1000000 from by
      refine Nat.le_trans hol ?_
      have : ∀ (l : List Tbl), (∀ T ∈ l, T.rows.length ≤ 1000) → (ownersOf l).length ≤ 1000 * l.length := by
        intro l hl
        induction l with
        | nil => simp [ownersOf]
        | cons T l ih =>
          have h1 := ih fun U hU => hl U (by simp [hU])
          have h2 : (ownersT T).length ≤ 1000 := by
            have := hl T (by simp)
            unfold ownersT
            split
            · simp
            · simpa using this
          unfold ownersOf at h1 ⊢
          rw [List.flatMap_cons, List.length_append, List.length_cons]
          omega
      have := this (ts ++ us) (fun T hT => by
        rcases List.mem_append.1 hT with h | h
        · exact (HST.out.2 T h).2
        · exact (HSU.out.2 T h).2)
      rw [List.length_append] at this
      omega)
    generalize asc (ownersOf (ts ++ us)) = os at *
    have hlb := HLB.out
    obtain ⟨Ao, co, rfl, _, _⟩ := HL5.out.slice
    clear hol HLB HS1 HS2 HO1 HO2 HLS
    gi_loopw [7] (fun i wr => ∃ k : Nat, k ≤ os.length ∧ i = .int .i64 k ∧ (∀ j (hj : j < os.length), j < k → (eqB (withoutB ts os[j]) us || eqB ts (withoutB us os[j])) = false) ∧ Below w.heap.size w wr ∧ Below w5.heap.size w5 wr) (fun i _ => os.length - (intOf i).toNat)
    case atStart => exact ⟨0, Nat.zero_le _, rfl, fun j hj h0 => by omega, HB5.out, Below.refl _ _⟩
    case round =>
      obtain ⟨k, hk, rfl, hall, hB, hB'⟩ := hrel
      have HA := Lib.hid hall
      have HBR := Lib.hid hB
      have HBS := Lib.hid hB'
      have hk0 : (0 : Int) ≤ (k : Int) := by omega
      clear hall
      by_cases hlt : k < os.length
      · have hk1 : (k : Int) < (os.length : Int) := by omega
        obtain ⟨bo, oo, rfl, q0, _⟩ := int_atZ (HL5.out.below hB') hlt
        have hbl := cell_lt q0
        have HLT := Lib.hid hlt
        have HTW := Lib.hid (HT.out.below hB)
        have HUW := Lib.hid (HU.out.below hB)
        clear hB hB'
        have HFS := Lib.hid (fun hq => find_some_take (q := fun o => eqB (withoutB ts o) us || eqB ts (withoutB us o)) hlt HA.out hq)
        have HNX := Lib.hid (show (eqB (withoutB ts os[k]) us || eqB ts (withoutB us os[k])) = false → ∀ j (hj : j < os.length), j < k + 1 → (eqB (withoutB ts os[j]) us || eqB ts (withoutB us os[j])) = false from fun hq j hj hjk => by
          rcases Nat.lt_or_ge j k with h | h
          · exact HA.out j hj h
          · obtain rfl : j = k := by omega
            exact hq)
        generalize os[k] = o at *
        have TKA : True := trivial
        have TKB : True := trivial
        have TKC : True := trivial
        have TKD : True := trivial
        cases e1 : eqB (withoutB ts o) us with
        | true =>
          have HE1 := Lib.hid e1
          have HFF := Lib.hid (HFS.out (by rw [e1]; rfl))
          clear e1
          gi_wp2_with (clear TKA; refine ⟨trivial, ?_⟩; gi_at_call 37; refine (callsIn_wide.2 (rwithoutOf_any C _ ts o _ HTW.out (fun T hT => (HST.out.2 T hT).1) (by omega))).mono ?_; rintro e w6 ⟨v6, rfl, ho, hb⟩; rw [show (ts.map fun T => withoutT T o) = withoutB ts o from rfl] at ho; have HX6 := Lib.hid ho.any; have HB6 := Lib.hid hb; have z0 := cell_later hb q0; have hbl6 := cell_lt z0; clear ho hb)
          gi_wp2_with (clear TKB; refine ⟨trivial, ?_⟩; gi_at_call 18; refine (callsIn_wide.2 (rsameOf_any Any C' _ _ (withoutB ts o) us _ HX6.out (HUW.out.below HB6.out))).mono ?_; rintro e w7 ⟨rfl, hb⟩; rw [HE1.out]; have HB7 := Lib.hid (HB6.out.trans (hb.mono HB6.out.size)); have y0 := cell_later hb z0; have hbl7 := cell_lt y0; clear hb)
          refine ⟨trivial, ?_⟩
          gi_wp2
          refine ⟨trivial, ?_⟩
          gi_wp2
          refine bodyPost_ret (v := .tuple #[.int .i64 (nbrB ts us).1, .bool (nbrB ts us).2]) (by rw [HV.out]; unfold firstB; rw [HFF.out]; simp [results, Tryz.results8, go_sem]) rfl ⟨rfl, HBR.out.trans (HB7.out.mono HBR.out.size)⟩
        | false =>
          have HE1 := Lib.hid e1
          cases e2 : eqB ts (withoutB us o) with
          | true =>
            have HE2 := Lib.hid e2
            have HFF := Lib.hid (HFS.out (by rw [e1, e2]; rfl))
            clear e1 e2
            gi_wp2_with (clear TKA; refine ⟨trivial, ?_⟩; gi_at_call 37; refine (callsIn_wide.2 (rwithoutOf_any C _ ts o _ HTW.out (fun T hT => (HST.out.2 T hT).1) (by omega))).mono ?_; rintro e w6 ⟨v6, rfl, ho, hb⟩; rw [show (ts.map fun T => withoutT T o) = withoutB ts o from rfl] at ho; have HX6 := Lib.hid ho.any; have HB6 := Lib.hid hb; have z0 := cell_later hb q0; have hbl6 := cell_lt z0; clear ho hb)
            gi_wp2_with (clear TKB; refine ⟨trivial, ?_⟩; gi_at_call 18; refine (callsIn_wide.2 (rsameOf_any Any C' _ _ (withoutB ts o) us _ HX6.out (HUW.out.below HB6.out))).mono ?_; rintro e w7 ⟨rfl, hb⟩; rw [HE1.out]; have HB7 := Lib.hid (HB6.out.trans (hb.mono HB6.out.size)); have y0 := cell_later hb z0; have hbl7 := cell_lt y0; clear hb)
            gi_wp2_with (clear TKC; refine ⟨trivial, ?_⟩; gi_at_call 37; refine (callsIn_wide.2 (rwithoutOf_any C' _ us o _ (HUW.out.below HB7.out) (fun T hT => (HSU.out.2 T hT).1) (by omega))).mono ?_; rintro e w8 ⟨v8, rfl, ho, hb⟩; rw [show (us.map fun T => withoutT T o) = withoutB us o from rfl] at ho; have HX8 := Lib.hid ho.any; have HB8 := Lib.hid (HB7.out.trans (hb.mono HB7.out.size)); have x0 := cell_later hb y0; have hbl8 := cell_lt x0; clear ho hb)
            gi_wp2_with (clear TKD; refine ⟨trivial, ?_⟩; gi_at_call 18; refine (callsIn_wide.2 (rsameOf_any C Any _ _ ts (withoutB us o) _ (HTW.out.below HB8.out) HX8.out)).mono ?_; rintro e w9 ⟨rfl, hb⟩; rw [HE2.out]; have HB9 := Lib.hid (HB8.out.trans (hb.mono HB8.out.size)); have w0 := cell_later hb x0; have hbl9 := cell_lt w0; clear hb)
            refine bodyPost_ret (v := .tuple #[.int .i64 (nbrB ts us).1, .bool (nbrB ts us).2]) (by rw [HV.out]; unfold firstB; rw [HFF.out]; simp [results, Tryz.results8, go_sem]) rfl ⟨rfl, HBR.out.trans (HB9.out.mono HBR.out.size)⟩
          | false =>
            have HE2 := Lib.hid e2
            have HNN := Lib.hid (HNX.out (by rw [e1, e2]; rfl))
            clear e1 e2
            gi_wp2_with (clear TKA; refine ⟨trivial, ?_⟩; gi_at_call 37; refine (callsIn_wide.2 (rwithoutOf_any C _ ts o _ HTW.out (fun T hT => (HST.out.2 T hT).1) (by omega))).mono ?_; rintro e w6 ⟨v6, rfl, ho, hb⟩; rw [show (ts.map fun T => withoutT T o) = withoutB ts o from rfl] at ho; have HX6 := Lib.hid ho.any; have HB6 := Lib.hid hb; have z0 := cell_later hb q0; have hbl6 := cell_lt z0; clear ho hb)
            gi_wp2_with (clear TKB; refine ⟨trivial, ?_⟩; gi_at_call 18; refine (callsIn_wide.2 (rsameOf_any Any C' _ _ (withoutB ts o) us _ HX6.out (HUW.out.below HB6.out))).mono ?_; rintro e w7 ⟨rfl, hb⟩; rw [HE1.out]; have HB7 := Lib.hid (HB6.out.trans (hb.mono HB6.out.size)); have y0 := cell_later hb z0; have hbl7 := cell_lt y0; clear hb)
            gi_wp2_with (clear TKC; refine ⟨trivial, ?_⟩; gi_at_call 37; refine (callsIn_wide.2 (rwithoutOf_any C' _ us o _ (HUW.out.below HB7.out) (fun T hT => (HSU.out.2 T hT).1) (by omega))).mono ?_; rintro e w8 ⟨v8, rfl, ho, hb⟩; rw [show (us.map fun T => withoutT T o) = withoutB us o from rfl] at ho; have HX8 := Lib.hid ho.any; have HB8 := Lib.hid (HB7.out.trans (hb.mono HB7.out.size)); clear ho hb)
            gi_wp2_with (clear TKD; refine ⟨trivial, ?_⟩; gi_at_call 18; refine (callsIn_wide.2 (rsameOf_any C Any _ _ ts (withoutB us o) _ (HTW.out.below HB8.out) HX8.out)).mono ?_; rintro e w9 ⟨rfl, hb⟩; rw [HE2.out]; have HB9 := Lib.hid (HB8.out.trans (hb.mono HB8.out.size)); clear hb)
            go_roundw
            case rel => exact ⟨k + 1, HLT.out, by go_num, HNN.out, HBR.out.trans (HB9.out.mono HBR.out.size), HBS.out.trans (HB9.out.mono HBS.out.size)⟩
            case measure => have := HLT.out; simp [intOf]; omega
      · have hk1 : ¬ (k : Int) < (os.length : Int) := by omega
        obtain rfl : k = os.length := by omega
        have HFN := Lib.hid (find_none_take (q := fun o => eqB (withoutB ts o) us || eqB ts (withoutB us o)) fun j hj => HA.out j hj hj)
        clear hlt hB hB'
        gi_wp2
        refine bodyPost_ret (v := .tuple #[.int .i64 (nbrB ts us).1, .bool (nbrB ts us).2]) (by rw [HV.out]; unfold firstB; rw [HFN.out]; simp [results, Tryz.results8, go_sem]) rfl ⟨rfl, HBR.out⟩
set_option maxRecDepth 100000 in
set_option maxHeartbeats 4000000 in
theorem rneighbours_any (C C' : TypeId → Nat → Prop) (v v' : Value) (T U : Tbl) (w : World) (h : TblVal C w v T) (h' : TblVal C' w v' U) (hT : Small T) (hU : Small U) (hn : T.rows.length ≤ 1000) (hn' : U.rows.length ≤ 1000) :
    Calls Tryz.prog 12 #[v, v'] w fun e w' => e = .returned (.tuple #[.int .i64 (nbrB [T] [U]).1, .bool (nbrB [T] [U]).2]) ∧ Below w.heap.size w w' := by
  obtain ⟨cu, ru, rfl, hcu, hru, hnm⟩ := h
  obtain ⟨Ac, cc, rfl, _, _⟩ := hcu.slice
  obtain ⟨Ar, cr, rfl, _, _⟩ := hru.slice
  obtain ⟨cu2, ru2, rfl, hcu2, hru2, hnm2⟩ := h'
  obtain ⟨Bc, dc, rfl, _, _⟩ := hcu2.slice
  obtain ⟨Br, dr, rfl, _, _⟩ := hru2.slice
  have HB := Lib.hid (show Below w.heap.size w ((((w.alloc (.cells #[.string T.sch.name, .bool T.sch.pub, .int .i64 T.sch.many, .slice Ac T.sch.cols.length cc, .slice Ar T.rows.length cr] 37)).alloc (.cells #[.string U.sch.name, .bool U.sch.pub, .int .i64 U.sch.many, .slice Bc U.sch.cols.length dc, .slice Br U.rows.length dr] 37)).alloc (.cells #[.string T.sch.name, .bool T.sch.pub, .int .i64 T.sch.many, .slice Ac T.sch.cols.length cc, .slice Ar T.rows.length cr] 37)).alloc (.cells #[.string U.sch.name, .bool U.sch.pub, .int .i64 U.sch.many, .slice Bc U.sch.cols.length dc, .slice Br U.rows.length dr] 37)) by go_grown)
  have hnewU : ((((w.alloc (.cells #[.string T.sch.name, .bool T.sch.pub, .int .i64 T.sch.many, .slice Ac T.sch.cols.length cc, .slice Ar T.rows.length cr] 37)).alloc (.cells #[.string U.sch.name, .bool U.sch.pub, .int .i64 U.sch.many, .slice Bc U.sch.cols.length dc, .slice Br U.rows.length dr] 37)).alloc (.cells #[.string T.sch.name, .bool T.sch.pub, .int .i64 T.sch.many, .slice Ac T.sch.cols.length cc, .slice Ar T.rows.length cr] 37)).alloc (.cells #[.string U.sch.name, .bool U.sch.pub, .int .i64 U.sch.many, .slice Bc U.sch.cols.length dc, .slice Br U.rows.length dr] 37)).heap[w.heap.size + 3]? = some (.cells #[.string U.sch.name, .bool U.sch.pub, .int .i64 U.sch.many, .slice Bc U.sch.cols.length dc, .slice Br U.rows.length dr] 37 (0, 0)) := by
    have := heap_alloc_new (((w.alloc (.cells #[.string T.sch.name, .bool T.sch.pub, .int .i64 T.sch.many, .slice Ac T.sch.cols.length cc, .slice Ar T.rows.length cr] 37)).alloc (.cells #[.string U.sch.name, .bool U.sch.pub, .int .i64 U.sch.many, .slice Bc U.sch.cols.length dc, .slice Br U.rows.length dr] 37)).alloc (.cells #[.string T.sch.name, .bool T.sch.pub, .int .i64 T.sch.many, .slice Ac T.sch.cols.length cc, .slice Ar T.rows.length cr] 37)) (.cells #[.string U.sch.name, .bool U.sch.pub, .int .i64 U.sch.many, .slice Bc U.sch.cols.length dc, .slice Br U.rows.length dr] 37)
    simpa using this
  have hnewT : ((((w.alloc (.cells #[.string T.sch.name, .bool T.sch.pub, .int .i64 T.sch.many, .slice Ac T.sch.cols.length cc, .slice Ar T.rows.length cr] 37)).alloc (.cells #[.string U.sch.name, .bool U.sch.pub, .int .i64 U.sch.many, .slice Bc U.sch.cols.length dc, .slice Br U.rows.length dr] 37)).alloc (.cells #[.string T.sch.name, .bool T.sch.pub, .int .i64 T.sch.many, .slice Ac T.sch.cols.length cc, .slice Ar T.rows.length cr] 37)).alloc (.cells #[.string U.sch.name, .bool U.sch.pub, .int .i64 U.sch.many, .slice Bc U.sch.cols.length dc, .slice Br U.rows.length dr] 37)).heap[w.heap.size + 2]? = some (.cells #[.string T.sch.name, .bool T.sch.pub, .int .i64 T.sch.many, .slice Ac T.sch.cols.length cc, .slice Ar T.rows.length cr] 37 (0, 0)) := by
    have h0 := heap_alloc_new ((w.alloc (.cells #[.string T.sch.name, .bool T.sch.pub, .int .i64 T.sch.many, .slice Ac T.sch.cols.length cc, .slice Ar T.rows.length cr] 37)).alloc (.cells #[.string U.sch.name, .bool U.sch.pub, .int .i64 U.sch.many, .slice Bc U.sch.cols.length dc, .slice Br U.rows.length dr] 37)) (.cells #[.string T.sch.name, .bool T.sch.pub, .int .i64 T.sch.many, .slice Ac T.sch.cols.length cc, .slice Ar T.rows.length cr] 37)
    have h2 : (((w.alloc (.cells #[.string T.sch.name, .bool T.sch.pub, .int .i64 T.sch.many, .slice Ac T.sch.cols.length cc, .slice Ar T.rows.length cr] 37)).alloc (.cells #[.string U.sch.name, .bool U.sch.pub, .int .i64 U.sch.many, .slice Bc U.sch.cols.length dc, .slice Br U.rows.length dr] 37)).alloc (.cells #[.string T.sch.name, .bool T.sch.pub, .int .i64 T.sch.many, .slice Ac T.sch.cols.length cc, .slice Ar T.rows.length cr] 37)).heap[w.heap.size + 2]? = some (.cells #[.string T.sch.name, .bool T.sch.pub, .int .i64 T.sch.many, .slice Ac T.sch.cols.length cc, .slice Ar T.rows.length cr] 37 (0, 0)) := by simpa using h0
    exact (heap_alloc_old _ _ (by simp)).trans h2
  have HST := Lib.hid (SRow.block (K := tblK) (C := Any) (xs := [T]) [[.string T.sch.name, .bool T.sch.pub, .int .i64 T.sch.many, .slice Ac T.sch.cols.length cc, .slice Ar T.rows.length cr]] hnewT trivial rfl rfl (fun j x hj => by
    match j with
    | 0 => cases hj; exact ⟨_, rfl, [.string T.sch.name, .bool T.sch.pub, .int .i64 T.sch.many, .slice Ac T.sch.cols.length cc], _, rfl, ⟨_, rfl, (hcu.below HB.out).mono (fun _ _ _ => trivial), hnm⟩, (hru.below HB.out).mono (fun _ _ _ => trivial)⟩
    | j + 1 => simp at hj) (by unfold maxLen; simp))
  have HSU := Lib.hid (SRow.block (K := tblK) (C := Any) (xs := [U]) [[.string U.sch.name, .bool U.sch.pub, .int .i64 U.sch.many, .slice Bc U.sch.cols.length dc, .slice Br U.rows.length dr]] hnewU trivial rfl rfl (fun j x hj => by
    match j with
    | 0 => cases hj; exact ⟨_, rfl, [.string U.sch.name, .bool U.sch.pub, .int .i64 U.sch.many, .slice Bc U.sch.cols.length dc], _, rfl, ⟨_, rfl, (hcu2.below HB.out).mono (fun _ _ _ => trivial), hnm2⟩, (hru2.below HB.out).mono (fun _ _ _ => trivial)⟩
    | j + 1 => simp at hj) (by unfold maxLen; simp))
  have HMT := Lib.hid (show SmallB [T] from ⟨by simp, fun X hX => by simp at hX; subst hX; exact ⟨hT, hn⟩⟩)
  have HMU := Lib.hid (show SmallB [U] from ⟨by simp, fun X hX => by simp at hX; subst hX; exact ⟨hU, hn'⟩⟩)
  clear hcu hru hnm hn hnewT hcu2 hru2 hnm2 hn' hnewU hT hU
  go_enter Tryz.func12, Tryz.ntmps12
  go_wp2_with (go_at_call 8; refine (rneighboursOf_any Any Any _ _ [T] [U] _ HST.out HSU.out HMT.out HMU.out (by simp) (by simp)).mono ?_; rintro e w2 ⟨rfl, hb2⟩; have HB2 := Lib.hid (HB.out.trans (hb2.mono HB.out.size)); clear hb2)
  go_ret2
  exact ⟨rfl, HB2.out⟩
end Go.Proofs.YtlocafmglficnaaGreatDoor
