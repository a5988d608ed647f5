/- Neighbours. -/
import Derived.Test.YtlocafmglficnaaGreatDoorTabNeigh
namespace Go.Proofs.YtlocafmglficnaaGreatDoor
open Go.RowKit Go.Maps Go.Sort Go.Shelf

noncomputable def differT (T U : Tbl) : Int × Bool := eachE U T (eachE T U (0, false) (asc (ownersT T)).length) (asc (ownersT U)).length
theorem TblVal.lt {C : TypeId → Nat → Prop} {w : World} {v : Value} {T : Tbl} (h : TblVal C w v T) : TblVal (Lt w.heap.size) w v T := by
  obtain ⟨cu, ru, e, h1, h2, h3⟩ := h
  exact ⟨cu, ru, e, h1.keep fun E b _ hlt _ => ⟨hlt, rfl⟩, h2.keep fun E b _ hlt _ => ⟨hlt, rfl⟩, h3⟩
theorem TblVal.lows {n : Nat} {w w' : World} {v : Value} {T : Tbl} {p q : Nat} (h : TblVal (Lt n) w v T) (hb : Bes w w' p q) (hn : n ≤ w.heap.size) (hp : n ≤ p) (hq : n ≤ q) : TblVal (Lt n) w' v T :=
  h.low fun k hk => hb.blk k (by omega) (by omega) (by omega)
theorem cap7 (w : World) (o1 o2 : Obj) : Cap (((((((w.alloc o1).alloc o2).alloc (.cells #[.func (.func 30) #[] #[]] 59)).alloc (.cells #[.func (.func 41) #[] #[]] 67)).alloc (.cells #[.func (.func 13) #[] #[]] 38)).alloc (.cells #[.int .i64 0] 3)).alloc (.cells #[.bool false] 4)) w.heap.size (w.heap.size + 1 + 1) (w.heap.size + 1 + 1 + 1 + 1 + 1 + 1) (w.heap.size + 1 + 1 + 1 + 1 + 1) (w.heap.size + 1 + 1 + 1 + 1) (w.heap.size + 1 + 1 + 1) (0, false) ∧ (((((((w.alloc o1).alloc o2).alloc (.cells #[.func (.func 30) #[] #[]] 59)).alloc (.cells #[.func (.func 41) #[] #[]] 67)).alloc (.cells #[.func (.func 13) #[] #[]] 38)).alloc (.cells #[.int .i64 0] 3)).alloc (.cells #[.bool false] 4)).heap[w.heap.size]? = some o1 ∧ (((((((w.alloc o1).alloc o2).alloc (.cells #[.func (.func 30) #[] #[]] 59)).alloc (.cells #[.func (.func 41) #[] #[]] 67)).alloc (.cells #[.func (.func 13) #[] #[]] 38)).alloc (.cells #[.int .i64 0] 3)).alloc (.cells #[.bool false] 4)).heap[w.heap.size + 1]? = some o2 ∧ Below w.heap.size w (((((((w.alloc o1).alloc o2).alloc (.cells #[.func (.func 30) #[] #[]] 59)).alloc (.cells #[.func (.func 41) #[] #[]] 67)).alloc (.cells #[.func (.func 13) #[] #[]] 38)).alloc (.cells #[.int .i64 0] 3)).alloc (.cells #[.bool false] 4)) := by
  have b0 : (((((((w.alloc o1).alloc o2).alloc (.cells #[.func (.func 30) #[] #[]] 59)).alloc (.cells #[.func (.func 41) #[] #[]] 67)).alloc (.cells #[.func (.func 13) #[] #[]] 38)).alloc (.cells #[.int .i64 0] 3)).alloc (.cells #[.bool false] 4)).heap[w.heap.size]? = some o1 := by
    rw [heap_alloc_old _ _ (by simp; try omega)]
    rw [heap_alloc_old _ _ (by simp; try omega)]
    rw [heap_alloc_old _ _ (by simp; try omega)]
    rw [heap_alloc_old _ _ (by simp; try omega)]
    rw [heap_alloc_old _ _ (by simp; try omega)]
    rw [heap_alloc_old _ _ (by simp; try omega)]
    have := heap_alloc_new w o1
    simpa using this
  have b1 : (((((((w.alloc o1).alloc o2).alloc (.cells #[.func (.func 30) #[] #[]] 59)).alloc (.cells #[.func (.func 41) #[] #[]] 67)).alloc (.cells #[.func (.func 13) #[] #[]] 38)).alloc (.cells #[.int .i64 0] 3)).alloc (.cells #[.bool false] 4)).heap[w.heap.size + 1]? = some o2 := by
    rw [heap_alloc_old _ _ (by simp; try omega)]
    rw [heap_alloc_old _ _ (by simp; try omega)]
    rw [heap_alloc_old _ _ (by simp; try omega)]
    rw [heap_alloc_old _ _ (by simp; try omega)]
    rw [heap_alloc_old _ _ (by simp; try omega)]
    have := heap_alloc_new (w.alloc o1) o2
    simpa using this
  have b2 : (((((((w.alloc o1).alloc o2).alloc (.cells #[.func (.func 30) #[] #[]] 59)).alloc (.cells #[.func (.func 41) #[] #[]] 67)).alloc (.cells #[.func (.func 13) #[] #[]] 38)).alloc (.cells #[.int .i64 0] 3)).alloc (.cells #[.bool false] 4)).heap[w.heap.size + 1 + 1]? = some (.cells #[.func (.func 30) #[] #[]] 59) := by
    rw [heap_alloc_old _ _ (by simp; try omega)]
    rw [heap_alloc_old _ _ (by simp; try omega)]
    rw [heap_alloc_old _ _ (by simp; try omega)]
    rw [heap_alloc_old _ _ (by simp; try omega)]
    have := heap_alloc_new ((w.alloc o1).alloc o2) (.cells #[.func (.func 30) #[] #[]] 59)
    simpa using this
  have b3 : (((((((w.alloc o1).alloc o2).alloc (.cells #[.func (.func 30) #[] #[]] 59)).alloc (.cells #[.func (.func 41) #[] #[]] 67)).alloc (.cells #[.func (.func 13) #[] #[]] 38)).alloc (.cells #[.int .i64 0] 3)).alloc (.cells #[.bool false] 4)).heap[w.heap.size + 1 + 1 + 1]? = some (.cells #[.func (.func 41) #[] #[]] 67) := by
    rw [heap_alloc_old _ _ (by simp; try omega)]
    rw [heap_alloc_old _ _ (by simp; try omega)]
    rw [heap_alloc_old _ _ (by simp; try omega)]
    have := heap_alloc_new (((w.alloc o1).alloc o2).alloc (.cells #[.func (.func 30) #[] #[]] 59)) (.cells #[.func (.func 41) #[] #[]] 67)
    simpa using this
  have b4 : (((((((w.alloc o1).alloc o2).alloc (.cells #[.func (.func 30) #[] #[]] 59)).alloc (.cells #[.func (.func 41) #[] #[]] 67)).alloc (.cells #[.func (.func 13) #[] #[]] 38)).alloc (.cells #[.int .i64 0] 3)).alloc (.cells #[.bool false] 4)).heap[w.heap.size + 1 + 1 + 1 + 1]? = some (.cells #[.func (.func 13) #[] #[]] 38) := by
    rw [heap_alloc_old _ _ (by simp; try omega)]
    rw [heap_alloc_old _ _ (by simp; try omega)]
    have := heap_alloc_new ((((w.alloc o1).alloc o2).alloc (.cells #[.func (.func 30) #[] #[]] 59)).alloc (.cells #[.func (.func 41) #[] #[]] 67)) (.cells #[.func (.func 13) #[] #[]] 38)
    simpa using this
  have b5 : (((((((w.alloc o1).alloc o2).alloc (.cells #[.func (.func 30) #[] #[]] 59)).alloc (.cells #[.func (.func 41) #[] #[]] 67)).alloc (.cells #[.func (.func 13) #[] #[]] 38)).alloc (.cells #[.int .i64 0] 3)).alloc (.cells #[.bool false] 4)).heap[w.heap.size + 1 + 1 + 1 + 1 + 1]? = some (.cells #[.int .i64 0] 3) := by
    rw [heap_alloc_old _ _ (by simp; try omega)]
    have := heap_alloc_new (((((w.alloc o1).alloc o2).alloc (.cells #[.func (.func 30) #[] #[]] 59)).alloc (.cells #[.func (.func 41) #[] #[]] 67)).alloc (.cells #[.func (.func 13) #[] #[]] 38)) (.cells #[.int .i64 0] 3)
    simpa using this
  have b6 : (((((((w.alloc o1).alloc o2).alloc (.cells #[.func (.func 30) #[] #[]] 59)).alloc (.cells #[.func (.func 41) #[] #[]] 67)).alloc (.cells #[.func (.func 13) #[] #[]] 38)).alloc (.cells #[.int .i64 0] 3)).alloc (.cells #[.bool false] 4)).heap[w.heap.size + 1 + 1 + 1 + 1 + 1 + 1]? = some (.cells #[.bool false] 4) := by
    have := heap_alloc_new ((((((w.alloc o1).alloc o2).alloc (.cells #[.func (.func 30) #[] #[]] 59)).alloc (.cells #[.func (.func 41) #[] #[]] 67)).alloc (.cells #[.func (.func 13) #[] #[]] 38)).alloc (.cells #[.int .i64 0] 3)) (.cells #[.bool false] 4)
    simpa using this
  refine ⟨⟨?_, ?_, ?_, b6, b5, by omega, by omega⟩, b0, b1, ?_⟩
  · rw [World.cell?, b2]; rfl
  · rw [World.cell?, b4]; rfl
  · rw [World.cell?, b3]; rfl
  · go_grown
attribute [local go_sem] Oper.semAt_some
set_option maxRecDepth 100000 in
set_option maxHeartbeats 4000000 in
theorem differ_any (C C' : TypeId → Nat → Prop) (v v' : Value) (T U : Tbl) (w : World) (h : TblVal C w v T) (h' : TblVal C' w v' U) (hT : Small T) (hU : Small U) :
    Calls Tryz.prog 40 #[v, v', .func (.func 30) #[] #[], .func (.func 41) #[] #[], .func (.func 13) #[] #[]] w fun e w' =>
      e = .returned (.tuple #[.int .i64 (differT T U).1, .bool (differT T U).2]) ∧ Below w.heap.size w w' := by
  have HT := Lib.hid h.lt
  have HU := Lib.hid h'.lt
  obtain ⟨cu, ru, rfl, hcu, hru, _⟩ := h
  obtain ⟨cu', ru', rfl, hcu', hru', _⟩ := h'
  obtain ⟨A1, c1, rfl, _, _⟩ := hcu.slice
  obtain ⟨A2, c2, rfl, _, _⟩ := hru.slice
  obtain ⟨A3, c3, rfl, _, _⟩ := hcu'.slice
  obtain ⟨A4, c4, rfl, _, _⟩ := hru'.slice
  have HST := Lib.hid hT
  have HSU := Lib.hid hU
  clear hcu hru hcu' hru' hT hU
  refine (callsIn_wide (n := 6)).1 ?_
  have h1 : 1 ≤ 6 := by omega
  refine callsIn_of_wp Tryz.func40 rfl trivial ?_ rfl
  simp only [Tryz.ntmps40, List.size_toArray, List.length_cons, List.length_nil, Nat.reduceAdd, Nat.reduceSub, Array.replicate_succ, Array.replicate_zero, List.push_toArray, List.append_toArray, List.nil_append, List.cons_append]
  have hmf : ∀ (fn : Fn) (first cap : Array Value) (w : World), (Instr.makeFunc fn first cap).run Tryz.prog w = .ok (.func fn first cap) w := fun _ _ _ _ => rfl
  have H7 := Lib.hid (cap7 w (.cells #[.string T.sch.name, .bool T.sch.pub, .int .i64 T.sch.many, .slice A1 T.sch.cols.length c1, .slice A2 T.rows.length c2] 37) (.cells #[.string U.sch.name, .bool U.sch.pub, .int .i64 U.sch.many, .slice A3 U.sch.cols.length c3, .slice A4 U.rows.length c4] 37))
  have HQ := Lib.hid (show ∃ n0, n0 = w.heap.size from ⟨_, rfl⟩)
  gi_wp2
  refine ⟨trivial, ?_⟩
  gi_at_call 63
  refine (callsIn_wide.2 (each_any w.heap.size _ _ _ _ _ _ _ T U (0, false) _ (HT.out.low fun k hk => H7.out.2.2.2.block k hk) (HU.out.low fun k hk => H7.out.2.2.2.block k hk) HST.out H7.out.1)).mono ?_
  rintro e w8 ⟨rfl, hc8, hb8⟩
  have hl8 : w.heap.size + 1 + 1 < w8.heap.size := World.block_lt_of_cell? w8 _ hc8.c2
  have HT8 := Lib.hid ((HT.out.low fun k hk => H7.out.2.2.2.block k hk).lows hb8 (by simp <;> omega) (by omega) (by omega))
  have HU8 := Lib.hid ((HU.out.low fun k hk => H7.out.2.2.2.block k hk).lows hb8 (by simp <;> omega) (by omega) (by omega))
  have m5 := (hb8.blk w.heap.size (by simp <;> omega) (by omega) (by omega)).trans H7.out.2.1
  have m6 := (hb8.blk (w.heap.size + 1) (by simp <;> omega) (by omega) (by omega)).trans H7.out.2.2.1
  have y50 := (cellrow m5 0 (by simp)).1
  have y51 := (cellrow m5 1 (by simp)).1
  have y52 := (cellrow m5 2 (by simp)).1
  have y53 := (cellrow m5 3 (by simp)).1
  have y54 := (cellrow m5 4 (by simp)).1
  have y60 := (cellrow m6 0 (by simp)).1
  have y61 := (cellrow m6 1 (by simp)).1
  have y62 := (cellrow m6 2 (by simp)).1
  have y63 := (cellrow m6 3 (by simp)).1
  have y64 := (cellrow m6 4 (by simp)).1
  have HB8 := Lib.hid hb8
  have HC8 := Lib.hid hc8
  clear m5 m6 hb8 hc8
  gi_wp2
  refine ⟨trivial, ?_⟩
  gi_at_call 63
  refine (callsIn_wide.2 (each_any w.heap.size _ _ _ _ _ _ _ U T _ _ HU8.out HT8.out HSU.out HC8.out)).mono ?_
  rintro e w9 ⟨rfl, hc9, hb9⟩
  have z4 := (cellrow hc9.b4 0 (by simp)).1
  have z3 := (cellrow hc9.b3 0 (by simp)).1
  have HB9 := Lib.hid hb9
  clear hc9 hb9
  gi_wp2
  have hmx : Tryz.prog.follows .mixedOrders = true := by kernel_rfl
  refine wpIn_quiet_round hmx (by kernel_rfl) (by kernel_rfl) ?_
  repeat (gi_big_quiet_step (fail))
  refine wpQuietIn_nil ?_
  intro _ hw'
  obtain ⟨nq, hw''⟩ := hw'
  subst hw''
  gi_wp2
  have hl7 := HB8.out.size
  have hl9 := HB9.out.size
  have hbb := H7.out.2.2.2
  refine bodyPost_ret (v := .tuple #[.int .i64 (differT T U).1, .bool (differT T U).2]) (by simp [results, Tryz.results40, go_sem, differT]) rfl ⟨rfl, ?_⟩
  refine ⟨(HB9.out.os.trans (HB8.out.os.trans hbb.os)), (HB9.out.tape.trans (HB8.out.tape.trans hbb.tape)), (HB9.out.out.trans (HB8.out.out.trans hbb.output)), ?_, fun k hk => ?_⟩
  · have := hbb.size; show _ ≤ w9.heap.size; omega
  · exact (HB9.out.blk k (by have := hbb.size; omega) (by omega) (by omega)).trans ((HB8.out.blk k (by have := hbb.size; omega) (by omega) (by omega)).trans (hbb.block k hk))

theorem neighbours_any (C C' : TypeId → Nat → Prop) (v v' : Value) (T U : Tbl) (w : World) (h : TblVal C w v T) (h' : TblVal C' w v' U) (hT : Small T) (hU : Small U) :
    Calls Tryz.prog 11 #[v, v'] w fun e w' => e = .returned (.tuple #[.int .i64 (differT T U).1, .bool (differT T U).2]) ∧ Below w.heap.size w w' := by
  have HT := Lib.hid h
  have HU := Lib.hid h'
  obtain ⟨cu, ru, rfl, hcu, hru, _⟩ := h
  obtain ⟨cu', ru', rfl, hcu', hru', _⟩ := h'
  obtain ⟨A1, c1, rfl, _, _⟩ := hcu.slice
  obtain ⟨A2, c2, rfl, _, _⟩ := hru.slice
  obtain ⟨A3, c3, rfl, _, _⟩ := hcu'.slice
  obtain ⟨A4, c4, rfl, _, _⟩ := hru'.slice
  have hb2 : Below w.heap.size w ((w.alloc (.cells #[.string T.sch.name, .bool T.sch.pub, .int .i64 T.sch.many, .slice A1 T.sch.cols.length c1, .slice A2 T.rows.length c2] 37)).alloc (.cells #[.string U.sch.name, .bool U.sch.pub, .int .i64 U.sch.many, .slice A3 U.sch.cols.length c3, .slice A4 U.rows.length c4] 37)) := by go_grown
  have HB := Lib.hid hb2
  clear hcu hru hcu' hru' hb2
  go_enter Tryz.func11, Tryz.ntmps11
  go_wp2_with (go_at_call 40; refine (differ_any C C' _ _ T U _ (HT.out.below HB.out) (HU.out.below HB.out) hT hU).mono ?_; rintro e w8 ⟨rfl, hb8⟩)
  refine bodyPost_ret (v := .tuple #[.int .i64 (differT T U).1, .bool (differT T U).2]) (by simp [results, Tryz.results11, go_sem]) rfl ?_
  exact ⟨rfl, HB.out.trans (hb8.mono (by simp; omega))⟩
end Go.Proofs.YtlocafmglficnaaGreatDoor
