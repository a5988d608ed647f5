/- Neighbours of bases. -/
import Derived.Test.YtlocafmglficnaaGreatDoorTabEachO
import Derived.Test.YtlocafmglficnaaGreatDoorTabDiffer
namespace Go.Proofs.YtlocafmglficnaaGreatDoor
open Go.RowKit Go.Maps Go.Sort Go.Shelf

noncomputable def differB (ts us : List Tbl) : Int × Bool := eachO us ts (eachO ts us (0, false) (asc (ownersOf ts)).length) (asc (ownersOf us)).length
theorem SRow.lt {α : Type} {K : Kind α} {C : TypeId → Nat → Prop} {w : World} {v : Value} {xs : List α} (h : SRow K C w v xs) : SRow K (Lt w.heap.size) w v xs := h.keep fun E b _ hlt _ => ⟨hlt, rfl⟩
theorem SRow.lows {α : Type} {K : Kind α} {n : Nat} {w w' : World} {v : Value} {xs : List α} {p q : Nat} (h : SRow K (Lt n) w v xs) (hb : Bes w w' p q) (hn : n ≤ w.heap.size) (hp : n ≤ p) (hq : n ≤ q) : SRow K (Lt n) w' v xs :=
  h.low fun k hk => hb.blk k (by omega) (by omega) (by omega)
theorem cap5 (w : World) : CapO (((((w.alloc (.cells #[.func (.func 32) #[] #[]] 61)).alloc (.cells #[.func (.func 33) #[] #[]] 62)).alloc (.cells #[.func (.func 34) #[] #[]] 44)).alloc (.cells #[.int .i64 0] 3)).alloc (.cells #[.bool false] 4)) w.heap.size (w.heap.size) (w.heap.size + 1 + 1 + 1 + 1) (w.heap.size + 1 + 1 + 1) (w.heap.size + 1 + 1) (w.heap.size + 1) (0, false) ∧ Below w.heap.size w (((((w.alloc (.cells #[.func (.func 32) #[] #[]] 61)).alloc (.cells #[.func (.func 33) #[] #[]] 62)).alloc (.cells #[.func (.func 34) #[] #[]] 44)).alloc (.cells #[.int .i64 0] 3)).alloc (.cells #[.bool false] 4)) := by
  have b0 : (((((w.alloc (.cells #[.func (.func 32) #[] #[]] 61)).alloc (.cells #[.func (.func 33) #[] #[]] 62)).alloc (.cells #[.func (.func 34) #[] #[]] 44)).alloc (.cells #[.int .i64 0] 3)).alloc (.cells #[.bool false] 4)).heap[w.heap.size]? = some (.cells #[.func (.func 32) #[] #[]] 61) := by
    rw [heap_alloc_old _ _ (by simp; try omega)]
    rw [heap_alloc_old _ _ (by simp; try omega)]
    rw [heap_alloc_old _ _ (by simp; try omega)]
    rw [heap_alloc_old _ _ (by simp; try omega)]
    have := heap_alloc_new w (.cells #[.func (.func 32) #[] #[]] 61)
    simpa using this
  have b1 : (((((w.alloc (.cells #[.func (.func 32) #[] #[]] 61)).alloc (.cells #[.func (.func 33) #[] #[]] 62)).alloc (.cells #[.func (.func 34) #[] #[]] 44)).alloc (.cells #[.int .i64 0] 3)).alloc (.cells #[.bool false] 4)).heap[w.heap.size + 1]? = some (.cells #[.func (.func 33) #[] #[]] 62) := by
    rw [heap_alloc_old _ _ (by simp; try omega)]
    rw [heap_alloc_old _ _ (by simp; try omega)]
    rw [heap_alloc_old _ _ (by simp; try omega)]
    have := heap_alloc_new (w.alloc (.cells #[.func (.func 32) #[] #[]] 61)) (.cells #[.func (.func 33) #[] #[]] 62)
    simpa using this
  have b2 : (((((w.alloc (.cells #[.func (.func 32) #[] #[]] 61)).alloc (.cells #[.func (.func 33) #[] #[]] 62)).alloc (.cells #[.func (.func 34) #[] #[]] 44)).alloc (.cells #[.int .i64 0] 3)).alloc (.cells #[.bool false] 4)).heap[w.heap.size + 1 + 1]? = some (.cells #[.func (.func 34) #[] #[]] 44) := by
    rw [heap_alloc_old _ _ (by simp; try omega)]
    rw [heap_alloc_old _ _ (by simp; try omega)]
    have := heap_alloc_new ((w.alloc (.cells #[.func (.func 32) #[] #[]] 61)).alloc (.cells #[.func (.func 33) #[] #[]] 62)) (.cells #[.func (.func 34) #[] #[]] 44)
    simpa using this
  have b3 : (((((w.alloc (.cells #[.func (.func 32) #[] #[]] 61)).alloc (.cells #[.func (.func 33) #[] #[]] 62)).alloc (.cells #[.func (.func 34) #[] #[]] 44)).alloc (.cells #[.int .i64 0] 3)).alloc (.cells #[.bool false] 4)).heap[w.heap.size + 1 + 1 + 1]? = some (.cells #[.int .i64 0] 3) := by
    rw [heap_alloc_old _ _ (by simp; try omega)]
    have := heap_alloc_new (((w.alloc (.cells #[.func (.func 32) #[] #[]] 61)).alloc (.cells #[.func (.func 33) #[] #[]] 62)).alloc (.cells #[.func (.func 34) #[] #[]] 44)) (.cells #[.int .i64 0] 3)
    simpa using this
  have b4 : (((((w.alloc (.cells #[.func (.func 32) #[] #[]] 61)).alloc (.cells #[.func (.func 33) #[] #[]] 62)).alloc (.cells #[.func (.func 34) #[] #[]] 44)).alloc (.cells #[.int .i64 0] 3)).alloc (.cells #[.bool false] 4)).heap[w.heap.size + 1 + 1 + 1 + 1]? = some (.cells #[.bool false] 4) := by
    have := heap_alloc_new ((((w.alloc (.cells #[.func (.func 32) #[] #[]] 61)).alloc (.cells #[.func (.func 33) #[] #[]] 62)).alloc (.cells #[.func (.func 34) #[] #[]] 44)).alloc (.cells #[.int .i64 0] 3)) (.cells #[.bool false] 4)
    simpa using this
  refine ⟨⟨?_, ?_, ?_, b4, b3, by omega, by omega⟩, ?_⟩
  · rw [World.cell?, b0]; rfl
  · rw [World.cell?, b2]; rfl
  · rw [World.cell?, b1]; rfl
  · go_grown
attribute [local go_sem] Oper.semAt_some
set_option maxRecDepth 100000 in
set_option maxHeartbeats 4000000 in
theorem differB_any (C C' : TypeId → Nat → Prop) (v v' : Value) (ts us : List Tbl) (w : World) (h : SRow tblK C w v ts) (h' : SRow tblK C' w v' us) (hT : SmallB ts) (hU : SmallB us) :
    Calls Tryz.prog 31 #[v, v', .func (.func 32) #[] #[], .func (.func 33) #[] #[], .func (.func 34) #[] #[]] w fun e w' =>
      e = .returned (.tuple #[.int .i64 (differB ts us).1, .bool (differB ts us).2]) ∧ Below w.heap.size w w' := by
  have HT := Lib.hid h.lt
  have HU := Lib.hid h'.lt
  obtain ⟨A1, c1, rfl, _, _⟩ := h.slice
  obtain ⟨A3, c3, rfl, _, _⟩ := h'.slice
  have HST := Lib.hid hT
  have HSU := Lib.hid hU
  clear h h' hT hU
  refine (callsIn_wide (n := 6)).1 ?_
  have h1 : 1 ≤ 6 := by omega
  refine callsIn_of_wp Tryz.func31 rfl trivial ?_ rfl
  simp only [Tryz.ntmps31, List.size_toArray, List.length_cons, List.length_nil, Nat.reduceAdd, Nat.reduceSub, Array.replicate_succ, Array.replicate_zero, List.push_toArray, List.append_toArray, List.nil_append, List.cons_append]
  have hmf : ∀ (fn : Fn) (first cap : Array Value) (w : World), (Instr.makeFunc fn first cap).run Tryz.prog w = .ok (.func fn first cap) w := fun _ _ _ _ => rfl
  have H5 := Lib.hid (cap5 w)
  gi_wp2
  refine ⟨trivial, ?_⟩
  gi_at_call 57
  refine (callsIn_wide.2 (eachO_any w.heap.size _ _ _ _ _ _ _ ts us (0, false) _ (HT.out.low fun k hk => H5.out.2.block k hk) (HU.out.low fun k hk => H5.out.2.block k hk) HST.out H5.out.1)).mono ?_
  rintro e w8 ⟨rfl, hc8, hb8⟩
  have HT8 := Lib.hid ((HT.out.low fun k hk => H5.out.2.block k hk).lows hb8 (by simp <;> omega) (by omega) (by omega))
  have HU8 := Lib.hid ((HU.out.low fun k hk => H5.out.2.block k hk).lows hb8 (by simp <;> omega) (by omega) (by omega))
  have HB8 := Lib.hid hb8
  have HC8 := Lib.hid hc8
  clear hb8 hc8
  gi_wp2
  refine ⟨trivial, ?_⟩
  gi_at_call 57
  refine (callsIn_wide.2 (eachO_any w.heap.size _ _ _ _ _ _ _ us ts _ _ HU8.out HT8.out HSU.out HC8.out)).mono ?_
  rintro e w9 ⟨rfl, hc9, hb9⟩
  have z4 := (cellrow hc9.b4 0 (by simp)).1
  have z3 := (cellrow hc9.b3 0 (by simp)).1
  have HB9 := Lib.hid hb9
  clear hc9 hb9
  gi_wp2
  have hmx : Tryz.prog.follows .mixedOrders = true := by kernel_rfl
  refine wpIn_quiet_round hmx (by kernel_rfl) (by kernel_rfl) ?_
  repeat (gi_big_quiet_step (fail))
  refine wpQuietIn_nil ?_
  intro _ hw'
  obtain ⟨nq, hw''⟩ := hw'
  subst hw''
  gi_wp2
  have hl7 := HB8.out.size
  have hl9 := HB9.out.size
  have hbb := H5.out.2
  refine bodyPost_ret (v := .tuple #[.int .i64 (differB ts us).1, .bool (differB ts us).2]) (by simp [results, Tryz.results31, go_sem, differB]) rfl ⟨rfl, ?_⟩
  refine ⟨(HB9.out.os.trans (HB8.out.os.trans hbb.os)), (HB9.out.tape.trans (HB8.out.tape.trans hbb.tape)), (HB9.out.out.trans (HB8.out.out.trans hbb.output)), ?_, fun k hk => ?_⟩
  · have := hbb.size; show _ ≤ w9.heap.size; omega
  · exact (HB9.out.blk k (by have := hbb.size; omega) (by omega) (by omega)).trans ((HB8.out.blk k (by have := hbb.size; omega) (by omega) (by omega)).trans (hbb.block k hk))

theorem neighboursOf_any (C C' : TypeId → Nat → Prop) (v v' : Value) (ts us : List Tbl) (w : World) (h : SRow tblK C w v ts) (h' : SRow tblK C' w v' us) (hT : SmallB ts) (hU : SmallB us) :
    Calls Tryz.prog 7 #[v, v'] w fun e w' => e = .returned (.tuple #[.int .i64 (differB ts us).1, .bool (differB ts us).2]) ∧ Below w.heap.size w w' := by
  have HT := Lib.hid h
  have HU := Lib.hid h'
  obtain ⟨A1, c1, rfl, _, _⟩ := h.slice
  obtain ⟨A3, c3, rfl, _, _⟩ := h'.slice
  clear h h'
  go_enter Tryz.func7, Tryz.ntmps7
  go_wp2_with (go_at_call 31; refine (differB_any C C' _ _ ts us _ HT.out HU.out hT hU).mono ?_; rintro e w8 ⟨rfl, hb8⟩)
  refine bodyPost_ret (v := .tuple #[.int .i64 (differB ts us).1, .bool (differB ts us).2]) (by simp [results, Tryz.results7, go_sem]) rfl ?_
  exact ⟨rfl, hb8⟩
end Go.Proofs.YtlocafmglficnaaGreatDoor
