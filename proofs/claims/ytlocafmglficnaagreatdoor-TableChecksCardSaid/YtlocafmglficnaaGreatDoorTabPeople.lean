/- The laws' own tables: people, row, three; checks. -/
import Derived.Test.YtlocafmglficnaaGreatDoorTabDiffer
namespace Go.Proofs.YtlocafmglficnaaGreatDoor
open Go.RowKit Go.Maps Go.Sort Go.Shelf

/-- A slice that is a whole block. -/
theorem SRow.block {α : Type} {K : Kind α} {C : TypeId → Nat → Prop} {w : World} {b : Nat} {cells : Array Value} {E : TypeId} {xs : List α} (ls : List (List Value)) (hb : w.heap[b]? = some (.cells cells E (0, 0))) (hC : C K.ty b) (hls : ls.flatten = cells.toList) (hl : ls.length = xs.length)
    (hi : ∀ (j : Nat) (x : α), xs[j]? = some x → ∃ l, ls[j]? = some l ∧ K.is C w l x) (hm : xs.length ≤ maxLen) : SRow K C w (.slice (some ⟨b, 0, none⟩) xs.length xs.length) xs := by
  refine ⟨_, _, rfl, Nat.le_refl _, hm, fun h0 => ⟨b, 0, rfl, hC, (Array.getElem?_eq_some_iff.1 hb).1, fun j x hj => ?_⟩⟩
  obtain ⟨l, e, h⟩ := hi j x hj
  refine ⟨l, h, fun i u hu => ?_⟩
  have hlen : ∀ l ∈ ls, l.length = K.k := by
    intro l' hm'
    obtain ⟨j', hj', e'⟩ := List.getElem_of_mem hm'
    have hjx : j' < xs.length := by omega
    obtain ⟨l2, e2, h2⟩ := hi j' xs[j'] (by simp [hjx])
    rw [List.getElem?_eq_getElem hj', e'] at e2
    cases e2
    exact K.len h2
  have := flatten_at hlen e hu
  rw [hls] at this
  have hx : cells[j * K.k + i]? = some u := by rw [← Array.getElem?_toList]; exact this
  rw [World.cell?, hb]
  simpa using hx

theorem row_any (o : Int) (A : Option Addr) (n c : Nat) (w : World) : Calls Tryz.prog 27 #[.int .i64 o, .slice A n c] w fun e w' => e = .returned (.agg #[.int .i64 o, .slice A n c]) ∧ w' = w.alloc (.cells #[.int .i64 o, .slice A n c] 53) := by
  go_enter Tryz.func27, Tryz.ntmps27
  go_wp2
  refine bodyPost_ret (v := .agg #[.int .i64 o, .slice A n c]) (by simp [results, Tryz.results27, go_sem]) rfl ⟨rfl, rfl⟩

theorem lchecks_any (C : TypeId → Nat → Prop) (v : Value) (T : Tbl) (c i : Int) (w : World) (h : TblVal C w v T) (hr : Res w) :
    Calls Tryz.prog 28 #[v, .int .i64 c, .int .i64 i] w fun e w' => e = .returned (.bool (decide (tblErr T = (c, i)))) ∧ Below w.heap.size w w' := by
  have HT := Lib.hid h
  obtain ⟨cu, ru, rfl, hcu, hru, _⟩ := h
  obtain ⟨A1, c1, rfl, _, _⟩ := hcu.slice
  obtain ⟨A2, c2, rfl, _, _⟩ := hru.slice
  have hb2 : Below w.heap.size w (w.alloc (.cells #[.string T.sch.name, .bool T.sch.pub, .int .i64 T.sch.many, .slice A1 T.sch.cols.length c1, .slice A2 T.rows.length c2] 37)) := by go_grown
  have HB := Lib.hid hb2
  have HR := Lib.hid (hr.later hb2)
  clear hcu hru hb2 hr
  generalize hE : tblErr T = E
  obtain ⟨e1, e2⟩ := E
  have HE := Lib.hid hE
  clear hE
  by_cases h1 : e1 = c <;> by_cases h2 : e2 = i
  all_goals
    go_enter Tryz.func28, Tryz.ntmps28
    go_wp2_with (go_at_call 21; refine (tcheck_any C _ T _ (HT.out.below HB.out) HR.out).mono ?_; rintro e w8 ⟨rfl, hb8⟩; rw [HE.out])
    go_ret
    exact ⟨by simp [h1, h2], HB.out.trans (hb8.mono (by simp))⟩
theorem flat_ints : ∀ zs : List Int, (zs.map fun z => [Value.int .i64 z]).flatten = (zs.map (Value.int .i64)).toArray.toList
  | [] => rfl
  | z :: zs => by
    have := flat_ints zs
    simp only [List.map_cons, List.flatten_cons, List.singleton_append] at this ⊢
    rw [this]
/-- A block of ints. -/
theorem ints_block {w : World} {b : Nat} (zs : List Int) (hb : w.heap[b]? = some (.cells (zs.map (Value.int .i64)).toArray 3 (0, 0))) (hf : ∀ z ∈ zs, Fit z) (hm : zs.length ≤ maxLen) : SRow intK Any w (.slice (some ⟨b, 0, none⟩) zs.length zs.length) zs :=
  SRow.block (zs.map fun z => [.int .i64 z]) hb trivial (flat_ints zs) (by simp) (fun j x hj => ⟨[.int .i64 x], by simp [hj], rfl, hf x (List.mem_of_getElem? hj)⟩) hm
theorem alloc7 (w : World) (o0 o1 o2 o3 o4 o5 o6 : Obj) : (((((((w.alloc o0).alloc o1).alloc o2).alloc o3).alloc o4).alloc o5).alloc o6).heap[w.heap.size]? = some o0 ∧ (((((((w.alloc o0).alloc o1).alloc o2).alloc o3).alloc o4).alloc o5).alloc o6).heap[w.heap.size + 1]? = some o1 ∧ (((((((w.alloc o0).alloc o1).alloc o2).alloc o3).alloc o4).alloc o5).alloc o6).heap[w.heap.size + 1 + 1]? = some o2 ∧ (((((((w.alloc o0).alloc o1).alloc o2).alloc o3).alloc o4).alloc o5).alloc o6).heap[w.heap.size + 1 + 1 + 1]? = some o3 ∧ (((((((w.alloc o0).alloc o1).alloc o2).alloc o3).alloc o4).alloc o5).alloc o6).heap[w.heap.size + 1 + 1 + 1 + 1]? = some o4 ∧ (((((((w.alloc o0).alloc o1).alloc o2).alloc o3).alloc o4).alloc o5).alloc o6).heap[w.heap.size + 1 + 1 + 1 + 1 + 1]? = some o5 ∧ (((((((w.alloc o0).alloc o1).alloc o2).alloc o3).alloc o4).alloc o5).alloc o6).heap[w.heap.size + 1 + 1 + 1 + 1 + 1 + 1]? = some o6 ∧ Below w.heap.size w (((((((w.alloc o0).alloc o1).alloc o2).alloc o3).alloc o4).alloc o5).alloc o6) := by
  have b0 : (((((((w.alloc o0).alloc o1).alloc o2).alloc o3).alloc o4).alloc o5).alloc o6).heap[w.heap.size]? = some o0 := by
    rw [heap_alloc_old _ _ (by simp; try omega)]
    rw [heap_alloc_old _ _ (by simp; try omega)]
    rw [heap_alloc_old _ _ (by simp; try omega)]
    rw [heap_alloc_old _ _ (by simp; try omega)]
    rw [heap_alloc_old _ _ (by simp; try omega)]
    rw [heap_alloc_old _ _ (by simp; try omega)]
    have := heap_alloc_new w o0
    simpa using this
  have b1 : (((((((w.alloc o0).alloc o1).alloc o2).alloc o3).alloc o4).alloc o5).alloc o6).heap[w.heap.size + 1]? = some o1 := by
    rw [heap_alloc_old _ _ (by simp; try omega)]
    rw [heap_alloc_old _ _ (by simp; try omega)]
    rw [heap_alloc_old _ _ (by simp; try omega)]
    rw [heap_alloc_old _ _ (by simp; try omega)]
    rw [heap_alloc_old _ _ (by simp; try omega)]
    have := heap_alloc_new (w.alloc o0) o1
    simpa using this
  have b2 : (((((((w.alloc o0).alloc o1).alloc o2).alloc o3).alloc o4).alloc o5).alloc o6).heap[w.heap.size + 1 + 1]? = some o2 := by
    rw [heap_alloc_old _ _ (by simp; try omega)]
    rw [heap_alloc_old _ _ (by simp; try omega)]
    rw [heap_alloc_old _ _ (by simp; try omega)]
    rw [heap_alloc_old _ _ (by simp; try omega)]
    have := heap_alloc_new ((w.alloc o0).alloc o1) o2
    simpa using this
  have b3 : (((((((w.alloc o0).alloc o1).alloc o2).alloc o3).alloc o4).alloc o5).alloc o6).heap[w.heap.size + 1 + 1 + 1]? = some o3 := by
    rw [heap_alloc_old _ _ (by simp; try omega)]
    rw [heap_alloc_old _ _ (by simp; try omega)]
    rw [heap_alloc_old _ _ (by simp; try omega)]
    have := heap_alloc_new (((w.alloc o0).alloc o1).alloc o2) o3
    simpa using this
  have b4 : (((((((w.alloc o0).alloc o1).alloc o2).alloc o3).alloc o4).alloc o5).alloc o6).heap[w.heap.size + 1 + 1 + 1 + 1]? = some o4 := by
    rw [heap_alloc_old _ _ (by simp; try omega)]
    rw [heap_alloc_old _ _ (by simp; try omega)]
    have := heap_alloc_new ((((w.alloc o0).alloc o1).alloc o2).alloc o3) o4
    simpa using this
  have b5 : (((((((w.alloc o0).alloc o1).alloc o2).alloc o3).alloc o4).alloc o5).alloc o6).heap[w.heap.size + 1 + 1 + 1 + 1 + 1]? = some o5 := by
    rw [heap_alloc_old _ _ (by simp; try omega)]
    have := heap_alloc_new (((((w.alloc o0).alloc o1).alloc o2).alloc o3).alloc o4) o5
    simpa using this
  have b6 : (((((((w.alloc o0).alloc o1).alloc o2).alloc o3).alloc o4).alloc o5).alloc o6).heap[w.heap.size + 1 + 1 + 1 + 1 + 1 + 1]? = some o6 := by
    have := heap_alloc_new ((((((w.alloc o0).alloc o1).alloc o2).alloc o3).alloc o4).alloc o5) o6
    simpa using this
  exact ⟨b0, b1, b2, b3, b4, b5, b6, by go_grown⟩
def three : List RowV := [⟨1, [30, 0]⟩, ⟨2, [31, 1]⟩, ⟨1, [32, 0]⟩]
theorem fit2 {a b : Int} (ha : Fit a) (hb : Fit b) : ∀ z ∈ [a, b], Fit z := by
  intro z hz
  simp at hz
  rcases hz with rfl | rfl <;> assumption
set_option maxRecDepth 100000 in
theorem three_any (w : World) : Calls Tryz.prog 26 #[] w fun e w' => ∃ u, e = .returned u ∧ SRow rowK Any w' u three ∧ Below w.heap.size w w' := by
  go_enter Tryz.func26, Tryz.ntmps26
  go_wp2_with (go_at_call 27; refine (row_any _ _ _ _ _).mono ?_; rintro e w8 ⟨rfl, rfl⟩)
  go_ret
  obtain ⟨b0, b1, b2, b3, b4, b5, b6, hb⟩ := alloc7 w (.cells #[.int .i64 30, .int .i64 0] 3) (.cells #[.int .i64 1, .slice (some ⟨w.heap.size, 0, none⟩) 2 2] 53) (.cells #[.int .i64 31, .int .i64 1] 3) (.cells #[.int .i64 2, .slice (some ⟨w.heap.size + 1 + 1, 0, none⟩) 2 2] 53)
    (.cells #[.int .i64 32, .int .i64 0] 3) (.cells #[.int .i64 1, .slice (some ⟨w.heap.size + 1 + 1 + 1 + 1, 0, none⟩) 2 2] 53)
    (.cells #[.int .i64 1, .slice (some ⟨w.heap.size, 0, none⟩) 2 2, .int .i64 2, .slice (some ⟨w.heap.size + 1 + 1, 0, none⟩) 2 2, .int .i64 1, .slice (some ⟨w.heap.size + 1 + 1 + 1 + 1, 0, none⟩) 2 2] 53)
  refine ⟨_, rfl, ?_, hb⟩
  have r0 := ints_block [30, 0] b0 (fit2 (by unfold Fit; omega) (by unfold Fit; omega)) (by unfold maxLen; simp)
  have r1 := ints_block [31, 1] b2 (fit2 (by unfold Fit; omega) (by unfold Fit; omega)) (by unfold maxLen; simp)
  have r2 := ints_block [32, 0] b4 (fit2 (by unfold Fit; omega) (by unfold Fit; omega)) (by unfold maxLen; simp)
  refine SRow.block (K := rowK) (xs := three) [[.int .i64 1, .slice (some ⟨w.heap.size, 0, none⟩) 2 2], [.int .i64 2, .slice (some ⟨w.heap.size + 1 + 1, 0, none⟩) 2 2], [.int .i64 1, .slice (some ⟨w.heap.size + 1 + 1 + 1 + 1, 0, none⟩) 2 2]] b6 trivial rfl rfl ?_ (by unfold maxLen; simp [three])
  intro j x hj
  match j with
  | 0 => cases hj; exact ⟨_, rfl, _, rfl, r0, by unfold Fit; dsimp only; omega⟩
  | 1 => cases hj; exact ⟨_, rfl, _, rfl, r1, by unfold Fit; dsimp only; omega⟩
  | 2 => cases hj; exact ⟨_, rfl, _, rfl, r2, by unfold Fit; dsimp only; omega⟩
  | j + 3 => simp [three] at hj
theorem alloc5 (w : World) (o0 o1 o2 o3 o4 : Obj) : (((((w.alloc o0).alloc o1).alloc o2).alloc o3).alloc o4).heap[w.heap.size]? = some o0 ∧ (((((w.alloc o0).alloc o1).alloc o2).alloc o3).alloc o4).heap[w.heap.size + 1]? = some o1 ∧ (((((w.alloc o0).alloc o1).alloc o2).alloc o3).alloc o4).heap[w.heap.size + 1 + 1]? = some o2 ∧ (((((w.alloc o0).alloc o1).alloc o2).alloc o3).alloc o4).heap[w.heap.size + 1 + 1 + 1]? = some o3 ∧ (((((w.alloc o0).alloc o1).alloc o2).alloc o3).alloc o4).heap[w.heap.size + 1 + 1 + 1 + 1]? = some o4 ∧ Below w.heap.size w (((((w.alloc o0).alloc o1).alloc o2).alloc o3).alloc o4) := by
  have b0 : (((((w.alloc o0).alloc o1).alloc o2).alloc o3).alloc o4).heap[w.heap.size]? = some o0 := by
    rw [heap_alloc_old _ _ (by simp; try omega)]
    rw [heap_alloc_old _ _ (by simp; try omega)]
    rw [heap_alloc_old _ _ (by simp; try omega)]
    rw [heap_alloc_old _ _ (by simp; try omega)]
    have := heap_alloc_new w o0
    simpa using this
  have b1 : (((((w.alloc o0).alloc o1).alloc o2).alloc o3).alloc o4).heap[w.heap.size + 1]? = some o1 := by
    rw [heap_alloc_old _ _ (by simp; try omega)]
    rw [heap_alloc_old _ _ (by simp; try omega)]
    rw [heap_alloc_old _ _ (by simp; try omega)]
    have := heap_alloc_new (w.alloc o0) o1
    simpa using this
  have b2 : (((((w.alloc o0).alloc o1).alloc o2).alloc o3).alloc o4).heap[w.heap.size + 1 + 1]? = some o2 := by
    rw [heap_alloc_old _ _ (by simp; try omega)]
    rw [heap_alloc_old _ _ (by simp; try omega)]
    have := heap_alloc_new ((w.alloc o0).alloc o1) o2
    simpa using this
  have b3 : (((((w.alloc o0).alloc o1).alloc o2).alloc o3).alloc o4).heap[w.heap.size + 1 + 1 + 1]? = some o3 := by
    rw [heap_alloc_old _ _ (by simp; try omega)]
    have := heap_alloc_new (((w.alloc o0).alloc o1).alloc o2) o3
    simpa using this
  have b4 : (((((w.alloc o0).alloc o1).alloc o2).alloc o3).alloc o4).heap[w.heap.size + 1 + 1 + 1 + 1]? = some o4 := by
    have := heap_alloc_new ((((w.alloc o0).alloc o1).alloc o2).alloc o3) o4
    simpa using this
  exact ⟨b0, b1, b2, b3, b4, by go_grown⟩
def bAge : ByteArray := ⟨#[97, 103, 101]⟩
def bColour : ByteArray := ⟨#[99, 111, 108, 111, 117, 114]⟩
def bRed : ByteArray := ⟨#[114, 101, 100]⟩
def bGreen : ByteArray := ⟨#[103, 114, 101, 101, 110]⟩
def bPeople : ByteArray := ⟨#[112, 101, 111, 112, 108, 101]⟩
def peopleT (rows : List RowV) : Tbl := ⟨⟨bPeople, false, 2, [⟨bAge, 0, 120, []⟩, ⟨bColour, 0, 1, [bRed, bGreen]⟩]⟩, rows⟩
set_option maxRecDepth 100000 in
theorem people_any (C : TypeId → Nat → Prop) (v : Value) (rows : List RowV) (w : World) (h : SRow rowK C w v rows) : Calls Tryz.prog 25 #[v] w fun e w' => ∃ u, e = .returned u ∧ TblVal Any w' u (peopleT rows) ∧ Below w.heap.size w w' := by
  have HR := Lib.hid (h.mono (C' := Any) fun _ _ _ => trivial)
  obtain ⟨A1, c1, rfl, _, _⟩ := h.slice
  clear h
  go_enter Tryz.func25, Tryz.ntmps25
  go_wp2
  obtain ⟨b0, b1, b2, b3, b4, hb⟩ := alloc5 w (.cells #[.string bPeople, .bool false, .int .i64 2, .slice (some ⟨w.heap.size + 1 + 1 + 1 + 1, 0, none⟩) 2 2, .slice A1 rows.length c1] 37) (.cells #[.string bRed, .string bGreen] 9) (.cells #[.string bAge, .int .i64 0, .int .i64 120, .slice none 0 0] 25)
    (.cells #[.string bColour, .int .i64 0, .int .i64 1, .slice (some ⟨w.heap.size + 1, 0, none⟩) 2 2] 25) (.cells #[.string bAge, .int .i64 0, .int .i64 120, .slice none 0 0, .string bColour, .int .i64 0, .int .i64 1, .slice (some ⟨w.heap.size + 1, 0, none⟩) 2 2] 25)
  have t0 := (cellrow b0 0 (by simp)).1
  have t1 := (cellrow b0 1 (by simp)).1
  have t2 := (cellrow b0 2 (by simp)).1
  have t3 := (cellrow b0 3 (by simp)).1
  have t4 := (cellrow b0 4 (by simp)).1
  have HRF := HR.out.below hb
  have hws : SRow strK Any _ (.slice (some ⟨w.heap.size + 1, 0, none⟩) 2 2) [bRed, bGreen] := SRow.block (K := strK) (xs := [bRed, bGreen]) [[.string bRed], [.string bGreen]] b1 trivial rfl rfl (fun j x hj => by
    match j with
    | 0 => cases hj; exact ⟨_, rfl, rfl, by decide⟩
    | 1 => cases hj; exact ⟨_, rfl, rfl, by decide⟩
    | j + 2 => simp at hj) (by unfold maxLen; simp)
  have hcs : SRow colK Any _ (.slice (some ⟨w.heap.size + 1 + 1 + 1 + 1, 0, none⟩) 2 2) (peopleT rows).sch.cols := SRow.block (K := colK) (xs := (peopleT rows).sch.cols) [[.string bAge, .int .i64 0, .int .i64 120, .slice none 0 0], [.string bColour, .int .i64 0, .int .i64 1, .slice (some ⟨w.heap.size + 1, 0, none⟩) 2 2]] b4 trivial rfl rfl (fun j x hj => by
    match j with
    | 0 => cases hj; exact ⟨_, rfl, _, rfl, SRow.nil _ _ _, by decide, by unfold Fit; dsimp only; omega, by unfold Fit; dsimp only; omega⟩
    | 1 => cases hj; exact ⟨_, rfl, _, rfl, hws, by decide, by unfold Fit; dsimp only; omega, by unfold Fit; dsimp only; omega⟩
    | j + 2 => simp [peopleT] at hj) (by unfold maxLen; simp [peopleT])
  refine bodyPost_ret (v := .agg #[.string bPeople, .bool false, .int .i64 2, .slice (some ⟨w.heap.size + 1 + 1 + 1 + 1, 0, none⟩) 2 2, .slice A1 rows.length c1]) ?_ rfl ⟨_, rfl, ⟨_, _, rfl, hcs, HRF, (show bPeople.size ≤ maxLen by decide), by unfold Fit; dsimp only [peopleT]; omega⟩, hb⟩
  simp [results, Tryz.results25, go_sem, bPeople]
end Go.Proofs.YtlocafmglficnaaGreatDoor
