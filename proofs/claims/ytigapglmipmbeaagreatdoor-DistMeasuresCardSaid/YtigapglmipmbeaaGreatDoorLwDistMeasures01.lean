/- What the library reads of the package variables, out of a row's premise; the wrap that keeps the world's shape. Masses in a slice of the call's own. Lists of masses in memory: literal blocks, lists of lists; how large lists are. The map that Make fills, and the list that it stands for. The library's contracts of maps.Keys, slices.Sorted and slices.Sort laid at this program, by the kit's tool lay-plain. slices.Sorted(maps.Keys(m)) at this program, as plain calls. dist: Make. Same of the program's dist and of the reference 08; kit.Same of masses. law 08: half, thirds and the examples that each statement asks first (printed by mkdlives.py). law 08: light (printed by mkdlight.py). -/
import Derived.Test.YtigapglmipmbeaaGreatDoorRb03
import Derived.Test.YtigapglmipmbeaaGreatDoorRows
import Derived.Lib.LaidTab
import Derived.Stop.LaidErr
import Derived.Shelf.Vars
import Derived.Handed
import Derived.ChangeAgain
import Derived.Test.YtigapglmipmbeaaGreatDoorRb11
import Derived.Maps.AppendAt
import Derived.ProofKit
import Derived.Maps.OwnSet
import Derived.Maps.StringElems
import Derived.Sort.KeysCollected
import Derived.Shelf.SlIter.Nil
import Derived.Shelf.SortM.Plain
import Derived.Shelf.SortM.SortNone
import Derived.Ground.GgzProg
import Derived.Ground.SlgmProg
import Derived.Test.YtigapglmipmbeaaGreatDoorProg
import Derived.Test.YtigapglmipmbeaaGreatDoorRb12
namespace Go.Proofs.YtigapglmipmbeaaGreatDoor
open Go.RowKit

/-- The variables that each row lists. -/
def laidL : List (String × DataW Unit) := [("math/bits.deBruijn32tab", Rows.laid_math_bits_deBruijn32tab), ("math/bits.deBruijn64tab", Rows.laid_math_bits_deBruijn64tab), ("internal/strconv.uint64pow10", Rows.laid_internal_strconv_uint64pow10), ("unicode/utf8.acceptRanges", Rows.laid_unicode_utf8_acceptRanges), ("strconv.ErrRange", Rows.laid_strconv_ErrRange), ("strconv.ErrSyntax", Rows.laid_strconv_ErrSyntax), ("unicode/utf8.first", Rows.laid_unicode_utf8_first)]
theorem pow_is : Rows.laid_internal_strconv_uint64pow10 = Lib.tabData (H := Unit) .u64 Lib.pow10Tab := by kernel_rfl
theorem res_of_laid {W : World} (h : laidMet Tryz.prog laidL W) (hs : W.ShapedOpen Tryz.prog) : Res W := by
  refine ⟨?_, ?_⟩
  · have h2 := laidMet.tail (laidMet.tail h)
    rw [pow_is] at h2
    exact Lib.tabIs_of_head (g := 1) (t := (Tryz.prog.globals[1]?.map (·.type)).getD 0) (e := 117) (n := 20) (by kernel_rfl) (by kernel_rfl) (by kernel_rfl) (by kernel_rfl) (by kernel_rfl) (by kernel_rfl) h2
  · exact cell_of_shapedOpen_int (P := Tryz.prog) (g := 0) (t := 3) (zero := #[.int .i64 0]) hs (of_decide_eq_true (by kernel_rfl)) (by kernel_rfl) rfl (by kernel_rfl) (by kernel_rfl) Tryz.underlying3
theorem int_bounds {x : Int} (h : Lit.wf (.int .i64 x) = true) : -9223372036854775808 ≤ x ∧ x ≤ 9223372036854775807 := by
  simpa [Lit.wf, IntKind.min, IntKind.max, IntKind.signed, IntKind.bits] using h

/-- The wrap for a row that lists variables, with the world's shape. -/
theorem returns_shaped {H : Type} {enc : TypeId × Value → H} {a : Assume} {C : Checked} {os : Os} {f : FuncId} {fn : Func} {s : ChangeSpec} {conds : List PathCond} {apart fresh handsOn again : Bool} {X : World → Array Value → Prop}
    (hX : ∀ (w w' : World) (args : Array Value), w.heap = w'.heap → X w args → X w' args)
    (own : ownKnob C.prog.godebug = none) (started : os.Started) (noInit : C.prog.inits.idxOf? f = none) (hfn : C.prog.funcs[f]? = some fn)
    (witness : ∃ (w : World) (tape : Tape) (i : Input), w.os = os ∧ (w.forCall tape i).Shaped C.prog ∧ i.vars = [] ∧ Input.okWide C.prog (w.forCall tape i) .any w.heap.size f i ∧
      ((s.pre enc C.prog fn conds apart (w.forCall tape i).memory i.args ∧ X (w.forCall tape i).memory i.args) ∧ sizedMet enc C.prog fn (OpenSpec.ofChange s) apart (w.forCall tape i).memory i.args) ∧ a.holds C.prog (lone (Frame.enter C.prog f i.args .normal) [] (w.forCall tape i)))
    (contract : ∀ (W : World) (base : Nat) (args : Array Value) (ds gs : List (DataW H)) (before : List MemPlace),
      (∀ (j : Nat) t v, fn.params[j]? = some t → args[j]? = some v → Value.okWide C.prog W .any base t v) →
      DataW.Whole enc C.prog fn.params.toList s.vars apart W args.toList ds gs before →
      X W args → W.ShapedOpen C.prog →
      Calls C.prog f args W fun e W' => ∃ v, e = .returned v ∧ s.post enc C.prog fn apart fresh handsOn again W args v W') :
    ReturnsInHanded a C os f .any (fun w args => (s.pre enc C.prog fn conds apart w args ∧ X w args) ∧ sizedMet enc C.prog fn (OpenSpec.ofChange s) apart w args) (s.post enc C.prog fn apart fresh handsOn again) := by
  refine returnsInHanded_of_calls own started noInit witness ?_
  intro w tape i _ hsh _ hok hpre _
  obtain ⟨_, _, _, fn', hfn', _, _, _, _, hval⟩ := hok
  have e : fn' = fn := Option.some.inj (hfn'.symm.trans hfn)
  subst e
  obtain ⟨⟨⟨ds, gs, before, hw, _⟩, hx⟩, _⟩ := hpre
  have hw' := DataW.Whole.of_heap (w' := w.forCall tape i) (by rfl) hw
  refine (contract (w.forCall tape i) w.heap.size i.args ds gs before hval hw' (hX _ _ _ (by rfl) hx) hsh).mono fun e W' ⟨v, he, hp⟩ => ?_
  subst he
  exact ChangeSpec.post_blind hp
end Go.Proofs.YtigapglmipmbeaaGreatDoor
namespace Go.Proofs.YtigapglmipmbeaaGreatDoor
open Go.RowKit Go.Shelf

def cellsM (ls : List L2) : List Value := ls.flatMap fun x => [.string x.1, .string x.2]
theorem cellsM_cons (x : L2) (l : List L2) : cellsM (x :: l) = .string x.1 :: .string x.2 :: cellsM l := rfl
theorem cellsM_append (l m : List L2) : cellsM (l ++ m) = cellsM l ++ cellsM m := by unfold cellsM; rw [List.flatMap_append]
theorem cellsM_snoc (l : List L2) (x : L2) : cellsM l ++ [.string x.1, .string x.2] = cellsM (l ++ [x]) := by rw [cellsM_append]; rfl
theorem cellsM_at : ∀ {ls : List L2} {k : Nat} {x : L2}, ls[k]? = some x → (cellsM ls)[k * 2]? = some (.string x.1) ∧ (cellsM ls)[k * 2 + 1]? = some (.string x.2)
  | [], k, x, h => by simp at h
  | y :: l, 0, x, h => by
    simp only [List.getElem?_cons_zero, Option.some.injEq] at h
    subst h
    exact ⟨rfl, rfl⟩
  | y :: l, k + 1, x, h => by
    have h2 : l[k]? = some x := by simpa using h
    rw [cellsM_cons, show (k + 1) * 2 = k * 2 + 1 + 1 by omega]
    exact cellsM_at h2
theorem infoM : (Tryz.prog.info? 30).map (fun i => (i.zero, i.size, i.bytes)) = some (some (.agg #[.string ByteArray.empty, .string ByteArray.empty]), 2, 32) := by kernel_rfl
theorem slice_shape {w : World} {base e size n : Nat} {v : Value} {us : List Value} (h : w.ownsRow base e size v n us) : ∃ A c, v = .slice A n c := by
  rcases h.2 with ⟨e1, h0⟩ | ⟨g, cap, cur, e1, _⟩
  · exact ⟨none, 0, by rw [e1, h0]⟩
  · exact ⟨_, _, e1⟩
theorem owns_base {w : World} {base base' e size n : Nat} {v : Value} {us : List Value} (h : w.ownsRow base e size v n us) (hb : base' ≤ base) : w.ownsRow base' e size v n us := by
  refine ⟨h.1, ?_⟩
  rcases h.2 with h2 | ⟨g, cap, cur, e1, h3, h4⟩
  · exact .inl h2
  · exact .inr ⟨g, cap, cur, e1, Nat.le_trans hb h3, h4⟩
/-- A slice of the call's own that holds masses. -/
def OwnM (base : Nat) (w : World) (v : Value) (ls : List L2) : Prop := w.ownsRow base 30 2 v ls.length (cellsM ls)
theorem OwnM.nil (base : Nat) (w : World) : OwnM base w (.slice none 0 0) [] := World.ownsRow_nil _ _ _ _
theorem OwnM.row {base : Nat} {w : World} {v : Value} {ls : List L2} (h : OwnM base w v ls) (hl : ls.length ≤ 1000) : LRow w v ls := by
  rcases h.2 with ⟨e, h0⟩ | ⟨g, cap, cur, e, hb, hh, h1, h2, _⟩
  · subst e
    have : ls = [] := List.eq_nil_of_length_eq_zero h0
    subst this
    exact LRow.nil _ _ _
  · subst e
    refine ⟨_, _, rfl, hl, fun _ => ⟨g, 0, rfl, (Array.getElem?_eq_some_iff.1 hh).1, fun j x hj => ?_⟩⟩
    obtain ⟨c0, c1⟩ := cellsM_at hj
    have r0 := World.ownsRow.cells h (g := g) rfl _ _ c0
    have r1 := World.ownsRow.cells h (g := g) rfl _ _ c1
    rw [show (⟨g, 0, none⟩ : Addr).add (j * 2) = ⟨g, 0 + j * 2, none⟩ by unfold Addr.add; split <;> simp_all] at r0
    rw [show (⟨g, 0, none⟩ : Addr).add (j * 2 + 1) = ⟨g, 0 + (j * 2 + 1), none⟩ by unfold Addr.add; split <;> simp_all] at r1
    exact ⟨r0, r1⟩
theorem OwnM.slice {base : Nat} {w : World} {v : Value} {ls : List L2} (h : OwnM base w v ls) : ∃ A c, v = .slice A ls.length c := by
  rcases h.2 with ⟨e, h0⟩ | ⟨g, cap, cur, e, _⟩
  · exact ⟨none, 0, by rw [e, h0]⟩
  · exact ⟨_, _, e⟩
theorem OwnM.later {base : Nat} {w w' : World} {v : Value} {ls : List L2} (h : OwnM base w v ls) (hb : Below w.heap.size w w') : OwnM base w' v ls := by
  have hg : w.grownBy w' none := ⟨hb.os, hb.tape, hb.output, hb.size, fun k hk _ => hb.block k hk⟩
  refine World.ownsRow.kept h hg ?_
  cases v.ownBlock with
  | none => exact .inl rfl
  | some g => exact .inr (by simp)
theorem cell_two_new (w : World) (x y : Value) (t : TypeId) : ∀ j u, [x, y][j]? = some u → (w.alloc (.cells #[x, y] t)).cell? ((⟨w.heap.size, 0, none⟩ : Addr).add j) = some u := by
  intro j u hj
  match j, hj with
  | 0, hj =>
    simp at hj
    subst hj
    simp [Addr.add]
  | 1, hj =>
    simp at hj
    subst hj
    simp [Addr.add]
theorem grow_nw {w W W' : World} (h : NW w W) (hr : Res w) {row : Option Nat} (hg : W.grownBy W' row) (hrow : ∀ r, row = some r → w.heap.size ≤ r) : NW w W' := by
  have hb : Below w.heap.size w W' := h.below.grown hg h.below.size hrow
  exact ⟨hb, hr.below hb⟩
theorem grown_none' {w w' : World} (h : Below w.heap.size w w') (row : Option Nat) : w.grownBy w' row := ⟨h.os, h.tape, h.output, h.size, fun k hk _ => h.block k hk⟩
end Go.Proofs.YtigapglmipmbeaaGreatDoor
namespace Go.Proofs.YtigapglmipmbeaaGreatDoor
open Go.RowKit Go.Shelf

theorem LRow.ofBlk {w : World} {b : Nat} {t : TypeId} {ls : List L2} {n c : Nat} (h : Blk w b t (cellsM ls).toArray) (hn : n = ls.length) (hl : ls.length ≤ 1000) : LRow w (.slice (some ⟨b, 0, none⟩) n c) ls := by
  subst hn
  refine ⟨_, _, rfl, hl, fun _ => ⟨b, 0, rfl, h.lt, fun j x hj => ?_⟩⟩
  obtain ⟨c0, c1⟩ := cellsM_at hj
  exact ⟨by rw [h.cell, Nat.zero_add]; simpa using c0, by rw [h.cell, Nat.zero_add]; simpa using c1⟩
/-- A slice of masses of any length. -/
def LRowW (w : World) (v : Value) (ls : List L2) : Prop :=
  ∃ A c, v = .slice A ls.length c ∧ ls.length ≤ maxLen ∧ (0 < ls.length → ∃ b o, A = some ⟨b, o, none⟩ ∧ b < w.heap.size ∧
    ∀ (j : Nat) (x : L2), ls[j]? = some x → w.cell? ⟨b, o + j * 2, none⟩ = some (.string x.1) ∧ w.cell? ⟨b, o + j * 2 + 1, none⟩ = some (.string x.2))
theorem LRowW.below {w w' : World} {v : Value} {ls : List L2} (h : LRowW w v ls) (hb : Below w.heap.size w w') : LRowW w' v ls := by
  obtain ⟨A, c, e, h1, h2⟩ := h
  refine ⟨A, c, e, h1, fun h0 => ?_⟩
  obtain ⟨b, o, e2, hlt, hc⟩ := h2 h0
  refine ⟨b, o, e2, Nat.lt_of_lt_of_le hlt hb.size, fun j x hj => ?_⟩
  obtain ⟨c0, c1⟩ := hc j x hj
  exact ⟨by rw [hb.cell (p := ⟨b, o + j * 2, none⟩) hlt]; exact c0, by rw [hb.cell (p := ⟨b, o + j * 2 + 1, none⟩) hlt]; exact c1⟩
theorem LRow.wide {w : World} {v : Value} {ls : List L2} (h : LRow w v ls) : LRowW w v ls := by
  obtain ⟨A, c, e, h1, h2⟩ := h
  exact ⟨A, c, e, by unfold maxLen; omega, h2⟩
theorem LRowW.row {w : World} {v : Value} {ls : List L2} (h : LRowW w v ls) (hl : ls.length ≤ 1000) : LRow w v ls := by
  obtain ⟨A, c, e, _, h2⟩ := h
  exact ⟨A, c, e, hl, h2⟩
theorem LRowW.at {w W : World} {v : Value} {ls : List L2} (h : LRowW w v ls) (hb : Below w.heap.size w W) {k : Nat} {x : L2} (hx : ls[k]? = some x) :
    ∃ b o c, v = .slice (some ⟨b, o, none⟩) ls.length c ∧ b < W.heap.size ∧ W.cell? ⟨b, o + k * 2, none⟩ = some (.string x.1) ∧ W.cell? ⟨b, o + k * 2 + 1, none⟩ = some (.string x.2) := by
  obtain ⟨A, c, rfl, _, hc⟩ := h
  obtain ⟨b, o, rfl, hlt, hcell⟩ := hc (by have := (List.getElem?_eq_some_iff.1 hx).1; omega)
  obtain ⟨c0, c1⟩ := hcell k x hx
  exact ⟨b, o, c, rfl, Nat.lt_of_lt_of_le hlt hb.size, by rw [hb.cell (p := ⟨b, o + k * 2, none⟩) hlt]; exact c0, by rw [hb.cell (p := ⟨b, o + k * 2 + 1, none⟩) hlt]; exact c1⟩
/-- A slice of slices of masses. -/
def LLRow (w : World) (v : Value) (lss : List (List L2)) : Prop := ∃ b c, v = .slice (some ⟨b, 0, none⟩) lss.length c ∧ b < w.heap.size ∧ lss.length ≤ 8 ∧
  ∀ (j : Nat) (ls : List L2), lss[j]? = some ls → ∃ u, w.cell? ⟨b, j, none⟩ = some u ∧ LRowW w u ls
theorem LLRow.ofBlk {w : World} {b : Nat} {t : TypeId} {vs : List (Value × List L2)} {n c : Nat} (h : Blk w b t (vs.map (·.1)).toArray) (hn : n = vs.length) (hl : vs.length ≤ 8) (hv : ∀ x ∈ vs, LRowW w x.1 x.2) : LLRow w (.slice (some ⟨b, 0, none⟩) n c) (vs.map (·.2)) := by
  subst hn
  refine ⟨b, c, by rw [List.length_map], h.lt, by rw [List.length_map]; exact hl, fun j ls hj => ?_⟩
  rw [List.getElem?_map] at hj
  cases hx : vs[j]? with
  | none => rw [hx] at hj; cases hj
  | some x =>
    rw [hx] at hj
    cases hj
    exact ⟨x.1, by rw [h.cell]; simp [hx], hv x (List.mem_of_getElem? hx)⟩
/-- Whether a list has at most n masses, keys of k bytes, texts of p bytes. -/
def lightD (n k p : Nat) (ls : List L2) : Bool := decide (ls.length ≤ n) && ls.all fun x => decide (x.1.size ≤ k) && decide (x.2.size ≤ p)
theorem lightD_len {n k p : Nat} {ls : List L2} (h : ¬ ls.length ≤ n) : lightD n k p ls = false := by unfold lightD; rw [decide_eq_false h]; rfl
theorem lightD_at {n k p j : Nat} {x : L2} {ls : List L2} (hx : ls[j]? = some x) (h : ¬ (x.1.size ≤ k ∧ x.2.size ≤ p)) : lightD n k p ls = false := by
  unfold lightD
  have : ls.all (fun x => decide (x.1.size ≤ k) && decide (x.2.size ≤ p)) = false := by
    rw [List.all_eq_false]
    refine ⟨x, List.mem_of_getElem? hx, ?_⟩
    simp only [Bool.and_eq_true, decide_eq_true_eq]
    exact h
  rw [this, Bool.and_false]
theorem lightD_of {n k p : Nat} {ls : List L2} (h : ls.length ≤ n) (h2 : ∀ (j : Nat) x, ls[j]? = some x → x.1.size ≤ k ∧ x.2.size ≤ p) : lightD n k p ls = true := by
  unfold lightD
  rw [decide_eq_true h, Bool.true_and, List.all_eq_true]
  intro x hx
  obtain ⟨j, hj⟩ := List.getElem?_of_mem hx
  have := h2 j x hj
  simp [this.1, this.2]
theorem lightD_iff {n k p : Nat} {ls : List L2} : lightD n k p ls = true ↔ ls.length ≤ n ∧ ∀ x ∈ ls, x.1.size ≤ k ∧ x.2.size ≤ p := by
  unfold lightD
  rw [Bool.and_eq_true, decide_eq_true_eq, List.all_eq_true]
  simp only [Bool.and_eq_true, decide_eq_true_eq]
def lightsD (n k p : Nat) (lss : List (List L2)) : Bool := lss.all (lightD n k p)
theorem lightsD_at {n k p j : Nat} {ls : List L2} {lss : List (List L2)} (hx : lss[j]? = some ls) (h : lightD n k p ls = false) : lightsD n k p lss = false := by
  unfold lightsD
  rw [List.all_eq_false]
  exact ⟨ls, List.mem_of_getElem? hx, by rw [h]; decide⟩
theorem lightsD_of {n k p : Nat} {lss : List (List L2)} (h : ∀ (j : Nat) ls, lss[j]? = some ls → lightD n k p ls = true) : lightsD n k p lss = true := by
  unfold lightsD
  rw [List.all_eq_true]
  intro ls hl
  obtain ⟨j, hj⟩ := List.getElem?_of_mem hl
  exact h j ls hj
end Go.Proofs.YtigapglmipmbeaaGreatDoor
namespace Go.Proofs.YtigapglmipmbeaaGreatDoor
open Go.RowKit Go.Maps Go.Sort Go.Shelf
open Lim

theorem hasT_cons (y : L2) (l : List L2) (k : ByteArray) : hasT (y :: l) k = (decide (y.1 = k) || hasT l k) := by
  conv => lhs; unfold hasT
  by_cases h : y.1 = k
  · rw [if_pos h, decide_eq_true h]; rfl
  · rw [if_neg h, decide_eq_false h]; rfl
theorem atT_cons (y : L2) (l : List L2) (k : ByteArray) : atT (y :: l) k = if y.1 = k then y.2 else atT l k := by
  conv => lhs; unfold atT
theorem asc_cons {y : L2} {l : List L2} : Asc ((y :: l).map (·.1)) ↔ (∀ z ∈ l, ltK y.1 z.1 = true) ∧ Asc (l.map (·.1)) := by
  unfold Asc
  rw [List.map_cons, List.pairwise_cons]
  constructor
  · rintro ⟨h1, h2⟩; exact ⟨fun z hz => h1 _ (List.mem_map_of_mem hz), h2⟩
  · rintro ⟨h1, h2⟩
    refine ⟨fun k hk => ?_, h2⟩
    obtain ⟨z, hz, rfl⟩ := List.mem_map.1 hk
    exact h1 z hz
theorem hasT_mem {l : List L2} {k : ByteArray} : hasT l k = true ↔ ∃ z ∈ l, z.1 = k := by rw [hasT_iff, List.mem_map]
theorem ltK_ne {a b : ByteArray} (h : ltK a b = true) : a ≠ b := fun e => by rw [e, ltK_irrefl] at h; cases h
theorem ins_new : ∀ {a : List L2} {x : L2}, Asc (a.map (·.1)) → hasT a x.1 = false → ∃ b, insX a x = .ok b ∧ Asc (b.map (·.1)) ∧ b.length = a.length + 1 ∧ ∀ k, hasT b k = (decide (x.1 = k) || hasT a k) ∧ atT b k = (if x.1 = k then x.2 else atT a k)
  | [], x, _, _ => ⟨[x], rfl, by unfold Asc; simp, rfl, fun k => ⟨by rw [hasT_cons], by rw [atT_cons]⟩⟩
  | y :: l, x, ha, hh => by
    obtain ⟨h1, h2⟩ := asc_cons.1 ha
    rw [hasT_cons, Bool.or_eq_false_iff] at hh
    have hne : y.1 ≠ x.1 := of_decide_eq_false hh.1
    unfold insX
    cases hl : ltK y.1 x.1 with
    | true =>
      rw [if_pos rfl]
      obtain ⟨b, eb, hb, hbl, hk⟩ := ins_new h2 hh.2
      rw [eb]
      refine ⟨y :: b, rfl, asc_cons.2 ⟨fun z hz => ?_, hb⟩, by simp [hbl], fun k => ?_⟩
      · have hz2 : hasT b z.1 = true := hasT_mem.2 ⟨z, hz, rfl⟩
        rw [(hk z.1).1, Bool.or_eq_true] at hz2
        rcases hz2 with h | h
        · rw [← of_decide_eq_true h]; exact hl
        · obtain ⟨u, hu, e⟩ := hasT_mem.1 h
          rw [← e]; exact h1 u hu
      · rw [hasT_cons, hasT_cons, atT_cons, atT_cons, (hk k).1, (hk k).2]
        refine ⟨by cases decide (y.1 = k) <;> cases decide (x.1 = k) <;> rfl, ?_⟩
        by_cases e : y.1 = k
        · rw [if_pos e, if_pos e, if_neg (fun e2 => hne (e.trans e2.symm))]
        · rw [if_neg e, if_neg e]
    | false =>
      rw [if_neg (by decide), if_neg hne]
      have hlt := ltK_total hl hne
      refine ⟨x :: y :: l, rfl, asc_cons.2 ⟨fun z hz => ?_, ha⟩, rfl, fun k => ⟨by rw [hasT_cons], by rw [atT_cons]⟩⟩
      rcases List.mem_cons.1 hz with rfl | hz
      · exact hlt
      · exact ltK_trans hlt (h1 z hz)
def setT (a : List L2) (k s : ByteArray) : List L2 := a.map fun y => if y.1 = k then (y.1, s) else y
theorem setT_keys (a : List L2) (k s : ByteArray) : (setT a k s).map (·.1) = a.map (·.1) := by
  unfold setT
  rw [List.map_map]
  refine List.map_congr_left fun y _ => ?_
  show (if y.1 = k then (y.1, s) else y).1 = y.1
  split <;> rfl
theorem setT_has (a : List L2) (k s j : ByteArray) : hasT (setT a k s) j = hasT a j := by
  rw [Bool.eq_iff_iff, hasT_iff, hasT_iff, setT_keys]
theorem setT_at : ∀ {a : List L2} {k s j : ByteArray}, hasT a j = true → atT (setT a k s) j = if k = j then s else atT a j
  | [], k, s, j, h => by cases h
  | y :: l, k, s, j, h => by
    show atT ((if y.1 = k then (y.1, s) else y) :: setT l k s) j = _
    rw [atT_cons, atT_cons]
    by_cases e : y.1 = k
    · rw [if_pos e]
      show (if y.1 = j then s else _) = _
      by_cases e2 : y.1 = j
      · rw [if_pos e2, if_pos (e.symm.trans e2)]
      · have hk : ¬ k = j := fun e3 => e2 (e.trans e3)
        rw [hasT_cons, decide_eq_false e2, Bool.false_or] at h
        rw [if_neg e2, if_neg e2, if_neg hk, setT_at h, if_neg hk]
    · rw [if_neg e]
      by_cases e2 : y.1 = j
      · have hk : ¬ k = j := fun e3 => e (e2.trans e3.symm)
        rw [if_pos e2, if_pos e2, if_neg hk]
      · rw [hasT_cons, decide_eq_false e2, Bool.false_or] at h
        rw [if_neg e2, if_neg e2]
        exact setT_at h
theorem setT_none {a : List L2} {k s : ByteArray} (h : ∀ z ∈ a, z.1 ≠ k) : setT a k s = a := by
  unfold setT
  conv => rhs; rw [← List.map_id a]
  exact List.map_congr_left fun y hy => if_neg (h y hy)
theorem ins_old : ∀ {a : List L2} {x : L2}, Asc (a.map (·.1)) → hasT a x.1 = true → insX a x = (match plX (atT a x.1) x.2 with | .error n => .error n | .ok s => .ok (setT a x.1 s))
  | [], x, _, h => by cases h
  | y :: l, x, ha, hh => by
    obtain ⟨h1, h2⟩ := asc_cons.1 ha
    unfold insX
    cases hl : ltK y.1 x.1 with
    | true =>
      have hne := ltK_ne hl
      rw [hasT_cons, decide_eq_false hne, Bool.false_or] at hh
      rw [if_pos rfl, atT_cons, if_neg hne, ins_old h2 hh]
      cases plX (atT l x.1) x.2 with
      | error n => rfl
      | ok s =>
        show Except.ok (y :: setT l x.1 s) = Except.ok ((if y.1 = x.1 then (y.1, s) else y) :: setT l x.1 s)
        rw [if_neg hne]
    | false =>
      rw [if_neg (by decide)]
      by_cases e : y.1 = x.1
      · rw [if_pos e, atT_cons, if_pos e]
        cases plX y.2 x.2 with
        | error n => rfl
        | ok s =>
          show Except.ok ((y.1, s) :: l) = Except.ok ((if y.1 = x.1 then (y.1, s) else y) :: setT l x.1 s)
          rw [if_pos e, setT_none fun z hz e2 => ltK_ne (h1 z hz) (e.trans e2.symm)]
      · exfalso
        have hlt := ltK_total hl e
        obtain ⟨z, hz, hk⟩ := hasT_mem.1 hh
        rcases List.mem_cons.1 hz with rfl | hz
        · exact e hk
        · exact ltK_ne (ltK_trans hlt (h1 z hz)) hk.symm
/-! ### the map -/
def mKey (k : ByteArray) : Lit := .string k.data.toList
theorem mKey_inj {a b : ByteArray} (h : mKey a = mKey b) : a = b := by
  unfold mKey at h
  injection h with h
  exact bytes_ext h
theorem mKey_isKey (a : ByteArray) : WideAt.IsKeyLit (mKey a) := trivial
theorem lawK : Keyed Tryz.prog 9 := string_keyed Tryz.underlying9
theorem keyOfK {s : ByteArray} (hs : s.size ≤ maxLen) : keyOf Tryz.prog 9 (.string s) = some (mKey s) := by
  simp [keyOf, mapKey, Tryz.underlying9, hs, mKey]
theorem zeroNum (w : World) : (zeroValue 23).run Tryz.prog w = .ok (.string ByteArray.empty) w := by kernel_rfl
structure RelM (A : DataW Unit) (a : List L2) : Prop where
  has : ∀ k, Maps.has A (mKey k) = hasT a k
  text : ∀ k, hasT a k = true → A.atKey (mKey k) (.lit (.string [])) = .lit (.string (atT a k).data.toList)
  asc : Asc (a.map (·.1))
theorem RelM.nil : RelM (.map []) [] := ⟨fun _ => rfl, (fun _ h => by cases h), List.Pairwise.nil⟩
theorem RelM.fresh {A : DataW Unit} {a : List L2} {x : L2} (h : RelM A a) (hm : IsMap A) (hx : hasT a x.1 = false) : ∃ b, insX a x = .ok b ∧ b.length = a.length + 1 ∧ RelM (A.put (mKey x.1) (.lit (.string x.2.data.toList))) b := by
  obtain ⟨b, eb, hb, hbl, hk⟩ := ins_new h.asc hx
  refine ⟨b, eb, hbl, fun k => ?_, fun k hk2 => ?_, hb⟩
  · rw [(hk k).1]
    by_cases e : x.1 = k
    · subst e; rw [has_put_same hm (mKey_isKey _), decide_eq_true rfl]; rfl
    · rw [has_put_other (fun e' => e (mKey_inj e').symm), h.has, decide_eq_false e]; rfl
  · rw [(hk k).2]
    by_cases e : x.1 = k
    · subst e; rw [atKey_put_same hm (mKey_isKey _), if_pos rfl]
    · rw [(hk k).1, decide_eq_false e, Bool.false_or] at hk2
      rw [atKey_put_other (fun e' => e (mKey_inj e').symm), if_neg e, h.text k hk2]
theorem RelM.over {A : DataW Unit} {a : List L2} {k s : ByteArray} (h : RelM A a) (hm : IsMap A) (hx : hasT a k = true) : RelM (A.put (mKey k) (.lit (.string s.data.toList))) (setT a k s) := by
  refine ⟨fun j => ?_, fun j hj => ?_, by rw [setT_keys]; exact h.asc⟩
  · rw [setT_has]
    by_cases e : k = j
    · subst e; rw [has_put_same hm (mKey_isKey _), hx]
    · rw [has_put_other (fun e' => e (mKey_inj e').symm), h.has]
  · rw [setT_has] at hj
    rw [setT_at hj]
    by_cases e : k = j
    · subst e; rw [atKey_put_same hm (mKey_isKey _), if_pos rfl]
    · rw [atKey_put_other (fun e' => e (mKey_inj e').symm), if_neg e, h.text j hj]
def mkB (x : List UInt8) : ByteArray := ⟨x.toArray⟩
def rawK (ks : List ByteArray) : List (List UInt8) := ks.map fun x => x.data.toList
theorem mem_rawK {ks : List ByteArray} {x : List UInt8} : x ∈ rawK ks ↔ mkB x ∈ ks := by
  unfold rawK
  rw [List.mem_map]
  constructor
  · rintro ⟨k, hk, rfl⟩; exact hk
  · intro h; exact ⟨mkB x, h, rfl⟩
theorem asc_lt {ks : List ByteArray} (h : Asc ks) : ks.Pairwise fun x y => x.data.toList < y.data.toList := List.Pairwise.imp (fun h => ltK_iff.1 h) h
theorem rawK_sorted {ks : List ByteArray} (h : Asc ks) : (rawK ks).mergeSort (fun x y => decide (x ≤ y)) = rawK ks := by
  refine List.mergeSort_of_pairwise ?_
  unfold rawK
  rw [List.pairwise_map]
  refine (asc_lt h).imp fun {x y} hlt => ?_
  simp only [decide_eq_true_eq]
  exact List.le_of_lt hlt
theorem rawK_nodup {ks : List ByteArray} (h : Asc ks) : (rawK ks).Nodup := by
  unfold rawK
  unfold List.Nodup
  rw [List.pairwise_map]
  refine (asc_lt h).imp fun {x y} hlt e => ?_
  rw [e] at hlt
  exact List.lt_irrefl _ hlt
theorem perm_sort {l l' : List (List UInt8)} (h : l.Perm l') : l.mergeSort (fun x y => decide (x ≤ y)) = l'.mergeSort (fun x y => decide (x ≤ y)) := by
  refine List.Perm.eq_of_pairwise (le := fun x y => x ≤ y) (fun a b _ _ h1 h2 => List.le_antisymm h1 h2) ?_ ?_ (((List.mergeSort_perm _ _).trans h).trans (List.mergeSort_perm _ _).symm)
  · exact (List.pairwise_mergeSort (fun a b c h1 h2 => by simp only [decide_eq_true_eq] at *; exact List.le_trans h1 h2) (fun a b => by simp only [Bool.or_eq_true, decide_eq_true_eq]; exact List.le_total a b) l).imp fun h => of_decide_eq_true h
  · exact (List.pairwise_mergeSort (fun a b c h1 h2 => by simp only [decide_eq_true_eq] at *; exact List.le_trans h1 h2) (fun a b => by simp only [Bool.or_eq_true, decide_eq_true_eq]; exact List.le_total a b) l').imp fun h => of_decide_eq_true h
/-- The sorted keys. -/
theorem RelM.keys {A : DataW Unit} {a : List L2} {w : World} {b n : Nat} (h : RelM A a) (hown : w.ownsMap Tryz.prog 9 (plainElem Tryz.prog 23) b n A) {ss : List (List UInt8)} (hp : ss.Perm (strKeys A)) : ss.mergeSort (fun x y => decide (x ≤ y)) = rawK (a.map (·.1)) := by
  obtain ⟨l, rfl, hpw, _⟩ := hown.entries lawK
  obtain ⟨l', e, hks⟩ := hown.keysOf
  cases e
  have hperm : (rawK (a.map (·.1))).Perm (strKeys (.map l)) := by
    refine perm_strKeys hpw (fun p hp => ?_) (rawK_nodup h.asc) fun x => ?_
    · obtain ⟨v, hv⟩ := hks p hp
      obtain ⟨x, _, hx, _⟩ := keyOf_str Tryz.underlying9 hv
      exact ⟨x, hx⟩
    · rw [mem_rawK, ← hasT_iff, ← h.has]
      rfl
  rw [perm_sort (hp.trans hperm.symm), rawK_sorted h.asc]
section
variable {w : World} {b n : Nat} {D : DataW Unit} {key s : ByteArray} (hown : w.ownsMap Tryz.prog 9 (plainElem Tryz.prog 23) b n D) (hk : key.size ≤ maxLen) (hs : D.atKey (mKey key) (.lit (.string [])) = .lit (.string s.data.toList))
include hown hk hs
theorem lookS_ok {bb : Bool} (hb : Maps.has D (mKey key) = bb) : (Instr.lookup 129 (.map (some b)) (.string key) true).run Tryz.prog w = .ok (.tuple #[.string s, .bool bb]) w := by
  obtain ⟨v, ps, hrun, hv⟩ := hown.look_ok lawK Tryz.underlying129 (zeroNum _) (plainElem_string Tryz.underlying23 (by decide)) (keyOfK hk)
  obtain ⟨t0, rfl, ht0, _⟩ := plainElem_string_inv Tryz.underlying23 hv
  rw [show ByteArray.empty.data.toList = [] from rfl, hs] at ht0
  simp only [Prod.mk.injEq, DataW.lit.injEq, Lit.string.injEq] at ht0
  rw [hrun, hb, bytes_ext ht0.1]
theorem lookS : (Instr.lookup 129 (.map (some b)) (.string key) false).run Tryz.prog w = .ok (.string s) w := by
  obtain ⟨v, ps, hrun, hv⟩ := hown.lookup lawK Tryz.underlying129 (zeroNum _) (plainElem_string Tryz.underlying23 (by decide)) (keyOfK hk)
  obtain ⟨t0, rfl, ht0, _⟩ := plainElem_string_inv Tryz.underlying23 hv
  rw [show ByteArray.empty.data.toList = [] from rfl, hs] at ht0
  simp only [Prod.mk.injEq, DataW.lit.injEq, Lit.string.injEq] at ht0
  rw [hrun, bytes_ext ht0.1]
end
end Go.Proofs.YtigapglmipmbeaaGreatDoor
namespace Go.Proofs.YtigapglmipmbeaaGreatDoor
open Go.Shelf
def Tryz.keysD_ren : Go.Shelf.Ren := ⟨fun | 7 => 109 | 10 => 194 | n => n, fun | 23 => 129 | 26 => 9 | 3 => 23 | 28 => 133 | 0 => 0 | 27 => 132 | 33 => 221 | 4 => 4 | n => n, fun | n => n⟩
theorem Tryz.keysD : Go.Proofs.SlLaysZ.n7 Tryz.prog Tryz.keysD_ren := {
  mixed := by kernel_rfl
  f7 := ⟨Tryz.f109.name, by decide, Tryz.func109.trans (congrArg some (by kernel_rfl))⟩
  f10 := ⟨Tryz.f194.name, by decide, Tryz.func194.trans (congrArg some (by kernel_rfl))⟩
  t0 := Tryz.underlying0
  a0 := Tryz.isAgg0
  z0 := Tryz.sizeOf0
  v0 := Tryz.zeroValue0
  t4 := Tryz.underlying4
  a4 := Tryz.isAgg4
  z4 := Tryz.sizeOf4
  v4 := Tryz.zeroValue4
  t23 := Tryz.underlying129
  a23 := Tryz.isAgg129
  z23 := Tryz.sizeOf129
  v23 := Tryz.zeroValue129
  t26 := Tryz.underlying9
  a26 := Tryz.isAgg9
  z26 := Tryz.sizeOf9
  v26 := Tryz.zeroValue9
  t27 := Tryz.underlying132
  a27 := Tryz.isAgg132
  z27 := Tryz.sizeOf132
  v27 := Tryz.zeroValue132
  t28 := Tryz.underlying133
  a28 := Tryz.isAgg133
  z28 := Tryz.sizeOf133
  v28 := Tryz.zeroValue133
  t33 := Tryz.underlying221
  a33 := Tryz.isAgg221
  z33 := Tryz.sizeOf221
  v33 := Tryz.zeroValue221 }
def Tryz.sortedD_ren : Go.Shelf.Ren := ⟨fun | 6 => 108 | 8 => 192 | 9 => 193 | 11 => 253 | 13 => 255 | 12 => 254 | 23 => 291 | 24 => 292 | 14 => 282 | 15 => 283 | 16 => 284 | 17 => 285 | 18 => 286 | 19 => 287 | 20 => 288 | 21 => 289 | 22 => 290 | 25 => 309 | 26 => 310 | 27 => 311 | 28 => 312 | 29 => 313 | 30 => 259 | 31 => 330 | n => n, fun | 26 => 9 | 28 => 133 | 24 => 24 | 0 => 0 | 3 => 3 | 37 => 265 | 48 => 299 | 50 => 117 | 4 => 4 | 40 => 292 | 39 => 291 | 45 => 204 | 5 => 5 | 9 => 9 | 51 => 317 | 55 => 321 | 57 => 337 | 58 => 338 | 33 => 221 | n => n, fun | n => n⟩
theorem Tryz.sortedD : Go.Proofs.SlLaysZ.n6 Tryz.prog Tryz.sortedD_ren := {
  mixed := by kernel_rfl
  f6 := ⟨Tryz.f108.name, by decide, Tryz.func108.trans (congrArg some (by kernel_rfl))⟩
  f8 := ⟨Tryz.f192.name, by decide, Tryz.func192.trans (congrArg some (by kernel_rfl))⟩
  f11 := ⟨Tryz.f253.name, by decide, Tryz.func253.trans (congrArg some (by kernel_rfl))⟩
  t0 := Tryz.underlying0
  a0 := Tryz.isAgg0
  z0 := Tryz.sizeOf0
  v0 := Tryz.zeroValue0
  t24 := Tryz.underlying24
  a24 := Tryz.isAgg24
  z24 := Tryz.sizeOf24
  v24 := Tryz.zeroValue24
  t26 := Tryz.underlying9
  a26 := Tryz.isAgg9
  z26 := Tryz.sizeOf9
  v26 := Tryz.zeroValue9
  t28 := Tryz.underlying133
  a28 := Tryz.isAgg133
  z28 := Tryz.sizeOf133
  v28 := Tryz.zeroValue133
  i26 := by kernel_rfl }
def Tryz.sortD_ren : Go.Shelf.Ren := ⟨fun | 6 => 193 | 8 => 255 | 9 => 254 | 19 => 291 | 20 => 292 | 21 => 282 | 22 => 283 | 23 => 284 | 24 => 285 | 25 => 286 | 26 => 287 | 27 => 288 | 28 => 289 | 29 => 290 | 36 => 309 | 31 => 310 | 32 => 311 | 37 => 312 | 38 => 313 | 39 => 259 | 41 => 330 | n => n, fun | 27 => 24 | 29 => 9 | 3 => 3 | 32 => 265 | 26 => 24 | 0 => 0 | 44 => 299 | 46 => 117 | 4 => 4 | 36 => 292 | 35 => 291 | 41 => 204 | 5 => 5 | 9 => 9 | 53 => 317 | 57 => 321 | 63 => 337 | 64 => 338 | n => n, fun | n => n⟩
theorem Tryz.sortD : Go.Proofs.SlLaysM.n6 Tryz.prog Tryz.sortD_ren := {
  mixed := by kernel_rfl
  f6 := ⟨Tryz.f193.name, by decide, Tryz.func193.trans (congrArg some (by kernel_rfl))⟩
  f8 := Tryz.func255.trans (congrArg some (by kernel_rfl))
  f9 := ⟨Tryz.f254.name, by decide, Tryz.func254.trans (congrArg some (by kernel_rfl))⟩
  f19 := Tryz.func291.trans (congrArg some (by kernel_rfl))
  f20 := Tryz.func292.trans (congrArg some (by kernel_rfl))
  f21 := ⟨Tryz.f282.name, by decide, Tryz.func282.trans (congrArg some (by kernel_rfl))⟩
  f22 := ⟨Tryz.f283.name, by decide, Tryz.func283.trans (congrArg some (by kernel_rfl))⟩
  f23 := ⟨Tryz.f284.name, by decide, Tryz.func284.trans (congrArg some (by kernel_rfl))⟩
  f24 := ⟨Tryz.f285.name, by decide, Tryz.func285.trans (congrArg some (by kernel_rfl))⟩
  f25 := ⟨Tryz.f286.name, by decide, Tryz.func286.trans (congrArg some (by kernel_rfl))⟩
  f26 := ⟨Tryz.f287.name, by decide, Tryz.func287.trans (congrArg some (by kernel_rfl))⟩
  f27 := ⟨Tryz.f288.name, by decide, Tryz.func288.trans (congrArg some (by kernel_rfl))⟩
  f28 := ⟨Tryz.f289.name, by decide, Tryz.func289.trans (congrArg some (by kernel_rfl))⟩
  f29 := ⟨Tryz.f290.name, by decide, Tryz.func290.trans (congrArg some (by kernel_rfl))⟩
  f31 := Tryz.func310.trans (congrArg some (by kernel_rfl))
  f32 := Tryz.func311.trans (congrArg some (by kernel_rfl))
  f36 := ⟨Tryz.f309.name, by decide, Tryz.func309.trans (congrArg some (by kernel_rfl))⟩
  f37 := ⟨Tryz.f312.name, by decide, Tryz.func312.trans (congrArg some (by kernel_rfl))⟩
  f38 := ⟨Tryz.f313.name, by decide, Tryz.func313.trans (congrArg some (by kernel_rfl))⟩
  f39 := ⟨Tryz.f259.name, by decide, Tryz.func259.trans (congrArg some (by kernel_rfl))⟩
  f41 := ⟨Tryz.f330.name, by decide, Tryz.func330.trans (congrArg some (by kernel_rfl))⟩
  t0 := Tryz.underlying0
  a0 := Tryz.isAgg0
  z0 := Tryz.sizeOf0
  v0 := Tryz.zeroValue0
  t3 := Tryz.underlying3
  a3 := Tryz.isAgg3
  z3 := Tryz.sizeOf3
  v3 := Tryz.zeroValue3
  t4 := Tryz.underlying4
  a4 := Tryz.isAgg4
  z4 := Tryz.sizeOf4
  v4 := Tryz.zeroValue4
  t5 := Tryz.underlying5
  a5 := Tryz.isAgg5
  z5 := Tryz.sizeOf5
  v5 := Tryz.zeroValue5
  t9 := Tryz.underlying9
  a9 := Tryz.isAgg9
  z9 := Tryz.sizeOf9
  v9 := Tryz.zeroValue9
  t26 := Tryz.underlying24
  a26 := Tryz.isAgg24
  z26 := Tryz.sizeOf24
  v26 := Tryz.zeroValue24
  t27 := Tryz.underlying24
  a27 := Tryz.isAgg24
  z27 := Tryz.sizeOf24
  v27 := Tryz.zeroValue24
  t29 := Tryz.underlying9
  a29 := Tryz.isAgg9
  z29 := Tryz.sizeOf9
  v29 := Tryz.zeroValue9
  t32 := Tryz.underlying265
  a32 := Tryz.isAgg265
  z32 := Tryz.sizeOf265
  v32 := Tryz.zeroValue265
  t35 := Tryz.underlying291
  a35 := Tryz.isAgg291
  z35 := Tryz.sizeOf291
  v35 := Tryz.zeroValue291
  t36 := Tryz.underlying292
  a36 := Tryz.isAgg292
  z36 := Tryz.sizeOf292
  v36 := Tryz.zeroValue292
  t41 := Tryz.underlying204
  a41 := Tryz.isAgg204
  z41 := Tryz.sizeOf204
  v41 := Tryz.zeroValue204
  t44 := Tryz.underlying299
  a44 := Tryz.isAgg299
  z44 := Tryz.sizeOf299
  v44 := Tryz.zeroValue299
  t46 := Tryz.underlying117
  a46 := Tryz.isAgg117
  z46 := Tryz.sizeOf117
  v46 := Tryz.zeroValue117
  t53 := Tryz.underlying317
  a53 := Tryz.isAgg317
  z53 := Tryz.sizeOf317
  v53 := Tryz.zeroValue317
  t57 := Tryz.underlying321
  a57 := Tryz.isAgg321
  z57 := Tryz.sizeOf321
  v57 := Tryz.zeroValue321
  t63 := Tryz.underlying337
  a63 := Tryz.isAgg337
  z63 := Tryz.sizeOf337
  v63 := Tryz.zeroValue337
  t64 := Tryz.underlying338
  a64 := Tryz.isAgg338
  z64 := Tryz.sizeOf338
  v64 := Tryz.zeroValue338 }
end Go.Proofs.YtigapglmipmbeaaGreatDoor
namespace Go.Proofs.YtigapglmipmbeaaGreatDoor
open Go.RowKit Go.Maps Go.Sort Go.Shelf

theorem sortsD (m : Nat) : AnyZ.SortsIn Tryz.prog Tryz.sortedD_ren Fence.wide m :=
  ⟨fun blk off cap ss W hH hblk hsz => callsIn_wide.2 (AnyM.slices_Sort_string Tryz.sortD blk off cap ss W hH hblk hsz),
   fun p cap W => callsIn_wide.2 (AnyM.slices_Sort_string_none Tryz.sortD p cap W)⟩
theorem mapsKeysN (mb : Option Nat) (W : World) : Calls Tryz.prog 109 #[.map mb] W fun e w' => e = .returned (.func (.func 194) #[] #[.pointer (some ⟨W.heap.size, 0, none⟩)]) ∧ w' = W.alloc (.cells #[.map mb] 129) :=
  (callsIn_wide (n := 5)).1 (AnyZ.keys_in Tryz.keysD Fence.wide 5 trivial rfl mb W)
set_option maxHeartbeats 1000000 in
theorem sortedN {H : Type} (b nn : Nat) (D0 : DataW H) (R : Value → Option (DataW H × List MemPlace)) (w : World) (hown : w.ownsMap Tryz.prog 9 R b nn D0) (hmax : Maps.size D0 ≤ maxLen) (hbytes : Maps.size D0 * 16 ≤ 140737488355328) :
    Calls Tryz.prog 108 #[.func (.func 194) #[] #[.pointer (some ⟨w.heap.size, 0, none⟩)]] (w.alloc (.cells #[.map (some b)] 129)) fun e w' => ∃ (v : Value) (ss : List (List UInt8)), e = .returned v ∧ ss.Perm (strKeys D0) ∧
      w'.ownsRow (w.alloc (.cells #[.map (some b)] 129)).heap.size 9 1 v ss.length ((ss.mergeSort (fun x y => decide (x ≤ y))).map encStr) ∧ (v = .slice none 0 0 ↔ ss = []) ∧ Below (w.alloc (.cells #[.map (some b)] 129)).heap.size (w.alloc (.cells #[.map (some b)] 129)) w' := by
  refine (callsIn_wide (n := 5)).1 ?_
  have hbl := hown.lt
  have hseq : SeqGives Fence.wide 2 Tryz.prog 194 #[.pointer (some ⟨w.heap.size, 0, none⟩)] encStr (fun ss => ss.Perm (strKeys D0)) (Maps.size D0) (w.alloc (.cells #[.map (some b)] 129)) :=
    AnyZ.keys_gives (ρ := Tryz.keysD_ren) { Tryz.keysD with } Fence.wide _ trivial rfl (by omega) w.heap.size b nn D0 _ (by simp) (by simp) (by
      obtain ⟨es, clock, hb, Ft, hs, hD⟩ := hown
      exact ⟨es, clock, (Below.heap_alloc _ _ b hbl).trans hb, Ft, hs, hD⟩)
  exact AnyZ.sorted_in Tryz.sortedD Fence.wide 5 trivial trivial trivial trivial rfl (by omega) (sortsD _) (enters_of Tryz.func193 (by kernel_rfl) rfl) 194 #[.pointer (some ⟨w.heap.size, 0, none⟩)] trivial (enters_of Tryz.func194 (by kernel_rfl) rfl) _ _ hmax hbytes _ hseq
/-- The sorted keys of the map that holds a list. -/
theorem keysN (mb n : Nat) (D : DataW Unit) (a : List L2) (w : World) (hown : w.ownsMap Tryz.prog 9 (plainElem Tryz.prog 23) mb n D) (h : RelM D a) (hn : n ≤ 1000) :
    Calls Tryz.prog 108 #[.func (.func 194) #[] #[.pointer (some ⟨w.heap.size, 0, none⟩)]] (w.alloc (.cells #[.map (some mb)] 129)) fun e w' => ∃ v, e = .returned v ∧
      w'.ownsRow (w.heap.size + 1) 9 1 v a.length (a.map fun x => Value.string x.1) ∧ Below (w.heap.size + 1) (w.alloc (.cells #[.map (some mb)] 129)) w' := by
  have hsz := hown.size_le
  refine (sortedN mb n D _ w hown (by unfold maxLen; omega) (by omega)).mono ?_
  rintro e w' ⟨v, ss, rfl, hp, hrow, _, hb⟩
  have hk := h.keys hown hp
  have hl : ss.length = a.length := by
    have := congrArg List.length hk
    unfold rawK at this
    simpa using this
  rw [hk, hl, World.size_alloc] at hrow
  rw [World.size_alloc] at hb
  refine ⟨v, rfl, ?_, hb⟩
  have e1 : (rawK (a.map (·.1))).map encStr = a.map fun x => Value.string x.1 := by
    unfold rawK
    rw [List.map_map, List.map_map]
    refine List.map_congr_left fun x _ => ?_
    simp [encStr]
  rwa [e1] at hrow
end Go.Proofs.YtigapglmipmbeaaGreatDoor
namespace Go.Proofs.YtigapglmipmbeaaGreatDoor
open Go.RowKit Go.Maps Go.Sort Go.Shelf
open Lim

attribute [local go_sem] Oper.semAt_some

theorem posL_err {x : L2} {l : List L2} (h : posE x.2 ≠ 0) : posL (x :: l) = posE x.2 := by unfold posL; rw [if_pos h]
theorem posL_go {x : L2} {l : List L2} (h : posE x.2 = 0) : posL (x :: l) = posL l := by
  conv => lhs; unfold posL
  rw [if_neg (by simpa using h)]
/-- What the map holds behind k masses. -/
structure MapI (w : World) (mb : Nat) (ls : List L2) (k : Nat) (wr : World) : Prop where
  nw : NW w wr
  hmb : w.heap.size ≤ mb
  st : ∃ (A : DataW Unit) (a : List L2), wr.ownsMap Tryz.prog 9 (plainElem Tryz.prog 23) mb k A ∧ RelM A a ∧ collX [] ls = collX a (ls.drop k) ∧ a.length ≤ k ∧ Short a
theorem short_cons {x : L2} {l : List L2} : Short (x :: l) ↔ (x.1.size ≤ 270000 ∧ x.2.size ≤ 270000) ∧ Short l := by
  unfold Short
  constructor
  · intro h; exact ⟨h x (by simp), fun y hy => h y (by simp [hy])⟩
  · rintro ⟨h1, h2⟩ y hy
    rcases List.mem_cons.1 hy with rfl | hy
    · exact h1
    · exact h2 y hy
theorem Short.ins : ∀ {a b : List L2} {x : L2}, insX a x = .ok b → Short a → x.1.size ≤ 270000 ∧ x.2.size ≤ 270000 → Short b
  | [], b, x, h, _, hx => by cases h; exact short_cons.2 ⟨hx, fun _ h => by cases h⟩
  | y :: l, b, x, h, ha, hx => by
    obtain ⟨h1, h2⟩ := short_cons.1 ha
    unfold insX at h
    split at h
    · split at h
      · cases h
      · rename_i m hm
        cases h
        exact short_cons.2 ⟨h1, Short.ins hm h2 hx⟩
    · split at h
      · split at h
        · cases h
        · rename_i s hs
          cases h
          exact short_cons.2 ⟨⟨h1.1, size_ok (plX_ok hs)⟩, h2⟩
      · cases h
        exact short_cons.2 ⟨hx, ha⟩
theorem collX_cons (a : List L2) (x : L2) (l : List L2) : collX a (x :: l) = (match insX a x with | .error n => .error n | .ok b => collX b l) := rfl
theorem short_len {s : ByteArray} (h : s.size ≤ 270000) : s.size ≤ maxLen := by unfold maxLen; omega
/-- How a list comes back: with no error, or nil with one. -/
def ResM (base : Nat) (r : Except Nat (List L2)) (e : Ending) (w' : World) : Prop := match r with
  | .error n => e = .returned (.tuple #[.slice none 0 0, .int .i64 (n : Int)])
  | .ok out => ∃ u, e = .returned (.tuple #[u, .int .i64 0]) ∧ OwnM base w' u out
set_option maxRecDepth 100000 in
set_option maxHeartbeats 16000000 in
/-- dist.Make. -/
theorem dmake_any (ls : List L2) (v : Value) (w : World) (hv : LRow w v ls) (hs : Short ls) (hr : Res w) :
    Calls Tryz.prog 25 #[v] w fun e w' => ResM w.heap.size (makeX ls) e w' ∧ Below w.heap.size w w' := by
  have HV := Lib.hid hv
  have HS := Lib.hid hs
  obtain ⟨A, c, rfl, HLEN, hcells⟩ := hv
  have N0 := Lib.hid (NW.refl hr)
  have HRS := Lib.hid hr
  have hmm := @run_makeMap Tryz.prog
  clear hr hcells hs
  generalize hm : makeX ls = mk
  have HMK := Lib.hid hm
  clear hm
  go_enter Tryz.func25, Tryz.ntmps25
  go_wp2
  go_loopw [21] (fun v21 wr => ∃ k : Nat, k ≤ ls.length ∧ v21 = .int .i64 (k : Int) ∧ Hid (posL ls = posL (ls.drop k)) ∧ Hid (NW w wr)) (fun v21 _ => ls.length - (intOf v21).toNat)
  case atStart => exact ⟨0, Nat.zero_le _, rfl, Lib.hid (by simp), N0⟩
  case round =>
    clear N0
    obtain ⟨k, hk, rfl, HE, HN⟩ := hrel
    by_cases hlt : k < ls.length
    · obtain ⟨x, hx⟩ : ∃ x, ls[k]? = some x := ⟨_, List.getElem?_eq_getElem hlt⟩
      obtain ⟨b, o, c', e', hb2, c0, c1⟩ := HV.out.at HN.out.below hx
      simp only [Value.slice.injEq, true_and] at e'
      obtain ⟨rfl, rfl⟩ := e'
      have hlt' : (k : Int) < (ls.length : Int) := by omega
      have HX := Lib.hid (HN.out.alloc (.cells #[.string x.1, .string x.2] 30))
      have HP := Lib.hid (positive_any (HS.out x (List.mem_of_getElem? hx)).2)
      have HD := Lib.hid (drop_of hx)
      have HLT := Lib.hid (And.intro hlt hlt')
      obtain ⟨f, d⟩ := x
      dsimp only at c0 c1 HX HP HD
      clear hx hlt
      by_cases h1 : posE d = 0
      · have HR := Lib.hid (show posL ls = posL (ls.drop (k + 1)) by rw [HE.out, HD.out]; exact posL_go (x := (f, d)) h1)
        rw [h1] at HP
        change Hid (Ret _ _ (.tuple #[.bool (posB d), .int .i64 0])) at HP
        clear h1
        go_wp2_with (go_at_call 106; refine (HP.out _ HX.out.res).mono ?_; rintro e w3 ⟨rfl, hb⟩; have H3 := Lib.hid (HX.out.later hb); clear hb)
        go_roundw
        case rel => exact ⟨k + 1, HLT.out.1, by go_num, HR, H3⟩
        case measure => have := HLT.out.1; simp [intOf]; omega
      · have HR := Lib.hid (show mk = .error (posE d) by
          have h2 : posL ls = posE d := by rw [HE.out, HD.out]; exact posL_err (x := (f, d)) h1
          rw [← HMK.out]
          unfold makeX
          rw [if_pos (by rw [h2]; exact h1), h2])
        have hm := ne_zero h1
        clear h1
        go_wp2_with (go_at_call 106; refine (HP.out _ HX.out.res).mono ?_; rintro e w3 ⟨rfl, hb⟩; have H3 := Lib.hid (HX.out.later hb); clear hb)
        go_ret2
        rw [HR.out]
        exact ⟨rfl, H3.out.below⟩
    · have hlt' : ¬ (k : Int) < (ls.length : Int) := by omega
      obtain rfl : k = ls.length := by omega
      have HMK2 := Lib.hid (show mk = (match collX [] ls with | .error n => .error n | .ok a => doneX a) by
        have h0 : posL ls = 0 := by
          have := HE.out
          rw [List.drop_length] at this
          exact this
        rw [← HMK.out]
        unfold makeX
        rw [if_neg (by simpa using h0)]
        rfl)
      clear hlt HMK HE
      obtain ⟨wo, rfl⟩ : ∃ wo, wo = wr := ⟨_, rfl⟩
      go_wp2
      go_loopw [38] (fun v38 wq => ∃ k : Nat, k ≤ ls.length ∧ v38 = .int .i64 (k : Int) ∧ Hid (MapI w wo.heap.size ls k wq)) (fun v38 _ => ls.length - (intOf v38).toNat)
      case atStart => exact ⟨0, Nat.zero_le _, rfl, Lib.hid ⟨HN.out.later (below_alloc (Below.refl _ _) _), HN.out.below.size, .map [], [], World.ownsMap_made _ _ _ _, RelM.nil, by simp, Nat.zero_le _, fun _ h => by cases h⟩⟩
      case round =>
        have HN0 := Lib.hid HN.out.below.size
        clear HN hlt' hmm
        obtain ⟨k, hk, rfl, HI⟩ := hrel
        obtain ⟨D, a, hown, hrel, hcoll, hal, hsa⟩ := HI.out.st
        by_cases hlt : k < ls.length
        · obtain ⟨x, hx⟩ : ∃ x, ls[k]? = some x := ⟨_, List.getElem?_eq_getElem hlt⟩
          obtain ⟨b, o, c', e', hb2, c0, c1⟩ := HV.out.at HI.out.nw.below hx
          simp only [Value.slice.injEq, true_and] at e'
          obtain ⟨rfl, rfl⟩ := e'
          have hlt' : (k : Int) < (ls.length : Int) := by omega
          have HX := Lib.hid (HI.out.nw.alloc (.cells #[.string x.1, .string x.2] 30))
          have hsx := HS.out x (List.mem_of_getElem? hx)
          have hkey := keyOfK (short_len hsx.1)
          have HCO := Lib.hid (show collX [] ls = (match insX a x with | .error n => .error n | .ok b => collX b (ls.drop (k + 1))) by rw [hcoll, drop_of hx]; rfl)
          have HLT := Lib.hid (And.intro hlt hlt')
          have hown2 := hown.alloc (.cells #[.string x.1, .string x.2] 30)
          have HMB := Lib.hid (Blk.new wr 30 #[.string x.1, .string x.2])
          have hml : wo.heap.size < wr.heap.size := hown.lt
          have hnm : k < maxLen := by unfold maxLen; omega
          have HAL := Lib.hid hal
          have him := hown.isMap
          cases hh : hasT a x.1 with
          | false =>
            obtain ⟨b', eb, hbl, hrel'⟩ := hrel.fresh him hh
            have HB := Lib.hid (show collX [] ls = collX b' (ls.drop (k + 1)) by rw [HCO.out, eb])
            have HRL := Lib.hid (And.intro hrel' (And.intro hbl (Short.ins eb hsa hsx)))
            have hhas := (hrel.has x.1).trans hh
            have hlook := lookS_ok (s := ⟨#[]⟩) hown2 (short_len hsx.1) (atKey_of_not_has hhas _) hhas
            have hvs := short_len hsx.2
            obtain ⟨f, d⟩ := x
            dsimp only at c0 c1 HX hkey hown2 HMB HRL hlook hvs
            clear hx hlt hown hrel hcoll hal hsa hsx eb hbl hrel' HCO him hh hhas
            go_wp2_with (first
              | (at_mapUpdate; refine wpList_mapUpdate_own _ rfl _ _ _ 129 rfl 9 23 lawK Tryz.underlying129 (plainElem Tryz.prog 23) wo.heap.size k D rfl hown2 hnm _ _ _ rfl rfl hkey _ [] (plainElem_string Tryz.underlying23 hvs) ?_; intro w1 hown1 hgrow1; have HO1 := Lib.hid (And.intro hown1 hgrow1); clear hown1 hgrow1))
            go_roundw
            case rel => exact ⟨k + 1, HLT.out.1, by go_num, Lib.hid ⟨grow_nw HX.out HRS.out HO1.out.2 (fun r e => by cases e; exact HN0.out), HN0.out, _, _, HO1.out.1, HRL.out.1, HB.out, by rw [HRL.out.2.1]; have := HAL.out; omega, HRL.out.2.2⟩⟩
            case measure => have := HLT.out.1; simp [intOf]; omega
          | true =>
            have hhas := (hrel.has x.1).trans hh
            have hlook := lookS_ok hown2 (short_len hsx.1) (hrel.text x.1 hh) hhas
            have hat : (atT a x.1).size ≤ 270000 := Short.atT hsa
            have HAD := Lib.hid (retPlX hat hsx.2)
            have hio := ins_old hrel.asc hh
            have HFX := Lib.hid (fun W (hW : NW w W) => hW.below)
            cases ha : plX (atT a x.1) x.2 with
            | error n =>
              rw [ha] at HAD hio
              have HR := Lib.hid (show mk = .error n by rw [HMK2.out, HCO.out, hio])
              change Hid (Ret _ _ (.tuple #[.string ⟨#[]⟩, .int .i64 (n : Int)])) at HAD
              have hm := ne_zero (exQ_err ha)
              obtain ⟨f, d⟩ := x
              dsimp only at c0 c1 HX hkey hown2 HMB hlook HAD
              clear hx hlt hown hrel hcoll hal hsa hsx HCO him hh hio ha hat hhas
              go_wp2_with (first
                | (go_at_call 107; refine (HAD.out _ HX.out.res).mono ?_; rintro e w3 ⟨rfl, hb⟩; have H3 := Lib.hid (HX.out.later hb); clear hb))
              go_ret2
              rw [HR.out]
              exact ⟨rfl, H3.out.below⟩
            | ok s =>
              rw [ha] at HAD hio
              have HB := Lib.hid (show collX [] ls = collX (setT a x.1 s) (ls.drop (k + 1)) by rw [HCO.out, hio])
              have HRL := Lib.hid (And.intro (hrel.over (s := s) him hh) (Short.ins hio hsa hsx))
              change Hid (Ret _ _ (.tuple #[.string s, .int .i64 0])) at HAD
              have hvs := short_len (size_ok (plX_ok ha))
              obtain ⟨f, d⟩ := x
              dsimp only at c0 c1 HX hkey hown2 HMB hlook HAD HRL
              clear hx hlt hown hrel hcoll hal hsa hsx HCO him hh hio ha hat hhas
              go_wp2_with (first
                | (go_at_call 107; refine (HAD.out _ HX.out.res).mono ?_; rintro e w3 ⟨rfl, hb⟩; have H3 := Lib.hid (HX.out.later hb); have hown3 := hown2.kept (grown_none' hb none) (by simp); obtain ⟨q0, q1⟩ := cells2 (HMB.out.below hb HMB.out.lt); have ql := (HMB.out.below hb HMB.out.lt).lt; clear hb hown2)
                | (at_mapUpdate; refine wpList_mapUpdate_own _ rfl _ _ _ 129 rfl 9 23 lawK Tryz.underlying129 (plainElem Tryz.prog 23) wo.heap.size k D rfl hown3 hnm _ _ _ rfl rfl hkey _ [] (plainElem_string Tryz.underlying23 hvs) ?_; intro w1 hown1 hgrow1; have HO1 := Lib.hid (And.intro hown1 hgrow1); clear hown1 hgrow1))
              go_roundw
              case rel => exact ⟨k + 1, HLT.out.1, by go_num, Lib.hid ⟨grow_nw H3.out HRS.out HO1.out.2 (fun r e => by cases e; exact HN0.out), HN0.out, _, _, HO1.out.1, HRL.out.1, HB.out, by unfold setT; rw [List.length_map]; have := HAL.out; omega, HRL.out.2⟩⟩
              case measure => have := HLT.out.1; simp [intOf]; omega
        · have hlt' : ¬ (k : Int) < (ls.length : Int) := by omega
          obtain rfl : k = ls.length := by omega
          rw [List.drop_length] at hcoll
          have HMK3 := Lib.hid (show mk = doneX a by rw [HMK2.out, hcoll]; rfl)
          have HNQ := Lib.hid HI.out.nw
          have HSA := Lib.hid (And.intro hsa hrel)
          have hal2 : a.length ≤ 1000 := by omega
          have HK := Lib.hid (keysN wo.heap.size ls.length D a wr hown hrel (by omega))
          have HKW := Lib.hid (mapsKeysN (some wo.heap.size) wr)
          have HOW := Lib.hid hown
          clear hlt HI HMK2 hcoll hown hrel hsa
          obtain ⟨wm, rfl⟩ : ∃ wm, wm = wr := ⟨_, rfl⟩
          go_wp2_with (first
            | (go_at_call 109; refine HKW.out.mono ?_; rintro e w3 ⟨rfl, hw3⟩; subst hw3)
            | (go_at_call 108; refine HK.out.mono ?_; rintro e w4 ⟨vk, rfl, hrow, hb⟩; obtain ⟨Ak, ck, rfl⟩ := slice_of_owns hrow; have HW4 := Lib.hid (And.intro hrow hb); clear hrow hb))
          have HB4 := Lib.hid (show Below wm.heap.size wm w4 from (below_alloc (Below.refl wm.heap.size wm) _).trans (HW4.out.2.mono (Nat.le_succ _)))
          have HN4 := Lib.hid (HNQ.out.later HB4.out)
          have HO4 := Lib.hid (HOW.out.kept (grown_none' HB4.out none) (by simp))
          have HR4 := Lib.hid (row_of_owns HW4.out.1).2.2.2
          have HL4 := Lib.hid HO4.out.lt
          clear HK HKW HW4 HOW HNQ HN0
          go_loopw [15, 75] (fun v15 v75 wr => ∃ (k : Nat) (A0 : Option Addr) (cc : Nat), k ≤ a.length ∧ v75 = .int .i64 (k : Int) ∧ v15 = .slice A0 (keepX (a.take k)).length cc ∧ Hid (OwnM w4.heap.size wr (.slice A0 (keepX (a.take k)).length cc) (keepX (a.take k))) ∧ Hid (Below w4.heap.size w4 wr)) (fun _ v75 _ => a.length - (intOf v75).toNat)
          case atStart => exact ⟨0, none, 0, Nat.zero_le _, rfl, rfl, Lib.hid (OwnM.nil _ _), Lib.hid (Below.refl _ _)⟩
          case round =>
            obtain ⟨k, A0, cc, hk, rfl, rfl, HO, HB⟩ := hrel
            by_cases hlt : k < a.length
            · obtain ⟨x, hx⟩ : ∃ x, a[k]? = some x := ⟨_, List.getElem?_eq_getElem hlt⟩
              obtain ⟨bk, ok, rfl, hbk, hck⟩ := HR4.out (by rw [List.length_map]; omega)
              have c0 := hck k (.string x.1) (by rw [List.getElem?_map, hx]; rfl)
              rw [← HB.out.cell (p := ⟨bk, ok + k, none⟩) hbk] at c0
              have hbk2 : bk < wr.heap.size := Nat.lt_of_lt_of_le hbk HB.out.size
              have hlt' : (k : Int) < (a.length : Int) := by omega
              have hxm := List.mem_of_getElem? hx
              have hsx := HSA.out.1 x hxm
              have hat := atT_at (ascK_of HSA.out.2.asc) ltK_irr hx rfl
              have hown := HO4.out.kept (grown_none' HB.out none) (by simp)
              have hlook := lookS hown (short_len hsx.1) (HSA.out.2.text x.1 hat.2)
              rw [hat.1] at hlook
              have TE := eq_bytes x.2 zT
              rw [zT_list] at TE
              have HLT := Lib.hid (And.intro hlt hlt')
              have HTK := Lib.hid (show keepX (a.take (k + 1)) = keepX (a.take k) ++ keepX [x] by
                unfold keepX
                rw [List.take_add_one, hx, List.filter_append]
                rfl)
              have hkl : (keepX (a.take k)).length ≤ 1000 := by
                have h1 := List.length_filter_le (fun x : L2 => decide (x.2 ≠ zT)) (a.take k)
                have h2 : (a.take k).length ≤ a.length := by rw [List.length_take]; omega
                unfold keepX
                omega
              by_cases hz : x.2 = zT
              · rw [decide_eq_true hz] at TE
                have HE := Lib.hid (show keepX (a.take (k + 1)) = keepX (a.take k) by
                  rw [HTK.out]
                  unfold keepX
                  rw [List.filter_cons_of_neg (by simpa using hz), List.filter_nil, List.append_nil])
                obtain ⟨f, d⟩ := x
                dsimp only at c0 hlook TE
                clear hlt hx hck hbk hxm hsx hat hz HTK
                go_wp2
                go_roundw
                case rel => exact ⟨k + 1, A0, cc, HLT.out.1, by go_num, by rw [HE.out], by rw [HE.out]; exact HO, HB⟩
                case measure => have := HLT.out.1; simp [intOf]; omega
              · rw [decide_eq_false hz] at TE
                have HE := Lib.hid (show keepX (a.take (k + 1)) = keepX (a.take k) ++ [x] by
                  rw [HTK.out]
                  unfold keepX
                  rw [List.filter_cons_of_pos (by simpa using hz), List.filter_nil])
                have hw4 : w4.heap.size ≤ wr.heap.size := HB.out.size
                have HOL := Lib.hid (show (wr.alloc (.cells #[.string x.1, .string x.2] 30)).ownsRow w4.heap.size 30 2 (.slice A0 (keepX (a.take k)).length cc) (keepX (a.take k)).length (cellsM (keepX (a.take k))) from HO.out.later (below_alloc (Below.refl _ _) _))
                obtain ⟨i0, hi, hz0, hz1, hz2⟩ := info_parts infoM
                obtain ⟨f, d⟩ := x
                dsimp only at c0 hlook TE HOL
                clear hlt hx hck hbk hxm hsx hat hz HTK
                generalize hkk : (keepX (a.take k)).length = kk at *
                go_wp2_with (at_builtin; refine wpList_append_own _ rfl _ _ 31 rfl w4.heap.size 30 i0 (.agg #[.string ByteArray.empty, .string ByteArray.empty]) 2 32 Tryz.underlying31 hi hz0 hz1 hz2 rfl (by decide) _ _ _ rfl HOL.out ⟨wr.heap.size, 0, none⟩ 1 1 [.string f, .string d] rfl rfl (cell_two_new _ _ _ _) (by simp [Value.oneCell']) (by unfold maxLen; omega) (by omega) (by simp; omega) ?_; intro v' w5 hown' hgrow _; obtain ⟨A5, c5, rfl⟩ := slice_shape hown'; have HO5 := Lib.hid (And.intro hown' hgrow); clear hown' hgrow)
                go_roundw
                case rel =>
                  have e1 : (keepX (a.take (k + 1))).length = kk + 1 := by rw [HE.out, List.length_append, hkk]; rfl
                  refine ⟨k + 1, A5, c5, HLT.out.1, by go_num, by rw [e1], Lib.hid ?_, Lib.hid ?_⟩
                  · unfold OwnM
                    rw [e1, HE.out, ← cellsM_snoc]
                    exact HO5.out.1
                  · exact (HB.out.trans ((below_alloc (Below.refl _ _) _).mono HB.out.size)).grown HO5.out.2 (by simp; omega) (fun r e => (HOL.out.lt r e).1)
                case measure => have := HLT.out.1; simp [intOf]; omega
            · have hlt' : ¬ (k : Int) < (a.length : Int) := by omega
              obtain rfl : k = a.length := by omega
              rw [List.take_length] at HO ⊢
              have hkl : (keepX a).length ≤ 1000 := Nat.le_trans (List.length_filter_le _ _) (by omega)
              have HNZ := Lib.hid (HN4.out.later (show Below w4.heap.size w4 wr from HB.out))
              have hsk : Short (keepX a) := fun x hx => HSA.out.1 x (List.mem_filter.1 hx).1
              have HCK := Lib.hid (dcheck_any (keepX a) _ wr (HO.out.row hkl) hsk HNZ.out.res)
              have HOB := Lib.hid (show ∀ W, Below wr.heap.size wr W → OwnM w.heap.size W (.slice A0 (keepX a).length cc) (keepX a) from fun W hW => by
                have h1 := HO.out.later hW
                exact owns_base h1 HN4.out.below.size)
              clear hlt hsk hkl
              by_cases h0 : chkD (keepX a) = 0
              · have HR := Lib.hid (show mk = .ok (keepX a) by rw [HMK3.out]; unfold doneX; rw [if_neg (by simpa using h0)])
                rw [h0] at HCK
                change Hid (Calls _ _ _ _ fun e w' => e = .returned (.int .i64 0) ∧ _) at HCK
                clear h0
                go_wp2_with (go_at_call 36; refine HCK.out.mono ?_; rintro e w6 ⟨rfl, hb⟩; have H6 := Lib.hid (And.intro hb (HNZ.out.later hb)); clear hb)
                go_ret2
                rw [HR.out]
                exact ⟨⟨_, rfl, HOB.out _ H6.out.1⟩, H6.out.2.below⟩
              · have HR := Lib.hid (show mk = .error (chkD (keepX a)) by rw [HMK3.out]; unfold doneX; rw [if_pos h0])
                have hm := ne_zero h0
                clear h0
                go_wp2_with (go_at_call 36; refine HCK.out.mono ?_; rintro e w6 ⟨rfl, hb⟩; have H6 := Lib.hid (HNZ.out.later hb); clear hb)
                go_ret2
                rw [HR.out]
                exact ⟨rfl, H6.out.below⟩
end Go.Proofs.YtigapglmipmbeaaGreatDoor
namespace Go.Proofs.YtigapglmipmbeaaGreatDoor
open Go.RowKit Go.Shelf
open Lim

attribute [local go_sem] Oper.semAt_some

/-- Equal lists. -/
def sameX (a b : List L2) : Bool := decide (a = b)
theorem sameX_len {a b : List L2} (h : a.length ≠ b.length) : sameX a b = false := decide_eq_false fun e => h (congrArg List.length e)
theorem sameX_at {a b : List L2} {k : Nat} {x y : L2} (hx : a[k]? = some x) (hy : b[k]? = some y) (h : x ≠ y) : sameX a b = false := decide_eq_false fun e => h (by
  rw [e, hy] at hx
  exact (Option.some.inj hx).symm)
theorem sameX_all {a b : List L2} (hl : a.length = b.length) (h : ∀ k, k < a.length → a[k]? = b[k]?) : sameX a b = true := decide_eq_true (List.ext_getElem? fun k => by
  rcases Nat.lt_or_ge k a.length with h1 | h1
  · exact h k h1
  · rw [List.getElem?_eq_none h1, List.getElem?_eq_none (by omega)])
theorem sameX_refl (a : List L2) : sameX a a = true := decide_eq_true rfl
/-! ### the walks -/
set_option maxRecDepth 100000 in
set_option maxHeartbeats 8000000 in
/-- slices.Equal of masses. -/
theorem equalM_any (a b : List L2) (va vb : Value) (w : World) (ha : LRow w va a) (hb : LRow w vb b) (hr : Res w) :
    Calls Tryz.prog 127 #[va, vb] w fun e w' => e = .returned (.bool (sameX a b)) ∧ Below w.heap.size w w' := by
  have HA := Lib.hid ha
  have HB := Lib.hid hb
  have N0 := Lib.hid (NW.refl hr)
  obtain ⟨A, c, rfl, hlen, hcells⟩ := ha
  obtain ⟨A', c', rfl, hlen', hcells'⟩ := hb
  clear hcells hcells' hr
  by_cases hl : a.length = b.length
  · have hl1 : ((a.length : Int) != (b.length : Int)) = false := by rw [hl]; exact bne_self_eq_false _
    have HL := Lib.hid hl
    rw [← hl] at HB hl1
    rw [← hl]
    clear hl hlen'
    go_enter Tryz.func127, Tryz.ntmps127
    go_wp2
    go_loopw [13] (fun v13 wr => ∃ k : Nat, k ≤ a.length ∧ v13 = .int .i64 (k : Int) ∧ Hid (∀ j, j < k → a[j]? = b[j]?) ∧ Hid (NW w wr)) (fun v13 _ => a.length - (intOf v13).toNat)
    case atStart => exact ⟨0, Nat.zero_le _, rfl, Lib.hid (fun j h => absurd h (by omega)), N0⟩
    case round =>
      clear N0
      obtain ⟨k, hk, rfl, HE, HN⟩ := hrel
      by_cases hlt : k < a.length
      · obtain ⟨x, hx⟩ : ∃ x, a[k]? = some x := ⟨_, List.getElem?_eq_getElem hlt⟩
        obtain ⟨y, hy⟩ : ∃ y, b[k]? = some y := ⟨_, List.getElem?_eq_getElem (by have := HL.out; omega)⟩
        obtain ⟨b1, o1, c1', e1, hb1, c0, c1⟩ := HA.out.at HN.out.below hx
        simp only [Value.slice.injEq, true_and] at e1
        obtain ⟨rfl, rfl⟩ := e1
        obtain ⟨b2, o2, c2', e2, hb2, d0, d1⟩ := HB.out.at HN.out.below hy
        rw [← HL.out] at e2
        simp only [Value.slice.injEq, true_and] at e2
        obtain ⟨rfl, rfl⟩ := e2
        have hlt' : (k : Int) < (a.length : Int) := by omega
        have HLT := Lib.hid (And.intro hlt hlt')
        have HX := Lib.hid (And.intro hx hy)
        obtain ⟨f, d⟩ := x
        obtain ⟨g, e⟩ := y
        dsimp only at c0 c1 d0 d1
        have T1 := eq_bytes f g
        have T2 := eq_bytes d e
        clear hx hy hlt
        by_cases h1 : f = g
        · rw [decide_eq_true h1] at T1
          by_cases h2 : d = e
          · rw [decide_eq_true h2] at T2
            have HR := Lib.hid (show ∀ j, j < k + 1 → a[j]? = b[j]? from fun j hj => by
              rcases Nat.lt_or_ge j k with h | h
              · exact HE.out j h
              · obtain rfl : j = k := by omega
                rw [HX.out.1, HX.out.2, h1, h2])
            clear h1 h2
            go_wp2
            go_quiet (fail)
            have H4 := Lib.hid (fun n => HN.out.drewN n)
            go_wp2
            go_roundw
            case rel => exact ⟨k + 1, HLT.out.1, by go_num, HR, H4.out _⟩
            case measure => have := HLT.out.1; simp [intOf]; omega
          · rw [decide_eq_false h2] at T2
            have HR := Lib.hid (sameX_at HX.out.1 HX.out.2 (fun e => h2 (Prod.mk.inj e).2))
            clear h1 h2
            go_wp2
            go_quiet (fail)
            have H4 := Lib.hid (fun n => HN.out.drewN n)
            go_wp2
            go_ret
            rw [HR.out]
            exact ⟨rfl, (H4.out _).below⟩
        · rw [decide_eq_false h1] at T1
          have HR := Lib.hid (sameX_at HX.out.1 HX.out.2 (fun e => h1 (Prod.mk.inj e).1))
          clear h1
          go_wp2
          go_quiet (fail)
          have H4 := Lib.hid (fun n => HN.out.drewN n)
          go_wp2
          go_ret
          rw [HR.out]
          exact ⟨rfl, (H4.out _).below⟩
      · have hlt' : ¬ (k : Int) < (a.length : Int) := by omega
        have HR := Lib.hid (sameX_all HL.out fun j hj => HE.out j (by omega))
        clear hlt
        go_wp2
        go_ret
        rw [HR.out]
        exact ⟨rfl, HN.out.below⟩
  · have hl1 : ((a.length : Int) != (b.length : Int)) = true := by rw [bne_iff_ne]; omega
    have hl2 : ((a.length : Int) == (b.length : Int)) = false := by rw [beq_eq_false_iff_ne]; omega
    have HR := Lib.hid (sameX_len hl)
    clear hl
    go_enter Tryz.func127, Tryz.ntmps127
    go_wp2
    go_ret
    rw [HR.out]
    exact ⟨rfl, N0.out.below⟩
set_option maxRecDepth 100000 in
/-- dist.Same. -/
theorem dsame_any (a b : List L2) (va vb : Value) (w : World) (ha : LRow w va a) (hb : LRow w vb b) (hr : Res w) :
    Calls Tryz.prog 40 #[va, vb] w fun e w' => e = .returned (.bool (sameX a b)) ∧ Below w.heap.size w w' := by
  have HE := Lib.hid (equalM_any a b va vb w ha hb hr)
  clear ha hb hr
  go_enter Tryz.func40, Tryz.ntmps40
  go_wp2_with (go_at_call 127; refine HE.out.mono ?_; rintro e w3 ⟨rfl, hb⟩; have H3 := Lib.hid hb; clear hb)
  go_ret
  exact ⟨rfl, H3.out⟩
end Go.Proofs.YtigapglmipmbeaaGreatDoor
namespace Go.Proofs.YtigapglmipmbeaaGreatDoor
open Go.RowKit Go.Shelf
open Lim

def halfL : List L2 := [(⟨#[97]⟩, ⟨#[49, 47, 50]⟩), (⟨#[98]⟩, ⟨#[49, 47, 50]⟩)]
def thirdsL : List L2 := [(⟨#[97]⟩, ⟨#[49, 47, 51]⟩), (⟨#[98]⟩, ⟨#[50, 47, 51]⟩)]
def livesL : List L2 := [(⟨#[98]⟩, ⟨#[49, 47, 50]⟩), (⟨#[97]⟩, ⟨#[49, 47, 52]⟩), (⟨#[97]⟩, ⟨#[49, 47, 52]⟩), (⟨#[99]⟩, ⟨#[48]⟩)]
theorem ex_make : makeX livesL = .ok halfL := by kernel_rfl
theorem ex_delta : deltaX halfL thirdsL oT = .ok ⟨#[49, 47, 54]⟩ := by kernel_rfl
theorem ex_mom : momV halfL thirdsL 2 = .tuple #[.string ⟨#[57, 47, 56]⟩, .bool true, .int .i64 0] := by kernel_rfl
theorem short_lit {ls : List L2} (h : (ls.all fun x => decide (x.1.size ≤ 270000) && decide (x.2.size ≤ 270000)) = true) : Short ls := fun x hx => by
  have := List.all_eq_true.1 h x hx
  simpa using this
theorem short_half : Short halfL := short_lit (by decide)
theorem short_thirds : Short thirdsL := short_lit (by decide)
theorem short_lives : Short livesL := short_lit (by decide)
set_option maxRecDepth 100000 in
theorem half_any (w : World) : Calls Tryz.prog 43 #[] w fun e w' => e = .returned (.slice (some ⟨w.heap.size, 0, none⟩) 2 2) ∧ w' = w.alloc (.cells #[.string ⟨#[97]⟩, .string ⟨#[49, 47, 50]⟩, .string ⟨#[98]⟩, .string ⟨#[49, 47, 50]⟩] 30) := by
  go_enter Tryz.func43, Tryz.ntmps43
  go_wp2
  go_ret
  exact ⟨rfl, rfl⟩
theorem half_row (w : World) : LRow (w.alloc (.cells #[.string ⟨#[97]⟩, .string ⟨#[49, 47, 50]⟩, .string ⟨#[98]⟩, .string ⟨#[49, 47, 50]⟩] 30)) (.slice (some ⟨w.heap.size, 0, none⟩) 2 2) halfL := LRow.ofBlk (Blk.new w 30 #[.string ⟨#[97]⟩, .string ⟨#[49, 47, 50]⟩, .string ⟨#[98]⟩, .string ⟨#[49, 47, 50]⟩]) rfl (by decide)
theorem half_call (w : World) (hr : Res w) : Calls Tryz.prog 43 #[] w fun e w' => (∃ b, e = .returned (.slice (some ⟨b, 0, none⟩) 2 2) ∧ LRow w' (.slice (some ⟨b, 0, none⟩) 2 2) halfL) ∧ Below w.heap.size w w' := by
  refine (half_any w).mono ?_
  rintro e w' ⟨rfl, rfl⟩
  exact ⟨⟨_, rfl, half_row w⟩, below_alloc (Below.refl _ _) _⟩
set_option maxRecDepth 100000 in
theorem thirds_any (w : World) : Calls Tryz.prog 44 #[] w fun e w' => e = .returned (.slice (some ⟨w.heap.size, 0, none⟩) 2 2) ∧ w' = w.alloc (.cells #[.string ⟨#[97]⟩, .string ⟨#[49, 47, 51]⟩, .string ⟨#[98]⟩, .string ⟨#[50, 47, 51]⟩] 30) := by
  go_enter Tryz.func44, Tryz.ntmps44
  go_wp2
  go_ret
  exact ⟨rfl, rfl⟩
theorem thirds_row (w : World) : LRow (w.alloc (.cells #[.string ⟨#[97]⟩, .string ⟨#[49, 47, 51]⟩, .string ⟨#[98]⟩, .string ⟨#[50, 47, 51]⟩] 30)) (.slice (some ⟨w.heap.size, 0, none⟩) 2 2) thirdsL := LRow.ofBlk (Blk.new w 30 #[.string ⟨#[97]⟩, .string ⟨#[49, 47, 51]⟩, .string ⟨#[98]⟩, .string ⟨#[50, 47, 51]⟩]) rfl (by decide)
theorem thirds_call (w : World) (hr : Res w) : Calls Tryz.prog 44 #[] w fun e w' => (∃ b, e = .returned (.slice (some ⟨b, 0, none⟩) 2 2) ∧ LRow w' (.slice (some ⟨b, 0, none⟩) 2 2) thirdsL) ∧ Below w.heap.size w w' := by
  refine (thirds_any w).mono ?_
  rintro e w' ⟨rfl, rfl⟩
  exact ⟨⟨_, rfl, thirds_row w⟩, below_alloc (Below.refl _ _) _⟩
set_option maxRecDepth 100000 in
set_option maxHeartbeats 4000000 in
/-- The examples. -/
theorem dlives_any (w : World) (hr : Res w) : Calls Tryz.prog 21 #[] w fun e w' => e = .returned (.bool true) ∧ Below w.heap.size w w' := by
  have NA := Lib.hid ((NW.refl hr).alloc (.cells #[.string ⟨#[98]⟩, .string ⟨#[49, 47, 50]⟩, .string ⟨#[97]⟩, .string ⟨#[49, 47, 52]⟩, .string ⟨#[97]⟩, .string ⟨#[49, 47, 52]⟩, .string ⟨#[99]⟩, .string ⟨#[48]⟩] 30))
  have HMK := Lib.hid (dmake_any livesL (.slice (some ⟨w.heap.size, 0, none⟩) 4 4) _ (LRow.ofBlk (Blk.new w 30 #[.string ⟨#[98]⟩, .string ⟨#[49, 47, 50]⟩, .string ⟨#[97]⟩, .string ⟨#[49, 47, 52]⟩, .string ⟨#[97]⟩, .string ⟨#[49, 47, 52]⟩, .string ⟨#[99]⟩, .string ⟨#[48]⟩]) rfl (by decide)) short_lives NA.out.res)
  rw [ex_make] at HMK
  have HDL := Lib.hid (fun vp vq (w : World) hp hq hr => ddelta_any halfL thirdsL vp vq oT w hp hq short_half short_thirds oT_small hr)
  rw [ex_delta] at HDL
  have HMO := Lib.hid (fun vp vq (w : World) hp hq hr => dmoment_any halfL thirdsL vp vq 2 w hp hq short_half short_thirds hr)
  rw [ex_mom] at HMO
  have HSM := Lib.hid (fun va vb (w : World) ha hb hr => dsame_any halfL halfL va vb w ha hb hr)
  rw [sameX_refl] at HSM
  have HMK2 := HMK
  change Hid (Calls _ _ _ _ fun e w' => (∃ u, e = .returned (.tuple #[u, .int .i64 0]) ∧ OwnM _ w' u halfL) ∧ _) at HMK
  change Hid (∀ vp vq w, _ → _ → _ → Calls _ _ #[vp, vq, .string ⟨#[49]⟩] _ fun e w' => e = .returned (.tuple #[.string ⟨#[49, 47, 54]⟩, .int .i64 0]) ∧ _) at HDL
  have N0 := NA
  clear hr HMK2 NA
  have TK0 : True := trivial
  have TK1 : True := trivial
  have TK2 : True := trivial
  have TK3 : True := trivial
  have TK4 : True := trivial
  have TK5 : True := trivial
  have TK6 : True := trivial
  have TK7 : True := trivial
  have TK8 : True := trivial
  go_enter Tryz.func21, Tryz.ntmps21
  go_wp2_with ((clear TK0; go_at_call 25; refine (HMK.out).mono ?_; rintro e w1 ⟨⟨u, rfl, hu⟩, hb⟩; have N1 := Lib.hid (N0.out.later hb); clear hb; obtain ⟨A1, c1, rfl⟩ := hu.slice; have HU := Lib.hid hu; clear hu))
  go_wp2_with ((clear TK1; go_at_call 43; refine (half_call _ N1.out.res).mono ?_; rintro e w2 ⟨⟨b2, rfl, r2⟩, hb⟩; have hb2 := hb; have N2 := Lib.hid (N1.out.later hb); clear hb; have R2 := Lib.hid r2; clear r2; have HU2 := Lib.hid (HU.out.later hb2); clear hb2))
  go_wp2_with ((clear TK2; go_at_call 44; refine (thirds_call _ N2.out.res).mono ?_; rintro e w3 ⟨⟨b3, rfl, r3⟩, hb⟩; have hb3 := hb; have N3 := Lib.hid (N2.out.later hb); clear hb; have R3 := Lib.hid r3; clear r3; have Q3 := Lib.hid (R2.out.below hb3); have HU3 := Lib.hid (HU2.out.later hb3); clear hb3))
  go_wp2_with ((clear TK3; go_at_call 45; refine (HDL.out _ _ _ Q3.out R3.out N3.out.res).mono ?_; rintro e w4 ⟨rfl, hb⟩; have hb4 := hb; have N4 := Lib.hid (N3.out.later hb); clear hb; have HU4 := Lib.hid (HU3.out.later hb4); clear hb4))
  go_wp2_with ((clear TK4; go_at_call 43; refine (half_call _ N4.out.res).mono ?_; rintro e w5 ⟨⟨b5, rfl, r5⟩, hb⟩; have hb5 := hb; have N5 := Lib.hid (N4.out.later hb); clear hb; have R5 := Lib.hid r5; clear r5; have HU5 := Lib.hid (HU4.out.later hb5); clear hb5))
  go_wp2_with ((clear TK5; go_at_call 44; refine (thirds_call _ N5.out.res).mono ?_; rintro e w6 ⟨⟨b6, rfl, r6⟩, hb⟩; have hb6 := hb; have N6 := Lib.hid (N5.out.later hb); clear hb; have R6 := Lib.hid r6; clear r6; have Q6 := Lib.hid (R5.out.below hb6); have HU6 := Lib.hid (HU5.out.later hb6); clear hb6))
  go_wp2_with ((clear TK6; go_at_call 48; refine (HMO.out _ _ _ Q6.out R6.out N6.out.res).mono ?_; rintro e w7 ⟨rfl, hb⟩; have hb7 := hb; have N7 := Lib.hid (N6.out.later hb); clear hb; have HU7 := Lib.hid (HU6.out.later hb7); clear hb7))
  go_wp2_with ((clear TK7; go_at_call 43; refine (half_call _ N7.out.res).mono ?_; rintro e w8 ⟨⟨b8, rfl, r8⟩, hb⟩; have hb8 := hb; have N8 := Lib.hid (N7.out.later hb); clear hb; have R8 := Lib.hid r8; clear r8; have HU8 := Lib.hid ((HU7.out.later hb8).row (by decide)); clear hb8))
  go_wp2_with ((clear TK8; go_at_call 40; refine (HSM.out _ _ _ HU8.out R8.out N8.out.res).mono ?_; rintro e w9 ⟨rfl, hb⟩; have N9 := Lib.hid (N8.out.later hb); clear hb))
  go_wp2
  go_ret
  exact ⟨rfl, N9.out.below⟩
end Go.Proofs.YtigapglmipmbeaaGreatDoor
namespace Go.Proofs.YtigapglmipmbeaaGreatDoor
open Go.RowKit Go.Shelf

set_option maxRecDepth 100000 in
set_option maxHeartbeats 8000000 in
/-- light of chapter 8. -/
theorem light8_any (lss : List (List L2)) (v : Value) (w : World) (hv : LLRow w v lss) :
    Calls Tryz.prog 22 #[v] w fun e w' => e = .returned (.bool (lightsD 16 12 24 lss)) ∧ w' = w := by
  obtain ⟨b, c, rfl, hb, hlen, hcell⟩ := hv
  have HC := Lib.hid hcell
  clear hcell
  go_enter Tryz.func22, Tryz.ntmps22
  go_wp2
  go_loopw [3] (fun v3 wr => ∃ i : Nat, i ≤ lss.length ∧ v3 = .int .i64 (i : Int) ∧ Hid (∀ (j : Nat) ls, j < i → lss[j]? = some ls → lightD 16 12 24 ls = true) ∧ wr = w) (fun v3 _ => lss.length - (intOf v3).toNat)
  case atStart => exact ⟨0, Nat.zero_le _, rfl, Lib.hid (fun j ls h => absurd h (by omega)), rfl⟩
  case round =>
    obtain ⟨i, hi, rfl, HE, rfl⟩ := hrel
    by_cases hlt : i < lss.length
    · obtain ⟨ls, hls⟩ : ∃ ls, lss[i]? = some ls := ⟨_, List.getElem?_eq_getElem hlt⟩
      obtain ⟨u, cu, hu⟩ := HC.out i ls hls
      have HU := Lib.hid hu
      obtain ⟨A, cc, rfl, hl, _⟩ := hu
      unfold maxLen at hl
      have hlt' : (i : Int) < (lss.length : Int) := by omega
      have HLS := Lib.hid (And.intro hls hlt)
      clear hls hlt
      by_cases h1 : ls.length ≤ 16
      · have d1 : decide (16 < (ls.length : Int)) = false := decide_eq_false (by omega)
        have d1n : decide (16 < ls.length) = false := decide_eq_false (by omega)
        obtain ⟨wo, rfl⟩ : ∃ wo, wo = wr := ⟨_, rfl⟩
        go_wp2
        go_loopw [4] (fun v4 wr => ∃ k : Nat, k ≤ ls.length ∧ v4 = .int .i64 (k : Int) ∧ Hid (∀ (j : Nat) x, j < k → ls[j]? = some x → x.1.size ≤ 12 ∧ x.2.size ≤ 24) ∧ wr = wo) (fun v4 _ => ls.length - (intOf v4).toNat)
        case atStart => exact ⟨0, Nat.zero_le _, rfl, Lib.hid (fun j x h => absurd h (by omega)), rfl⟩
        case round =>
          obtain ⟨k, hk, rfl, HF, rfl⟩ := hrel
          by_cases hk2 : k < ls.length
          · obtain ⟨x, hx⟩ : ∃ x, ls[k]? = some x := ⟨_, List.getElem?_eq_getElem hk2⟩
            obtain ⟨b1, o1, c1', e1, hb1, c0, c1⟩ := HU.out.at (Below.refl _ _) hx
            simp only [Value.slice.injEq, true_and] at e1
            obtain ⟨rfl, rfl⟩ := e1
            have hk2' : (k : Int) < (ls.length : Int) := by omega
            have HX := Lib.hid (And.intro hx hk2)
            obtain ⟨f, d⟩ := x
            dsimp only at c0 c1
            clear hx hk2
            by_cases g1 : f.size ≤ 12
            · have t1 : decide (12 < (f.size : Int)) = false := decide_eq_false (by omega)
              have t1n : decide (12 < f.size) = false := decide_eq_false (by omega)
              by_cases g2 : d.size ≤ 24
              · have t2 : decide (24 < (d.size : Int)) = false := decide_eq_false (by omega)
                have t2n : decide (24 < d.size) = false := decide_eq_false (by omega)
                have HS := Lib.hid (And.intro g1 g2)
                clear g1 g2
                go_wp2
                go_roundw
                case rel => exact ⟨k + 1, HX.out.2, by go_num, Lib.hid (fun j x hj hxj => by
                  rcases Nat.lt_or_ge j k with h | h
                  · exact HF.out j x h hxj
                  · obtain rfl : j = k := by omega
                    rw [HX.out.1] at hxj
                    cases hxj
                    exact HS.out), trivial⟩
                case measure => have := HX.out.2; simp [intOf]; omega
              · have t2 : decide (24 < (d.size : Int)) = true := decide_eq_true (by omega)
                have t2n : decide (24 < d.size) = true := decide_eq_true (by omega)
                have HR := Lib.hid (lightsD_at (n := 16) (k := 12) (p := 24) HLS.out.1 (lightD_at HX.out.1 (fun h => g2 h.2)))
                clear g1 g2
                go_wp2
                go_ret
                rw [HR.out]
                exact ⟨rfl, rfl⟩
            · have t1 : decide (12 < (f.size : Int)) = true := decide_eq_true (by omega)
              have t1n : decide (12 < f.size) = true := decide_eq_true (by omega)
              have HR := Lib.hid (lightsD_at (n := 16) (k := 12) (p := 24) HLS.out.1 (lightD_at HX.out.1 (fun h => g1 h.1)))
              clear g1
              go_wp2
              go_ret
              rw [HR.out]
              exact ⟨rfl, rfl⟩
          · have hk2' : ¬ (k : Int) < (ls.length : Int) := by omega
            have HR := Lib.hid (lightD_of (n := 16) (k := 12) (p := 24) h1 fun j x hx => HF.out j x (by have := (List.getElem?_eq_some_iff.1 hx).1; omega) hx)
            clear hk2
            go_wp2
            go_roundw
            case rel => exact ⟨i + 1, HLS.out.2, by go_num, Lib.hid (fun j l hj hlj => by
              rcases Nat.lt_or_ge j i with h | h
              · exact HE.out j l h hlj
              · obtain rfl : j = i := by omega
                rw [HLS.out.1] at hlj
                cases hlj
                exact HR.out), trivial⟩
            case measure => have := HLS.out.2; simp [intOf]; omega
      · have d1 : decide (16 < (ls.length : Int)) = true := decide_eq_true (by omega)
        have d1n : decide (16 < ls.length) = true := decide_eq_true (by omega)
        have HR := Lib.hid (lightsD_at (n := 16) (k := 12) (p := 24) HLS.out.1 (lightD_len h1))
        clear h1
        go_wp2
        go_ret
        rw [HR.out]
        exact ⟨rfl, rfl⟩
    · have hlt' : ¬ (i : Int) < (lss.length : Int) := by omega
      have HR := Lib.hid (lightsD_of (n := 16) (k := 12) (p := 24) fun j ls hj => HE.out j ls (by have := (List.getElem?_eq_some_iff.1 hj).1; omega) hj)
      clear hlt
      go_wp2
      go_ret
      rw [HR.out]
      exact ⟨rfl, rfl⟩
end Go.Proofs.YtigapglmipmbeaaGreatDoor
