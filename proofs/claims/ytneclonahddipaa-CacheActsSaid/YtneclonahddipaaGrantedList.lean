/- Granted: the sorted list of the keys that a name has. -/
import Derived.Test.YtneclonahddipaaLists
namespace Go.Proofs.Ytneclonahddipaa
open Go.RowKit Go.Maps Go.Sort Go.Shelf

attribute [local go_sem] Oper.semAt_some

/-- The bytes of the strings. -/
def raw (ss : List ByteArray) : List (List UInt8) := ss.map fun x => x.data.toList
theorem raw_enc (ss : List ByteArray) : ss.map Value.string = (raw ss).map encStr := by
  simp [raw, encStr]

theorem kpG_t {b n₁ : Nat} {A B C : World} (h : KpG b n₁ A B) (k : KpG b n₁ B C) : KpG b n₁ A C := ⟨h.1.trans k.1, fun i hi hne => (k.2 i hi hne).trans (h.2 i hi hne)⟩
theorem kpG_b {b n₁ : Nat} {w : World} (hn : n₁ ≤ w.heap.size) (W : World) (l : Nat) (o o' : Obj) (hl : w.heap.size ≤ l) (h : W.heap[l]? = some o) (_ : o.isCells = false) (hw : o.isWalk = false) : KpG b n₁ W (W.putObj l o') :=
  ⟨KeepsWalks.putObj _ h hw, fun k hk _ => World.putObj_heap_other (by omega)⟩
theorem kpG_refl (b n₁ : Nat) (W : World) : KpG b n₁ W W := ⟨⟨Nat.le_refl _, fun _ _ h _ => h⟩, fun _ _ _ => rfl⟩

theorem granted_stops (F : Fence) (n : Nat) (h39 : F.fn 39) (hro : F.round = none) (hn : 1 ≤ n) (bO n₁ Bc Ba b mg nn : Nat) (a : ByteArray) (G : DataW Unit) (ha : a.size ≤ maxLen) (w : World)
    (hBa : Ba < n₁) (hBa' : Ba ≠ bO) (hn₁ : n₁ ≤ w.heap.size) (hBcc : w.cell? ⟨Bc, 0, none⟩ = some (.pointer (some ⟨b, 0, none⟩))) (hBac : w.cell? ⟨Ba, 0, none⟩ = some (.string a)) (hc1 : w.cell? ⟨b, 1, none⟩ = some (.map (some mg)))
    (hown : w.ownsMap Try.prog 53 unitElem mg nn G) :
    SeqStopsK F n Try.prog 39 #[.pointer (some ⟨Bc, 0, none⟩), .pointer (some ⟨Ba, 0, none⟩)] (fun x : ByteArray => #[Value.string x]) (KpG bO n₁) (fun ss => GAll a G ss ∧ ss.length ≤ Maps.size G) (fun _ => True) (Maps.size G) w := fun l J Jx W hW hJ _ hY h0 =>
  granted1_in F n h39 hro hn l bO n₁ Bc Ba b mg nn a G ha J Jx hBa hBa' hY W (Nat.le_trans hn₁ hW.size) hJ ((grown_none hW none).cell hBcc (by simp)) ((grown_none hW none).cell hBac (by simp)) ((grown_none hW none).cell hc1 (by simp)) (hown.kept (grown_none hW none) (by simp)) h0

set_option maxRecDepth 100000 in
set_option maxHeartbeats 2000000 in
theorem granted_any (b ma mg n : Nat) (A G : DataW Unit) (a : ByteArray) (w : World) (h : IsCache w b ma mg n A G) (ha : a.size ≤ maxLen) (hn : n ≤ 1000000) :
    Calls Try.prog 16 #[.pointer (some ⟨b, 0, none⟩), .string a] w fun e w' => ∃ (v : Value) (ss : List ByteArray), e = .returned v ∧ (GAll a G ss ∧ ss.length ≤ Maps.size G) ∧
      w'.ownsRow w.heap.size 9 1 v ss.length (((raw ss).mergeSort leB).map encStr) ∧ (v = .slice none 0 0 ↔ ss = []) ∧ Below w.heap.size w w' := by
  have hsz := h.gm.size_le
  have hc := h.c0
  have hb := World.block_lt_of_cell? w _ hc
  obtain ⟨i0, hi, hz0, hz1, hz2⟩ := info_parts info9
  refine (callsIn_wide (n := 6)).1 ?_
  have h1 : 1 ≤ 6 := by omega
  refine callsIn_of_wp_marks Try.func16 rfl trivial ?_ rfl
  simp only [Try.ntmps16, List.size_toArray, List.length_cons, List.length_nil, Nat.reduceAdd, Nat.reduceSub, Array.replicate_succ, Array.replicate_zero, List.push_toArray, List.append_toArray, List.nil_append, List.cons_append]
  gi_wp2_with (first
    | (refine ⟨trivial, ?_⟩; gi_at_call 28; refine (callsIn_wide.2 (none_cache b ma _ hc)).mono ?_; rintro e w' ⟨rfl, rfl⟩)
    | (refine ⟨trivial, ?_⟩; gi_at_call 31; refine (granted_in Fence.wide 5 trivial rfl _ _ _ rfl).mono ?_; rintro e w' ⟨rfl, rfl⟩))
  have bO : Boxed (((w'.alloc (.cells #[.slice none 0 0] 33)).alloc (.cells #[.pointer (some ⟨b, 0, none⟩)] 22)).alloc (.cells #[.string a] 9)) w'.heap.size 33 (.slice none 0 0) := ((Boxed.new w' 33 _).alloc _).alloc _
  have bC : Boxed (((w'.alloc (.cells #[.slice none 0 0] 33)).alloc (.cells #[.pointer (some ⟨b, 0, none⟩)] 22)).alloc (.cells #[.string a] 9)) (w'.heap.size + 1) 22 (.pointer (some ⟨b, 0, none⟩)) := by
    have := (Boxed.new (w'.alloc (.cells #[.slice none 0 0] 33)) 22 (.pointer (some ⟨b, 0, none⟩))).alloc (.cells #[.string a] 9)
    simpa only [World.size_alloc] using this
  have bA : Boxed (((w'.alloc (.cells #[.slice none 0 0] 33)).alloc (.cells #[.pointer (some ⟨b, 0, none⟩)] 22)).alloc (.cells #[.string a] 9)) (w'.heap.size + 1 + 1) 9 (.string a) := by
    have := Boxed.new ((w'.alloc (.cells #[.slice none 0 0] 33)).alloc (.cells #[.pointer (some ⟨b, 0, none⟩)] 22)) 9 (.string a)
    simpa only [World.size_alloc] using this
  have hB0 : Below w'.heap.size w' (((w'.alloc (.cells #[.slice none 0 0] 33)).alloc (.cells #[.pointer (some ⟨b, 0, none⟩)] 22)).alloc (.cells #[.string a] 9)) := by go_grown
  have h0 := h.kept (grown_none hB0 none) (by simp) (by simp) (by simp)
  have hsz0 : (((w'.alloc (.cells #[.slice none 0 0] 33)).alloc (.cells #[.pointer (some ⟨b, 0, none⟩)] 22)).alloc (.cells #[.string a] 9)).heap.size = w'.heap.size + 1 + 1 + 1 := by simp
  refine wpIn_rangeFunc_ownF rfl h1 (gf := 39) (lb := #[.pointer (some ⟨w'.heap.size + 1, 0, none⟩), .pointer (some ⟨w'.heap.size + 1 + 1, 0, none⟩)]) rfl trivial (enters_of Try.func39 (by kernel_rfl) rfl)
    (granted_stops Fence.wide 5 trivial rfl (by omega) w'.heap.size (w'.heap.size + 1 + 1 + 1) (w'.heap.size + 1) (w'.heap.size + 1 + 1) b mg n a G ha _ (by omega) (by omega) (by rw [hsz0]; exact Nat.le_refl _) bC.cell bA.cell h0.c1 h0.gm) kpG_t (kpG_b (by rw [hsz0]; exact Nat.le_refl _)) (Below.refl _ _) (fun _ => rfl)
    (fun pre W => (∃ v, Boxed W w'.heap.size 33 v ∧ W.ownsRow (w'.heap.size + 1 + 1 + 1) 9 1 v pre.length (pre.map Value.string) ∧ (v = .slice none 0 0 ↔ pre = [])) ∧ Below w'.heap.size w' W ∧ w'.heap.size + 1 + 1 + 1 ≤ W.heap.size)
    (fun _ _ _ => False)
    (OwnFrom.and (Own.from (holdsRow_own (w'.heap.size + 1 + 1 + 1) w'.heap.size 33 9 1 (fun pre : List ByteArray => pre.length) (fun pre => pre.map Value.string) (fun pre v => v = .slice none 0 0 ↔ pre = [])) _) (OwnFrom.and (ownFrom_below (Nat.le_refl _) (by omega)) (fun s A B row hs hg _ => Nat.le_trans hs hg.size)))
    (fun _ _ _ _ _ hs _ _ => hs)
    ⟨⟨_, bO, World.ownsRow_nil _ _ _ _, by simp⟩, hB0, by rw [hsz0]; exact Nat.le_refl _⟩
    (fun x => { tmps := #[.pointer (some ⟨b, 0, none⟩), .string a, undef, undef, .slice none 0 0, .pointer (some ⟨w'.heap.size, 0, none⟩), .string x, .pointer (some ⟨b, 0, none⟩), .bool false, .pointer (some ⟨b, 0, none⟩), .string a, .func (.func 39) #[] #[.pointer (some ⟨w'.heap.size + 1, 0, none⟩), .pointer (some ⟨w'.heap.size + 1 + 1, 0, none⟩)], .string x, undef, undef, undef, undef, undef, undef, undef], defers := [] }) ?assign ?body ?done ?stop
  case assign =>
    intro l x W K hK
    gi_wp2
    exact hK
  case body =>
    rintro l pre x W ⟨⟨v, hv, hrow, hnil⟩, hB, hWs⟩ hlt
    have hc := hv.cell
    clear bO bC bA h0 hB0 hsz0 h hi
    obtain ⟨i0, hi, hz0, hz1, hz2⟩ := info_parts info9
    gi_wp2_with (gi_at_builtin; refine wpListIn_append_own _ rfl _ _ 33 rfl (w'.heap.size + 1 + 1 + 1) 9 i0 (.string ByteArray.empty) 1 16 Try.underlying33 hi hz0 hz1 hz2 rfl (by decide) _ _ _ rfl (hrow.alloc _) ⟨W.heap.size, 0, none⟩ 1 1 [.string x] rfl rfl (cell_one_new _ _ _) (by simp [Value.oneCell']) (by unfold maxLen; omega) (by omega) (by simp; omega) ?_; intro v' w1 hown' hgrow _; obtain ⟨g', cap', rfl⟩ := ownsRow_succ hown'; obtain ⟨hv1, hv2, hr2, hk2, hb2, hbb⟩ := appended2 hv (by decide) hrow hWs (by omega) hown' hgrow; have hc1 := hv1.cell; have hf1 := hv1.frozen)
    exact ⟨hk2, hb2, ⟨_, hv2, by simpa using hr2, by simp⟩, hB.trans hbb, Nat.le_trans hWs hbb.size⟩
  case done =>
    rintro D ys W hD ⟨hS, hylen⟩ ⟨⟨v, hv, hrow, hnil⟩, hB, hWs⟩ hK
    have hc := hv.cell
    have hl : (raw ys).length = ys.length := by simp [raw]
    rw [hsz0] at hD
    clear bO bC bA h0 hB0 hsz0 h
    rcases hrow.2 with ⟨rfl, hz⟩ | ⟨gb, cap, cur, rfl, hbase, hgb, r1, r2, r3, r4⟩
    · have hys : ys = [] := List.eq_nil_of_length_eq_zero hz
      subst hys
      have cN : Calls Try.prog 32 #[.slice none 0 0] W fun e w' => e = .returned (.tuple #[]) ∧ w' = W := AnyM.slices_Sort_string_none Try.sort32 none 0 W
      gi_wp2_with (refine ⟨trivial, ?_⟩; gi_at_call 32; refine (callsIn_wide.2 cN).mono ?_; rintro e w3 ⟨rfl, rfl⟩)
      refine ⟨by simp, .inl ⟨_, _, rfl, run_takeDeferred hK, ?_⟩⟩
      exact ⟨_, results_tmp rfl _ _ _, .slice none 0 0, [], rfl, ⟨hS, hylen⟩, by simpa [raw] using World.ownsRow_nil _ _ _ _, by simp, hB.trans (belowK_b (w := w') (Nat.le_refl _) _ D _ _ (by omega) hK rfl rfl)⟩
    · have hH : Holds encStr W gb 0 (raw ys).toArray := holds_of_block hgb (by rw [hl, ← raw_enc]; simpa using r4)
      have hgl : gb < W.heap.size := (Array.getElem?_eq_some_iff.1 hgb).1
      have cS : Calls Try.prog 32 #[.slice (some ⟨gb, 0, none⟩) (raw ys).length cap] W fun e w' => e = .returned (.tuple #[]) ∧ ∃ n os, w' = grow (putRow encStr (Sort.ahead W n) gb 0 ((raw ys).mergeSort fun x y => decide (x ≤ y)).toArray) os :=
        AnyM.slices_Sort_string Try.sort32 gb 0 cap (raw ys) W hH hgl (by omega)
      rw [hl] at cS
      gi_wp2_with (refine ⟨trivial, ?_⟩; gi_at_call 32; refine (callsIn_wide.2 cS).mono ?_; rintro e w3 ⟨rfl, nn, os, rfl⟩; have hg3 := grownBy_sorted (w := W) (g := gb) (n := nn) (os := os) ((raw ys).mergeSort fun x y => decide (x ≤ y)).toArray; have hc3 := (hv.kept hg3 (by simp; omega)).cell)
      have hK3 := (hg3.block D (Array.getElem?_eq_some_iff.1 hK).1 (fun e => by cases e; rw [hgb] at hK; cases hK)).trans hK
      refine ⟨by simp, .inl ⟨_, _, rfl, run_takeDeferred hK3, ?_⟩⟩
      have hs := ownsRow_sorted (w := W) (n := nn) (os := os) (ss := raw ys) (ts := (raw ys).mergeSort fun x y => decide (x ≤ y)) (by simp) hbase hgb (by rw [hl]; exact r1) r2 r3
      rw [hl] at hs
      exact ⟨_, results_tmp rfl _ _ _, .slice (some ⟨gb, 0, none⟩) ys.length cap, ys, rfl, ⟨hS, hylen⟩, ownsRow_base_a (ownsRow_putObj hs _ hK3 rfl) (by omega), hnil, (hB.grown hg3 hB.size (fun j hj => by cases hj; omega)).trans (belowK_b (w := w') (Nat.le_refl _) _ D _ _ (by omega) hK3 rfl rfl)⟩
  case stop =>
    rintro D c pre W _ _ h _
    exact h.elim
end Go.Proofs.Ytneclonahddipaa
