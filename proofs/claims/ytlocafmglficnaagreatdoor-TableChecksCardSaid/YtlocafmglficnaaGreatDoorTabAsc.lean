/- Ascending lists of numbers; the keys of a set of numbers, sorted. -/
import Derived.Test.YtlocafmglficnaaGreatDoorTabCheck
import Derived.Test.YtlocafmglficnaaGreatDoorTabLays
namespace Go.Proofs.YtlocafmglficnaaGreatDoor
open Go.RowKit Go.Maps Go.Sort Go.Shelf

/-- A number added to an ascending list, unless it is there. -/
def ins (l : List Int) (n : Int) : List Int :=
  l.takeWhile (fun x => decide (x < n)) ++ (if (l.dropWhile (fun x => decide (x < n))).head? = some n then l.dropWhile (fun x => decide (x < n)) else n :: l.dropWhile (fun x => decide (x < n)))
def asc (l : List Int) : List Int := l.foldl ins []
theorem ins_spec {l : List Int} (h : l.Pairwise (· < ·)) (n : Int) : (ins l n).Pairwise (· < ·) ∧ ∀ x, x ∈ ins l n ↔ x ∈ l ∨ x = n := by
  have hsplit := List.takeWhile_append_dropWhile (p := fun x => decide (x < n)) (l := l)
  have hlt : ∀ x ∈ l.takeWhile (fun x => decide (x < n)), x < n := fun x hx => by
    have := List.all_takeWhile (p := fun x => decide (x < n)) (l := l)
    have := List.all_eq_true.1 this x hx
    simpa using this
  unfold ins
  generalize l.takeWhile (fun x => decide (x < n)) = a at *
  have hhd : ∀ y, (l.dropWhile (fun x => decide (x < n))).head? = some y → n ≤ y := fun y hy => by
    have := List.head?_dropWhile_not (p := fun x => decide (x < n)) (l := l)
    rw [hy] at this
    simpa using this
  generalize l.dropWhile (fun x => decide (x < n)) = b at *
  subst hsplit
  rw [List.pairwise_append] at h
  obtain ⟨ha, hb, hab⟩ := h
  have hge : ∀ y ∈ b, n ≤ y := by
    intro y hy
    cases b with
    | nil => cases hy
    | cons c b =>
      have hc := hhd c rfl
      rcases List.mem_cons.1 hy with rfl | hy
      · exact hc
      · have := (List.pairwise_cons.1 hb).1 y hy; omega
  split
  · rename_i hh
    refine ⟨List.pairwise_append.2 ⟨ha, hb, hab⟩, fun x => ?_⟩
    constructor
    · exact fun h => .inl h
    · rintro (h | rfl)
      · exact h
      · cases b with
        | nil => cases hh
        | cons c b => simp at hh; subst hh; simp
  · rename_i hh
    have hgt : ∀ y ∈ b, n < y := by
      intro y hy
      have h1 := hge y hy
      rcases Int.lt_or_eq_of_le h1 with h2 | h2
      · exact h2
      · subst h2
        cases b with
        | nil => cases hy
        | cons c b =>
          rcases List.mem_cons.1 hy with h3 | h3
          · subst h3; exact absurd rfl hh
          · have h4 := (List.pairwise_cons.1 hb).1 _ h3
            have h5 := hge c (by simp)
            omega
    refine ⟨List.pairwise_append.2 ⟨ha, List.pairwise_cons.2 ⟨hgt, hb⟩, fun x hx y hy => ?_⟩, fun x => ?_⟩
    · rcases List.mem_cons.1 hy with rfl | hy
      · exact hlt x hx
      · exact hab x hx y hy
    · simp only [List.mem_append, List.mem_cons]
      constructor
      · rintro (h | rfl | h)
        · exact .inl (.inl h)
        · exact .inr rfl
        · exact .inl (.inr h)
      · rintro ((h | h) | rfl)
        · exact .inl h
        · exact .inr (.inr h)
        · exact .inr (.inl rfl)
theorem asc_gen : ∀ (l acc : List Int), acc.Pairwise (· < ·) → (l.foldl ins acc).Pairwise (· < ·) ∧ ∀ x, x ∈ l.foldl ins acc ↔ x ∈ acc ∨ x ∈ l
  | [], acc, h => ⟨h, fun x => by simp⟩
  | n :: l, acc, h => by
    obtain ⟨h1, h2⟩ := ins_spec h n
    obtain ⟨h3, h4⟩ := asc_gen l (ins acc n) h1
    refine ⟨h3, fun x => ?_⟩
    rw [List.foldl_cons, h4, h2, List.mem_cons]
    constructor
    · rintro ((h | h) | h)
      · exact .inl h
      · exact .inr (.inl h)
      · exact .inr (.inr h)
    · rintro (h | h | h)
      · exact .inl (.inl h)
      · exact .inl (.inr h)
      · exact .inr h
theorem asc_sorted (l : List Int) : (asc l).Pairwise (· < ·) := (asc_gen l [] List.Pairwise.nil).1
theorem mem_asc {l : List Int} {x : Int} : x ∈ asc l ↔ x ∈ l := by
  unfold asc
  rw [(asc_gen l [] List.Pairwise.nil).2 x]
  simp
theorem asc_length (l : List Int) : (asc l).length ≤ l.length := by
  have h : ∀ (l acc : List Int), (l.foldl ins acc).length ≤ acc.length + l.length := by
    intro l
    induction l with
    | nil => intro acc; simp
    | cons n l ih =>
      intro acc
      have h1 := ih (ins acc n)
      have h2 : (ins acc n).length ≤ acc.length + 1 := by
        have h3 := congrArg List.length (List.takeWhile_append_dropWhile (p := fun x => decide (x < n)) (l := acc))
        rw [List.length_append] at h3
        unfold ins
        rw [List.length_append]
        split <;> simp <;> omega
      simp only [List.foldl_cons, List.length_cons]
      omega
  simpa [asc] using h l []

theorem flat1 {α β : Type} (f : α → β) : ∀ l : List α, (l.map fun x => [f x]).flatten = l.map f
  | [] => rfl
  | x :: l => by rw [List.map_cons, List.flatten_cons, flat1 f l]; rfl
/-- A set of numbers as a map. -/
structure SetI (D : DataW Unit) (l : List Int) : Prop where
  m : IsMap D
  has : ∀ x, Maps.has D (.int .i64 x) = true ↔ x ∈ l
theorem SetI.nil : SetI (.map []) [] := ⟨⟨_, rfl⟩, fun x => by simp [Maps.has]⟩
theorem SetI.snoc {D : DataW Unit} {l : List Int} (h : SetI D l) (x : Int) (d : DataW Unit) : SetI (D.put (.int .i64 x) d) (l ++ [x]) := by
  refine ⟨h.m.put _ _, fun y => ?_⟩
  by_cases e : y = x
  · subst e
    rw [has_put_same h.m (show WideAt.IsKeyLit (.int .i64 y) from trivial)]; simp
  · rw [has_put_other (fun e' => e (by simpa using e')), h.has]
    simp [e]
theorem SetI.sorted {w : World} {b n : Nat} {D : DataW Unit} {l : List Int} {R : Value → Option (DataW Unit × List MemPlace)} (h : SetI D l) (hown : w.ownsMap Tryz.prog 3 R b n D) {ss : List Int} (hp : ss.Perm (intKeys D)) :
    ss.mergeSort leI = asc l := by
  obtain ⟨es, rfl, hpw, _⟩ := hown.entries lawI
  obtain ⟨es', e, hks⟩ := hown.keysOf
  cases e
  have hs := asc_sorted l
  have hperm : (asc l).Perm (intKeys (.map es)) := by
    refine perm_intKeys hpw (fun p hp => ?_) (hs.imp fun h => by omega) fun x => ?_
    · obtain ⟨v, hv⟩ := hks p hp
      obtain ⟨x, _, hx, _⟩ := Maps.keyOf_i64 Tryz.underlying3 hv
      exact ⟨x, hx⟩
    · rw [mem_asc, h.has]
  rw [mergeSort_of_perm_i (hp.trans hperm.symm)]
  exact List.mergeSort_of_pairwise (hs.imp fun h => by simp [leI]; omega)

/-- slices.Sort's two contracts at this program. -/
theorem Tryz.sortsA (m : Nat) : AnyZI.SortsIn Tryz.prog Tryz.sortedA_ren Fence.wide m :=
  ⟨fun blk off cap ss W hH hblk hsz => callsIn_wide.2 (AnyM.slices_Sort_int Tryz.sortA blk off cap ss W hH hblk hsz),
   fun p cap W => callsIn_wide.2 (AnyM.slices_Sort_int_none Tryz.sortA p cap W)⟩
theorem keys_any (mb : Option Nat) (W : World) : Calls Tryz.prog 55 #[.map mb] W fun e w' => e = .returned (.func (.func 74) #[] #[.pointer (some ⟨W.heap.size, 0, none⟩)]) ∧ w' = W.alloc (.cells #[.map mb] 80) :=
  (callsIn_wide (n := 5)).1 (AnyZI.keys_in Tryz.keysA Fence.wide 5 trivial rfl mb W)
set_option maxHeartbeats 1000000 in
theorem sortedKeys_any (b nn : Nat) (D0 : DataW Unit) (l : List Int) (w : World) (hown : w.ownsMap Tryz.prog 3 unitElem b nn D0) (hl : SetI D0 l) (hn : nn ≤ 1000000) :
    Calls Tryz.prog 54 #[.func (.func 74) #[] #[.pointer (some ⟨w.heap.size, 0, none⟩)]] (w.alloc (.cells #[.map (some b)] 80)) fun e w' => ∃ v, e = .returned v ∧
      OSeq intK (w.alloc (.cells #[.map (some b)] 80)).heap.size w' v (asc l) ∧ Below (w.alloc (.cells #[.map (some b)] 80)).heap.size (w.alloc (.cells #[.map (some b)] 80)) w' := by
  have hbl := hown.lt
  have hsl := hown.size_le
  have hmax : Maps.size D0 ≤ maxLen := by unfold maxLen; omega
  have hbytes : Maps.size D0 * 8 ≤ 140737488355328 := by omega
  have hseq : SeqGives Fence.wide 2 Tryz.prog 74 #[.pointer (some ⟨w.heap.size, 0, none⟩)] encZ (fun ss => ss.Perm (intKeys D0)) (Maps.size D0) (w.alloc (.cells #[.map (some b)] 80)) :=
    AnyZI.keys_gives (ρ := Tryz.keysA_ren) { Tryz.keysA with } Fence.wide _ trivial rfl (by omega) w.heap.size b nn D0 _ (by simp) (by simp) (by
      obtain ⟨es, clock, hb, Ft, hs, hD⟩ := hown
      exact ⟨es, clock, (Below.heap_alloc _ _ b hbl).trans hb, Ft, hs, hD⟩)
  have cS := AnyZI.sorted_in Tryz.sortedA Fence.wide 5 trivial trivial trivial trivial rfl (by omega) (Tryz.sortsA _) (enters_of Tryz.func73 (by kernel_rfl) rfl) 74 #[.pointer (some ⟨w.heap.size, 0, none⟩)] trivial (enters_of Tryz.func74 (by kernel_rfl) rfl) _ _ hmax hbytes _ hseq
  change CallsIn _ _ Tryz.prog 54 _ _ _ at cS
  refine ((callsIn_wide (n := 5)).1 cS).mono ?_
  rintro e w' ⟨v, ss, rfl, hp, hrow, _, hB⟩
  refine ⟨v, rfl, ?_, hB⟩
  have hz := hl.sorted hown hp
  have hlen : ss.length = (asc l).length := by rw [← hz, List.length_mergeSort]
  have hwf := intKeys_wf hown Tryz.underlying3
  refine ⟨(asc l).map fun x => [.int .i64 x], ?_, by simp, fun j x hj => ⟨_, by simp [hj], rfl, ?_⟩⟩
  · have e1 : ((asc l).map fun x => [Value.int .i64 x]).flatten = (asc l).map encZ := flat1 _ _
    rw [e1, ← hlen, ← hz]
    exact hrow
  · have hm : x ∈ intKeys D0 := by
      have h1 : x ∈ asc l := List.mem_of_getElem? hj
      rw [← hz, List.mem_mergeSort] at h1
      exact hp.mem_iff.1 h1
    have h2 := hwf x hm
    have e1 : IntKind.i64.min = -9223372036854775808 := by decide
    have e2 : IntKind.i64.max = 9223372036854775807 := by decide
    simp only [Lit.wf, e1, e2, Bool.and_eq_true, decide_eq_true_eq] at h2
    exact h2
end Go.Proofs.YtlocafmglficnaaGreatDoor
