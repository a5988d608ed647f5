/- double: two equal strings in a list. -/
import Derived.Test.YtlocafmglficnaaGreatDoorTabWords
import Derived.Maps.OwnOps
import Derived.Deep.DrawnRows
namespace Go.Proofs.YtlocafmglficnaaGreatDoor
open Go.RowKit Go.Maps

theorem zero76 (w : World) : (zeroValue 81).run Tryz.prog w = .ok (.agg #[]) w := by kernel_rfl
theorem laidOut : laidOutB Tryz.prog = true := by kernel_rfl
theorem row153 : (141 : TypeId) < Tryz.prog.types.size := of_decide_eq_true (by kernel_rfl)
theorem wide153 : (match Tryz.prog.underlying 141 with | some (.array _ _) | some (.struct _) => true | _ => false) = true := by rw [Tryz.underlying141]
set_option maxRecDepth 100000 in
theorem lawP : Keyed Tryz.prog 141 := Keyed.of_law (deep_law_laid laidOut (m := 2) (by omega) row153 (by kernel_rfl) wide153)
theorem cells153 : Tryz.prog.cellsOf 141 = 2 := by kernel_rfl
theorem cells9 : Tryz.prog.cellsOf 9 = 1 := by kernel_rfl
theorem cells4' : Tryz.prog.cellsOf 4 = 1 := by kernel_rfl
theorem keyType153 : Tryz.prog.keyType 141 = true := by kernel_rfl
theorem typesSize : Tryz.prog.types.size + 1 = (Tryz.prog.types.size - 1) + 1 + 1 := by kernel_rfl
/-- A word as a key. -/
def pKey (s : ByteArray) : Lit := .string (keyBytes [.string s.data.toList, .bool false])
theorem keyOf153 {s : ByteArray} (hs : s.size ≤ maxLen) : keyOf Tryz.prog 141 (.agg #[.string s, .bool false]) = some (pKey s) := by
  unfold keyOf
  rw [Tryz.underlying141]
  simp only [keyType153, Value.formed, Tryz.underlying141, cells153, Value.cells]
  rw [typesSize]
  generalize Tryz.prog.types.size - 1 = N
  simp [Tryz.underlying141, cells153, cells9, cells4', Program.keyLits, Tryz.underlying9, Tryz.underlying4, hs, pKey]
theorem pKey_inj {s t : ByteArray} (hs : s.size ≤ maxLen) (ht : t.size ≤ maxLen) (h : pKey s = pKey t) : s = t := by
  have := lawP.inj (keyOf153 hs) (by rw [h]; exact keyOf153 ht)
  simpa using this
theorem pKey_isKey (s : ByteArray) : WideAt.IsKeyLit (pKey s) := trivial

/-- Has a list two equal strings? -/
def dupS (ss : List ByteArray) : Bool := !decide ss.Nodup
/-- The words of a list as a set. -/
structure SetInv (D : DataW Unit) (pre : List ByteArray) : Prop where
  m : IsMap D
  le : Maps.size D ≤ pre.length
  iff : Maps.size D = pre.length ↔ pre.Nodup
  has : ∀ s, s.size ≤ maxLen → (Maps.has D (pKey s) = true ↔ s ∈ pre)
theorem SetInv.nil : SetInv (.map []) [] := ⟨⟨_, rfl⟩, Nat.le_refl _, by simp [Maps.size], fun s _ => by simp [Maps.has]⟩
theorem SetInv.snoc {D : DataW Unit} {pre : List ByteArray} (h : SetInv D pre) (ht : Tidy D) {s : ByteArray} (hs : s.size ≤ maxLen) (d : DataW Unit) : SetInv (D.put (pKey s) d) (pre ++ [s]) := by
  have hsz := size_put (k := pKey s) ht d
  have hh := h.has s hs
  have hle := h.le
  have hif := h.iff
  refine ⟨h.m.put _ _, ?_, ?_, fun t ht' => ?_⟩
  · rw [hsz, List.length_append]; split <;> simp <;> omega
  · rw [hsz, List.length_append, List.nodup_append]
    by_cases hm : s ∈ pre
    · rw [if_pos (hh.2 hm)]
      constructor
      · intro e; simp at e; omega
      · rintro ⟨_, _, h3⟩
        exact absurd rfl (h3 s hm s (by simp))
    · rw [if_neg (fun e => hm (hh.1 e))]
      constructor
      · intro e
        simp at e
        refine ⟨hif.1 e, by simp, fun x hx y hy => ?_⟩
        simp at hy
        subst hy
        exact fun e => hm (e ▸ hx)
      · rintro ⟨h1, _, _⟩
        have := hif.2 h1
        simp; omega
  · by_cases e : t = s
    · subst e
      rw [has_put_same h.m (pKey_isKey _)]; simp
    · rw [has_put_other (fun e' => e (pKey_inj ht' hs e')), h.has t ht']
      simp [e]

set_option maxRecDepth 100000 in
set_option maxHeartbeats 1000000 in
theorem double_any (C : TypeId → Nat → Prop) (v : Value) (ss : List ByteArray) (w : World) (h : SRow strK C w v ss) (hl : ss.length ≤ 1000000) :
    Calls Tryz.prog 112 #[v] w fun e w' => e = .returned (.bool (dupS ss)) ∧ Below w.heap.size w w' := by
  obtain ⟨A, c, rfl, hle, hmx, hsz, hc⟩ := h.strs
  have HC := Lib.hid hc
  have HZ := Lib.hid hsz
  have hmm := @run_makeMap Tryz.prog
  have hmk := World.ownsMap_made w Tryz.prog 141 (unitElem (H := Unit))
  have HL := Lib.hid hl
  clear hc hsz h hl
  go_enter Tryz.func112, Tryz.ntmps112
  go_wp2
  clear hmm
  go_loopw [9] (fun i wr => ∃ (k : Nat) (D : DataW Unit), k ≤ ss.length ∧ i = .int .i64 k ∧ wr.ownsMap Tryz.prog 141 unitElem w.heap.size k D ∧ SetInv D (ss.take k) ∧ Below w.heap.size w wr) (fun i _ => ss.length - (intOf i).toNat)
  case atStart => exact ⟨0, _, Nat.zero_le _, rfl, hmk, by simpa using SetInv.nil, by go_grown⟩
  case round =>
    obtain ⟨k, D, hk, rfl, hown, hinv, hB⟩ := hrel
    have HI := Lib.hid hinv
    clear hinv hmk
    by_cases hlt : k < ss.length
    · obtain ⟨b, o, rfl, hcell⟩ := HC.out (by omega)
      have hck0 := hcell k hlt
      have hck := (hB.cell (p := ⟨b, o + k, none⟩) (World.block_lt_of_cell? w _ hck0)).trans hck0
      have hzk := HZ.out k hlt
      have hi0 : (0 : Int) ≤ (k : Int) := by omega
      have hi1 : (k : Int) < (ss.length : Int) := by omega
      have hi2 : (k : Int) < 1000000 := by have := HL.out; omega
      have hkm : k < maxLen := by unfold maxLen; omega
      have HS := Lib.hid (show SetInv (D.put (pKey ss[k]) (.agg [])) (ss.take (k + 1)) by
        rw [List.take_succ_eq_append_getElem hlt]
        exact HI.out.snoc (hown.tidy lawP) hzk _)
      clear hcell hck0
      generalize ss[k] = sk at *
      have hkey := keyOf153 hzk
      go_wp2_with (at_mapUpdate; refine wpList_mapUpdate_own _ rfl _ _ _ 139 rfl 141 81 lawP Tryz.underlying139 unitElem w.heap.size k D rfl hown hkm _ _ _ rfl rfl hkey _ [] unitElem_mk ?_; intro w1 hown1 hgrow1)
      have HB := Lib.hid (hB.grown hgrow1 hB.size (fun k hk => by simp at hk; omega))
      go_roundw
      case rel => exact ⟨k + 1, _, by omega, by go_num, hown1, HS.out, HB.out⟩
      case measure => simp [intOf]; omega
    · obtain rfl : k = ss.length := by omega
      have hi := HI.out
      rw [List.take_of_length_le (Nat.le_refl _)] at hi
      have HV := Lib.hid (show decide (Maps.size D < ss.length) = dupS ss by
        unfold dupS
        have h1 := hi.le
        have h2 := hi.iff
        by_cases hn : ss.Nodup
        · have := h2.2 hn
          simp [hn]; omega
        · have : Maps.size D ≠ ss.length := fun e => hn (h2.1 e)
          simp [hn]; omega)
      have HB := Lib.hid hB
      clear hlt hi hB
      go_wp2_with (at_len; refine wpList_len_own _ rfl _ 139 rfl 141 81 Tryz.underlying139 _ w.heap.size ss.length D rfl hown ?_)
      all_goals
        go_ret
        exact ⟨by rw [← HV.out]; rfl, HB.out⟩
end Go.Proofs.YtlocafmglficnaaGreatDoor
