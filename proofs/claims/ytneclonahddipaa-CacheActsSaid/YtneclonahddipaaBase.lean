/- The cache's methods: what each returns, and which memory it turns. -/
import Derived.Test.YtneclonahddipaaProg
import Derived.ProofKit
import Derived.Maps.OwnSet
import Derived.Maps.StringElems
import Derived.Maps.AppendAt
import Derived.WalkKit
import Derived.Handy
import Derived.Lib.Hide
import Derived.RangeFuncNested
import Derived.RangeFuncBound
import Derived.RangeFuncCalls
import Derived.RangeFuncLeaves
import Derived.RangeFuncBox
import Derived.RangeFuncFrom
import Derived.Shelf.Abstract
import Derived.Shelf.RegionOpen
import Derived.OwnWalkIn
import Derived.TacticsInMore
import Derived.LoopNIn
import Derived.LoopIn
import Derived.Maps.OwnIn
import Derived.BigQuiet
import Derived.Deep.RegionHeld3
import Derived.Deep.DrawnRows
namespace Go.Proofs.Ytneclonahddipaa
open Go.RowKit Go.Maps

theorem zero9 (w : World) : (zeroValue 9).run Try.prog w = .ok (.string ByteArray.empty) w := by kernel_rfl
theorem zero51 (w : World) : (zeroValue 51).run Try.prog w = .ok (.agg #[]) w := by kernel_rfl
theorem laidOut : laidOutB Try.prog = true := by kernel_rfl
theorem row53 : (53 : TypeId) < Try.prog.types.size := of_decide_eq_true (by kernel_rfl)
theorem wide53 : (match Try.prog.underlying 53 with | some (.array _ _) | some (.struct _) => true | _ => false) = true := by rw [Try.underlying53]
theorem lawG : Keyed Try.prog 53 := Keyed.of_law (deep_law_laid laidOut (m := 2) (by omega) row53 (by kernel_rfl) wide53)
theorem lawS : Keyed Try.prog 9 := string_keyed Try.underlying9
theorem cells53 : Try.prog.cellsOf 53 = 2 := by kernel_rfl
theorem cells9 : Try.prog.cellsOf 9 = 1 := by kernel_rfl
theorem keyType53 : Try.prog.keyType 53 = true := by kernel_rfl
theorem typesSize : Try.prog.types.size + 1 = (Try.prog.types.size - 1) + 1 + 1 := by kernel_rfl

theorem toList_loop (bs : ByteArray) : ∀ (k i : Nat) (r : List UInt8), k = bs.size - i → ByteArray.toList.loop bs i r = r.reverse ++ bs.data.toList.drop i := by
  intro k
  induction k with
  | zero =>
    intro i r hk
    unfold ByteArray.toList.loop
    rw [if_neg (by omega), List.drop_eq_nil_of_le (by have : bs.data.toList.length = bs.size := Array.length_toList; omega), List.append_nil]
  | succ k ih =>
    intro i r hk
    have hi : i < bs.size := by omega
    have hi' : i < bs.data.size := hi
    unfold ByteArray.toList.loop
    rw [if_pos hi, ih _ _ (by omega)]
    have e : bs.data.toList.drop i = bs.get! i :: bs.data.toList.drop (i + 1) := by
      rw [List.drop_eq_getElem_cons (by simpa using hi')]
      congr 1
      simp only [Array.getElem_toList]
      show bs.data[i] = bs.data[i]!
      rw [getElem!_pos bs.data i hi']
    rw [e]
    simp
theorem toList_data (bs : ByteArray) : bs.toList = bs.data.toList := by
  unfold ByteArray.toList
  rw [toList_loop bs _ 0 [] rfl]
  simp
theorem toList_ne {a b : ByteArray} (h : a ≠ b) : a.toList ≠ b.toList := by
  rw [toList_data, toList_data]
  exact fun e => h (ByteArray.ext (Array.toList_inj.1 e))
theorem toList_beq_false {a b : ByteArray} (h : a ≠ b) : (a.toList == b.toList) = false := by simpa using toList_ne h

/-- A string as a key. -/
def aKey (k : ByteArray) : Lit := .string k.data.toList
/-- An analyst and a key, as a key. -/
def gKey (a k : ByteArray) : Lit := .string (keyBytes [.string a.data.toList, .string k.data.toList])

theorem keyOf9 {s : ByteArray} (hs : s.size ≤ maxLen) : keyOf Try.prog 9 (.string s) = some (aKey s) := by
  simp [keyOf, mapKey, Try.underlying9, hs, aKey]
theorem keyOf53 {a k : ByteArray} (ha : a.size ≤ maxLen) (hk : k.size ≤ maxLen) : keyOf Try.prog 53 (.agg #[.string a, .string k]) = some (gKey a k) := by
  unfold keyOf
  rw [Try.underlying53]
  simp only [keyType53, Value.formed, Try.underlying53, cells53, Value.cells]
  rw [typesSize]
  generalize Try.prog.types.size - 1 = N
  simp [Try.underlying53, cells53, cells9, Program.keyLits, Try.underlying9, ha, hk, gKey]

theorem aKey_inj {a b : ByteArray} (ha : a.size ≤ maxLen) (hb : b.size ≤ maxLen) (h : aKey a = aKey b) : a = b := by
  have := lawS.inj (keyOf9 ha) (by rw [h]; exact keyOf9 hb)
  simpa using this
theorem gKey_inj {a k a' k' : ByteArray} (ha : a.size ≤ maxLen) (hk : k.size ≤ maxLen) (ha' : a'.size ≤ maxLen) (hk' : k'.size ≤ maxLen) (h : gKey a k = gKey a' k') : a = a' ∧ k = k' := by
  have := lawG.inj (keyOf53 ha hk) (by rw [h]; exact keyOf53 ha' hk')
  simpa using this
theorem aKey_isKey (a : ByteArray) : WideAt.IsKeyLit (aKey a) := trivial
theorem gKey_isKey (a k : ByteArray) : WideAt.IsKeyLit (gKey a k) := trivial

/-- A cache in memory: its struct in block b, its answers in map ma, its grants in map mg. -/
structure IsCache (w : World) (b ma mg n : Nat) (A G : DataW Unit) : Prop where
  c0 : w.cell? ⟨b, 0, none⟩ = some (.map (some ma))
  c1 : w.cell? ⟨b, 1, none⟩ = some (.map (some mg))
  am : w.ownsMap Try.prog 9 (plainElem Try.prog 9) ma n A
  gm : w.ownsMap Try.prog 53 unitElem mg n G
  ne : ma ≠ mg

theorem IsCache.kept {w w' : World} {b ma mg n : Nat} {A G : DataW Unit} {row : Option Nat} (h : IsCache w b ma mg n A G) (hg : w.grownBy w' row) (hb : some b ≠ row) (ha : some ma ≠ row) (hm : some mg ≠ row) : IsCache w' b ma mg n A G :=
  ⟨hg.cell h.c0 hb, hg.cell h.c1 hb, h.am.kept hg ha, h.gm.kept hg hm, h.ne⟩

theorem IsCache.apart {w : World} {b ma mg n : Nat} {A G : DataW Unit} (h : IsCache w b ma mg n A G) : b ≠ ma ∧ b ≠ mg := by
  obtain ⟨es, c, ha, _⟩ := h.am
  obtain ⟨es', c', hg, _⟩ := h.gm
  have h0 := h.c0
  constructor
  · rintro rfl; simp [World.cell?, ha] at h0
  · rintro rfl; simp [World.cell?, hg] at h0

theorem grown_none {w w' : World} (h : Below w.heap.size w w') (row : Option Nat) : w.grownBy w' row := ⟨h.os, h.tape, h.output, h.size, fun k hk _ => h.block k hk⟩

theorem eq45_some (m : Nat) (w : World) : (binOp .eql 45 (.map (some m)) (.map none)).run Try.prog w = .ok (.bool false) w := by kernel_rfl
theorem eq45_none (w : World) : (binOp .eql 45 (.map none) (.map none)).run Try.prog w = .ok (.bool true) w := by kernel_rfl

theorem none_nil (w : World) : Calls Try.prog 28 #[.pointer none] w fun e w' => e = .returned (.bool true) ∧ w' = w := by
  go_enter Try.func28, Try.ntmps28
  go_wp2
  all_goals go_ret
  all_goals exact ⟨rfl, rfl⟩

theorem none_zero (b : Nat) (w : World) (h : w.cell? ⟨b, 0, none⟩ = some (.map none)) : Calls Try.prog 28 #[.pointer (some ⟨b, 0, none⟩)] w fun e w' => e = .returned (.bool true) ∧ w' = w := by
  have q := eq45_none
  go_enter Try.func28, Try.ntmps28
  go_wp2
  all_goals go_ret
  all_goals exact ⟨rfl, rfl⟩

theorem none_cache (b m : Nat) (w : World) (h : w.cell? ⟨b, 0, none⟩ = some (.map (some m))) : Calls Try.prog 28 #[.pointer (some ⟨b, 0, none⟩)] w fun e w' => e = .returned (.bool false) ∧ w' = w := by
  have q := eq45_some
  go_enter Try.func28, Try.ntmps28
  go_wp2
  all_goals go_ret
  all_goals exact ⟨rfl, rfl⟩

/-- New. -/
theorem new_any (w : World) : Calls Try.prog 8 #[] w fun e w' => e = .returned (.pointer (some ⟨w.heap.size + 1 + 1, 0, none⟩)) ∧ IsCache w' (w.heap.size + 1 + 1) w.heap.size (w.heap.size + 1) 0 (.map []) (.map []) ∧ Below w.heap.size w w' := by
  have hmm := @run_makeMap Try.prog
  go_enter Try.func8, Try.ntmps8
  go_wp2
  go_ret
  refine ⟨by simp, ⟨?_, ?_, ?_, ?_, by omega⟩, by go_grown⟩
  · rw [World.cell?_alloc_at _ _ _ _ (by simp)]; rfl
  · rw [World.cell?_alloc_at _ _ _ _ (by simp)]; rfl
  · exact ((World.ownsMap_made w _ _ _).alloc _).alloc _
  · have := (World.ownsMap_made (w.alloc (.map #[] 0)) Try.prog 53 (unitElem (H := Unit))).alloc (.cells #[.map (some w.heap.size), .map (some (w.heap.size + 1))] 48)
    simpa using this

/-- Get. -/
theorem get_any (b ma mg n : Nat) (A G : DataW Unit) (k : ByteArray) (w : World) (h : IsCache w b ma mg n A G) (hk : k.size ≤ maxLen) :
    Calls Try.prog 9 #[.pointer (some ⟨b, 0, none⟩), .string k] w fun e w' => w' = w ∧ ∃ t : ByteArray, t.size ≤ maxLen ∧ e = .returned (.tuple #[.string t, .bool (Maps.has A (aKey k))]) ∧ A.atKey (aKey k) (.lit (.string [])) = .lit (.string t.data.toList) := by
  have hkey := keyOf9 hk
  have hc := h.c0
  have ham := h.am
  go_enter Try.func9, Try.ntmps9
  go_wp2_with (first
    | (at_lookup; refine wpList_lookup_own_ok _ rfl _ _ 45 rfl 9 9 lawS Try.underlying45 (plainElem Try.prog 9) (zero9 _) (.lit (.string [])) [] (plainElem_string Try.underlying9 (by decide)) ma n A rfl ham _ _ rfl hkey ?_; intro v ps hv; obtain ⟨t, rfl, ht, hts⟩ := plainElem_string_inv Try.underlying9 hv)
    | (go_at_call 28; refine (none_cache b ma _ hc).mono ?_; rintro e w' ⟨rfl, rfl⟩))
  simp only [Prod.mk.injEq] at ht
  refine bodyPost_ret (v := .tuple #[.string t, .bool (Maps.has A (aKey k))]) (by simp [results, Try.f9, go_sem]) rfl ⟨rfl, t, hts, rfl, ht.1⟩

/-- Has. -/
theorem has_any (b ma mg n : Nat) (A G : DataW Unit) (a k : ByteArray) (w : World) (h : IsCache w b ma mg n A G) (ha : a.size ≤ maxLen) (hk : k.size ≤ maxLen) :
    Calls Try.prog 12 #[.pointer (some ⟨b, 0, none⟩), .string a, .string k] w fun e w' => e = .returned (.bool (Maps.has G (gKey a k))) ∧ Below w.heap.size w w' := by
  have hkey := keyOf53 ha hk
  have hc := h.c0
  have hc1 := h.c1
  have hgm := h.gm
  go_enter Try.func12, Try.ntmps12
  go_wp2_with (first
    | (at_lookup; refine wpList_lookup_own_unit _ rfl _ _ 46 rfl 53 51 lawG Try.underlying46 (zero51 _) mg n G rfl hgm _ _ rfl hkey ?_)
    | (go_at_call 28; refine (none_cache b ma _ hc).mono ?_; rintro e w' ⟨rfl, rfl⟩))
  go_ret
  exact ⟨rfl, by go_grown⟩

/-- Put, of a new key or the text that lies there. -/
theorem put_new (b ma mg n : Nat) (A G : DataW Unit) (k t : ByteArray) (w : World) (h : IsCache w b ma mg n A G) (hk : k.size ≤ maxLen) (ht : t.size ≤ maxLen) (hn : n < 1000000)
    (hnew : Maps.has A (aKey k) = false) :
    Calls Try.prog 10 #[.pointer (some ⟨b, 0, none⟩), .string k, .string t] w fun e w' => e = .returned (.int .i64 0) ∧ IsCache w' b ma mg (n + 1) (A.put (aKey k) (.lit (.string t.data.toList))) G ∧ w.grownBy w' (some ma) := by
  have hkey := keyOf9 hk
  have hc := h.c0
  have ham := h.am
  have hnm : n < maxLen := by unfold maxLen; omega
  have hap := h.apart
  have H := Lib.hid h
  clear h
  go_enter Try.func10, Try.ntmps10
  go_wp2_with (first
    | (at_lookup; refine wpList_lookup_own_ok _ rfl _ _ 45 rfl 9 9 lawS Try.underlying45 (plainElem Try.prog 9) (zero9 _) (.lit (.string [])) [] (plainElem_string Try.underlying9 (by decide)) ma n A rfl ham _ _ rfl hkey ?_; intro v ps hv; obtain ⟨t0, rfl, ht0, hts⟩ := plainElem_string_inv Try.underlying9 hv; rw [hnew])
    | (at_mapUpdate; refine wpList_mapUpdate_own _ rfl _ _ _ 45 rfl 9 9 lawS Try.underlying45 (plainElem Try.prog 9) ma n A rfl ham hnm _ _ _ rfl rfl hkey _ [] (plainElem_string Try.underlying9 ht) ?_; intro w1 hown1 hgrow1)
    | (go_at_call 28; refine (none_cache b ma _ hc).mono ?_; rintro e w' ⟨rfl, rfl⟩))
  go_ret
  have h' := H.out
  exact ⟨rfl, ⟨hgrow1.cell h'.c0 (by simp; exact hap.1), hgrow1.cell h'.c1 (by simp; exact hap.1), hown1, (h'.gm.mono (Nat.le_succ n)).kept hgrow1 (by simp; exact fun e => h'.ne e.symm), h'.ne⟩, hgrow1⟩

/-- Put, of a key that lies there, with the text that lies there. -/
theorem put_same (b ma mg n : Nat) (A G : DataW Unit) (k t : ByteArray) (w : World) (h : IsCache w b ma mg n A G) (hk : k.size ≤ maxLen) (ht : t.size ≤ maxLen) (hn : n < 1000000)
    (hold : Maps.has A (aKey k) = true) (hat : A.atKey (aKey k) (.lit (.string [])) = .lit (.string t.data.toList)) :
    Calls Try.prog 10 #[.pointer (some ⟨b, 0, none⟩), .string k, .string t] w fun e w' => e = .returned (.int .i64 0) ∧ IsCache w' b ma mg (n + 1) (A.put (aKey k) (.lit (.string t.data.toList))) G ∧ w.grownBy w' (some ma) := by
  have hkey := keyOf9 hk
  have hc := h.c0
  have ham := h.am
  have hnm : n < maxLen := by unfold maxLen; omega
  have hap := h.apart
  have H := Lib.hid h
  have HA := Lib.hid hat
  clear h hat
  go_enter Try.func10, Try.ntmps10
  go_wp2_with (first
    | (at_lookup; refine wpList_lookup_own_ok _ rfl _ _ 45 rfl 9 9 lawS Try.underlying45 (plainElem Try.prog 9) (zero9 _) (.lit (.string [])) [] (plainElem_string Try.underlying9 (by decide)) ma n A rfl ham _ _ rfl hkey ?_; intro v ps hv; obtain ⟨t0, rfl, ht0, hts⟩ := plainElem_string_inv Try.underlying9 hv; obtain rfl : t0 = t := (by rw [HA.out] at ht0; simp only [Prod.mk.injEq, DataW.lit.injEq, Lit.string.injEq] at ht0; exact (ByteArray.ext (Array.toList_inj.1 ht0.1)).symm); clear ht0 hv; rw [hold])
    | (at_mapUpdate; refine wpList_mapUpdate_own _ rfl _ _ _ 45 rfl 9 9 lawS Try.underlying45 (plainElem Try.prog 9) ma n A rfl ham hnm _ _ _ rfl rfl hkey _ [] (plainElem_string Try.underlying9 ht) ?_; intro w1 hown1 hgrow1)
    | (go_at_call 28; refine (none_cache b ma _ hc).mono ?_; rintro e w' ⟨rfl, rfl⟩))
  go_ret
  have h' := H.out
  exact ⟨rfl, ⟨hgrow1.cell h'.c0 (by simp; exact hap.1), hgrow1.cell h'.c1 (by simp; exact hap.1), hown1, (h'.gm.mono (Nat.le_succ n)).kept hgrow1 (by simp; exact fun e => h'.ne e.symm), h'.ne⟩, hgrow1⟩

/-- Put, of a key that lies there, with another text. -/
theorem put_other (b ma mg n : Nat) (A G : DataW Unit) (k t told : ByteArray) (w : World) (h : IsCache w b ma mg n A G) (hk : k.size ≤ maxLen)
    (hold : Maps.has A (aKey k) = true) (hat : A.atKey (aKey k) (.lit (.string [])) = .lit (.string told.data.toList)) (hne : told ≠ t) :
    Calls Try.prog 10 #[.pointer (some ⟨b, 0, none⟩), .string k, .string t] w fun e w' => e = .returned (.int .i64 8) ∧ w' = w := by
  have hkey := keyOf9 hk
  have hc := h.c0
  have ham := h.am
  have HA := Lib.hid hat
  clear h hat
  have heq := toList_beq_false hne
  go_enter Try.func10, Try.ntmps10
  go_wp2_with (first
    | (at_lookup; refine wpList_lookup_own_ok _ rfl _ _ 45 rfl 9 9 lawS Try.underlying45 (plainElem Try.prog 9) (zero9 _) (.lit (.string [])) [] (plainElem_string Try.underlying9 (by decide)) ma n A rfl ham _ _ rfl hkey ?_; intro v ps hv; obtain ⟨t0, rfl, ht0, hts⟩ := plainElem_string_inv Try.underlying9 hv; obtain rfl : t0 = told := (by rw [HA.out] at ht0; simp only [Prod.mk.injEq, DataW.lit.injEq, Lit.string.injEq] at ht0; exact (ByteArray.ext (Array.toList_inj.1 ht0.1)).symm); clear ht0 hv; rw [hold])
    | (go_at_call 28; refine (none_cache b ma _ hc).mono ?_; rintro e w' ⟨rfl, rfl⟩))
  go_ret
  exact ⟨rfl, rfl⟩

/-- Grant, of a key that lies there. -/
theorem grant_old (b ma mg n : Nat) (A G : DataW Unit) (a k : ByteArray) (w : World) (h : IsCache w b ma mg n A G) (ha : a.size ≤ maxLen) (hk : k.size ≤ maxLen) (hn : n < 1000000)
    (hold : Maps.has A (aKey k) = true) :
    Calls Try.prog 11 #[.pointer (some ⟨b, 0, none⟩), .string a, .string k] w fun e w' => e = .returned (.tuple #[.bool (!Maps.has G (gKey a k)), .int .i64 0]) ∧ IsCache w' b ma mg (n + 1) A (G.put (gKey a k) (.agg [])) ∧ w.grownBy w' (some mg) := by
  have hkey := keyOf9 hk
  have hkg := keyOf53 ha hk
  have hc := h.c0
  have hc1 := h.c1
  have ham := h.am
  have hgm := h.gm
  have hnm : n < maxLen := by unfold maxLen; omega
  have hap := h.apart
  have hlt := World.block_lt_of_cell? w _ hc
  have H := Lib.hid h
  go_enter Try.func11, Try.ntmps11
  go_wp2_with (first
    | (at_lookup; refine wpList_lookup_own_ok _ rfl _ _ 45 rfl 9 9 lawS Try.underlying45 (plainElem Try.prog 9) (zero9 _) (.lit (.string [])) [] (plainElem_string Try.underlying9 (by decide)) ma n A rfl ham _ _ rfl hkey ?_; intro v ps hv; obtain ⟨t0, rfl, ht0, hts⟩ := plainElem_string_inv Try.underlying9 hv; clear ht0 hv; rw [hold])
    | (go_at_call 28; refine (none_cache b ma _ hc).mono ?_; rintro e w' ⟨rfl, rfl⟩)
    | (go_at_call 12; refine (has_any b ma mg n A G a k _ h ha hk).mono ?_; rintro e w2 ⟨rfl, hb2⟩; have h2 := h.kept (grown_none hb2 none) (by simp) (by simp) (by simp); have hc2 := h2.c1; have hgm2 := h2.gm; clear h)
    | (at_mapUpdate; refine wpList_mapUpdate_own _ rfl _ _ _ 46 rfl 53 51 lawG Try.underlying46 unitElem mg n G rfl hgm2 hnm _ _ _ rfl rfl hkg _ [] unitElem_mk ?_; intro w1 hown1 hgrow1))
  have h' := h2
  refine bodyPost_ret (v := .tuple #[.bool (!Maps.has G (gKey a k)), .int .i64 0]) (by simp [results, Try.f11, go_sem]) rfl ⟨rfl, ⟨hgrow1.cell h'.c0 (by simp; exact hap.2), hgrow1.cell h'.c1 (by simp; exact hap.2), (h'.am.mono (Nat.le_succ n)).kept hgrow1 (by simp; exact h'.ne), hown1, h'.ne⟩, (grown_none hb2 _).trans hgrow1⟩

/-- Grant, of a key that does not lie there. -/
theorem grant_none (b ma mg n : Nat) (A G : DataW Unit) (a k : ByteArray) (w : World) (h : IsCache w b ma mg n A G) (hk : k.size ≤ maxLen) (hold : Maps.has A (aKey k) = false) :
    Calls Try.prog 11 #[.pointer (some ⟨b, 0, none⟩), .string a, .string k] w fun e w' => e = .returned (.tuple #[.bool false, .int .i64 7]) ∧ w' = w := by
  have hkey := keyOf9 hk
  have hc := h.c0
  have ham := h.am
  clear h
  go_enter Try.func11, Try.ntmps11
  go_wp2_with (first
    | (at_lookup; refine wpList_lookup_own_ok _ rfl _ _ 45 rfl 9 9 lawS Try.underlying45 (plainElem Try.prog 9) (zero9 _) (.lit (.string [])) [] (plainElem_string Try.underlying9 (by decide)) ma n A rfl ham _ _ rfl hkey ?_; intro v ps hv; obtain ⟨t0, rfl, ht0, hts⟩ := plainElem_string_inv Try.underlying9 hv; clear ht0 hv; rw [hold])
    | (go_at_call 28; refine (none_cache b ma _ hc).mono ?_; rintro e w' ⟨rfl, rfl⟩))
  exact bodyPost_ret (v := .tuple #[.bool false, .int .i64 7]) (by simp [results, Try.f11, go_sem]) rfl ⟨rfl, rfl⟩
end Go.Proofs.Ytneclonahddipaa
