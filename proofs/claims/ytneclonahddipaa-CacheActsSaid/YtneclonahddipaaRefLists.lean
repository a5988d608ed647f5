/- The reference's Keys and Granted. -/
import Derived.Test.YtneclonahddipaaRefRead
namespace Go.Proofs.Ytneclonahddipaa
open Go.RowKit Go.Maps Go.Sort Go.Shelf

def Str (xs : List ByteArray) : List Value := xs.map Value.string
theorem str_snoc (xs : List ByteArray) (x : ByteArray) : Str xs ++ [.string x] = Str (xs ++ [x]) := by simp [Str]
theorem strRow_own {w : World} {base : Nat} {v : Value} {xs : List ByteArray} {n : Nat} (h : w.ownsRow base 9 1 v n (Str xs)) : StrRow w v xs := by
  have hl : n = xs.length := by have := h.1; simp [Str] at this; omega
  subst hl
  obtain ⟨A, cap, rfl, hr⟩ := names_get h
  exact ⟨A, cap, rfl, hr⟩
theorem below_app3 {B n : Nat} {w W w1 : World} {o : Obj} {u : Value} {xs : List Value} {e : TypeId} {size : Nat} (hb : Below B w W) (hB : B ≤ W.heap.size) (hown : W.ownsRow B e size u n xs) (hg : (W.alloc o).grownBy w1 u.ownBlock) : Below B w w1 := by
  refine (hb.alloc hB o).grown hg (by simp; omega) (fun k hk => ?_)
  exact (ownBlock_some hown hk).1
theorem key_snoc {es : List Ent} {j : Nat} (h : j < es.length) : (es.take (j + 1)).map Ent.key = (es.take j).map Ent.key ++ [(es[j]?.getD default).key] := by
  rw [List.take_succ_eq_append_getElem h, List.map_append]
  simp [h]
def grantedL (es : List Ent) (a : ByteArray) : List ByteArray := (es.filter fun e => memB e.names a).map Ent.key
theorem granted_snoc {es : List Ent} {j : Nat} (h : j < es.length) (a : ByteArray) : grantedL (es.take (j + 1)) a = grantedL (es.take j) a ++ if memB (es[j]?.getD default).names a then [(es[j]?.getD default).key] else [] := by
  unfold grantedL
  rw [List.take_succ_eq_append_getElem h, List.filter_append, List.map_append]
  simp only [h, List.getElem?_eq_getElem, Option.getD_some]
  cases hm : memB es[j].names a <;> simp [hm]
theorem grantedL_le (es : List Ent) (a : ByteArray) : (grantedL es a).length ≤ es.length := by
  unfold grantedL; rw [List.length_map]; exact List.length_filter_le _ _

set_option maxHeartbeats 1000000 in
theorem keysRef_any (base p : Nat) (E : Value) (es : List Ent) (w : World) (h : IsRef base w p E es) (hl : es.length ≤ 1000000) :
    Calls Try.prog 26 #[.pointer (some ⟨p, 0, none⟩)] w fun e w' => ∃ v, e = .returned v ∧ StrRow w' v (es.map Ent.key) ∧ Below w.heap.size w w' := by
  obtain ⟨A, cap, rfl⟩ := h.slice
  obtain ⟨i0, hi, hz0, hz1, hz2⟩ := info_parts info9
  have HI := Lib.hid h
  have HCB := Lib.hid h.box
  clear h
  go_enter Try.func26, Try.ntmps26
  go_wp2
  go_loopw [3, 4] (fun u i wr => ∃ j : Nat, j ≤ es.length ∧ i = .int .i64 (j : Int) ∧ wr.ownsRow w.heap.size 9 1 u j (Str ((es.take j).map Ent.key)) ∧ Below w.heap.size w wr) (fun _ i _ => es.length - (intOf i).toNat)
  case atStart => exact ⟨0, Nat.zero_le _, rfl, World.ownsRow_nil _ _ _ _, Below.refl _ _⟩
  case round =>
    obtain ⟨j, hj, rfl, hown, hbr⟩ := hrel
    have cb := (HI.out.later hbr).box.cell
    rcases Nat.lt_or_ge j es.length with hlt | hge
    · obtain ⟨g, rfl, _, _, _, c0, _, _⟩ := (HI.out.later hbr).ent hlt
      have hi0 : (0 : Int) ≤ (j : Int) := by omega
      have hi1 : (j : Int) < (es.length : Int) := by omega
      have HS := Lib.hid (key_snoc hlt)
      generalize (es[j]?.getD default).key = kk at *
      go_wp2_with (at_builtin; refine wpList_append_own _ rfl _ _ 33 rfl w.heap.size 9 i0 (.string ByteArray.empty) 1 16 Try.underlying33 hi hz0 hz1 hz2 rfl (by decide) _ _ _ rfl (hown.alloc _) ⟨wr.heap.size, 0, none⟩ 1 1 [.string kk] rfl rfl (cell_one_new _ _ _) (by simp [Value.oneCell']) (by unfold maxLen; omega) (by omega) (by simp; have := hbr.size; omega) ?_; intro v1 w3 hown1 hgrow1 _)
      go_roundw
      case rel => exact ⟨j + 1, by omega, by simp, by rw [HS.out, ← str_snoc]; exact hown1, below_app3 hbr hbr.size hown hgrow1⟩
      case measure => simp [intOf]; omega
    · have hge' : ¬ ((j : Int) < (es.length : Int)) := by omega
      rw [List.take_of_length_le hge] at hown
      have hS := strRow_own hown
      clear hown
      go_wp2
      go_ret
      exact ⟨_, rfl, hS, hbr⟩

set_option maxHeartbeats 1000000 in
theorem grantedRef_any (base p : Nat) (E : Value) (es : List Ent) (a : ByteArray) (w : World) (h : IsRef base w p E es) (hl : es.length ≤ 1000000) (hn : ∀ e ∈ es, e.names.length ≤ 1000000) :
    Calls Try.prog 27 #[.pointer (some ⟨p, 0, none⟩), .string a] w fun e w' => ∃ v, e = .returned v ∧ StrRow w' v (grantedL es a) ∧ Below w.heap.size w w' := by
  obtain ⟨A, cap, rfl⟩ := h.slice
  obtain ⟨i0, hi, hz0, hz1, hz2⟩ := info_parts info9
  have HI := Lib.hid h
  have HN := Lib.hid hn
  clear h hn
  go_enter Try.func27, Try.ntmps27
  go_wp2
  go_loopw [5, 6] (fun u i wr => ∃ j : Nat, j ≤ es.length ∧ i = .int .i64 (j : Int) ∧ wr.ownsRow w.heap.size 9 1 u (grantedL (es.take j) a).length (Str (grantedL (es.take j) a)) ∧ Below w.heap.size w wr) (fun _ i _ => es.length - (intOf i).toNat)
  case atStart => exact ⟨0, Nat.zero_le _, rfl, World.ownsRow_nil _ _ _ _, Below.refl _ _⟩
  case round =>
    obtain ⟨j, hj, rfl, hown, hbr⟩ := hrel
    have cb := (HI.out.later hbr).box.cell
    rcases Nat.lt_or_ge j es.length with hlt | hge
    · obtain ⟨g, rfl, _, _, _, c0, _, c2⟩ := (HI.out.later hbr).ent hlt
      have hns := (HI.out.later hbr).ns j (es[j]?.getD default) (by simp [hlt])
      have hnl := HN.out (es[j]?.getD default) (by simp [hlt])
      have HNS := Lib.hid hns
      have hi0 : (0 : Int) ≤ (j : Int) := by omega
      have hi1 : (j : Int) < (es.length : Int) := by omega
      have HS := Lib.hid (granted_snoc hlt a)
      have hgl : (grantedL (es.take j) a).length ≤ j := Nat.le_trans (grantedL_le _ _) (List.length_take_le _ _)
      clear hns
      generalize es[j]?.getD default = en at *
      obtain ⟨kk, tt, nn, nms⟩ := en
      dsimp only at c0 c2 HNS hnl HS
      cases hm : memB nms a with
      | true =>
        have HM := Lib.hid hm
        have HS2 : Hid (grantedL (es.take (j + 1)) a = grantedL (es.take j) a ++ [kk]) := Lib.hid (by rw [HS.out, hm]; rfl)
        clear hm HS
        generalize grantedL (es.take j) a = L at *
        go_wp2_with (first
          | (go_at_call 34; refine (hasRef_any _ _ a _ _ HNS.out hnl).mono ?_; rintro e w' ⟨rfl, rfl⟩; rw [HM.out])
          | (at_builtin; refine wpList_append_own _ rfl _ _ 33 rfl w.heap.size 9 i0 (.string ByteArray.empty) 1 16 Try.underlying33 hi hz0 hz1 hz2 rfl (by decide) _ _ _ rfl (hown.alloc _) ⟨wr.heap.size, 0, none⟩ 1 1 [.string kk] rfl rfl (cell_one_new _ _ _) (by simp [Value.oneCell']) (by unfold maxLen; omega) (by omega) (by simp; have := hbr.size; omega) ?_; intro v1 w3 hown1 hgrow1 _))
        go_roundw
        case rel => exact ⟨j + 1, by omega, by simp, by rw [HS2.out, List.length_append, ← str_snoc]; exact hown1, below_app3 hbr hbr.size hown hgrow1⟩
        case measure => simp [intOf]; omega
      | false =>
        have HM := Lib.hid hm
        have HS2 : Hid (grantedL (es.take (j + 1)) a = grantedL (es.take j) a) := Lib.hid (by rw [HS.out, hm]; simp)
        clear hm HS
        go_wp2_with (go_at_call 34; refine (hasRef_any _ _ a _ _ HNS.out hnl).mono ?_; rintro e w' ⟨rfl, rfl⟩; rw [HM.out])
        go_roundw
        case rel => exact ⟨j + 1, by omega, by simp, by rw [HS2.out]; exact hown, hbr⟩
        case measure => simp [intOf]; omega
    · have hge' : ¬ ((j : Int) < (es.length : Int)) := by omega
      rw [List.take_of_length_le hge] at hown
      have hS := strRow_own hown
      clear hown
      go_wp2
      go_ret
      exact ⟨_, rfl, hS, hbr⟩
end Go.Proofs.Ytneclonahddipaa
