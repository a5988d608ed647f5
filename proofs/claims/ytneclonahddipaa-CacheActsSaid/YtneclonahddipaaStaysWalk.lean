/- The law CacheStays returns true: the walk. -/
import Derived.Test.YtneclonahddipaaActs
namespace Go.Proofs.Ytneclonahddipaa
open Go.RowKit Go.Maps Go.Sort Go.Shelf

/-- The answer stays: the key has the text f. -/
def Holds1 (A : DataW Unit) (k f : ByteArray) : Prop := Maps.has A (aKey k) = true ∧ A.atKey (aKey k) (.lit (.string [])) = .lit (.string f.data.toList)

theorem isMap_kc {w wi : World} {n : Nat} {A G : DataW Unit} (h : Kc w wi n A G) : IsMap A ∧ IsMap G := ⟨h.c.am.isMap, h.c.gm.isMap⟩

theorem holds_put {A A' : DataW Unit} {k f k' t' : ByteArray} {x : Int} (hm : IsMap A) (h : Holds1 A k f) (hp : PutTo k' t' A A' x) (hk : k.size ≤ maxLen) (hk' : k'.size ≤ maxLen) : Holds1 A' k f := by
  rcases hp with ⟨_, _, rfl, _⟩ | ⟨hc, rfl, _⟩
  · exact h
  · by_cases e : aKey k = aKey k'
    · have e1 := aKey_inj hk hk' e
      subst e1
      refine ⟨has_put_same hm (aKey_isKey _) _, ?_⟩
      rw [atKey_put_same hm (aKey_isKey _)]
      rcases hc with hc | hc
      · rw [h.1] at hc; cases hc
      · exact hc.symm.trans h.2
    · exact ⟨by rw [has_put_other e]; exact h.1, by rw [atKey_put_other e]; exact h.2⟩
theorem has_gput {G : DataW Unit} {a k a' k' : ByteArray} (hm : IsMap G) (h : Maps.has G (gKey a k) = true) : Maps.has (G.put (gKey a' k') (.agg [])) (gKey a k) = true := by
  by_cases e : gKey a k = gKey a' k'
  · rw [e]; exact has_put_same hm (gKey_isKey _ _) _
  · rw [has_put_other e]; exact h
theorem stays_act {A G A' G' : DataW Unit} {k f a : ByteArray} {x : ActV} (hA : IsMap A) (hG : IsMap G) (h : Holds1 A k f) (hg : Maps.has G (gKey a k) = true) (hact : ActTo x.kd x.nm x.k x.t A G A' G') (hk : k.size ≤ maxLen) (hok : ActOk x) :
    Holds1 A' k f ∧ Maps.has G' (gKey a k) = true := by
  rcases hact with ⟨_, rfl, y, hp⟩ | ⟨_, rfl, r, y, hp⟩ | ⟨_, rfl, rfl⟩
  · exact ⟨holds_put hA h hp hk hok.2.1, hg⟩
  · rcases hp with ⟨_, rfl, _⟩ | ⟨_, rfl, _⟩
    · exact ⟨h, has_gput hG hg⟩
    · exact ⟨h, hg⟩
  · exact ⟨h, hg⟩

theorem has_of_put {A A' : DataW Unit} {k t : ByteArray} {x : Int} (hm : IsMap A) (h : PutTo k t A A' x) : Maps.has A' (aKey k) = true := by
  rcases h with ⟨h, _, rfl, _⟩ | ⟨_, rfl, _⟩
  · exact h
  · exact has_put_same hm (aKey_isKey _) _
theorem has_of_grant {A G G' : DataW Unit} {a k : ByteArray} {r : Bool} {x : Int} (hA : Maps.has A (aKey k) = true) (hm : IsMap G) (h : GrantTo a k A G G' r x) : Maps.has G' (gKey a k) = true := by
  rcases h with ⟨_, rfl, _⟩ | ⟨h, _⟩
  · exact has_put_same hm (gKey_isKey _ _) _
  · rw [hA] at h; cases h

set_option maxRecDepth 100000 in
set_option maxHeartbeats 4000000 in
theorem stays_any (va vb : Value) (xs ys : List ActV) (k t nm : ByteArray) (w : World) (ha : ActRow w va xs) (hb : ActRow w vb ys) (hk : k.size ≤ maxLen) (ht : t.size ≤ maxLen) (hnm : nm.size ≤ maxLen) :
    Calls Try.prog 4 #[va, vb, .string k, .string t, .string nm] w fun e w' => e = .returned (.bool true) ∧ Below w.heap.size w w' := by
  obtain ⟨A, ca, rfl, hra⟩ := ha
  obtain ⟨B, cb, rfl, hrb⟩ := hb
  by_cases hx : 60 < xs.length
  · have hx' : (60 : Int) < (xs.length : Int) := by omega
    go_enter Try.func4, Try.ntmps4
    go_wp2_with (go_at_call 3; refine (known_any _).mono ?_; rintro e w1 ⟨rfl, hb⟩)
    go_ret
    exact ⟨rfl, hb⟩
  by_cases hy : 60 < ys.length
  · have hx' : ¬ (60 : Int) < (xs.length : Int) := by omega
    have hy' : (60 : Int) < (ys.length : Int) := by omega
    go_enter Try.func4, Try.ntmps4
    go_wp2_with (go_at_call 3; refine (known_any _).mono ?_; rintro e w1 ⟨rfl, hb⟩)
    go_ret
    exact ⟨rfl, hb⟩
  have hx' : ¬ (60 : Int) < (xs.length : Int) := by omega
  have hy' : ¬ (60 : Int) < (ys.length : Int) := by omega
  have HRA := Lib.hid hra
  have HRB := Lib.hid hrb
  have HX := Lib.hid (And.intro hx hy)
  clear hra hrb hx hy
  go_enter Try.func4, Try.ntmps4
  go_wp2_with (first
    | (go_at_call 3; refine (known_any _).mono ?_; rintro e w1 ⟨rfl, hb1⟩)
    | (go_at_call 8; refine (new_any _).mono ?_; rintro e w2 ⟨rfl, hc, hb⟩; have k0 : Kc w1 w2 0 D0 D0 := ⟨hc, hb⟩; clear hc hb))
  go_loopw [13] (fun i wr => ∃ (j n : Nat) (A G : DataW Unit), j ≤ xs.length ∧ n ≤ j ∧ i = .int .i64 (j : Int) ∧ Kc w1 wr n A G) (fun i _ => xs.length - (intOf i).toNat)
  case atStart => exact ⟨0, 0, D0, D0, Nat.zero_le _, Nat.le_refl _, rfl, k0⟩
  case round =>
    obtain ⟨j, n, A1, G1, hj, hnj, rfl, hkc⟩ := hrel
    clear k0
    rcases Nat.lt_or_ge j xs.length with hlt | hge
    · obtain ⟨g, off, rfl, hc⟩ := HRA.out (by omega)
      obtain ⟨⟨e0, e1, e2, e3⟩, ok1, ok2, ok3⟩ := hc j hlt
      clear hc
      generalize xs[j]?.getD default = x at *
      have hgr := grown_none (hb1.trans (hkc.b.mono hb1.size)) none
      have g0 := hgr.cell e0 (by simp)
      have g1 := hgr.cell e1 (by simp)
      have g2 := hgr.cell e2 (by simp)
      have g3 := hgr.cell e3 (by simp)
      have hi0 : (0 : Int) ≤ (j : Int) := by omega
      have hi1 : (j : Int) < (xs.length : Int) := by omega
      have hn1 : n < 1000000 := by have := HX.out; omega
      clear e0 e1 e2 e3 hgr
      go_wp2_with (go_at_call 17; refine (perform_kc hkc x.kd x.nm x.k x.t ok1 ok2 ok3 hn1).mono ?_; rintro e w3 ⟨rfl, A2, G2, hkc2, hact⟩)
      go_roundw
      case rel => exact ⟨j + 1, n + 1, A2, G2, by omega, by omega, by simp, hkc2⟩
      case measure => simp [intOf]; omega
    · have hge' : ¬ ((j : Int) < (xs.length : Int)) := by omega
      have hn1 : n < 1000 := by have := HX.out; omega
      clear hj hge
      go_wp2_with (first
        | (go_at_call 10; refine (put_kc hkc k t hk ht (by omega)).mono ?_; rintro e w3 ⟨A2, px, rfl, hkc2, hput⟩; have hA2 := has_of_put (isMap_kc hkc).1 hput; clear hput hkc)
        | (go_at_call 9; refine (get_any _ _ _ _ _ _ k _ hkc2.c hk).mono ?_; rintro e w4 ⟨rfl, f, hf, rfl, hat⟩; rw [hA2])
        | (go_at_call 11; refine (grant_kc hkc2 nm k hnm hk (by omega)).mono ?_; rintro e w5 ⟨G3, r, gx, rfl, hkc3, hgr⟩; have hG3 := has_of_grant hA2 (isMap_kc hkc2).2 hgr; clear hgr hkc2))
      have H1 : Holds1 A2 k f := ⟨hA2, hat⟩
      clear hA2 hat
      have hn2 : n + 1 + 1 ≤ 2000 := by omega
      generalize n + 1 + 1 = n0 at *
      have hxl := HX.out.2
      go_loopw [16, 17, 18] (fun i _ _ wr => ∃ (j m : Nat) (A G : DataW Unit), j ≤ ys.length ∧ m ≤ n0 + j ∧ i = .int .i64 (j : Int) ∧ Kc w1 wr m A G ∧ Holds1 A k f ∧ Maps.has G (gKey nm k) = true) (fun i _ _ _ => ys.length - (intOf i).toNat)
      case atStart => exact ⟨0, n0, A2, G3, Nat.zero_le _, Nat.le_refl _, rfl, hkc3, H1, hG3⟩
      case round =>
        obtain ⟨j, m, A3, G4, hj, hmj, rfl, hkc, hA3, hG4⟩ := hrel
        clear hkc3 H1 hG3
        rcases Nat.lt_or_ge j ys.length with hlt | hge
        · obtain ⟨g, off, rfl, hc⟩ := HRB.out (by omega)
          obtain ⟨⟨e0, e1, e2, e3⟩, hok⟩ := hc j hlt
          obtain ⟨ok1, ok2, ok3⟩ := id hok
          clear hc
          generalize ys[j]?.getD default = x at *
          have hgr := grown_none (hb1.trans (hkc.b.mono hb1.size)) none
          have g0 := hgr.cell e0 (by simp)
          have g1 := hgr.cell e1 (by simp)
          have g2 := hgr.cell e2 (by simp)
          have g3 := hgr.cell e3 (by simp)
          have hi0 : (0 : Int) ≤ (j : Int) := by omega
          have hi1 : (j : Int) < (ys.length : Int) := by omega
          have hn1 : m < 1000000 := by omega
          have HH := Lib.hid (And.intro hA3 hG4)
          clear e0 e1 e2 e3 hgr hA3 hG4
          go_wp2_with (first
            | (go_at_call 17; refine (perform_kc hkc x.kd x.nm x.k x.t ok1 ok2 ok3 hn1).mono ?_; rintro e w6 ⟨rfl, A5, G5, hkc5, hact⟩; have HH5 := Lib.hid (stays_act (isMap_kc hkc).1 (isMap_kc hkc).2 HH.out.1 HH.out.2 hact hk hok); clear hact HH hkc)
            | (go_at_call 9; refine (get_any _ _ _ _ _ _ k _ hkc5.c hk).mono ?_; rintro e w7 ⟨rfl, f', hf', rfl, hat⟩; obtain rfl := str_of_lit (hat.symm.trans HH5.out.1.2); rw [HH5.out.1.1]; clear hat)
            | (go_at_call 12; refine (has_any _ _ _ _ _ _ nm k _ hkc5.c hnm hk).mono ?_; rintro e w8 ⟨rfl, hbh⟩; have hkc6 := hkc5.keep hbh; rw [HH5.out.2]))
          go_roundw
          case rel => exact ⟨j + 1, m + 1, A5, G5, by omega, by omega, by simp, hkc6, HH5.out.1, HH5.out.2⟩
          case measure => simp [intOf]; omega
        · have hge' : ¬ ((j : Int) < (ys.length : Int)) := by omega
          go_wp2
          go_ret
          exact ⟨rfl, hb1.trans (hkc.b.mono hb1.size)⟩
end Go.Proofs.Ytneclonahddipaa
