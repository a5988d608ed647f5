/- The law CacheNone returns true for every act. -/
import Derived.Test.YtneclonahddipaaAwake
namespace Go.Proofs.Ytneclonahddipaa
open Go.RowKit Go.Maps

attribute [local go_sem ↓] Go.wp_at_zero Go.wp_at_succ

theorem NoCache.drew {w : World} {p : Value} (h : NoCache w p) : NoCache w.drew p := h
theorem cellL {w : World} {a : Addr} {v : Value} (o : Obj) (h : w.cell? a = some v) : (w.alloc o).cell? a = some v := (World.grownBy_alloc w o none).cell h (by simp)

set_option maxRecDepth 100000 in
set_option maxHeartbeats 4000000 in
theorem cacheNone_any (kd : Int) (nm k t : ByteArray) (w : World) : Calls Try.prog 7 #[.agg #[.int .i64 kd, .string nm, .string k, .string t]] w fun e w' => e = .returned (.bool true) ∧ Below w.heap.size w w' := by
  go_enter Try.func7, Try.ntmps7
  go_wp2
  have hB0 : Below w.heap.size w (((w.alloc (Obj.cells #[Value.int IntKind.i64 kd, Value.string nm, Value.string k, Value.string t] 39)).alloc (Obj.cells #[Value.map none, Value.map none] 48)).alloc (Obj.cells #[Value.pointer none, Value.pointer (some { block := w.heap.size + 1, off := 0 })] 22)) := by go_grown
  have c1 : (((w.alloc (Obj.cells #[Value.int IntKind.i64 kd, Value.string nm, Value.string k, Value.string t] 39)).alloc (Obj.cells #[Value.map none, Value.map none] 48)).alloc (Obj.cells #[Value.pointer none, Value.pointer (some { block := w.heap.size + 1, off := 0 })] 22)).cell? ⟨w.heap.size, 1, none⟩ = some (.string nm) := by
    exact cellL _ (cellL _ (by rw [World.cell?_alloc_at _ _ _ _ rfl]; rfl))
  have c2 : (((w.alloc (Obj.cells #[Value.int IntKind.i64 kd, Value.string nm, Value.string k, Value.string t] 39)).alloc (Obj.cells #[Value.map none, Value.map none] 48)).alloc (Obj.cells #[Value.pointer none, Value.pointer (some { block := w.heap.size + 1, off := 0 })] 22)).cell? ⟨w.heap.size, 2, none⟩ = some (.string k) := by
    exact cellL _ (cellL _ (by rw [World.cell?_alloc_at _ _ _ _ rfl]; rfl))
  have c3 : (((w.alloc (Obj.cells #[Value.int IntKind.i64 kd, Value.string nm, Value.string k, Value.string t] 39)).alloc (Obj.cells #[Value.map none, Value.map none] 48)).alloc (Obj.cells #[Value.pointer none, Value.pointer (some { block := w.heap.size + 1, off := 0 })] 22)).cell? ⟨w.heap.size, 3, none⟩ = some (.string t) := by
    exact cellL _ (cellL _ (by rw [World.cell?_alloc_at _ _ _ _ rfl]; rfl))
  have c4 : (((w.alloc (Obj.cells #[Value.int IntKind.i64 kd, Value.string nm, Value.string k, Value.string t] 39)).alloc (Obj.cells #[Value.map none, Value.map none] 48)).alloc (Obj.cells #[Value.pointer none, Value.pointer (some { block := w.heap.size + 1, off := 0 })] 22)).cell? ⟨w.heap.size + 1, 0, none⟩ = some (.map none) := by
    exact cellL _ (by rw [World.cell?_alloc_at _ _ _ _ (by simp)]; rfl)
  have c5 : ∀ j, j < 2 → ∃ p, (((w.alloc (Obj.cells #[Value.int IntKind.i64 kd, Value.string nm, Value.string k, Value.string t] 39)).alloc (Obj.cells #[Value.map none, Value.map none] 48)).alloc (Obj.cells #[Value.pointer none, Value.pointer (some { block := w.heap.size + 1, off := 0 })] 22)).cell? ⟨w.heap.size + 1 + 1, j, none⟩ = some p ∧ (p = .pointer none ∨ p = .pointer (some ⟨w.heap.size + 1, 0, none⟩)) := by
    intro j hj
    rw [World.cell?_alloc_at _ _ _ _ (by simp)]
    match j, hj with
    | 0, _ => exact ⟨_, rfl, .inl rfl⟩
    | 1, _ => exact ⟨_, rfl, .inr rfl⟩
  generalize (((w.alloc (Obj.cells #[Value.int IntKind.i64 kd, Value.string nm, Value.string k, Value.string t] 39)).alloc (Obj.cells #[Value.map none, Value.map none] 48)).alloc (Obj.cells #[Value.pointer none, Value.pointer (some { block := w.heap.size + 1, off := 0 })] 22)) = W0 at *
  have hBs := hB0.size
  generalize hBe : w.heap.size = B at *
  have HBe := Lib.hid hBe
  clear hBe
  have HC5 := Lib.hid c5
  have HC4 := Lib.hid c4
  have HB0 := Lib.hid hB0
  have HC := Lib.hid (And.intro c1 (And.intro c2 c3))
  clear c1 c2 c3 c4 c5 hB0
  go_loopw [4] (fun i wr => ∃ j : Nat, j ≤ 2 ∧ i = .int .i64 (j : Int) ∧ Below W0.heap.size W0 wr) (fun i _ => 2 - (intOf i).toNat)
  case atStart => exact ⟨0, by omega, rfl, Below.refl _ _⟩
  case round =>
    obtain ⟨j, hj, rfl, hbw⟩ := hrel
    rcases Nat.lt_or_ge j 2 with hj2 | hj2
    · obtain ⟨p, hp, hpn⟩ := HC5.out j hj2
      have g5 := (grown_none hbw none).cell hp (by simp)
      have hN : NoCache wr p := by
        rcases hpn with h | h
        · exact .inl h
        · exact .inr ⟨_, h, ((grown_none hbw none).cell HC4.out (by simp))⟩
      have HN := Lib.hid hN
      clear hpn hp hN
      obtain ⟨c1, c2, c3⟩ := HC.out
      have g1 := (grown_none hbw none).cell c1 (by simp)
      have g2 := (grown_none hbw none).cell c2 (by simp)
      have g3 := (grown_none hbw none).cell c3 (by simp)
      clear c1 c2 c3
      have hlt : (j : Int) < 2 := by omega
      have hge : (0 : Int) ≤ (j : Int) := by omega
      go_wp2_with (first
        | (go_at_call 9; refine (get_no p k _ HN.out).mono ?_; rintro e w' ⟨rfl, rfl⟩)
        | (go_at_call 11; refine (grant_no p nm k _ HN.out).mono ?_; rintro e w' ⟨rfl, rfl⟩))
      have tok1 : True := trivial
      go_region_held3 (fun W => W.cell? ⟨B, 1, none⟩ = some (.string nm) ∧ W.cell? ⟨B, 2, none⟩ = some (.string k) ∧ W.cell? ⟨B, 3, none⟩ = some (.string t)) (first | go_keep | exact ⟨(grown_none hb5 none).cell g1 (by simp), (grown_none hb5 none).cell g2 (by simp), (grown_none hb5 none).cell g3 (by simp)⟩) (first
        | (go_at_call 10; have _t := tok1; refine (put_no p k t _ HN.out.drew).mono ?_; clear _t tok1; rintro e w3 ⟨rfl, rfl⟩)
        | (go_at_call 12; refine (has_no p nm k _ HN.out.drew).mono ?_; rintro e w3 ⟨rfl, rfl⟩)
        | (go_at_call 15; refine (keys_no p _ HN.out.drew).mono ?_; rintro e w3 ⟨rfl, rfl⟩)
        | (go_at_call 16; refine (granted_no p nm _ HN.out.drew).mono ?_; rintro e w3 ⟨rfl, rfl⟩)
        | (go_at_call 22; refine (copy_no p _ HN.out.drew).mono ?_; rintro e w5 ⟨rfl, hn5, hb5⟩)
        | (go_at_call 10; refine (put_no _ k t _ (by assumption)).mono ?_; rintro e w6 ⟨rfl, rfl⟩))
      rename_i hb5 _
      go_wp2
      go_roundw
      case rel => exact ⟨j + 1, by omega, by simp, hbw.drew.trans (hb5.mono hbw.size)⟩
      case measure => simp [intOf]; omega
    · obtain rfl : j = 2 := by omega
      go_wp2_with (go_at_call 13; refine (awake_any _).mono ?_; rintro e w' ⟨rfl, hb⟩)
      go_ret
      rw [HBe.out]
      exact ⟨rfl, HB0.out.trans ((hbw.mono hBs).trans (hb.mono (Nat.le_trans hBs hbw.size)))⟩
end Go.Proofs.Ytneclonahddipaa
