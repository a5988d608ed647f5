/- candidates: what it yields. -/
import Derived.Test.YtopllfkhkglogaaRangeFn
import Derived.Test.YtopllfkhkglogaaOwn
namespace Go.Proofs.Ytopllfkhkglogaa
open Go.RowKit Go.Shelf

attribute [local go_sem] Oper.semAt_some

def NextC (N : Nat) (pre : List Nat) (x : Nat) : Prop := x < N ∧ pre = List.range x
/-- The boxes that the iterator reads. -/
def CandRead (Bl Bh : Nat) (lo hi : Int) (W : World) : Prop := W.cell? ⟨Bl, 0, none⟩ = some (.int .i64 lo) ∧ W.cell? ⟨Bh, 0, none⟩ = some (.int .i64 hi)

set_option maxRecDepth 100000 in
set_option maxHeartbeats 1000000 in
theorem cand_seq (F : Fence) (n : Nat) (h7 : F.fn 31) (hro : F.round = none) (hn : 1 ≤ n) (Bl Bh : Nat) (lo hi : Int) (hl : -1125899906842624 ≤ lo) (hle : lo ≤ hi) (hh : hi ≤ 1125899906842624) :
    SeqOrd F n Try.prog 31 #[.pointer (some ⟨Bh, 0, none⟩), .pointer (some ⟨Bl, 0, none⟩)] (fun x : Nat => #[Value.int .i64 (lo + (x : Int))]) (NextC (candN lo hi)) (fun xs => xs = List.range (candN lo hi)) (CandRead Bl Bh lo hi) := by
  intro l J Jx W hG _ _ hY h0
  refine callsIn_of_wp Try.func31 rfl h7 ?_ hro
  simp only [Try.ntmps31, List.size_toArray, List.length_cons, List.length_nil, Nat.reduceAdd, Nat.reduceSub, Array.replicate_succ, Array.replicate_zero, List.push_toArray, List.append_toArray, List.nil_append, List.cons_append]
  have hN := Lib.hid (show (candN lo hi : Int) = hi - lo + 1 by unfold candN; omega)
  have g0 := (hG _ _ h0).1
  have g1 := (hG _ _ h0).2
  have HG := Lib.hid hG
  have HY := Lib.hid hY
  clear hG hY
  gi_wp2
  gi_loopw [9] (fun i wr => ∃ k : Nat, k ≤ candN lo hi ∧ i = .int .i64 (k : Int) ∧ J (List.range k) wr) (fun i _ => candN lo hi - (intOf i).toNat)
  case atStart => exact ⟨0, Nat.zero_le _, rfl, h0⟩
  case round =>
    obtain ⟨k, hk, rfl, hJs⟩ := hrel
    have hNN := hN.out
    clear g0 g1 h0
    rcases Nat.lt_or_ge k (candN lo hi) with hlt | hge
    · have hGr := HG.out _ _ hJs
      have g0 := hGr.1
      clear hGr
      have hnx : NextC (candN lo hi) (List.range k) k := ⟨hlt, rfl⟩
      obtain ⟨fn, tmps, assign, body, hy, hR⟩ := HY.out _ k wr hJs hnx
      have hk1 : (k : Int) < hi - lo + 1 := by omega
      have hkl : (k : Int) ≤ hi - lo := by omega
      have HNX := Lib.hid hnx
      clear hNN hnx
      gi_wp2
      refine hR.mono ?_
      rintro e W3 (⟨rfl, hJ3⟩ | ⟨rfl, hJx3⟩)
      · gi_wp2
        go_roundw
        case rel => exact ⟨k + 1, by omega, by simp, by rw [List.range_succ]; exact hJ3⟩
        case measure => simp [intOf]; omega
      · gi_wp2
        refine bodyPost_ret (results_none rfl _ _ _) rfl ?_
        exact ⟨⟨_, rfl⟩, .inr ⟨_, _, HNX.out, hJx3⟩⟩
    · have hk1 : ¬ (k : Int) < hi - lo + 1 := by omega
      have hke : k = candN lo hi := by omega
      have HKE := Lib.hid hke
      clear hNN hke
      gi_wp2
      go_end0
      exact ⟨⟨_, rfl⟩, .inl (by rw [← HKE.out]; exact hJs)⟩

theorem eg_cand : ∀ args w, (callFunc 31 args).run Try.prog w = .ok (.enter 31 args) w := enters_of Try.func31 (by kernel_rfl) rfl
end Go.Proofs.Ytopllfkhkglogaa
