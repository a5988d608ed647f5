/- The methods of a cache that is nil or zero. -/
import Derived.Test.YtneclonahddipaaBase
namespace Go.Proofs.Ytneclonahddipaa
open Go.RowKit Go.Maps

/-- p is nil, or points to a zero cache. -/
def NoCache (w : World) (p : Value) : Prop := p = .pointer none ∨ ∃ b, p = .pointer (some ⟨b, 0, none⟩) ∧ w.cell? ⟨b, 0, none⟩ = some (.map none)

theorem NoCache.kept {w w' : World} {p : Value} (h : NoCache w p) (hb : Below w.heap.size w w') : NoCache w' p := by
  rcases h with h | ⟨b, h, hc⟩
  · exact .inl h
  · exact .inr ⟨b, h, (grown_none hb none).cell hc (by simp)⟩

theorem none_no (p : Value) (w : World) (h : NoCache w p) : Calls Try.prog 28 #[p] w fun e w' => e = .returned (.bool true) ∧ w' = w := by
  rcases h with rfl | ⟨b, rfl, hc⟩
  · exact none_nil w
  · exact none_zero b w hc

theorem get_no (p : Value) (k : ByteArray) (w : World) (h : NoCache w p) : Calls Try.prog 9 #[p, .string k] w fun e w' => e = .returned (.tuple #[.string ByteArray.empty, .bool false]) ∧ w' = w := by
  go_enter Try.func9, Try.ntmps9
  go_wp2_with (go_at_call 28; refine (none_no p _ h).mono ?_; rintro e w' ⟨rfl, rfl⟩)
  exact bodyPost_ret (v := .tuple #[.string ByteArray.empty, .bool false]) (by simp [results, Try.f9, go_sem]; rfl) rfl ⟨rfl, rfl⟩

theorem put_no (p : Value) (k t : ByteArray) (w : World) (h : NoCache w p) : Calls Try.prog 10 #[p, .string k, .string t] w fun e w' => e = .returned (.int .i64 1) ∧ w' = w := by
  go_enter Try.func10, Try.ntmps10
  go_wp2_with (go_at_call 28; refine (none_no p _ h).mono ?_; rintro e w' ⟨rfl, rfl⟩)
  go_ret
  exact ⟨rfl, rfl⟩

theorem grant_no (p : Value) (a k : ByteArray) (w : World) (h : NoCache w p) : Calls Try.prog 11 #[p, .string a, .string k] w fun e w' => e = .returned (.tuple #[.bool false, .int .i64 1]) ∧ w' = w := by
  go_enter Try.func11, Try.ntmps11
  go_wp2_with (go_at_call 28; refine (none_no p _ h).mono ?_; rintro e w' ⟨rfl, rfl⟩)
  exact bodyPost_ret (v := .tuple #[.bool false, .int .i64 1]) (by simp [results, Try.f11, go_sem]) rfl ⟨rfl, rfl⟩

theorem has_no (p : Value) (a k : ByteArray) (w : World) (h : NoCache w p) : Calls Try.prog 12 #[p, .string a, .string k] w fun e w' => e = .returned (.bool false) ∧ w' = w := by
  go_enter Try.func12, Try.ntmps12
  go_wp2_with (go_at_call 28; refine (none_no p _ h).mono ?_; rintro e w' ⟨rfl, rfl⟩)
  go_ret
  exact ⟨rfl, rfl⟩

theorem keys_no (p : Value) (w : World) (h : NoCache w p) : Calls Try.prog 15 #[p] w fun e w' => e = .returned (.slice none 0 0) ∧ w' = w := by
  go_enter Try.func15, Try.ntmps15
  go_wp2_with (go_at_call 28; refine (none_no p _ h).mono ?_; rintro e w' ⟨rfl, rfl⟩)
  go_ret
  exact ⟨rfl, rfl⟩

theorem copy_no (p : Value) (w : World) (h : NoCache w p) : Calls Try.prog 22 #[p] w fun e w' => e = .returned (.pointer (some ⟨w.heap.size, 0, none⟩)) ∧ NoCache w' (.pointer (some ⟨w.heap.size, 0, none⟩)) ∧ Below w.heap.size w w' := by
  go_enter Try.func22, Try.ntmps22
  go_wp2_with (go_at_call 28; refine (none_no p _ h).mono ?_; rintro e w' ⟨rfl, rfl⟩)
  go_ret
  exact ⟨rfl, .inr ⟨_, rfl, by simp⟩, by go_grown⟩

theorem granted_no (p : Value) (a : ByteArray) (w : World) (h : NoCache w p) : Calls Try.prog 16 #[p, .string a] w fun e w' => e = .returned (.slice none 0 0) ∧ w' = w := by
  refine (callsIn_wide (n := 3)).1 ?_
  have h1 : 1 ≤ 3 := by omega
  refine callsIn_of_wp_marks Try.func16 rfl trivial ?_ rfl
  simp only [Try.ntmps16, List.size_toArray, List.length_cons, List.length_nil, Nat.reduceAdd, Nat.reduceSub, Array.replicate_succ, Array.replicate_zero, List.push_toArray, List.append_toArray, List.nil_append, List.cons_append]
  gi_wp2_with (refine ⟨trivial, ?_⟩; gi_at_call 28; refine (callsIn_wide.2 (none_no p _ h)).mono ?_; rintro e w' ⟨rfl, rfl⟩)
  exact ⟨_, results_tmp rfl _ _ _, rfl, rfl⟩
end Go.Proofs.Ytneclonahddipaa
