/-
  Contract of SameOut where both outs are the same data. Condition: few wakes.
-/
import Derived.Test.YtidnkienkdlmkaaMxDrop
namespace Go.Proofs.Ytidnkienkdlmkaa
open Go.RowKit Go.Sh

theorem W4_len (x : Wk) : (W4 x).length = 4 := rfl

/-- What a reader of a slice of Wakes sees. -/
theorem rd_wakes {w : World} {v : Value} {xs : List Wk} (h : Rd w W4 v xs) : ∃ ao cap, v = .slice ao xs.length cap ∧ ∀ i, i < xs.length → ∃ g off, ao = some ⟨g, off, none⟩ ∧ g < w.heap.size ∧ ∀ i (hi : i < xs.length),
    w.cell? ⟨g, off + i * 4, none⟩ = some (.int .i64 xs[i].who) ∧ w.cell? ⟨g, off + i * 4 + 1, none⟩ = some (.int .i64 xs[i].t) ∧ w.cell? ⟨g, off + i * 4 + 2, none⟩ = some (.int .i64 xs[i].n) ∧ w.cell? ⟨g, off + i * 4 + 3, none⟩ = some (.int .i64 xs[i].f) := by
  rcases h with ⟨rfl, ao, cap, rfl⟩ | ⟨g, off, cap, rfl, hc⟩
  · exact ⟨ao, cap, rfl, fun j hj => by simp at hj⟩
  · refine ⟨_, cap, rfl, fun i0 h0 => ⟨g, off, rfl, ?_, fun i hi => ?_⟩⟩
    · have := hc (i0 * 4 + 0) (.int .i64 xs[i0].who) (by rw [flatMap_get W4_len xs i0 0 (by omega), List.getElem?_eq_getElem h0]; rfl)
      exact World.block_lt_of_cell? _ _ this
    · have h0 := hc (i * 4 + 0) (.int .i64 xs[i].who) (by rw [flatMap_get W4_len xs i 0 (by omega), List.getElem?_eq_getElem hi]; rfl)
      have h1 := hc (i * 4 + 1) (.int .i64 xs[i].t) (by rw [flatMap_get W4_len xs i 1 (by omega), List.getElem?_eq_getElem hi]; rfl)
      have h2 := hc (i * 4 + 2) (.int .i64 xs[i].n) (by rw [flatMap_get W4_len xs i 2 (by omega), List.getElem?_eq_getElem hi]; rfl)
      have h3 := hc (i * 4 + 3) (.int .i64 xs[i].f) (by rw [flatMap_get W4_len xs i 3 (by omega), List.getElem?_eq_getElem hi]; rfl)
      simp only [Nat.add_zero, ← Nat.add_assoc] at h0 h1 h2 h3
      exact ⟨h0, h1, h2, h3⟩

set_option maxRecDepth 100000 in
set_option maxHeartbeats 1000000 in
theorem same24 (B : Nat) (w0 : World) (F : List (Nat × Obj)) (d : Bool) (t n f : Int) (xs : List Wk) (v1 v2 : Value) (w : World) (h1 : Rd w W4 v1 xs) (h2 : Rd w W4 v2 xs) (hO : Own B w0 w F) (hx : xs.length ≤ 100000) :
    Calls Try.prog 24 #[outV d t n f v1, outV d t n f v2] w (BoolD B w0 F true) := by
  obtain ⟨a1, c1, rfl, r1⟩ := rd_wakes h1
  obtain ⟨a2, c2, rfl, r2⟩ := rd_wakes h2
  clear h1 h2
  have R1 := Lib.hid r1
  have R2 := Lib.hid r2
  have HO := Lib.hid ((hO.junk (.cells #[.bool d, .int .i64 t, .int .i64 n, .int .i64 f, .slice a1 xs.length c1] 33)).junk (.cells #[.bool d, .int .i64 t, .int .i64 n, .int .i64 f, .slice a2 xs.length c2] 33))
  clear r1 r2 hO
  go_enter Try.func24, Try.ntmps24
  go_wp2
  go_loopw [5] (fun i wr => ∃ k : Nat, k ≤ xs.length ∧ i = .int .i64 k ∧ ∃ q, wr = ((w.alloc (.cells #[.bool d, .int .i64 t, .int .i64 n, .int .i64 f, .slice a1 xs.length c1] 33)).alloc (.cells #[.bool d, .int .i64 t, .int .i64 n, .int .i64 f, .slice a2 xs.length c2] 33)).drewN q) (fun i _ => xs.length - (intOf i).toNat)
  case atStart => exact ⟨0, Nat.zero_le _, rfl, 0, rfl⟩
  case round =>
    obtain ⟨k, hk, rfl, q, rfl⟩ := hrel
    by_cases hlt : k < xs.length
    · obtain ⟨g1, o1, rfl, hl1, hc1⟩ := R1.out k hlt
      obtain ⟨g2, o2, rfl, hl2, hc2⟩ := R2.out k hlt
      obtain ⟨e10, e11, e12, e13⟩ := hc1 k hlt
      obtain ⟨e20, e21, e22, e23⟩ := hc2 k hlt
      have hl1' : g1 < w.heap.size + 1 := by omega
      have hl2' : g2 < w.heap.size + 1 := by omega
      clear hc1 hc2
      go_wp2
      go_region
      go_wp2
      go_roundw
      case rel => exact ⟨k + 1, by omega, by go_num, q + 1, rfl⟩
      case measure => simp [intOf]; omega
    · go_wp2
      go_ret
      exact ⟨rfl, HO.out.drewN q⟩

end Go.Proofs.Ytidnkienkdlmkaa
