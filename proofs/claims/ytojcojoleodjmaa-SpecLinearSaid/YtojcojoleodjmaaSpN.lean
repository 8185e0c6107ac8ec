/-
  spec: contract of the document's does, a queue's arms. Condition: few values.
-/
import Derived.Test.YtojcojoleodjmaaSpM
namespace Go.Proofs.Ytojcojoleodjmaa
open Go.RowKit Go.Shelf Go.Sh
attribute [local go_sem ↓] Go.wp_at_zero Go.wp_at_succ

set_option maxRecDepth 100000 in
set_option maxHeartbeats 2000000 in
theorem does_nil (B : Nat) (w0 : World) (D : Nat) (F : List (Nat × Obj)) (kind : Int) (v : V2) (vl : Value) (Ll : List (Nat × Obj)) (c : C6) (w : World) (hk : kind ≠ 2) (hS : Sl 77 2 C2 vl ([] : List V2) Ll) (hO : Sh.Own B w0 w ((D, obD vl v) :: (Ll ++ F))) (h1 : c.op ≠ 1) :
    Calls Try.prog 71 #[.pointer (some ⟨D, 0, none⟩), .int .i64 kind, agg6 c] w (DoesPost6 B w0 D F (doesD kind ⟨[], v⟩ c)) := by
  have HR := Lib.hid (show doesD kind ⟨[], v⟩ c = (⟨[], v⟩, false) by simp [doesD, h1, hk])
  have hb : (c.op == 1) = false := by simp [h1]
  have hb2 : (kind == 2) = false := by simp [hk]
  obtain ⟨ao, cap, rfl, _, _⟩ := hS.form
  obtain ⟨d0, d1, d2⟩ := d3 hO.head
  have dl := lt_of_get hO.head
  have HS := Lib.hid hS
  have HO := Lib.hid (hO.junk (ob6 c))
  clear hO hS h1 hk
  go_enter Try.func71, Try.ntmps71
  go_wp2
  go_quiet (fail)
  go_wp2
  go_ret
  exact ⟨by rw [HR.out]; rfl, _, Ll, by rw [HR.out]; exact HS.out, by rw [HR.out]; exact HO.out.drewN nq⟩

set_option maxRecDepth 100000 in
set_option maxHeartbeats 2000000 in
theorem does_refT (B : Nat) (w0 : World) (D : Nat) (F : List (Nat × Obj)) (kind : Int) (x : V2) (r : List V2) (v : V2) (vl : Value) (Ll : List (Nat × Obj)) (c : C6) (w : World) (hk : kind ≠ 2) (hS : Sl 77 2 C2 vl (x :: r) Ll) (hl : (x :: r).length ≤ 100000) (hO : Sh.Own B w0 w ((D, obD vl v) :: (Ll ++ F))) (h1 : c.op ≠ 1) (h2 : c.til ≠ 0) (h5 : x.t ≠ c.v.t) :
    Calls Try.prog 71 #[.pointer (some ⟨D, 0, none⟩), .int .i64 kind, agg6 c] w (DoesPost6 B w0 D F (doesD kind ⟨x :: r, v⟩ c)) := by
  have HR := Lib.hid (show doesD kind ⟨x :: r, v⟩ c = (⟨x :: r, v⟩, false) by unfold doesD; rw [if_neg hk, if_neg h1]; exact if_pos ⟨h2, fun e => h5 (by rw [e])⟩)
  have hb : (c.op == 1) = false := by simp [h1]
  have hb2 : (kind == 2) = false := by simp [hk]
  have hb3 : (c.til != 0) = true := by simp [h2]
  have HS := Lib.hid hS
  have HO := Lib.hid (hO.junk (ob6 c))
  obtain ⟨g, off, cap, cur, rfl, rfl, hc1, hc2, _⟩ := sl_first C2_len hS
  have hrd := sl_rd6 (w := w) hS (fun p hp => hO.get p (List.mem_cons_of_mem _ (List.mem_append_left _ hp)))
  rcases hrd with ⟨h, _⟩ | ⟨g', off', cap2, he, hcell⟩
  · cases h
  simp only [Value.slice.injEq, Option.some.injEq, Addr.mk.injEq, and_true] at he
  obtain ⟨⟨rfl, rfl⟩, _, rfl⟩ := he
  have e0 : w.cell? ⟨g, off, none⟩ = some (.int .i64 x.t) := hcell 0 _ rfl
  have e1 : w.cell? ⟨g, off + 1, none⟩ = some (.int .i64 x.n) := hcell 1 _ rfl
  have gl : g < w.heap.size := World.block_lt_of_cell? _ _ e0
  obtain ⟨n, hn⟩ : ∃ n, r.length + 1 = n := ⟨_, rfl⟩
  obtain ⟨d0, d1, d2⟩ := d3 hO.head
  have dl := lt_of_get hO.head
  rw [hn] at d0 HO HS
  have hnp : (0 : Int) < n := by omega
  have hnb : ((n : Int) == 0) = false := by simp; omega
  have b5 : (x.t == c.v.t) = false := by simp [h5]
  have b6 : (x.t != c.v.t) = true := by simp [h5]
  clear hO hS h1 h2 hk hn hcell hl h5
  go_enter Try.func71, Try.ntmps71
  go_wp2
  go_quiet (fail)
  go_wp2
  go_ret
  exact ⟨by rw [HR.out]; rfl, _, _, by rw [HR.out]; exact HS.out, by rw [HR.out]; exact HO.out.drewN nq⟩

set_option maxRecDepth 100000 in
set_option maxHeartbeats 2000000 in
theorem does_refN (B : Nat) (w0 : World) (D : Nat) (F : List (Nat × Obj)) (kind : Int) (x : V2) (r : List V2) (v : V2) (vl : Value) (Ll : List (Nat × Obj)) (c : C6) (w : World) (hk : kind ≠ 2) (hS : Sl 77 2 C2 vl (x :: r) Ll) (hl : (x :: r).length ≤ 100000) (hO : Sh.Own B w0 w ((D, obD vl v) :: (Ll ++ F))) (h1 : c.op ≠ 1) (h2 : c.til ≠ 0) (h5 : x.t = c.v.t) (h6 : x.n ≠ c.v.n) :
    Calls Try.prog 71 #[.pointer (some ⟨D, 0, none⟩), .int .i64 kind, agg6 c] w (DoesPost6 B w0 D F (doesD kind ⟨x :: r, v⟩ c)) := by
  have HR := Lib.hid (show doesD kind ⟨x :: r, v⟩ c = (⟨x :: r, v⟩, false) by unfold doesD; rw [if_neg hk, if_neg h1]; exact if_pos ⟨h2, fun e => h6 (by rw [e])⟩)
  have hb : (c.op == 1) = false := by simp [h1]
  have hb2 : (kind == 2) = false := by simp [hk]
  have hb3 : (c.til != 0) = true := by simp [h2]
  have HS := Lib.hid hS
  have HO := Lib.hid (hO.junk (ob6 c))
  obtain ⟨g, off, cap, cur, rfl, rfl, hc1, hc2, _⟩ := sl_first C2_len hS
  have hrd := sl_rd6 (w := w) hS (fun p hp => hO.get p (List.mem_cons_of_mem _ (List.mem_append_left _ hp)))
  rcases hrd with ⟨h, _⟩ | ⟨g', off', cap2, he, hcell⟩
  · cases h
  simp only [Value.slice.injEq, Option.some.injEq, Addr.mk.injEq, and_true] at he
  obtain ⟨⟨rfl, rfl⟩, _, rfl⟩ := he
  have e0 : w.cell? ⟨g, off, none⟩ = some (.int .i64 x.t) := hcell 0 _ rfl
  have e1 : w.cell? ⟨g, off + 1, none⟩ = some (.int .i64 x.n) := hcell 1 _ rfl
  have gl : g < w.heap.size := World.block_lt_of_cell? _ _ e0
  obtain ⟨n, hn⟩ : ∃ n, r.length + 1 = n := ⟨_, rfl⟩
  obtain ⟨d0, d1, d2⟩ := d3 hO.head
  have dl := lt_of_get hO.head
  rw [hn] at d0 HO HS
  have hnp : (0 : Int) < n := by omega
  have hnb : ((n : Int) == 0) = false := by simp; omega
  rw [h5] at e0
  have b5 : (x.n == c.v.n) = false := by simp [h6]
  have b6 : (x.n != c.v.n) = true := by simp [h6]
  clear hO hS h1 h2 hk hn hcell hl h5 h6
  go_enter Try.func71, Try.ntmps71
  go_wp2
  go_quiet (fail)
  go_wp2
  go_ret
  exact ⟨by rw [HR.out]; rfl, _, _, by rw [HR.out]; exact HS.out, by rw [HR.out]; exact HO.out.drewN nq⟩

end Go.Proofs.Ytojcojoleodjmaa
