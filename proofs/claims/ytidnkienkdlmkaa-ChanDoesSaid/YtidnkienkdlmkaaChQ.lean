/-
  Contracts of put, take of chanq's queues. Condition: few elements.
-/
import Derived.Test.YtidnkienkdlmkaaChDel
import Derived.Deep.DrawnRows
namespace Go.Proofs.Ytidnkienkdlmkaa
open Go.RowKit Go.Sh
attribute [local go_sem ↓] Go.wp_at_zero Go.wp_at_succ

theorem news_blk {w : World} {b : Nat} {C : Array Value} {t : TypeId} {fr : Nat × Nat} (h : w.heap[b]? = some (.cells C t fr)) : ∀ j u, C.toList[j]? = some u → w.cell? ((⟨b, 0, none⟩ : Addr).add j) = some u := by
  intro j u hu
  have ha : (⟨b, 0, none⟩ : Addr).add j = ⟨b, j, none⟩ := by unfold Addr.add; split <;> simp_all
  rw [ha, cell_of_get h]
  simpa using hu

def PutPost {α : Type} (e : TypeId) (k : Nat) (enc : α → List Value) (B : Nat) (w0 : World) (b f : Nat) (T : TypeId) (cur : Array Value) (F : List (Nat × Obj)) (xs : List α) (r : Ending) (w' : World) : Prop :=
  r = .returned (.tuple #[]) ∧ ∃ v' L', Sl e k enc v' xs L' ∧ Own B w0 w' (L' ++ ((b, Obj.cells (cur.setIfInBounds f v') T (0, 0)) :: F))


set_option maxRecDepth 100000 in
set_option maxHeartbeats 2000000 in
theorem put84 (B : Nat) (w0 : World) (b f : Nat) (T : TypeId) (cur : Array Value) (xs : List V2) (x : V2) (v : Value) (Lq F : List (Nat × Obj)) (w : World) (hS : Sl 30 2 C2 v xs Lq) (hc : cur[f]? = some v) (hO : Own B w0 w (Lq ++ ((b, Obj.cells cur T (0, 0)) :: F))) (hx : xs.length ≤ 1000) :
    Calls Try.prog 84 #[.pointer (some ⟨b, f, none⟩), .agg #[.int .i64 x.t, .int .i64 x.n]] w (PutPost 30 2 C2 B w0 b f T cur F (xs ++ [x])) := by
  obtain ⟨i0, hi, hz0, hz1, hz2⟩ := info_parts Try.info30
  obtain ⟨ao, cap, rfl, hcap, hcm⟩ := hS.form
  have hb : w.heap[b]? = some (Obj.cells cur T (0, 0)) := hO.get (b, Obj.cells cur T (0, 0)) (by simp)
  have hcell : w.cell? ⟨b, f, none⟩ = some (.slice ao xs.length cap) := by rw [cell_of_get hb, hc]
  have hlt := lt_of_get hb
  have hlt1 : b < w.heap.size + 1 := by omega
  have hlt2 : b < w.heap.size + 1 + 1 := by omega
  have HO := Lib.hid ((hO.junk (.cells #[.int .i64 x.t, .int .i64 x.n] 30)).allocAt (.cells #[.int .i64 x.t, .int .i64 x.n] 30) (n := w.heap.size + 1) (by simp))
  have HS := Lib.hid hS
  have HC := Lib.hid hc
  clear hO hS hb hc
  go_enter Try.func84, Try.ntmps84
  go_wp2_with fail
  go_region_law (refine step_append_sl rfl (.tmp 8) (.tmp 10) 98 rfl _ _ _ Try.underlying98 hi hz0 hz1 hz2 rfl C2_len C2_one rfl HS.out (by exact HO.out.tail.drew) ⟨w.heap.size + 1, 0, none⟩ [x] 1 1 rfl rfl (news_blk (C := #[.int .i64 x.t, .int .i64 x.n]) (t := 30) (fr := (0, 0)) (by exact HO.out.drew.head)) (by decide) (by unfold maxLen; omega) (by omega) ?_; intro g off cap' w1 L1 hS1 hO1 hgl1 hge1; have hb1 : w1.heap[b]? = some (Obj.cells cur T (0, 0)) := hO1.get (b, Obj.cells cur T (0, 0)) (by simp); have k0 : w1.cell? ⟨b, f, none⟩ = some (.slice ao xs.length cap) := (cell_of_get hb1 f).trans HC.out; have k1 : w1.frozen? ⟨b, f, none⟩ = false := free_of_get hb1 f; clear hb1)
  all_goals
    have hO2 := ((hO1.perm List.perm_middle).set f (.slice (some ⟨g, off, none⟩) (xs.length + 1) cap')).perm List.perm_middle.symm
    clear hO1 k0 k1
    go_wp2
    go_end0
    exact ⟨rfl, _, L1, by simpa using hS1, hO2⟩


set_option maxRecDepth 100000 in
set_option maxHeartbeats 2000000 in
theorem put109 (B : Nat) (w0 : World) (b f : Nat) (T : TypeId) (cur : Array Value) (xs : List W3) (x : W3) (v : Value) (Lq F : List (Nat × Obj)) (w : World) (hS : Sl 136 3 C3 v xs Lq) (hc : cur[f]? = some v) (hO : Own B w0 w (Lq ++ ((b, Obj.cells cur T (0, 0)) :: F))) (hx : xs.length ≤ 1000) :
    Calls Try.prog 109 #[.pointer (some ⟨b, f, none⟩), .agg #[.int .i64 x.who, .int .i64 x.t, .int .i64 x.n]] w (PutPost 136 3 C3 B w0 b f T cur F (xs ++ [x])) := by
  obtain ⟨i0, hi, hz0, hz1, hz2⟩ := info_parts Try.info136
  obtain ⟨ao, cap, rfl, hcap, hcm⟩ := hS.form
  have hb : w.heap[b]? = some (Obj.cells cur T (0, 0)) := hO.get (b, Obj.cells cur T (0, 0)) (by simp)
  have hcell : w.cell? ⟨b, f, none⟩ = some (.slice ao xs.length cap) := by rw [cell_of_get hb, hc]
  have hlt := lt_of_get hb
  have hlt1 : b < w.heap.size + 1 := by omega
  have hlt2 : b < w.heap.size + 1 + 1 := by omega
  have HO := Lib.hid ((hO.junk (.cells #[.int .i64 x.who, .int .i64 x.t, .int .i64 x.n] 136)).allocAt (.cells #[.int .i64 x.who, .int .i64 x.t, .int .i64 x.n] 136) (n := w.heap.size + 1) (by simp))
  have HS := Lib.hid hS
  have HC := Lib.hid hc
  clear hO hS hb hc
  go_enter Try.func109, Try.ntmps109
  go_wp2_with fail
  go_region_law (refine step_append_sl rfl (.tmp 8) (.tmp 10) 109 rfl _ _ _ Try.underlying109 hi hz0 hz1 hz2 rfl C3_len C3_one rfl HS.out (by exact HO.out.tail.drew) ⟨w.heap.size + 1, 0, none⟩ [x] 1 1 rfl rfl (news_blk (C := #[.int .i64 x.who, .int .i64 x.t, .int .i64 x.n]) (t := 136) (fr := (0, 0)) (by exact HO.out.drew.head)) (by decide) (by unfold maxLen; omega) (by omega) ?_; intro g off cap' w1 L1 hS1 hO1 hgl1 hge1; have hb1 : w1.heap[b]? = some (Obj.cells cur T (0, 0)) := hO1.get (b, Obj.cells cur T (0, 0)) (by simp); have k0 : w1.cell? ⟨b, f, none⟩ = some (.slice ao xs.length cap) := (cell_of_get hb1 f).trans HC.out; have k1 : w1.frozen? ⟨b, f, none⟩ = false := free_of_get hb1 f; clear hb1)
  all_goals
    have hO2 := ((hO1.perm List.perm_middle).set f (.slice (some ⟨g, off, none⟩) (xs.length + 1) cap')).perm List.perm_middle.symm
    clear hO1 k0 k1
    go_wp2
    go_end0
    exact ⟨rfl, _, L1, by simpa using hS1, hO2⟩


/-- The first, and the others. -/
theorem take86_none (B : Nat) (w0 : World) (b f : Nat) (T : TypeId) (cur : Array Value) (v : Value) (Lq F : List (Nat × Obj)) (w : World) (hS : Sl 30 2 C2 v [] Lq) (hc : cur[f]? = some v) (hO : Own B w0 w (Lq ++ ((b, Obj.cells cur T (0, 0)) :: F))) :
    Calls Try.prog 86 #[.pointer (some ⟨b, f, none⟩)] w fun e w' => e = .returned (.tuple #[.agg #[.int .i64 0, .int .i64 0], .bool false]) ∧ Own B w0 w' (Lq ++ ((b, Obj.cells cur T (0, 0)) :: F)) := by
  obtain ⟨ao, cap, rfl, hcap, hcm⟩ := hS.form
  have hb : w.heap[b]? = some (Obj.cells cur T (0, 0)) := hO.get (b, Obj.cells cur T (0, 0)) (by simp)
  have hcell : w.cell? ⟨b, f, none⟩ = some (.slice ao 0 cap) := by rw [cell_of_get hb, hc]; rfl
  have hlt := lt_of_get hb
  have hlt1 : b < w.heap.size + 1 := by omega
  have hlt2 : b < w.heap.size + 1 + 1 := by omega
  have HO := Lib.hid ((hO.junk (Obj.cells #[.int .i64 0, .int .i64 0] 30 (0, 0))).junk (Obj.cells #[.int .i64 0, .int .i64 0] 30 (0, 0)))
  clear hO hS hb hc
  go_enter Try.func86, Try.ntmps86
  go_wp2
  refine bodyPost_ret (v := .tuple #[.agg #[.int .i64 0, .int .i64 0], .bool false]) (by simp [results, Try.results86, go_sem]) rfl ?_
  exact ⟨rfl, HO.out⟩

set_option maxRecDepth 100000 in
set_option maxHeartbeats 2000000 in
theorem take86_some (B : Nat) (w0 : World) (b f : Nat) (T : TypeId) (cur : Array Value) (x : V2) (r : List V2) (v : Value) (Lq F : List (Nat × Obj)) (w : World) (hS : Sl 30 2 C2 v (x :: r) Lq) (hc : cur[f]? = some v) (hO : Own B w0 w (Lq ++ ((b, Obj.cells cur T (0, 0)) :: F))) :
    Calls Try.prog 86 #[.pointer (some ⟨b, f, none⟩)] w fun e w' => e = .returned (.tuple #[.agg #[.int .i64 x.t, .int .i64 x.n], .bool true]) ∧ ∃ v' L', Sl 30 2 C2 v' r L' ∧ Own B w0 w' (L' ++ ((b, Obj.cells (cur.setIfInBounds f v') T (0, 0)) :: F)) := by
  obtain ⟨g, off, cap, rfl⟩ : ∃ g off cap, v = .slice (some ⟨g, off, none⟩) (x :: r).length cap := by
    rcases hS with ⟨_, h, _⟩ | ⟨g, off, cap, cur, hv, _⟩
    · cases h
    · exact ⟨g, off, cap, hv⟩
  have hb : w.heap[b]? = some (Obj.cells cur T (0, 0)) := hO.get (b, Obj.cells cur T (0, 0)) (by simp)
  have hcell : w.cell? ⟨b, f, none⟩ = some (.slice (some ⟨g, off, none⟩) (x :: r).length cap) := by rw [cell_of_get hb, hc]
  have hcs := hS.cells hO rfl
  have c0 : w.cell? ⟨g, off, none⟩ = some (.int .i64 x.t) := by have := hcs 0 (.int .i64 x.t) (by simp); simpa [Addr.add] using this
  have c1 : w.cell? ⟨g, off + 1, none⟩ = some (.int .i64 x.n) := by have := hcs 1 (.int .i64 x.n) (by simp); simpa [Addr.add] using this
  have hlt := lt_of_get hb
  have hlt1 : b < w.heap.size + 1 := by omega
  have hlt2 : b < w.heap.size + 1 + 1 := by omega
  have hgl := World.block_lt_of_cell? _ _ c0
  have hgl1 : g < w.heap.size + 1 := by have : g < w.heap.size := hgl; omega
  have hgl2 : g < w.heap.size + 1 + 1 := by have : g < w.heap.size := hgl; omega
  have hne1 : ¬ w.heap.size = b := by omega
  have hne2 : ¬ w.heap.size + 1 = b := by omega
  have hne3 : ¬ b = w.heap.size := by omega
  have hne4 : ¬ b = w.heap.size + 1 := by omega
  have hl0 : (0 : Int) < ((x :: r).length : Int) := by simp only [List.length_cons]; omega
  have hz : (((x :: r).length : Int) == 0) = false := by simp only [List.length_cons]; simp; omega
  obtain ⟨len, hlen⟩ : ∃ n, n = (x :: r).length := ⟨_, rfl⟩
  have hO2 := ((hO.alloc (Obj.cells #[.int .i64 0, .int .i64 0] 30 (0, 0))).allocAt (Obj.cells #[.int .i64 x.t, .int .i64 x.n] 30 (0, 0)) (n := w.heap.size + 1) (by simp)).shuf [[_], [_], Lq, _ :: F] [2, 0, 1, 3] rfl rfl
  rw [← hlen] at hS hcell hl0 hz hc
  have HS := Lib.hid hS
  have HO := Lib.hid hO2
  have HC := Lib.hid hc
  clear hO hS hb hc hcs hO2 hlen
  go_enter Try.func86, Try.ntmps86
  go_wp2_with (go_at_call 110; refine (delete110 B w0 _ (x :: r) _ Lq 0 1 rfl _ HS.out HO.out (by simp)).mono ?_; rintro e w2 ⟨v2, L2, rfl, hS2, hO3⟩; have hS3 : Sl 30 2 C2 v2 r L2 := (by simpa using hS2); obtain ⟨a2, c2, rfl, _, _⟩ := hS3.form; clear hS2; have hb2 : w2.heap[b]? = some (Obj.cells cur T (0, 0)) := hO3.get (b, Obj.cells cur T (0, 0)) (by simp [cat]); have k0 : w2.cell? ⟨b, f, none⟩ = some _ := (cell_of_get hb2 f).trans HC.out; have k1 : w2.frozen? ⟨b, f, none⟩ = false := free_of_get hb2 f; have hA := hO3.get (w.heap.size, Obj.cells #[.int .i64 0, .int .i64 0] 30 (0, 0)) (by simp [cat]); have hB := hO3.get (w.heap.size + 1, Obj.cells #[.int .i64 x.t, .int .i64 x.n] 30 (0, 0)) (by simp [cat]); have kA0 : w2.cell? ⟨w.heap.size, 0, none⟩ = some (.int .i64 0) := cell_of_get hA 0; have kB0 : w2.cell? ⟨w.heap.size + 1, 0, none⟩ = some (.int .i64 x.t) := cell_of_get hB 0; have kA1 : w2.cell? ⟨w.heap.size, 1, none⟩ = some (.int .i64 0) := cell_of_get hA 1; have kB1 : w2.cell? ⟨w.heap.size + 1, 1, none⟩ = some (.int .i64 x.n) := cell_of_get hB 1; have kf := free_of_get hA; have kl := lt_of_get hA; clear hb2 hA hB)
  have hO4 := hO3.shuf [L2, [_], [_], [_], F] [3, 2, 1, 0, 4] rfl rfl
  have hO5 := (hO4.set f (.slice a2 r.length c2)).shuf [[_], [_], [_], L2, F] [1, 0, 2, 3, 4] rfl rfl
  have hO6 := ((hO5.setTo 0 (.int .i64 x.t) rfl).setTo 1 (.int .i64 x.n) rfl)
  have rr := cell_of_get hO6.head
  have r0 := rr 0
  have r1 := rr 1
  have HO6 := Lib.hid (hO6.shuf [[_], [_], [_], L2, F] [0, 2, 3, 1, 4] rfl rfl).tail.tail
  clear hO3 hO4 hO5 hO6 rr kA0 kB0 kA1 kB1 k0 k1
  refine bodyPost_ret (v := .tuple #[.agg #[.int .i64 x.t, .int .i64 x.n], .bool true]) (by simp [results, Try.results86, go_sem, r0, r1]) rfl ?_
  exact ⟨rfl, _, L2, hS3, HO6.out⟩

/-- The first, and the others. -/
theorem take82_none (B : Nat) (w0 : World) (b f : Nat) (T : TypeId) (cur : Array Value) (v : Value) (Lq F : List (Nat × Obj)) (w : World) (hS : Sl 136 3 C3 v [] Lq) (hc : cur[f]? = some v) (hO : Own B w0 w (Lq ++ ((b, Obj.cells cur T (0, 0)) :: F))) :
    Calls Try.prog 82 #[.pointer (some ⟨b, f, none⟩)] w fun e w' => e = .returned (.tuple #[.agg #[.int .i64 0, .int .i64 0, .int .i64 0], .bool false]) ∧ Own B w0 w' (Lq ++ ((b, Obj.cells cur T (0, 0)) :: F)) := by
  obtain ⟨ao, cap, rfl, hcap, hcm⟩ := hS.form
  have hb : w.heap[b]? = some (Obj.cells cur T (0, 0)) := hO.get (b, Obj.cells cur T (0, 0)) (by simp)
  have hcell : w.cell? ⟨b, f, none⟩ = some (.slice ao 0 cap) := by rw [cell_of_get hb, hc]; rfl
  have hlt := lt_of_get hb
  have hlt1 : b < w.heap.size + 1 := by omega
  have hlt2 : b < w.heap.size + 1 + 1 := by omega
  have HO := Lib.hid ((hO.junk (Obj.cells #[.int .i64 0, .int .i64 0, .int .i64 0] 136 (0, 0))).junk (Obj.cells #[.int .i64 0, .int .i64 0, .int .i64 0] 136 (0, 0)))
  clear hO hS hb hc
  go_enter Try.func82, Try.ntmps82
  go_wp2
  refine bodyPost_ret (v := .tuple #[.agg #[.int .i64 0, .int .i64 0, .int .i64 0], .bool false]) (by simp [results, Try.results82, go_sem]) rfl ?_
  exact ⟨rfl, HO.out⟩

set_option maxRecDepth 100000 in
set_option maxHeartbeats 2000000 in
theorem take82_some (B : Nat) (w0 : World) (b f : Nat) (T : TypeId) (cur : Array Value) (x : W3) (r : List W3) (v : Value) (Lq F : List (Nat × Obj)) (w : World) (hS : Sl 136 3 C3 v (x :: r) Lq) (hc : cur[f]? = some v) (hO : Own B w0 w (Lq ++ ((b, Obj.cells cur T (0, 0)) :: F))) :
    Calls Try.prog 82 #[.pointer (some ⟨b, f, none⟩)] w fun e w' => e = .returned (.tuple #[.agg #[.int .i64 x.who, .int .i64 x.t, .int .i64 x.n], .bool true]) ∧ ∃ v' L', Sl 136 3 C3 v' r L' ∧ Own B w0 w' (L' ++ ((b, Obj.cells (cur.setIfInBounds f v') T (0, 0)) :: F)) := by
  obtain ⟨g, off, cap, rfl⟩ : ∃ g off cap, v = .slice (some ⟨g, off, none⟩) (x :: r).length cap := by
    rcases hS with ⟨_, h, _⟩ | ⟨g, off, cap, cur, hv, _⟩
    · cases h
    · exact ⟨g, off, cap, hv⟩
  have hb : w.heap[b]? = some (Obj.cells cur T (0, 0)) := hO.get (b, Obj.cells cur T (0, 0)) (by simp)
  have hcell : w.cell? ⟨b, f, none⟩ = some (.slice (some ⟨g, off, none⟩) (x :: r).length cap) := by rw [cell_of_get hb, hc]
  have hcs := hS.cells hO rfl
  have c0 : w.cell? ⟨g, off, none⟩ = some (.int .i64 x.who) := by have := hcs 0 (.int .i64 x.who) (by simp); simpa [Addr.add] using this
  have c1 : w.cell? ⟨g, off + 1, none⟩ = some (.int .i64 x.t) := by have := hcs 1 (.int .i64 x.t) (by simp); simpa [Addr.add] using this
  have c2 : w.cell? ⟨g, off + 2, none⟩ = some (.int .i64 x.n) := by have := hcs 2 (.int .i64 x.n) (by simp); simpa [Addr.add] using this
  have hlt := lt_of_get hb
  have hlt1 : b < w.heap.size + 1 := by omega
  have hlt2 : b < w.heap.size + 1 + 1 := by omega
  have hgl := World.block_lt_of_cell? _ _ c0
  have hgl1 : g < w.heap.size + 1 := by have : g < w.heap.size := hgl; omega
  have hgl2 : g < w.heap.size + 1 + 1 := by have : g < w.heap.size := hgl; omega
  have hne1 : ¬ w.heap.size = b := by omega
  have hne2 : ¬ w.heap.size + 1 = b := by omega
  have hne3 : ¬ b = w.heap.size := by omega
  have hne4 : ¬ b = w.heap.size + 1 := by omega
  have hl0 : (0 : Int) < ((x :: r).length : Int) := by simp only [List.length_cons]; omega
  have hz : (((x :: r).length : Int) == 0) = false := by simp only [List.length_cons]; simp; omega
  obtain ⟨len, hlen⟩ : ∃ n, n = (x :: r).length := ⟨_, rfl⟩
  have hO2 := ((hO.alloc (Obj.cells #[.int .i64 0, .int .i64 0, .int .i64 0] 136 (0, 0))).allocAt (Obj.cells #[.int .i64 x.who, .int .i64 x.t, .int .i64 x.n] 136 (0, 0)) (n := w.heap.size + 1) (by simp)).shuf [[_], [_], Lq, _ :: F] [2, 0, 1, 3] rfl rfl
  rw [← hlen] at hS hcell hl0 hz hc
  have HS := Lib.hid hS
  have HO := Lib.hid hO2
  have HC := Lib.hid hc
  clear hO hS hb hc hcs hO2 hlen
  go_enter Try.func82, Try.ntmps82
  go_wp2_with (go_at_call 92; refine (delete92 B w0 _ (x :: r) _ Lq 0 1 rfl _ HS.out HO.out (by simp)).mono ?_; rintro e w2 ⟨v2, L2, rfl, hS2, hO3⟩; have hS3 : Sl 136 3 C3 v2 r L2 := (by simpa using hS2); obtain ⟨a2, c2, rfl, _, _⟩ := hS3.form; clear hS2; have hb2 : w2.heap[b]? = some (Obj.cells cur T (0, 0)) := hO3.get (b, Obj.cells cur T (0, 0)) (by simp [cat]); have k0 : w2.cell? ⟨b, f, none⟩ = some _ := (cell_of_get hb2 f).trans HC.out; have k1 : w2.frozen? ⟨b, f, none⟩ = false := free_of_get hb2 f; have hA := hO3.get (w.heap.size, Obj.cells #[.int .i64 0, .int .i64 0, .int .i64 0] 136 (0, 0)) (by simp [cat]); have hB := hO3.get (w.heap.size + 1, Obj.cells #[.int .i64 x.who, .int .i64 x.t, .int .i64 x.n] 136 (0, 0)) (by simp [cat]); have kA0 : w2.cell? ⟨w.heap.size, 0, none⟩ = some (.int .i64 0) := cell_of_get hA 0; have kB0 : w2.cell? ⟨w.heap.size + 1, 0, none⟩ = some (.int .i64 x.who) := cell_of_get hB 0; have kA1 : w2.cell? ⟨w.heap.size, 1, none⟩ = some (.int .i64 0) := cell_of_get hA 1; have kB1 : w2.cell? ⟨w.heap.size + 1, 1, none⟩ = some (.int .i64 x.t) := cell_of_get hB 1; have kA2 : w2.cell? ⟨w.heap.size, 2, none⟩ = some (.int .i64 0) := cell_of_get hA 2; have kB2 : w2.cell? ⟨w.heap.size + 1, 2, none⟩ = some (.int .i64 x.n) := cell_of_get hB 2; have kf := free_of_get hA; have kl := lt_of_get hA; clear hb2 hA hB)
  have hO4 := hO3.shuf [L2, [_], [_], [_], F] [3, 2, 1, 0, 4] rfl rfl
  have hO5 := (hO4.set f (.slice a2 r.length c2)).shuf [[_], [_], [_], L2, F] [1, 0, 2, 3, 4] rfl rfl
  have hO6 := (((hO5.setTo 0 (.int .i64 x.who) rfl).setTo 1 (.int .i64 x.t) rfl).setTo 2 (.int .i64 x.n) rfl)
  have rr := cell_of_get hO6.head
  have r0 := rr 0
  have r1 := rr 1
  have r2 := rr 2
  have HO6 := Lib.hid (hO6.shuf [[_], [_], [_], L2, F] [0, 2, 3, 1, 4] rfl rfl).tail.tail
  clear hO3 hO4 hO5 hO6 rr kA0 kB0 kA1 kB1 kA2 kB2 k0 k1
  refine bodyPost_ret (v := .tuple #[.agg #[.int .i64 x.who, .int .i64 x.t, .int .i64 x.n], .bool true]) (by simp [results, Try.results82, go_sem, r0, r1, r2]) rfl ?_
  exact ⟨rfl, _, L2, hS3, HO6.out⟩
end Go.Proofs.Ytidnkienkdlmkaa
