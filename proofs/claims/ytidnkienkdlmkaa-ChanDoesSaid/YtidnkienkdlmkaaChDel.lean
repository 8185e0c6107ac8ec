/-
  Contracts of slices.Delete(l, i, i+1) at []api.Value, []waiter. Condition: i < len(l).
-/
import Derived.Test.YtidnkienkdlmkaaChA
import Derived.Lib.SliceRun
namespace Go.Proofs.Ytidnkienkdlmkaa
open Go.RowKit Go.Sh

theorem run_clear_one {P : Program} (w : World) (t e ty : TypeId) (z : Value) (ht : P.underlying t = some (.slice e)) (hv : ∀ w, (zeroValue e).run P w = .ok z w) (zs : List Value) (hzc : (Builtin.zeroCells z.cells 1).toList = zs) (h1 : ∀ v ∈ zs, v.oneCell' = true) (b o c : Nat)
    (hc : ∀ j, j < zs.length → (w.cell? ⟨b, o + j, none⟩).isSome = true) (hf : ∀ j, j < zs.length → w.frozen? ⟨b, o + j, none⟩ = false) :
    (Builtin.clear_ #[t] ty #[.slice (some ⟨b, o, none⟩) 1 c]).run P w = .ok (.tuple #[]) (w.setCells b o zs) := by
  have hst := run_storeCells_cells (P := P) b o zs 0 w (by simpa using hc) (by simpa using hf) h1
  simp only [Nat.add_zero] at hst
  simp [Builtin.clear_, run_underlying ht, hv, hzc, hst]



theorem zero30 (w : World) : (zeroValue 30).run Try.prog w = .ok (.agg #[.int .i64 0, .int .i64 0]) w := by kernel_rfl

set_option maxRecDepth 100000 in
set_option maxHeartbeats 1000000 in
theorem delete110 (B : Nat) (w0 : World) (F : List (Nat × Obj)) (xs : List V2) (v : Value) (L : List (Nat × Obj)) (i : Nat) (m : Int) (hm : m = (i : Int) + 1) (w : World) (hS : Sl 30 2 C2 v xs L) (hO : Own B w0 w (L ++ F)) (hi : i < xs.length) :
    Calls Try.prog 110 #[v, .int .i64 i, .int .i64 m] w (NewSl 30 2 C2 B w0 F (xs.take i ++ xs.drop (i + 1))) := by
  subst hm
  obtain ⟨i0, hi0, hz0, hz1, hz2⟩ := info_parts Try.info30
  rcases hS with ⟨_, rfl, _⟩ | ⟨g, off, cap, cur, rfl, rfl, h1, h2, h3, h4⟩
  · simp at hi
  · have hS' : Sl 30 2 C2 (.slice (some ⟨g, off, none⟩) xs.length cap) xs [(g, Obj.cells cur 30 (0, 0))] := .inr ⟨g, off, cap, cur, rfl, rfl, h1, h2, h3, h4⟩
    have hd := Sl.deleted (e := 30) (g := g) C2_len h1 h2 h3 h4 i hi [.int .i64 0, .int .i64 0] rfl
    have hcl : ∀ (W : World) (F : List (Nat × Obj)) (c : Array Value), Own B w0 W ((g, Obj.cells c 30 (0, 0)) :: F) → off + cap * 2 ≤ c.size → ∀ M, M = xs.length - 1 → ∀ ty, (Builtin.clear_ #[98] ty #[.slice (some ⟨g, off + M * 2, none⟩) (xs.length - M) (cap - M)]).run Try.prog W = .ok (.tuple #[]) (W.setCells g (off + (xs.length - 1) * 2) [.int .i64 0, .int .i64 0]) := by
      intro W F c hW hc M hM ty
      subst hM
      rw [show xs.length - (xs.length - 1) = 1 by omega]
      exact run_clear_one W _ _ ty _ Try.underlying98 zero30 [.int .i64 0, .int .i64 0] (by kernel_rfl) (by simp [Value.oneCell']) g (off + (xs.length - 1) * 2) _
        (fun j hj => by rw [hW.cellAt List.mem_cons_self, Array.getElem?_eq_getElem (by simp at hj; omega)]; rfl) (fun j hj => hW.freeAt List.mem_cons_self _)
    have hnews : ∀ (news : List Value), news = (xs.drop (i + 1)).flatMap C2 → ∀ (A : Addr), (if cap = i + 1 then (some ⟨g, off, none⟩ : Option Addr) else some ⟨g, off + (i + 1) * 2, none⟩) = some A → ∀ t u, news[t]? = some u → w.drew.cell? (A.add t) = some u := by
      rintro news rfl A hA t u hu
      obtain ⟨off', ho, hdr⟩ := hS'.dropIf C2_len (i + 1) (by omega) (cap = i + 1) id
      rw [hA] at ho
      obtain rfl : A = ⟨g, off', none⟩ := by simpa using ho
      exact hdr.cells (hO.drew) rfl t u hu
    obtain ⟨A, hA⟩ : ∃ A, (if cap = i + 1 then (some ⟨g, off, none⟩ : Option Addr) else some ⟨g, off + (i + 1) * 2, none⟩) = some A := by split <;> exact ⟨_, rfl⟩
    obtain ⟨news, hn⟩ : ∃ news, news = (xs.drop (i + 1)).flatMap C2 := ⟨_, rfl⟩
    have s0 := Lib.hid (hnews news hn A hA)
    have s1 : Hid (news.length = (xs.length - (i + 1)) * 2) := Lib.hid (by rw [hn, flatMap_length C2_len, List.length_drop])
    have s2 : Hid (∀ u ∈ news, u.oneCell' = true) := Lib.hid (by
      intro u hu
      rw [hn] at hu
      obtain ⟨x, _, hx⟩ := List.mem_flatMap.1 hu
      exact C2_one x u hx)
    have s3 : Hid (∀ t, t < news.length → (w.drew.cell? ⟨g, off + i * 2 + t, none⟩).isSome = true ∧ w.drew.frozen? ⟨g, off + i * 2 + t, none⟩ = false) := Lib.hid (by
      intro t ht
      rw [s1.out] at ht
      exact ⟨by rw [hO.drew.cellAt List.mem_cons_self, Array.getElem?_eq_getElem (by omega)]; rfl, hO.drew.freeAt List.mem_cons_self _⟩)
    have hO1 : Own B w0 (w.drew.setCells g (off + i * 2) news) ((g, Obj.cells (setMany cur (off + i * 2) news) 30 (0, 0)) :: F) := hO.drew.setCells news (off + i * 2) _ cur
    obtain ⟨W1, hW1⟩ : ∃ W1, W1 = w.drew.setCells g (off + i * 2) news := ⟨_, rfl⟩
    rw [← hW1] at hO1
    have HW := Lib.hid hW1
    have HD := Lib.hid hd
    have HN := Lib.hid hn
    have hclr := hcl W1 F _ hO1 (by rw [size_setMany]; exact h3) (i + (xs.length - (i + 1))) (by omega)
    have HO1 := Lib.hid hO1
    have e1 : (i : Int) + 1 ≤ xs.length := by omega
    have e0 : (0 : Int) ≤ (i : Int) + 1 := by omega
    have e2 : i + 1 ≤ cap := by omega
    have e3 : i ≤ cap := by omega
    have HX := Lib.hid (show i + (xs.length - (i + 1)) = xs.length - 1 by omega)
    clear hW1 hd hn hnews hcl hO1 hS' h4 hO
    go_enter Try.func110, Try.ntmps110
    go_wp2_with fail
    go_region_law (refine step_append_room rfl (.tmp 22) (.tmp 25) 98 rfl 30 i0 2 Try.underlying98 hi0 hz1 g off i cap (by simp [Act.eval, Act.put]) A (xs.length - (i + 1)) (cap - (i + 1)) news (by simp [Act.eval, Act.put]) s1.out s0.out s2.out (by omega) s3.out ?_; rw [← HW.out])
    clear s0 s1 s2 s3 hA
    go_wp2
    go_ret
    have hl : (xs.take i ++ xs.drop (i + 1)).length = xs.length - 1 := by simp; omega
    have hOF := HO1.out.setCells [.int .i64 0, .int .i64 0] (off + (xs.length - 1) * 2)
    rw [HN.out] at hOF
    rw [HX.out]
    exact ⟨_, _, rfl, HD.out, hOF⟩

theorem zero136 (w : World) : (zeroValue 136).run Try.prog w = .ok (.agg #[.int .i64 0, .int .i64 0, .int .i64 0]) w := by kernel_rfl

set_option maxRecDepth 100000 in
set_option maxHeartbeats 1000000 in
theorem delete92 (B : Nat) (w0 : World) (F : List (Nat × Obj)) (xs : List W3) (v : Value) (L : List (Nat × Obj)) (i : Nat) (m : Int) (hm : m = (i : Int) + 1) (w : World) (hS : Sl 136 3 C3 v xs L) (hO : Own B w0 w (L ++ F)) (hi : i < xs.length) :
    Calls Try.prog 92 #[v, .int .i64 i, .int .i64 m] w (NewSl 136 3 C3 B w0 F (xs.take i ++ xs.drop (i + 1))) := by
  subst hm
  obtain ⟨i0, hi0, hz0, hz1, hz2⟩ := info_parts Try.info136
  rcases hS with ⟨_, rfl, _⟩ | ⟨g, off, cap, cur, rfl, rfl, h1, h2, h3, h4⟩
  · simp at hi
  · have hS' : Sl 136 3 C3 (.slice (some ⟨g, off, none⟩) xs.length cap) xs [(g, Obj.cells cur 136 (0, 0))] := .inr ⟨g, off, cap, cur, rfl, rfl, h1, h2, h3, h4⟩
    have hd := Sl.deleted (e := 136) (g := g) C3_len h1 h2 h3 h4 i hi [.int .i64 0, .int .i64 0, .int .i64 0] rfl
    have hcl : ∀ (W : World) (F : List (Nat × Obj)) (c : Array Value), Own B w0 W ((g, Obj.cells c 136 (0, 0)) :: F) → off + cap * 3 ≤ c.size → ∀ M, M = xs.length - 1 → ∀ ty, (Builtin.clear_ #[109] ty #[.slice (some ⟨g, off + M * 3, none⟩) (xs.length - M) (cap - M)]).run Try.prog W = .ok (.tuple #[]) (W.setCells g (off + (xs.length - 1) * 3) [.int .i64 0, .int .i64 0, .int .i64 0]) := by
      intro W F c hW hc M hM ty
      subst hM
      rw [show xs.length - (xs.length - 1) = 1 by omega]
      exact run_clear_one W _ _ ty _ Try.underlying109 zero136 [.int .i64 0, .int .i64 0, .int .i64 0] (by kernel_rfl) (by simp [Value.oneCell']) g (off + (xs.length - 1) * 3) _
        (fun j hj => by rw [hW.cellAt List.mem_cons_self, Array.getElem?_eq_getElem (by simp at hj; omega)]; rfl) (fun j hj => hW.freeAt List.mem_cons_self _)
    have hnews : ∀ (news : List Value), news = (xs.drop (i + 1)).flatMap C3 → ∀ (A : Addr), (if cap = i + 1 then (some ⟨g, off, none⟩ : Option Addr) else some ⟨g, off + (i + 1) * 3, none⟩) = some A → ∀ t u, news[t]? = some u → w.drew.cell? (A.add t) = some u := by
      rintro news rfl A hA t u hu
      obtain ⟨off', ho, hdr⟩ := hS'.dropIf C3_len (i + 1) (by omega) (cap = i + 1) id
      rw [hA] at ho
      obtain rfl : A = ⟨g, off', none⟩ := by simpa using ho
      exact hdr.cells (hO.drew) rfl t u hu
    obtain ⟨A, hA⟩ : ∃ A, (if cap = i + 1 then (some ⟨g, off, none⟩ : Option Addr) else some ⟨g, off + (i + 1) * 3, none⟩) = some A := by split <;> exact ⟨_, rfl⟩
    obtain ⟨news, hn⟩ : ∃ news, news = (xs.drop (i + 1)).flatMap C3 := ⟨_, rfl⟩
    have s0 := Lib.hid (hnews news hn A hA)
    have s1 : Hid (news.length = (xs.length - (i + 1)) * 3) := Lib.hid (by rw [hn, flatMap_length C3_len, List.length_drop])
    have s2 : Hid (∀ u ∈ news, u.oneCell' = true) := Lib.hid (by
      intro u hu
      rw [hn] at hu
      obtain ⟨x, _, hx⟩ := List.mem_flatMap.1 hu
      exact C3_one x u hx)
    have s3 : Hid (∀ t, t < news.length → (w.drew.cell? ⟨g, off + i * 3 + t, none⟩).isSome = true ∧ w.drew.frozen? ⟨g, off + i * 3 + t, none⟩ = false) := Lib.hid (by
      intro t ht
      rw [s1.out] at ht
      exact ⟨by rw [hO.drew.cellAt List.mem_cons_self, Array.getElem?_eq_getElem (by omega)]; rfl, hO.drew.freeAt List.mem_cons_self _⟩)
    have hO1 : Own B w0 (w.drew.setCells g (off + i * 3) news) ((g, Obj.cells (setMany cur (off + i * 3) news) 136 (0, 0)) :: F) := hO.drew.setCells news (off + i * 3) _ cur
    obtain ⟨W1, hW1⟩ : ∃ W1, W1 = w.drew.setCells g (off + i * 3) news := ⟨_, rfl⟩
    rw [← hW1] at hO1
    have HW := Lib.hid hW1
    have HD := Lib.hid hd
    have HN := Lib.hid hn
    have hclr := hcl W1 F _ hO1 (by rw [size_setMany]; exact h3) (i + (xs.length - (i + 1))) (by omega)
    have HO1 := Lib.hid hO1
    have e1 : (i : Int) + 1 ≤ xs.length := by omega
    have e0 : (0 : Int) ≤ (i : Int) + 1 := by omega
    have e2 : i + 1 ≤ cap := by omega
    have e3 : i ≤ cap := by omega
    have HX := Lib.hid (show i + (xs.length - (i + 1)) = xs.length - 1 by omega)
    clear hW1 hd hn hnews hcl hO1 hS' h4 hO
    go_enter Try.func92, Try.ntmps92
    go_wp2_with fail
    go_region_law (refine step_append_room rfl (.tmp 22) (.tmp 25) 109 rfl 136 i0 3 Try.underlying109 hi0 hz1 g off i cap (by simp [Act.eval, Act.put]) A (xs.length - (i + 1)) (cap - (i + 1)) news (by simp [Act.eval, Act.put]) s1.out s0.out s2.out (by omega) s3.out ?_; rw [← HW.out])
    clear s0 s1 s2 s3 hA
    go_wp2
    go_ret
    have hl : (xs.take i ++ xs.drop (i + 1)).length = xs.length - 1 := by simp; omega
    have hOF := HO1.out.setCells [.int .i64 0, .int .i64 0, .int .i64 0] (off + (xs.length - 1) * 3)
    rw [HN.out] at hOF
    rw [HX.out]
    exact ⟨_, _, rfl, HD.out, hOF⟩

end Go.Proofs.Ytidnkienkdlmkaa
