/-
  Contract of slices.Delete(l, i, i+1) at []int. Condition: i < len(l).
-/
import Derived.Test.YtojcojoleodjmaaRqIntsB
import Derived.Test.YtojcojoleodjmaaDel
namespace Go.Proofs.Ytojcojoleodjmaa
open Go.RowKit Go.Sh

theorem zero3 (w : World) : (zeroValue 3).run Try.prog w = .ok (.int .i64 0) w := by kernel_rfl

set_option maxRecDepth 100000 in
set_option maxHeartbeats 1000000 in
theorem delete48 (B : Nat) (w0 : World) (F : List (Nat × Obj)) (xs : List Int) (v : Value) (L : List (Nat × Obj)) (i : Nat) (m : Int) (hm : m = (i : Int) + 1) (w : World) (hS : Sl 3 1 I v xs L) (hO : Own B w0 w (L ++ F)) (hi : i < xs.length) :
    Calls Try.prog 48 #[v, .int .i64 i, .int .i64 m] w (NewSl 3 1 I B w0 F (xs.take i ++ xs.drop (i + 1))) := by
  subst hm
  obtain ⟨i0, hi0, hz0, hz1, hz2⟩ := info_parts Try.info3
  rcases hS with ⟨_, rfl, _⟩ | ⟨g, off, cap, cur, rfl, rfl, h1, h2, h3, h4⟩
  · simp at hi
  · have hS' : Sl 3 1 I (.slice (some ⟨g, off, none⟩) xs.length cap) xs [(g, Obj.cells cur 3 (0, 0))] := .inr ⟨g, off, cap, cur, rfl, rfl, h1, h2, h3, h4⟩
    have hd := Sl.deleted (e := 3) (g := g) I_len h1 h2 h3 h4 i hi [.int .i64 0] rfl
    simp only [Nat.mul_one] at hd h3
    have hcl : ∀ (W : World) (F : List (Nat × Obj)) (c : Array Value), Own B w0 W ((g, Obj.cells c 3 (0, 0)) :: F) → off + cap ≤ c.size → ∀ M, M = xs.length - 1 → ∀ ty, (Builtin.clear_ #[28] ty #[.slice (some ⟨g, off + M, none⟩) (xs.length - M) (cap - M)]).run Try.prog W = .ok (.tuple #[]) (W.setCells g (off + (xs.length - 1)) [.int .i64 0]) := by
      intro W F c hW hc M hM ty
      subst hM
      rw [show xs.length - (xs.length - 1) = 1 by omega]
      exact Lib.run_clear_slice W _ _ ty _ Try.underlying28 zero3 rfl rfl g (off + (xs.length - 1)) 1 _ (by omega)
        (fun j hj => by rw [hW.cellAt List.mem_cons_self, Array.getElem?_eq_getElem (by omega)]; rfl) (fun j hj => hW.freeAt List.mem_cons_self _)
    have hnews : ∀ (news : List Value), news = (xs.drop (i + 1)).flatMap I → ∀ (A : Addr), (if cap = i + 1 then (some ⟨g, off, none⟩ : Option Addr) else some ⟨g, off + (i + 1), none⟩) = some A → ∀ t u, news[t]? = some u → w.drew.cell? (A.add t) = some u := by
      rintro news rfl A hA t u hu
      obtain ⟨off', ho, hdr⟩ := hS'.dropIf I_len (i + 1) (by omega) (cap = i + 1) id
      rw [Nat.mul_one, hA] at ho
      obtain rfl : A = ⟨g, off', none⟩ := by simpa using ho
      exact hdr.cells (hO.drew) rfl t u hu
    obtain ⟨A, hA⟩ : ∃ A, (if cap = i + 1 then (some ⟨g, off, none⟩ : Option Addr) else some ⟨g, off + (i + 1), none⟩) = some A := by split <;> exact ⟨_, rfl⟩
    obtain ⟨news, hn⟩ : ∃ news, news = (xs.drop (i + 1)).flatMap I := ⟨_, rfl⟩
    have s0 := Lib.hid (hnews news hn A hA)
    have s1 : Hid (news.length = (xs.length - (i + 1)) * 1) := Lib.hid (by rw [hn, flatMap_length I_len, List.length_drop])
    have s2 : Hid (∀ u ∈ news, u.oneCell' = true) := Lib.hid (by
      intro u hu
      rw [hn] at hu
      obtain ⟨x, _, hx⟩ := List.mem_flatMap.1 hu
      exact I_one x u hx)
    have s3 : Hid (∀ t, t < news.length → (w.drew.cell? ⟨g, off + i * 1 + t, none⟩).isSome = true ∧ w.drew.frozen? ⟨g, off + i * 1 + t, none⟩ = false) := Lib.hid (by
      intro t ht
      rw [s1.out] at ht
      exact ⟨by rw [hO.drew.cellAt List.mem_cons_self, Array.getElem?_eq_getElem (by omega)]; rfl, hO.drew.freeAt List.mem_cons_self _⟩)
    have hO1 : Own B w0 (w.drew.setCells g (off + i * 1) news) ((g, Obj.cells (setMany cur (off + i * 1) news) 3 (0, 0)) :: F) := hO.drew.setCells news (off + i * 1) _ cur
    obtain ⟨W1, hW1⟩ : ∃ W1, W1 = w.drew.setCells g (off + i * 1) news := ⟨_, rfl⟩
    rw [← hW1] at hO1
    have HW := Lib.hid hW1
    have HD := Lib.hid hd
    have HN := Lib.hid hn
    have hclr := hcl W1 F _ hO1 (by rw [size_setMany]; exact h3) (i + (xs.length - (i + 1))) (by omega)
    have HO1 := Lib.hid hO1
    have e1 : (i : Int) + 1 ≤ xs.length := by omega
    have e0 : (0 : Int) ≤ (i : Int) + 1 := by omega
    have e2 : i + 1 ≤ cap := by omega
    have e3 : i ≤ cap := by omega
    have HX := Lib.hid (show i + (xs.length - (i + 1)) = xs.length - 1 by omega)
    clear hW1 hd hn hnews hcl hO1 hS' h4 hO
    go_enter Try.func48, Try.ntmps48
    go_wp2_with fail
    go_region_law (refine step_append_room rfl (.tmp 22) (.tmp 25) 28 rfl 3 i0 1 Try.underlying28 hi0 hz1 g off i cap (by simp [Act.eval, Act.put]) A (xs.length - (i + 1)) (cap - (i + 1)) news (by simp [Act.eval, Act.put]) s1.out s0.out s2.out (by omega) s3.out ?_; rw [← HW.out])
    clear s0 s1 s2 s3 hA
    go_wp2
    go_ret
    have hl : (xs.take i ++ xs.drop (i + 1)).length = xs.length - 1 := by simp; omega
    have hOF := HO1.out.setCells [.int .i64 0] (off + (xs.length - 1))
    rw [HN.out, Nat.mul_one] at hOF
    rw [HX.out]
    exact ⟨_, _, rfl, HD.out, hOF⟩

end Go.Proofs.Ytojcojoleodjmaa
