/-
  Contracts of Drop, Clone. Condition: at most 256 threads wait.
-/
import Derived.Test.YtidnkienkdlmkaaMxMore
import Derived.Deep.RegionHeld3
namespace Go.Proofs.Ytidnkienkdlmkaa
open Go.RowKit Go.Sh

def dropR (ws : List Int) (who : Int) : Int × List Int := if idx ws who < 0 then (6, ws) else (0, ws.take (idx ws who).toNat ++ ws.drop ((idx ws who).toNat + 1))

theorem idx_cases (ws : List Int) (who : Int) : idx ws who = -1 ∨ ∃ i : Nat, i < ws.length ∧ idx ws who = i := by
  unfold idx
  cases h : ws.findIdx? (· == who) with
  | none => exact .inl rfl
  | some i =>
    rw [List.findIdx?_eq_some_iff_getElem] at h
    exact .inr ⟨i, h.1, rfl⟩

def DropPost (B : Nat) (w0 : World) (b : Nat) (F : List (Nat × Obj)) (own : Option Int) (r : Int × List Int) (e : Ending) (w' : World) : Prop :=
  e = .returned (.int .i64 r.1) ∧ ∃ L', Mx b own r.2 L' ∧ Own B w0 w' (L' ++ F)

set_option maxRecDepth 100000 in
set_option maxHeartbeats 2000000 in
theorem drop_any (B : Nat) (w0 : World) (b : Nat) (own : Option Int) (ws : List Int) (L F : List (Nat × Obj)) (who : Int) (w : World) (hM : Mx b own ws L) (hO : Own B w0 w (L ++ F)) :
    Calls Try.prog 22 #[.pointer (some ⟨b, 0, none⟩), .int .i64 who] w (DropPost B w0 b F own (dropR ws who)) := by
  have hM' := hM
  obtain ⟨o, v, Lo, Lv, rfl, hb, hs, hl⟩ := hM'
  have hO3 := hO
  simp only [List.cons_append, List.append_assoc] at hO3
  have hh := hO3.head
  have hc0 : w.cell? ⟨b, 0, none⟩ = some (.bool true) := cell_of_get hh 0
  have hc2 : w.cell? ⟨b, 2, none⟩ = some v := cell_of_get hh 2
  have hr := Lib.hid (Sl_rd (w := w) hs (fun p hp => hO3.get p (by simp [hp])))
  rcases idx_cases ws who with h1 | ⟨i, hi, h1⟩
  · have HR := Lib.hid (show dropR ws who = (6, ws) by simp [dropR, h1])
    have H1 := Lib.hid h1
    clear h1
    go_enter Try.func22, Try.ntmps22
    go_wp2_with (first | (go_at_call 63; refine (none_at b true _ hc0).mono ?_; rintro e w' ⟨rfl, rfl⟩) | (go_at_call 65; refine (index_any ws who v _ (by omega) hr.out).mono ?_; rintro e w' ⟨rfl, rfl⟩; rw [H1.out]))
    go_ret
    rw [HR.out]
    exact ⟨rfl, _, hM, hO⟩
  · obtain ⟨zs, hz⟩ : ∃ zs, ws.take i ++ ws.drop (i + 1) = zs := ⟨_, rfl⟩
    have hzl : zs.length ≤ 256 := by rw [← hz]; simp; omega
    have HR := Lib.hid (show dropR ws who = (0, zs) by simp [dropR, h1, ← hz])
    have HZ := Lib.hid hz
    clear hz
    have H1 := Lib.hid h1
    rcases hs with ⟨_, rfl, _⟩ | ⟨g, off, cap, cur, rfl, rfl, hcap, hcm, hsz, hcur⟩
    · simp at hi
    · have hs : Sl 3 1 I (.slice (some ⟨g, off, none⟩) ws.length cap) ws [(g, Obj.cells cur 3 (0, 0))] := .inr ⟨g, off, cap, cur, rfl, rfl, hcap, hcm, hsz, hcur⟩
      have hlt := lt_of_get hh
      have hlt1 : b < w.heap.size + 1 := by omega
      have hf2 : w.frozen? ⟨b, 2, none⟩ = false := free_of_get hh 2
      have ht := Lib.hid (hs.take I_len i (by omega))
      have hd := Lib.hid (hs.dropIf I_len (i + 1) (by omega) (cap = i + 1) id)
      have HCM := Lib.hid hcm
      clear h1 hh hcm hsz hcur hs
      have hi0 : (0 : Int) ≤ i := by omega
      have hi1 : (i : Int) + 1 ≤ ws.length := by omega
      have hic : i ≤ cap := by omega
      go_enter Try.func22, Try.ntmps22
      go_wp2_with (first | (go_at_call 63; refine (none_at b true _ hc0).mono ?_; rintro e w' ⟨rfl, rfl⟩) | (go_at_call 65; refine (index_any ws who _ _ (by omega) hr.out).mono ?_; rintro e w' ⟨rfl, rfl⟩; rw [H1.out]))
      have e1 : IntKind.i64.wrap ((i : Int) + 1) = (i : Int) + 1 := IntWalk.i64_in _ (by omega)
      have e2 : (0 : Int) ≤ (i : Int) + 1 := by omega
      have e3 : ((i : Int) + 1).toNat = i + 1 := by omega
      obtain ⟨off', hoff, hd'⟩ := hd.out
      rw [Nat.mul_one] at hoff
      have HOFF := Lib.hid hoff
      clear hoff hd hM hO hr
      go_region_law (go_simp; rw [HOFF.out]; go_at_call 56; refine (concat56 B w0 _ w.heap.size _ _ (ws.take i) (ws.drop (i + 1)) [(g, Obj.cells cur 3 (0, 0))] [(g, Obj.cells cur 3 (0, 0))] _ List.mem_cons_self ht.out (by simp) hd' (by simp) ((hO3.alloc _).drew) (by simp; omega) (by simp; omega)).mono ?_; rintro e w1 ⟨v1, L1, rfl, hS1, hO1⟩; rw [HZ.out] at hS1; obtain ⟨ao1, cap1, rfl, _, _⟩ := hS1.form; have hO2 := hO1.shuf [L1, [_], [_], Lo, [_], F] [2, 0, 1, 3, 4, 5] rfl rfl; have k0 := cell_of_get hO2.head 2; have k1 := free_of_get hO2.head 2; simp only [List.getElem?_toArray] at k0)
      all_goals
        have hO4 := ((hO2.setTo 2 (.slice ao1 zs.length cap1) rfl).shuf [[_], L1, [_], Lo, [_], F] [2, 4, 0, 3, 1, 5] rfl rfl).tail.tail
        clear hO1 hO2 k0 k1 hO3
        go_wp2
        go_ret
        rw [HR.out]
        exact ⟨rfl, (b, Obj.cells #[.bool true, .pointer o, .slice ao1 zs.length cap1] 48 (0, 0)) :: (Lo ++ L1), ⟨o, _, Lo, L1, rfl, hb, hS1, hzl⟩, by simpa [cat] using hO4⟩

/-- A new mutex in the same state. -/
def ClonePost (B : Nat) (w0 : World) (F : List (Nat × Obj)) (own : Option Int) (ws : List Int) (e : Ending) (w' : World) : Prop :=
  ∃ b L', e = .returned (.pointer (some ⟨b, 0, none⟩)) ∧ Mx b own ws L' ∧ Own B w0 w' (L' ++ F)

set_option maxRecDepth 100000 in
set_option maxHeartbeats 1000000 in
theorem mclone_any (B : Nat) (w0 : World) (b : Nat) (own : Option Int) (ws : List Int) (L F : List (Nat × Obj)) (w : World) (hM : Mx b own ws L) (hO : Own B w0 w F) (hL : ∀ p ∈ L, p ∈ F) :
    Calls Try.prog 25 #[.pointer (some ⟨b, 0, none⟩)] w (ClonePost B w0 F own ws) := by
  obtain ⟨o, v, Lo, Lv, rfl, hb, hs, hl⟩ := hM
  have hh := hO.get _ (hL _ (List.mem_cons_self))
  have hc0 : w.cell? ⟨b, 0, none⟩ = some (.bool true) := cell_of_get hh 0
  have hc2 : w.cell? ⟨b, 2, none⟩ = some v := cell_of_get hh 2
  rcases hb with ⟨rfl, rfl, rfl⟩ | ⟨bo, x, rfl, rfl, rfl⟩
  · go_enter Try.func25, Try.ntmps25
    go_wp2_with (first | (go_at_call 63; refine (none_at b true _ hc0).mono ?_; rintro e w' ⟨rfl, rfl⟩) | (go_at_call 64; refine (clone64 B w0 F ws v Lv _ hs (fun p hp => hL p (by simp [hp])) hO (by omega)).mono ?_; rintro e w1 ⟨v1, L1, rfl, hS1, hO1⟩; obtain ⟨ao1, cap1, rfl, _, _⟩ := hS1.form; have hh1 := hO1.get _ (List.mem_append_right _ (hL _ List.mem_cons_self)); have k1 : w1.cell? ⟨b, 1, none⟩ = some (.pointer none) := cell_of_get hh1 1; have hlt : b < w1.heap.size := lt_of_get hh1; clear hh1))
    go_ret
    exact ⟨w1.heap.size, (w1.heap.size, Obj.cells #[.bool true, .pointer none, .slice ao1 ws.length cap1] 48 (0, 0)) :: ([] ++ L1), rfl, ⟨none, _, [], L1, rfl, .inl ⟨rfl, rfl, rfl⟩, hS1, hl⟩, hO1.alloc _⟩
  · go_enter Try.func25, Try.ntmps25
    go_wp2_with (go_at_call 63; refine (none_at b true _ hc0).mono ?_; rintro e w' ⟨rfl, rfl⟩)
    refine (clone64 B w0 F ws v Lv _ hs (fun p hp => hL p (by simp [hp])) hO (by omega)).mono ?_
    rintro e w1 ⟨v1, L1, rfl, hS1, hO1⟩
    obtain ⟨ao1, cap1, rfl, _, _⟩ := hS1.form
    have hh1 : w1.heap[b]? = some (Obj.cells #[.bool true, .pointer (some ⟨bo, 0, none⟩), v] 48 (0, 0)) := hO1.get (b, _) (List.mem_append_right _ (hL _ List.mem_cons_self))
    have k1 : w1.cell? ⟨b, 1, none⟩ = some (.pointer (some ⟨bo, 0, none⟩)) := cell_of_get hh1 1
    have hlt : b < w1.heap.size := lt_of_get hh1
    have hh2 : w1.heap[bo]? = some (Obj.cells #[.int .i64 x] 3 (0, 0)) := hO1.get (bo, Obj.cells #[.int .i64 x] 3 (0, 0)) (List.mem_append_right _ (hL (bo, Obj.cells #[.int .i64 x] 3 (0, 0)) (by simp)))
    have k2 : w1.cell? ⟨bo, 0, none⟩ = some (.int .i64 x) := cell_of_get hh2 0
    have hlt2 : bo < w1.heap.size := lt_of_get hh2
    have hlt3 : bo < w1.heap.size + 1 := by omega
    clear hh1 hh2
    go_wp2
    go_ret
    have hO4 := ((hO1.alloc (.cells #[.bool true, .pointer (some ⟨w1.heap.size + 1, 0, none⟩), .slice ao1 ws.length cap1] 48)).allocAt (.cells #[.int .i64 x] 3) (n := w1.heap.size + 1) (by simp)).shuf [[_], [_], L1, F] [1, 0, 2, 3] rfl rfl
    exact ⟨w1.heap.size, (w1.heap.size, Obj.cells #[.bool true, .pointer (some ⟨w1.heap.size + 1, 0, none⟩), .slice ao1 ws.length cap1] 48 (0, 0)) :: ([(w1.heap.size + 1, Obj.cells #[.int .i64 x] 3 (0, 0))] ++ L1), rfl, ⟨_, _, [(w1.heap.size + 1, Obj.cells #[.int .i64 x] 3 (0, 0))], L1, rfl, .inr ⟨_, _, rfl, rfl, rfl⟩, hS1, hl⟩, by simpa [cat] using hO4⟩

end Go.Proofs.Ytidnkienkdlmkaa
