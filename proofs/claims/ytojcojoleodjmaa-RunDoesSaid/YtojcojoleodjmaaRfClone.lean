/-
  Contract of Clone. Conditions: 1 to 16 workers, at most 1,024 threads in a queue.
-/
import Derived.Test.YtojcojoleodjmaaRqTold
import Derived.Deep.MidRow
namespace Go.Proofs.Ytojcojoleodjmaa
open Go.RowKit Go.Sh

def QClonePost (B : Nat) (w0 : World) (n : Nat) (F : List (Nat × Obj)) (ls : Nat → List Int) (st : Int) (e : Ending) (w' : World) : Prop :=
  ∃ b' L', e = .returned (.pointer (some ⟨b', 0, none⟩)) ∧ Qx b' n ls st L' ∧ Sh.Own B w0 w' (L' ++ F)

def QCloneRel (B : Nat) (w0 : World) (nb n : Nat) (F : List (Nat × Obj)) (ls : Nat → List Int) (st : Int) (i : Value) (wr : World) : Prop :=
  ∃ (k : Nat) (vs' : Nat → Value) (Ls' : Nat → List (Nat × Obj)), k ≤ 16 ∧ i = .int .i64 k ∧ (∀ j, j < k → Sl 3 1 I (vs' j) (ls j) (Ls' j)) ∧ Sh.Own B w0 wr (qown nb n vs' Ls' st ++ F)

theorem Try.size50 : (Try.prog.info? 50).map (·.size) = some 18 := by kernel_rfl

/-- A zero block of type Queues. -/
abbrev zcells : Array Value := #[.int .i64 0, .slice none 0 0, .slice none 0 0, .slice none 0 0, .slice none 0 0, .slice none 0 0, .slice none 0 0, .slice none 0 0, .slice none 0 0, .slice none 0 0, .slice none 0 0, .slice none 0 0, .slice none 0 0, .slice none 0 0, .slice none 0 0, .slice none 0 0, .slice none 0 0, .int .i64 0]
abbrev zobj : Obj := Obj.cells zcells 50 (0, 0)

theorem Qs.forms {vs : Nat → Value} {Ls : Nat → List (Nat × Obj)} {n : Nat} {ls : Nat → List Int} (h : Qs vs Ls n ls) : ∃ (a : Nat → Option Addr) (c : Nat → Nat), ∀ i, i < 16 → vs i = .slice (a i) (ls i).length (c i) := by
  refine ⟨fun i => match vs i with | .slice x _ _ => x | _ => none, fun i => match vs i with | .slice _ _ x => x | _ => 0, fun i hi => ?_⟩
  obtain ⟨ao, cap, hv, _⟩ := (h.sl i hi).form
  simp only [hv]

set_option maxRecDepth 100000 in
set_option maxHeartbeats 4000000 in
theorem clone24 (B : Nat) (w0 : World) (b n : Nat) (vs : Nat → Value) (Ls : Nat → List (Nat × Obj)) (ls : Nat → List Int) (st : Int) (F : List (Nat × Obj)) (w : World) (hQ : Qs vs Ls n ls) (hO : Sh.Own B w0 w F) (hL : ∀ p ∈ qown b n vs Ls st, p ∈ F) :
    Calls Try.prog 24 #[.pointer (some ⟨b, 0, none⟩)] w (QClonePost B w0 n F ls st) := by
  have hb : w.heap[b]? = some (qobj n vs st) := hO.get (b, qobj n vs st) (hL _ List.mem_cons_self)
  have HB := Lib.hid hb
  have hpos := hQ.pos
  have htop := hQ.top
  have hlt := lt_of_get hb
  have hlt1 : b < w.heap.size + 1 := by omega
  have hne : ¬ w.heap.size = b := by omega
  obtain ⟨fa, fc, hform⟩ := hQ.forms
  have c0 : w.cell? ⟨b, 0, none⟩ = some (.int .i64 n) := cell_of_get hb 0
  obtain ⟨cs, hcs⟩ : ∃ cs, cs = (qcells n vs st).toList := ⟨_, rfl⟩
  have hcl : cs.length = 18 := by rw [hcs]; rfl
  have hsz : (Try.prog.info? 50).map (·.size) = some cs.length := by rw [hcl]; exact Try.size50
  have hsz2 : (Try.prog.info? 50).map (·.size) = some cs.toArray.size := by simpa using hsz
  have hrg : w.rangeAt b 0 cs := fun j v hv => by rw [Nat.zero_add, cell_of_get hb]; rw [hcs] at hv; simpa using hv
  have hone : ∀ v ∈ cs, v.oneCell' = true := by
    intro v hv
    rw [hcs] at hv
    simp only [qcells, List.mem_cons, List.mem_append, List.mem_map, List.mem_range, List.not_mem_nil, or_false] at hv
    rcases hv with rfl | ⟨i, hi, rfl⟩ | rfl
    · rfl
    · rw [hform i hi]; rfl
    · rfl
  have hO0 := hO.alloc zobj
  have hth : (w.alloc zobj).there w.heap.size 0 cs.toArray.size := fun j hj => by
    have hj' : j < 18 := by simpa [hcl] using hj
    rw [Nat.zero_add]
    refine ⟨?_, hO0.freeAt List.mem_cons_self j⟩
    rw [hO0.cellAt List.mem_cons_self]
    obtain rfl | rfl | rfl | rfl | rfl | rfl | rfl | rfl | rfl | rfl | rfl | rfl | rfl | rfl | rfl | rfl | rfl | rfl : j = 0 ∨ j = 1 ∨ j = 2 ∨ j = 3 ∨ j = 4 ∨ j = 5 ∨ j = 6 ∨ j = 7 ∨ j = 8 ∨ j = 9 ∨ j = 10 ∨ j = 11 ∨ j = 12 ∨ j = 13 ∨ j = 14 ∨ j = 15 ∨ j = 16 ∨ j = 17 := by omega
    all_goals rfl
  have hO1 : Sh.Own B w0 ((w.alloc zobj).setCells w.heap.size 0 cs.toArray.toList) (qown w.heap.size n vs (fun _ => []) st ++ F) := by
    have hz : (List.range 16).flatMap (fun _ => ([] : List (Nat × Obj))) = [] := by simp
    show Sh.Own B w0 _ ((w.heap.size, qobj n vs st) :: ((List.range 16).flatMap (fun _ => ([] : List (Nat × Obj))) ++ F))
    rw [hz]
    have h := Sh.Own.setCells cs.toArray.toList 0 _ _ hO0
    have he : setMany zcells 0 cs.toArray.toList = qcells n vs st := by
      apply Array.ext_getElem?
      intro i
      have hqs : (qcells n vs st).size = 18 := rfl
      rw [get_setMany _ _ _ _ (by simp [hcl])]
      simp only [Nat.zero_le, true_and, Nat.zero_add, Nat.sub_zero, hcl]
      split
      · rw [hcs]; simp
      · rw [Array.getElem?_eq_none (by rw [show zcells.size = 18 from rfl]; simp [hcl] at *; omega), Array.getElem?_eq_none (by rw [hqs]; simp [hcl] at *; omega)]
    rw [he] at h
    exact h
  have HO1 := Lib.hid hO1
  have HTH := Lib.hid hth
  have HRG := Lib.hid hrg
  have HSZ := Lib.hid hsz
  have HSZ2 := Lib.hid hsz2
  have HONE := Lib.hid (all_oneCell_toArray hone)
  clear hO0 hth hrg hsz hsz2 hone hcl
  have HCK := Lib.hid (show ∀ k, k < 16 → w.cell? ⟨b, 1 + k, none⟩ = some (vs k) from fun k hk => q_cell hb hk)
  have HQ := Lib.hid hQ
  have HOB := Lib.hid hO
  have HLL := Lib.hid hL
  have HF := Lib.hid hform
  clear hb hO1 hQ hO hL hform hcs
  go_enter Try.func24, Try.ntmps24
  go_wp2_with (first | (go_at_call 49; refine (none_q b n vs st _ HB.out hpos).mono ?_; rintro e w' ⟨rfl, rfl⟩) | (refine wpList_load_mid rfl 50 (.tmp 8) rfl b 0 rfl cs _ HRG.out Try.underlying50 rfl HSZ.out ?_) | (refine wpList_store_mid rfl 50 (.tmp 3) (.tmp 9) rfl w.heap.size 0 cs.toArray rfl rfl HTH.out HSZ2.out HONE.out ?_))
  generalize hw1 : (w.alloc zobj).setCells w.heap.size 0 cs.toArray.toList = w1 at HO1 ⊢
  clear hw1 c0 HTH
  go_loopw [4, 10] (fun _ i wr => QCloneRel B w0 w.heap.size n F ls st i wr) (fun _ i _ => 16 - (intOf i).toNat)
  case atStart => exact ⟨0, vs, fun _ => [], Nat.zero_le _, rfl, fun j hj => by omega, HO1.out⟩
  case round =>
    obtain ⟨k, vs', Ls', hk, rfl, hsl, hO⟩ := hrel
    by_cases hlt : k < 16
    · have hki : (k : Int) < 16 := by omega
      have hbq : wr.heap[b]? = some (qobj n vs st) := hO.get (b, qobj n vs st) (List.mem_append_right _ (HLL.out _ List.mem_cons_self))
      have hck : wr.cell? ⟨b, 1 + k, none⟩ = some (.slice (fa k) (ls k).length (fc k)) := (q_cell hbq hlt).trans (congrArg some (HF.out k hlt))
      have hs := HQ.out.sl k hlt
      rw [HF.out k hlt] at hs
      have hlen := HQ.out.len k hlt
      have HS := Lib.hid hs
      have HSL := Lib.hid hsl
      clear hbq hs hsl
      go_wp2_with fail
      refine (clone52 B w0 (qown w.heap.size n vs' Ls' st ++ F) (ls k) _ (Ls k) _ HS.out (fun p hp => List.mem_append_right _ (HLL.out p (List.mem_cons_of_mem _ (mem_fam hlt hp)))) hO (by omega)).mono ?_
      rintro e w2 ⟨v2, L2, rfl, hS2, hO2⟩
      obtain ⟨a2, cp2, rfl, _, _⟩ := hS2.form
      have hbn := q_get hO2
      have k1 : w2.cell? ⟨w.heap.size, 1 + k, none⟩ = some (vs' k) := q_cell hbn hlt
      have k2 := free_of_get hbn (1 + k)
      have hO3 := q_put hO2 (k := k) hlt (.slice a2 (ls k).length cp2)
      have HO3 := Lib.hid hO3
      have HS2 := Lib.hid hS2
      clear hbn hO hO2 hO3 hS2
      go_wp2
      exact ⟨⟨k + 1, _, _, by omega, by go_num, fun j hj => by
        by_cases e : j = k
        · subst e; rw [upd_same, upd_same]; exact HS2.out
        · rw [upd_other e, upd_other e]; exact HSL.out j (by omega), HO3.out⟩, by simp [intOf]; omega⟩
    · obtain rfl : k = 16 := by omega
      have HSL := Lib.hid hsl
      clear hsl
      go_wp2
      go_ret
      exact ⟨_, _, rfl, ⟨vs', Ls', ⟨hpos, htop, HSL.out, HQ.out.len⟩, rfl⟩, hO⟩

end Go.Proofs.Ytojcojoleodjmaa
