/-
  shuttlelaw19: contract of same: the queues and the document's are in one state. Conditions: 1 to 16 workers, at most 1,024 threads in a queue, none beyond the workers'.
-/
import Derived.Test.YtojcojoleodjmaaRfA
import Derived.Test.YtojcojoleodjmaaRqTold
import Derived.Test.YtojcojoleodjmaaRqLostP
import Derived.Deep.DrawnRows
import Derived.Deep.RegionHeld3
namespace Go.Proofs.Ytojcojoleodjmaa
open Go.RowKit Go.Sh
attribute [local go_sem ↓] Go.wp_at_zero Go.wp_at_succ

theorem Rd.take {α : Type} {w : World} {enc : α → List Value} {ao : Option Addr} {cap : Nat} {xs : List α} (h : Rd w enc (.slice ao xs.length cap) xs) (i : Nat) (hi : i ≤ xs.length) : Rd w enc (.slice ao i cap) (xs.take i) := by
  rcases h with ⟨rfl, _⟩ | ⟨g, off, cap', hv, hc⟩
  · obtain rfl : i = 0 := by simpa using hi
    exact .inl ⟨by simp, ao, cap, rfl⟩
  · simp only [Value.slice.injEq, true_and] at hv
    obtain ⟨rfl, rfl⟩ := hv
    refine .inr ⟨g, off, cap, by simp; omega, fun j u hu => hc j u ?_⟩
    have e1 : xs.flatMap enc = (xs.take i).flatMap enc ++ (xs.drop i).flatMap enc := by rw [← List.flatMap_append, List.take_append_drop]
    rw [e1, List.getElem?_append_left (List.getElem?_eq_some_iff.1 hu).1]
    exact hu

theorem equal20_same (B : Nat) (w0 : World) (F : List (Nat × Obj)) (xs : List Int) (v1 v2 : Value) (w : World) (h1 : Rd w I v1 xs) (h2 : Rd w I v2 xs) (hO : Sh.Own B w0 w F) (hx : xs.length ≤ 100000) :
    Calls Try.prog 20 #[v1, v2] w (BoolD B w0 F true) := by
  have h := equal20 B w0 F xs xs v1 v2 w h1 h2 hO hx hx
  rw [decide_eq_true (rfl : xs = xs)] at h
  exact h

theorem toldL_ok {n k : Nat} {ls : Nat → List Int} (hk : k < n) (m : Nat) : toldL n ls k m = (ls k).take m := by
  unfold toldL
  rw [mayQ_ok hk, if_neg (by decide), Int.toNat_natCast]
theorem toldL_bad {n : Nat} {ls : Nat → List Int} {worker : Int} (h : worker < 0 ∨ (n : Int) ≤ worker) (m : Nat) : toldL n ls worker m = [] := by
  unfold toldL mayQ
  rw [if_pos h, if_pos rfl]

section
variable {B : Nat} {w0 w : World} {b br n : Nat} {vs : Nat → Value} {Ls : Nat → List (Nat × Obj)} {ls : Nat → List Int} {st : Int} {F : List (Nat × Obj)} {k : Nat}

theorem r_cellsF (hO : Sh.Own B w0 w F) (hL : ∀ p ∈ rown b br n vs Ls st, p ∈ F) : w.cell? ⟨b, 0, none⟩ = some (.slice (some ⟨br, 0, none⟩) n n) ∧ w.cell? ⟨b, 1, none⟩ = some (.int .i64 st) ∧ ∀ k, k < n → w.cell? ⟨br, k, none⟩ = some (vs k) :=
  ⟨cell_of_get (hO.get _ (hL (b, rhead br n st) List.mem_cons_self)) 0, cell_of_get (hO.get _ (hL (b, rhead br n st) List.mem_cons_self)) 1,
    fun k hk => (cell_of_get (hO.get _ (hL (br, robj n vs) (by simp [rown]))) k).trans (rrow_k vs hk)⟩
theorem r_rdF (hQ : Qs vs Ls n ls) (hO : Sh.Own B w0 w F) (hL : ∀ p ∈ rown b br n vs Ls st, p ∈ F) (hk : k < 16) : Rd w I (vs k) (ls k) :=
  Sl_rd (hQ.sl k hk) (fun p hp => hO.get p (hL p (List.mem_cons_of_mem _ (List.mem_cons_of_mem _ (mem_fam hk hp)))))

end

theorem lenQ_top {n : Nat} {ls : Nat → List Int} (hn : n ≤ 16) (h : ∀ j, n ≤ j → ls j = []) : lenQ ls 16 = lenQ ls n := by
  rw [lenQ_cont, lenQ_cont, show 16 = n + (16 - n) by omega, cont_beyond h]

set_option maxRecDepth 100000 in
set_option maxHeartbeats 1000000 in
theorem rlen56c (b br n : Nat) (vs : Nat → Value) (Ls : Nat → List (Nat × Obj)) (ls : Nat → List Int) (w : World) (hQ : Qs vs Ls n ls) (c0 : w.cell? ⟨b, 0, none⟩ = some (.slice (some ⟨br, 0, none⟩) n n)) (hck : ∀ k, k < n → w.cell? ⟨br, k, none⟩ = some (vs k)) :
    Calls Try.prog 56 #[.pointer (some ⟨b, 0, none⟩)] w fun e w' => e = .returned (.int .i64 (lenQ ls n)) ∧ w = w' := by
  have HCK := Lib.hid hck
  have htop := hQ.top
  have hle := Lib.hid (lenQ_le hQ.len)
  have hlen := Lib.hid hQ.len
  have hform := Lib.hid (show ∀ k, k < 16 → ∃ ao cap, vs k = .slice ao (ls k).length cap from fun k hk => by obtain ⟨ao, cap, h, _⟩ := (hQ.sl k hk).form; exact ⟨ao, cap, h⟩)
  clear hQ hck
  go_enter Try.func56, Try.ntmps56
  go_wp2
  go_loop [3, 4] (fun t i => ∃ k : Nat, k ≤ n ∧ i = .int .i64 k ∧ t = .int .i64 (lenQ ls k)) (fun _ i => n - (intOf i).toNat)
  case atStart => exact ⟨0, Nat.zero_le _, rfl, rfl⟩
  case round =>
    obtain ⟨k, hk, rfl, rfl⟩ := hrel
    by_cases hlt : k < n
    · obtain ⟨ao, cap, hv⟩ := hform.out k (by omega)
      have hcell := HCK.out k hlt
      rw [hv] at hcell
      have hl1 := hle.out k (by omega)
      have hl2 := hlen.out k (by omega)
      have hn2 := Lib.hid (show lenQ ls (k + 1) = lenQ ls k + (ls k).length from rfl)
      clear hv
      go_wp2
      go_round
      case rel => exact ⟨k + 1, by omega, by go_num, by rw [hn2.out]; go_num⟩
      case measure => simp [intOf]; omega
    · obtain rfl : k = n := by omega
      go_wp2
      go_ret
      exact ⟨rfl, rfl⟩

def SameRel (B : Nat) (w0 : World) (n : Nat) (F : List (Nat × Obj)) (i : Value) (wr : World) : Prop :=
  ∃ k : Nat, k ≤ n ∧ i = .int .i64 k ∧ Sh.Own B w0 wr F

set_option maxRecDepth 100000 in
set_option maxHeartbeats 8000000 in
theorem same29 (B : Nat) (w0 : World) (b rb rbr n : Nat) (vs rvs : Nat → Value) (Ls rLs : Nat → List (Nat × Obj)) (ls : Nat → List Int) (st : Int) (F : List (Nat × Obj)) (w : World) (hQ : Qs vs Ls n ls) (hR : Qs rvs rLs n ls) (hbe : ∀ j, n ≤ j → ls j = [])
    (hL : ∀ p ∈ qown b n vs Ls st, p ∈ F) (hLr : ∀ p ∈ rown rb rbr n rvs rLs st, p ∈ F) (hO : Sh.Own B w0 w F) :
    Calls Try.prog 29 #[.pointer (some ⟨b, 0, none⟩), .pointer (some ⟨rb, 0, none⟩)] w (BoolD B w0 F true) := by
  obtain ⟨c0, _, _⟩ := r_cellsF hO hLr
  have HQ := Lib.hid hQ
  have HR := Lib.hid hR
  have HL := Lib.hid hL
  have HLr := Lib.hid hLr
  have HBE := Lib.hid hbe
  have hpos := hQ.pos
  have htop := hQ.top
  clear hQ hR hL hLr hbe
  go_enter Try.func29, Try.ntmps29
  go_wp2
  go_loopw [5, 11] (fun _ i wr => SameRel B w0 n F i wr) (fun _ i _ => n - (intOf i).toNat)
  case atStart => exact ⟨0, Nat.zero_le _, rfl, hO⟩
  case round =>
    clear hO c0
    obtain ⟨k, hk, rfl, hO⟩ := hrel
    obtain ⟨c0, c1, cK⟩ := r_cellsF hO HLr.out
    by_cases hlt : k < n
    · have hk16 : k < 16 := by omega
      have hki : (k : Int) < n := by omega
      have hki0 : (0 : Int) ≤ k := by omega
      have hlen := HQ.out.len k hk16
      obtain ⟨ao, cap, hv, hcap, _⟩ := (HR.out.sl k hk16).form
      have ck : wr.cell? ⟨rbr, k, none⟩ = some (.slice ao (ls k).length cap) := by rw [cK k hlt, hv]
      have HV := Lib.hid hv
      obtain ⟨N, hN1, hN2⟩ : ∃ N : Nat, (if ((ls k).length : Int) < 1 then ((ls k).length : Int) else 1) = (N : Int) ∧ (N ≤ (ls k).length ∧ (N = 1 ∨ N = (ls k).length)) := ⟨min 1 (ls k).length, by split <;> omega, by omega, by omega⟩
      have HTK := Lib.hid (show (ls k).take 1 = (ls k).take N by
        rcases hN2.2 with h | h
        · rw [h]
        · rw [h, List.take_of_length_le (show (ls k).length ≤ 1 by have := hN2.1; split at hN1 <;> omega), List.take_of_length_le (Nat.le_refl _)])
      have HLN := Lib.hid (show ((ls k).take N).length = N by simp; omega)
      have hNi0 : (0 : Int) ≤ N := by omega
      have hNi : (N : Int) ≤ (ls k).length := by omega
      have HT1 := Lib.hid (show toldL n ls k 1048576 = ls k by rw [toldL_ok hlt, List.take_of_length_le (by omega)])
      have HT2 := Lib.hid (show toldL n ls k 1 = (ls k).take N by rw [toldL_ok hlt, HTK.out])
      have hNc : N ≤ cap := by omega
      have HN2 := Lib.hid hN2
      have HO := Lib.hid hO
      have e1 := World.new_ne wr _ c0
      have e2 := World.new_ne wr _ ck
      clear hN2 hv cK c1 hO
      go_wp2
      go_region_held3 (fun w' => w'.cell? ⟨rb, 0, none⟩ = some (.slice (some ⟨rbr, 0, none⟩) n n) ∧ w'.cell? ⟨rbr, k, none⟩ = some (.slice ao (ls k).length cap))
        (first
          | go_keep
          | exact ⟨k0, k3⟩
          | exact ⟨k4, k5⟩
          | exact ⟨k6, k7⟩)
        (first
          | (go_at_call 22; refine (all22 (some ⟨b, 0, none⟩) k _).mono ?_; rintro e w2 ⟨rfl, rfl⟩)
          | (go_at_call_of 21 (Value.int .i64 1048576); refine (told_q B w0 F b n vs Ls ls st k wr.heap.size (wr.heap.size + 1) 1048576 _ HQ.out ((HO.out.junk _).junk _).drew HL.out (by simp) (by simp)).mono ?_; rintro e w2 ⟨v, L3, rfl, hS3, hO2⟩; rw [HT1.out] at hS3; obtain ⟨ao3, cap3, rfl, _, _⟩ := hS3.form; obtain ⟨k0, _, k2⟩ := r_cellsF hO2.right HLr.out; have k3 : w2.cell? ⟨rbr, k, none⟩ = some (.slice ao (ls k).length cap) := (k2 k hlt).trans (congrArg some HV.out); clear k2)
          | (go_at_call_of 20 (Value.slice ao3 (ls k).length cap3); refine (equal20_same B w0 _ (ls k) _ _ _ (Sl_rd hS3 (fun p hp => hO2.get p (by simp [hp]))) (by rw [← HV.out]; exact r_rdF HR.out hO2.right HLr.out hk16) hO2 (by omega)).mono ?_; rintro e w3 ⟨rfl, hO3⟩; obtain ⟨k4, _, k2⟩ := r_cellsF hO3.right HLr.out; have k5 : w3.cell? ⟨rbr, k, none⟩ = some (.slice ao (ls k).length cap) := (k2 k hlt).trans (congrArg some HV.out); clear k2)
          | (go_at_call_of 21 (Value.int .i64 1); refine (told_q B w0 F b n vs Ls ls st k w3.heap.size (w3.heap.size + 1) 1 _ HQ.out ((hO3.right.junk _).junk _) HL.out (by simp) (by simp)).mono ?_; rintro e w4 ⟨v, L4, rfl, hS4, hO4⟩; rw [HT2.out] at hS4; obtain ⟨ao4, cap4, rfl, _, _⟩ := hS4.form; rw [HLN.out] at hS4 ⊢; obtain ⟨k6, _, k2⟩ := r_cellsF hO4.right HLr.out; have k7 : w4.cell? ⟨rbr, k, none⟩ = some (.slice ao (ls k).length cap) := (k2 k hlt).trans (congrArg some HV.out); clear k2)
          | (go_at_call_of 20 (Value.slice ao4 N cap4); refine (equal20_same B w0 _ ((ls k).take N) _ _ _ (Sl_rd hS4 (fun p hp => hO4.get p (by simp [hp]))) (Rd.take (by rw [← HV.out]; exact r_rdF HR.out hO4.right HLr.out hk16) N HN2.out.1) hO4 (by simp; omega)).mono ?_; rintro e w5 ⟨rfl, hO5⟩; obtain ⟨k0, _, k2⟩ := r_cellsF hO5.right HLr.out; have k3 : w5.cell? ⟨rbr, k, none⟩ = some (.slice ao (ls k).length cap) := (k2 k hlt).trans (congrArg some HV.out); clear k2))
      all_goals
        have hO6 := hO5.right
        clear hS3 hS4 hO2 hO3 hO4 hO5
        go_wp2
        exact ⟨⟨k + 1, by omega, by go_num, hO6⟩, by simp [intOf]; omega⟩
    · obtain rfl : k = n := by omega
      have HB : Hid (wr.drew.heap[b]? = some (qobj k vs st)) := Lib.hid (hO.drew.get (b, qobj k vs st) (HL.out _ List.mem_cons_self))
      have HLEN := Lib.hid (lenQ_top htop HBE.out)
      have HT1 := Lib.hid (toldL_bad (n := k) (ls := ls) (worker := -1) (.inl (by omega)) 9)
      have HT2 := Lib.hid (toldL_bad (n := k) (ls := ls) (worker := k) (.inr (by omega)) 9)
      have HO := Lib.hid hO
      have HC := Lib.hid cK
      have HOX := Lib.hid ((hO.junk (.cells #[.pointer (some ⟨b, 0, none⟩)] 23)).junk (.cells #[.int .i64 (-1)] 3)).drew
      have HBP := Lib.hid (show (((wr.alloc (.cells #[.pointer (some ⟨b, 0, none⟩)] 23)).alloc (.cells #[.int .i64 (-1)] 3)).drew).cell? ⟨wr.heap.size, 0, none⟩ = some (.pointer (some ⟨b, 0, none⟩)) by simp)
      have HBW := Lib.hid (show (((wr.alloc (.cells #[.pointer (some ⟨b, 0, none⟩)] 23)).alloc (.cells #[.int .i64 (-1)] 3)).drew).cell? ⟨wr.heap.size + 1, 0, none⟩ = some (.int .i64 (-1)) by simp)
      have e1 := World.new_ne wr _ c0
      clear hO cK
      go_wp2
      go_region_held3 (fun w' => w'.cell? ⟨rb, 0, none⟩ = some (.slice (some ⟨rbr, 0, none⟩) k k) ∧ w'.cell? ⟨rb, 1, none⟩ = some (.int .i64 st))
        (first
          | go_keep
          | exact ⟨k0, k3⟩
          | exact ⟨k4, k5⟩)
        (first
          | (go_at_call 18; refine (len_q b k vs Ls ls st _ HQ.out HB.out).mono ?_; rintro e w2 ⟨rfl, rfl⟩; rw [HLEN.out])
          | (go_at_call 56; refine (rlen56c rb rbr k rvs rLs ls wr.drew HR.out c0 HC.out).mono ?_; rintro e w2 ⟨rfl, rfl⟩)
          | (go_at_call 23; refine (stolen_q b k vs st _ HB.out hpos).mono ?_; rintro e w2 ⟨rfl, rfl⟩)
          | (go_at_call 22; refine (all22 (some ⟨b, 0, none⟩) _ _).mono ?_; rintro e w2 ⟨rfl, rfl⟩)
          | (go_at_call 21; refine (told_q B w0 F b k vs Ls ls st k w2.heap.size (w2.heap.size + 1) 9 _ HQ.out ((hO2.right.junk _).junk _) HL.out (by simp) (by simp)).mono ?_; rintro e w4 ⟨v, L4, rfl, hS4, hO4⟩; rw [HT2.out] at hS4; obtain ⟨ao4, cap4, rfl, _, _⟩ := hS4.form; obtain ⟨k4, k5, _⟩ := r_cellsF hO4.right HLr.out; (try rw [List.length_nil]))
          | (go_at_call 21; refine (told_q B w0 F b k vs Ls ls st (-1) wr.heap.size (wr.heap.size + 1) 9 _ HQ.out HOX.out HL.out HBP.out HBW.out).mono ?_; rintro e w2 ⟨v, L3, rfl, hS3, hO2⟩; rw [HT1.out] at hS3; obtain ⟨ao3, cap3, rfl, _, _⟩ := hS3.form; obtain ⟨k0, k3, _⟩ := r_cellsF hO2.right HLr.out; (try rw [List.length_nil])))
      all_goals
        go_wp2
        go_ret
        exact ⟨rfl, hO4.right⟩

end Go.Proofs.Ytojcojoleodjmaa
