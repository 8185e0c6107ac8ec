/-
  spec: contracts of looks, may. Condition: few calls.
-/
import Derived.Test.YtojcojoleodjmaaSpF
import Derived.Test.YtojcojoleodjmaaSpB
import Derived.Laws.MakeOwn
import Derived.WalkMore
namespace Go.Proofs.Ytojcojoleodjmaa
open Go.RowKit Go.Shelf Go.Sh
attribute [local go_sem ↓] Go.wp_at_zero Go.wp_at_succ

theorem Try.info4 : (Try.prog.info? 4).map (fun i => (i.zero, i.size, i.bytes)) = some (some (.bool false), 1, 1) := by kernel_rfl

theorem made_arrJ (N : Nat) : madeCells (Value.bool false).cells (N * 1) = arrJ N [] := by
  apply Array.ext_getElem?
  intro j
  by_cases h : j < N <;> simp [madeCells, arrJ, h, Value.cells, Nat.mod_one]

theorem openN_cases6 (c : C6) : openN c = 0 ∨ openN c = 1 := by unfold openN; split <;> simp
def opens (xs : List C6) : Int := (xs.map openN).sum
theorem opens_take {xs : List C6} {k : Nat} {x : C6} (h : xs[k]? = some x) : opens (xs.take (k + 1)) = opens (xs.take k) + openN x := by
  obtain ⟨hk, he⟩ := List.getElem?_eq_some_iff.1 h
  unfold opens
  rw [List.take_succ_eq_append_getElem hk, List.map_append, List.sum_append, he]
  simp
theorem opens_bound (xs : List C6) : 0 ≤ opens xs ∧ opens xs ≤ xs.length := by
  unfold opens
  induction xs with
  | nil => simp
  | cons x r ih =>
    have := openN_cases6 x
    simp only [List.map_cons, List.sum_cons, List.length_cons]
    omega

def LooksPost (B : Nat) (w0 : World) (F : List (Nat × Obj)) (lv : Value) (N : Nat) (op : Int) (e : Ending) (w' : World) : Prop :=
  ∃ S J, e = .returned (.pointer (some ⟨S, 0, none⟩)) ∧ Sx B w0 F lv N [] op S J w'

set_option maxRecDepth 100000 in
set_option maxHeartbeats 2000000 in
theorem looks60 (B : Nat) (w0 : World) (F : List (Nat × Obj)) (xs : List C6) (lv : Value) (N : Nat) (w : World) (hR : RdA B w0 F lv xs) (hO : Own B w0 w F) (hN : N = xs.length) (hN1 : N ≤ 1000) (hcap : ∀ ao n c, lv = .slice ao n c → n ≤ c) :
    Calls Try.prog 60 #[lv] w (LooksPost B w0 F lv N (opens xs)) := by
  obtain ⟨i0, hi, hz0, hz1, hz2⟩ := info_parts Try.info4
  have hmk := run_makeSlice (P := Try.prog) (w := w) 40 4 i0 _ Try.underlying40 hi hz0 .i64 .i64 N N (by omega) (by omega) (by rw [hz1]; omega) (by rw [hz2]; omega) (by omega)
  rw [hz1, Int.toNat_natCast, made_arrJ] at hmk
  obtain ⟨ao, cap, hlv, _⟩ := rd_cc (hR w hO)
  rw [← hN] at hlv
  subst hlv
  have hcp := hcap _ _ _ rfl
  have HNX := Lib.hid hN.symm
  have HR := Lib.hid hR
  have HO := Lib.hid (own_swap ((own_swap ((hO.allocAt (obJ N []) (n := w.heap.size) rfl).allocAt (obS (.slice ao N cap) w.heap.size N (.slice none 0 0) 0) (n := w.heap.size + 1) (by simp)))))
  clear hO hR hN hcap hi hz0 hz1 hz2
  go_enter Try.func60, Try.ntmps60
  go_wp2
  clear hmk
  go_loopw [5, 14] (fun _ i wr => ∃ k : Nat, k ≤ N ∧ i = .int .i64 k ∧ Hid (Own B w0 wr ((w.heap.size + 1, obS (.slice ao N cap) w.heap.size N (.slice none 0 0) (opens (xs.take k))) :: (w.heap.size, obJ N []) :: F))) (fun _ i _ => N - (intOf i).toNat)
  case atStart => exact ⟨0, Nat.zero_le _, rfl, HO⟩
  case round =>
    obtain ⟨k, hk, rfl, HX⟩ := hrel
    by_cases hlt : k < N
    · obtain ⟨x, hx⟩ : ∃ x, xs[k]? = some x := ⟨xs[k]'(by rw [HNX.out]; exact hlt), List.getElem?_eq_getElem _⟩
      obtain ⟨gl, ol, cl, he, hAt⟩ := rda_at HR.out HX.out.tail.tail HNX.out.symm hx
      simp only [Value.slice.injEq, true_and] at he
      obtain ⟨rfl, rfl⟩ := he
      obtain ⟨hgl, e0, e1, e2, e3, e4, e5⟩ := hAt _ HX.out.tail.tail
      have hgl2 : gl < wr.heap.size := hgl
      have hot := Lib.hid (opens_take hx)
      obtain ⟨op, hop⟩ : ∃ z, opens (xs.take k) = z := ⟨_, rfl⟩
      have hob := opens_bound (xs.take k)
      rw [hop] at HX hob hot
      have hkl : (xs.take k).length ≤ 1000 := by simp; omega
      have hob2 : (0 : Int) ≤ op ∧ op ≤ 1000 := by omega
      obtain ⟨s0, s1, s2, s3⟩ := s4 HX.out.head
      have sl := lt_of_get HX.out.head
      have sf := free_of_get HX.out.head
      have ik : (k : Int) < N := by omega
      have ik0 : (0 : Int) ≤ k := by omega
      clear hAt hx hop hob hkl
      by_cases ht : x.til = 0
      · have hb : (x.til != 0) = false := by simp [ht]
        have HT := Lib.hid (show openN x = 0 by simp [openN, ht])
        clear ht
        go_wp2
        exact ⟨⟨k + 1, by omega, by go_num, Lib.hid (by rw [hot.out, HT.out, Int.add_zero]; exact HX.out.junk _)⟩, by simp [intOf]; omega⟩
      · have hb : (x.til != 0) = true := by simp [ht]
        have HT := Lib.hid (show openN x = 1 by simp [openN, ht])
        clear ht
        go_wp2
        exact ⟨⟨k + 1, by omega, by go_num, Lib.hid (by rw [hot.out, HT.out]; exact (HX.out.setTo 3 (.int .i64 (op + 1)) rfl).junk _)⟩, by simp [intOf]; omega⟩
    · obtain rfl : k = N := by omega
      have hfin := Lib.hid (show opens (xs.take k) = opens xs by rw [List.take_of_length_le (by rw [HNX.out]; omega)])
      go_wp2
      go_ret
      exact ⟨_, _, rfl, _, [], Sl.nil, by rw [← hfin.out]; exact HX.out⟩

def mayR (kind : Int) (xs : List C6) : Int := if knownB kind = true then (if checkR xs = 0 then (if 8 < xs.length then 3 else 0) else checkR xs) else 1

theorem may57 (B : Nat) (w0 : World) (F : List (Nat × Obj)) (kind : Int) (xs : List C6) (v : Value) (w : World) (hR : Rd w CC v xs) (hO : Own B w0 w F) (hx : xs.length ≤ 9223372036854775807) (hcap : ∀ ao n c, v = .slice ao n c → n ≤ c) :
    Calls Try.prog 57 #[.int .i64 kind, v] w (IntJ B w0 w F (mayR kind xs)) := by
  have HC := Lib.hid (check38 B w0 F xs v w hR hO hx hcap)
  obtain ⟨ao, cap, rfl, _⟩ := rd_cc hR
  have HK := Lib.hid (known67 kind w)
  have HO := Lib.hid hO
  obtain ⟨c, hc⟩ : ∃ c, checkR xs = c := ⟨_, rfl⟩
  obtain ⟨n, hn⟩ : ∃ n, xs.length = n := ⟨_, rfl⟩
  rw [hc, hn] at HC
  have HM := Lib.hid (show mayR kind xs = if knownB kind = true then (if c = 0 then (if 8 < n then 3 else 0) else c) else 1 by unfold mayR; rw [hc, hn])
  rw [hn] at hx ⊢
  clear hR hO hc hn hcap
  cases hk : knownB kind with
  | false =>
    rw [hk] at HK HM
    clear hk
    go_enter Try.func57, Try.ntmps57
    go_wp2_with (go_at_call 67; refine HK.out.mono ?_; rintro e w' ⟨rfl, rfl⟩)
    go_ret
    exact ⟨by rw [HM.out]; rfl, HO.out, Below.refl _ _⟩
  | true =>
    rw [hk] at HK HM
    clear hk
    by_cases h0 : c = 0
    · subst h0
      by_cases h8 : 8 < n
      · have HM2 := Lib.hid (show mayR kind xs = 3 by rw [HM.out]; simp [h8])
        have h8' : (8 : Int) < n := by omega
        clear HM h8
        go_enter Try.func57, Try.ntmps57
        go_wp2_with (first | (go_at_call 67; refine HK.out.mono ?_; rintro e w' ⟨rfl, rfl⟩) | (go_at_call 38; refine HC.out.mono ?_; rintro e w' ⟨rfl, hO2, hB2⟩))
        go_ret
        exact ⟨by rw [HM2.out]; rfl, hO2, hB2⟩
      · have HM2 := Lib.hid (show mayR kind xs = 0 by rw [HM.out]; simp [h8])
        have h8' : ¬ (8 : Int) < n := by omega
        clear HM h8
        go_enter Try.func57, Try.ntmps57
        go_wp2_with (first | (go_at_call 67; refine HK.out.mono ?_; rintro e w' ⟨rfl, rfl⟩) | (go_at_call 38; refine HC.out.mono ?_; rintro e w' ⟨rfl, hO2, hB2⟩))
        go_ret
        exact ⟨by rw [HM2.out]; rfl, hO2, hB2⟩
    · have hb : (c != 0) = true := by simp [h0]
      have HM2 := Lib.hid (show mayR kind xs = c by rw [HM.out]; simp [h0])
      clear HM h0
      go_enter Try.func57, Try.ntmps57
      go_wp2_with (first | (go_at_call 67; refine HK.out.mono ?_; rintro e w' ⟨rfl, rfl⟩) | (go_at_call 38; refine HC.out.mono ?_; rintro e w' ⟨rfl, hO2, hB2⟩))
      go_ret
      exact ⟨by rw [HM2.out]; rfl, hO2, hB2⟩

end Go.Proofs.Ytojcojoleodjmaa
