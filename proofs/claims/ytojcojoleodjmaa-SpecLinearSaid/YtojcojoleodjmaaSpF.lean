/-
  spec: the search in memory; contracts of push, pop. Condition: the call is there.
-/
import Derived.Test.YtojcojoleodjmaaSpE
import Derived.Test.YtojcojoleodjmaaSpD
namespace Go.Proofs.Ytojcojoleodjmaa
open Go.RowKit Go.Shelf Go.Sh
attribute [local go_sem ↓] Go.wp_at_zero Go.wp_at_succ

def arrJ (N : Nat) (o : List Int) : Array Value := ((List.range N).map fun (i : Nat) => Value.bool (o.contains (i : Int))).toArray
abbrev obJ (N : Nat) (o : List Int) : Obj := Obj.cells (arrJ N o) 4 (0, 0)
abbrev obS (lv : Value) (J N : Nat) (vo : Value) (op : Int) : Obj := Obj.cells #[lv, .slice (some ⟨J, 0, none⟩) N N, vo, .int .i64 op] 108 (0, 0)

theorem arrJ_get {N : Nat} (o : List Int) {n : Nat} (h : n < N) : (arrJ N o)[n]? = some (.bool (o.contains (n : Int))) := by
  unfold arrJ; simp [h]
theorem arrJ_push {N : Nat} (o : List Int) {n : Nat} (h : n < N) : (arrJ N o).setIfInBounds n (.bool true) = arrJ N (o ++ [(n : Int)]) := by
  apply Array.ext_getElem?
  intro i
  rw [Array.getElem?_setIfInBounds]
  by_cases hi : i < N
  · rw [arrJ_get _ hi, arrJ_get _ hi]
    have hs : (arrJ N o).size = N := by simp [arrJ]
    by_cases e : n = i
    · subst e; simp [hs, h]
    · have : ¬ (i : Int) = n := fun hh => e (by omega)
      simp [e, this]
  · have hs : ∀ o, (arrJ N o).size = N := fun o => by simp [arrJ]
    rw [if_neg (by omega), Array.getElem?_eq_none (by rw [hs]; omega), Array.getElem?_eq_none (by rw [hs]; omega)]
theorem arrJ_pop {N : Nat} (o : List Int) {n : Nat} (h : n < N) (hn : (n : Int) ∉ o) : (arrJ N (o ++ [(n : Int)])).setIfInBounds n (.bool false) = arrJ N o := by
  apply Array.ext_getElem?
  intro i
  rw [Array.getElem?_setIfInBounds]
  by_cases hi : i < N
  · rw [arrJ_get _ hi, arrJ_get _ hi]
    have hs : (arrJ N (o ++ [(n : Int)])).size = N := by simp [arrJ]
    by_cases e : n = i
    · subst e; simp [hs, h, hn]
    · have : ¬ (i : Int) = n := fun hh => e (by omega)
      simp [e, this]
  · have hs : ∀ o, (arrJ N o).size = N := fun o => by simp [arrJ]
    rw [if_neg (by omega), Array.getElem?_eq_none (by rw [hs]; omega), Array.getElem?_eq_none (by rw [hs]; omega)]

/-- Calls that stand in what the frame holds, or below all that is new. -/
def RdA (B : Nat) (w0 : World) (F : List (Nat × Obj)) (lv : Value) (xs : List C6) : Prop := ∀ w', Own B w0 w' F → Rd w' CC lv xs
/-- A search over calls, with an order and the number of open calls. -/
def Sx (B : Nat) (w0 : World) (F : List (Nat × Obj)) (lv : Value) (N : Nat) (o : List Int) (op : Int) (S J : Nat) (w : World) : Prop :=
  ∃ vo Lo, Sl 3 1 I vo o Lo ∧ Own B w0 w ((S, obS lv J N vo op) :: (J, obJ N o) :: (Lo ++ F))
def SxPost (B : Nat) (w0 : World) (F : List (Nat × Obj)) (lv : Value) (N : Nat) (o : List Int) (op : Int) (S J : Nat) (e : Ending) (w' : World) : Prop :=
  e = .returned (.tuple #[]) ∧ Sx B w0 F lv N o op S J w'

theorem own_swap {B : Nat} {w0 w : World} {p q : Nat × Obj} {L : List (Nat × Obj)} (h : Own B w0 w (p :: q :: L)) : Own B w0 w (q :: p :: L) := h.perm (List.Perm.swap _ _ _)
theorem s4 {w : World} {S J N : Nat} {lv vo : Value} {op : Int} (h : w.heap[S]? = some (obS lv J N vo op)) : w.cell? ⟨S, 0, none⟩ = some lv ∧ w.cell? ⟨S, 1, none⟩ = some (.slice (some ⟨J, 0, none⟩) N N) ∧ w.cell? ⟨S, 2, none⟩ = some vo ∧ w.cell? ⟨S, 3, none⟩ = some (.int .i64 op) :=
  ⟨cell_of_get h 0, cell_of_get h 1, cell_of_get h 2, cell_of_get h 3⟩
theorem sx_shuf {B : Nat} {w0 w : World} {p q r : Nat × Obj} {L F : List (Nat × Obj)} (h : Own B w0 w (p :: q :: r :: (L ++ F))) : Own B w0 w (L ++ (p :: q :: r :: F)) :=
  h.shuf [[p, q, r], L, F] [1, 0, 2] rfl rfl
theorem sx_back {B : Nat} {w0 w : World} {p q r : Nat × Obj} {L F : List (Nat × Obj)} (h : Own B w0 w (L ++ (p :: q :: r :: F))) : Own B w0 w (q :: r :: (L ++ F)) :=
  (h.shuf [L, [p], [q, r], F] [1, 2, 0, 3] rfl rfl).tail

theorem rda_at {B : Nat} {w0 w : World} {F : List (Nat × Obj)} {lv : Value} {xs : List C6} {N n : Nat} {x : C6} (hR : RdA B w0 F lv xs) (hO : Own B w0 w F) (hN : N = xs.length) (hnx : xs[n]? = some x) :
    ∃ g off cap, lv = .slice (some ⟨g, off, none⟩) N cap ∧ ∀ w', Own B w0 w' F → g < w'.heap.size ∧ At6 w' g (off + n * 6) x := by
  subst hN
  obtain ⟨hn, hxe⟩ := List.getElem?_eq_some_iff.1 hnx
  obtain ⟨ao, cap, rfl, hr⟩ := rd_cc (hR w hO)
  obtain ⟨g, off, rfl, _, _⟩ := hr n hn
  refine ⟨g, off, cap, rfl, fun w' hw' => ?_⟩
  obtain ⟨ao', cap', he, hr'⟩ := rd_cc (hR w' hw')
  simp only [Value.slice.injEq, true_and] at he
  obtain ⟨rfl, rfl⟩ := he
  obtain ⟨g', off', he, h1, h2⟩ := hr' n hn
  simp only [Option.some.injEq, Addr.mk.injEq, and_true] at he
  obtain ⟨rfl, rfl⟩ := he
  rw [hxe] at h2
  exact ⟨h1, h2⟩

def openN (c : C6) : Int := if c.til = 0 then 0 else 1

set_option maxRecDepth 100000 in
set_option maxHeartbeats 2000000 in
theorem push70 (B : Nat) (w0 : World) (F : List (Nat × Obj)) (xs : List C6) (lv : Value) (N : Nat) (o : List Int) (op : Int) (S J n : Nat) (x : C6) (w : World) (hR : RdA B w0 F lv xs) (hX : Sx B w0 F lv N o op S J w) (hN : N = xs.length) (hnx : xs[n]? = some x) (hop : -1000 ≤ op ∧ op ≤ 100000) (hol : o.length ≤ 100000) :
    Calls Try.prog 70 #[.pointer (some ⟨S, 0, none⟩), .int .i64 n] w (SxPost B w0 F lv N (o ++ [(n : Int)]) (op - openN x) S J) := by
  obtain ⟨i0, hi, hz0, hz1, hz2⟩ := info_parts Try.info3
  obtain ⟨vo, Lo, hS, hO⟩ := hX
  obtain ⟨m, hm⟩ : ∃ m, o.length = m := ⟨_, rfl⟩
  obtain ⟨ao, cap, rfl, hcap, hcm⟩ := hS.form
  rw [hm] at hS hcap hO hol
  obtain ⟨gl, ol, cl, rfl, hAt⟩ := rda_at hR hO.tail.tail.right hN hnx
  have HAT := Lib.hid hAt
  obtain ⟨s0, s1, s2, s3⟩ := s4 hO.head
  have sf := free_of_get hO.head
  have sl := lt_of_get hO.head
  have hn2 : n < N := by have := (List.getElem?_eq_some_iff.1 hnx).1; omega
  have j0 : w.cell? ⟨J, n, none⟩ = some (.bool (o.contains (n : Int))) := (cell_of_get hO.tail.head n).trans (arrJ_get o hn2)
  have jf := free_of_get hO.tail.head
  have jl := lt_of_get hO.tail.head
  have jj : J ≠ S := fun h => hO.notMem (by rw [h]; simp)
  have hO1 := own_swap ((own_swap hO).setTo n (.bool true) (arrJ_push o hn2))
  have HO1 := Lib.hid hO1
  have i1 : (0 : Int) ≤ n := by omega
  have i2 : (n : Int) < N := by omega
  have HS := Lib.hid hS
  have HM := Lib.hid hm
  have HNN := Lib.hid hN
  clear hS hO hO1 hm hR hnx hN
  by_cases ht : x.til = 0
  · have hb : (x.til != 0) = false := by simp [ht]
    have HT := Lib.hid (show op - openN x = op by simp [openN, ht])
    clear ht hAt
    go_enter Try.func70, Try.ntmps70
    go_upto_region 1 with fail
    generalize w.setCell ⟨J, n, none⟩ (.bool true) = W at HO1 ⊢
    clear s0 s1 s2 s3 sf sl j0 jf jl
    obtain ⟨s0, s1, s2, s3⟩ := s4 HO1.out.head
    have sf := free_of_get HO1.out.head
    have sl := lt_of_get HO1.out.head
    have HA := Lib.hid (sx_shuf (HO1.out.allocAt (Obj.cells #[.int .i64 n] 3 (0, 0)) (n := W.heap.size) rfl))
    have hnb := news_blk6 (C := #[.int .i64 n]) (t := 3) (fr := (0, 0)) (HO1.out.allocAt (Obj.cells #[.int .i64 n] 3 (0, 0)) (n := W.heap.size) rfl).head
    have HNB := Lib.hid hnb
    clear hnb
    go_wp2_with (at_builtin; refine wpList_append_sl rfl (.tmp 14) (.tmp 16) 28 rfl _ _ _ Try.underlying28 hi hz0 hz1 hz2 rfl I_len I_one rfl HS.out (by exact HA.out) ⟨W.heap.size, 0, none⟩ [(n : Int)] 1 1 rfl rfl (by exact HNB.out) (by decide) (by rw [HM.out]; unfold maxLen; omega) (by rw [HM.out]; omega) ?_; intro g off cap' w1 L1 hS1 hO1 _ _; rw [HM.out] at hS1 ⊢; have hO2 := sx_back hO1; clear hO1 s0 s1 s2 s3 sf sl; obtain ⟨s0, s1, s2, s3⟩ := s4 hO2.head; have sf := free_of_get hO2.head; have sl := lt_of_get hO2.head; have hO3 := hO2.setTo 2 (.slice (some ⟨g, off, none⟩) (m + 1) cap') rfl; obtain ⟨gl3, e0, e1, e2, e3, e4, e5⟩ := HAT.out _ hO3.tail.tail.right; have sl3 := lt_of_get hO3.head; obtain ⟨u0, u1, u2, u3⟩ := s4 hO3.head; have uf := free_of_get hO3.head; have HO3 := Lib.hid hO3; have HO2 := Lib.hid hO2; have HS1 := Lib.hid hS1; clear hO3 hO2 hS1)
    refine bodyPost_ret (v := .tuple #[]) (by simp [results, Try.results70, go_sem]) rfl ?_
    exact ⟨rfl, by rw [HT.out]; exact ⟨_, L1, HS1.out, HO3.out⟩⟩
  · have hb : (x.til != 0) = true := by simp [ht]
    have HT := Lib.hid (show op - openN x = op - 1 by simp [openN, ht])
    clear ht hAt
    go_enter Try.func70, Try.ntmps70
    go_upto_region 1 with fail
    generalize w.setCell ⟨J, n, none⟩ (.bool true) = W at HO1 ⊢
    clear s0 s1 s2 s3 sf sl j0 jf jl
    obtain ⟨s0, s1, s2, s3⟩ := s4 HO1.out.head
    have sf := free_of_get HO1.out.head
    have sl := lt_of_get HO1.out.head
    have HA := Lib.hid (sx_shuf (HO1.out.allocAt (Obj.cells #[.int .i64 n] 3 (0, 0)) (n := W.heap.size) rfl))
    have hnb := news_blk6 (C := #[.int .i64 n]) (t := 3) (fr := (0, 0)) (HO1.out.allocAt (Obj.cells #[.int .i64 n] 3 (0, 0)) (n := W.heap.size) rfl).head
    have HNB := Lib.hid hnb
    clear hnb
    go_wp2_with (at_builtin; refine wpList_append_sl rfl (.tmp 14) (.tmp 16) 28 rfl _ _ _ Try.underlying28 hi hz0 hz1 hz2 rfl I_len I_one rfl HS.out (by exact HA.out) ⟨W.heap.size, 0, none⟩ [(n : Int)] 1 1 rfl rfl (by exact HNB.out) (by decide) (by rw [HM.out]; unfold maxLen; omega) (by rw [HM.out]; omega) ?_; intro g off cap' w1 L1 hS1 hO1 _ _; rw [HM.out] at hS1 ⊢; have hO2 := sx_back hO1; clear hO1 s0 s1 s2 s3 sf sl; obtain ⟨s0, s1, s2, s3⟩ := s4 hO2.head; have sf := free_of_get hO2.head; have sl := lt_of_get hO2.head; have hO3 := hO2.setTo 2 (.slice (some ⟨g, off, none⟩) (m + 1) cap') rfl; obtain ⟨gl3, e0, e1, e2, e3, e4, e5⟩ := HAT.out _ hO3.tail.tail.right; have sl3 := lt_of_get hO3.head; obtain ⟨u0, u1, u2, u3⟩ := s4 hO3.head; have uf := free_of_get hO3.head; have HO3 := Lib.hid hO3; have HO2 := Lib.hid hO2; have HS1 := Lib.hid hS1; clear hO3 hO2 hS1)
    refine bodyPost_ret (v := .tuple #[]) (by simp [results, Try.results70, go_sem]) rfl ?_
    exact ⟨rfl, by rw [HT.out]; exact ⟨_, L1, HS1.out, HO3.out.setTo 3 (.int .i64 (op - 1)) rfl⟩⟩

set_option maxRecDepth 100000 in
set_option maxHeartbeats 2000000 in
theorem pop75 (B : Nat) (w0 : World) (F : List (Nat × Obj)) (xs : List C6) (lv : Value) (N : Nat) (o : List Int) (op : Int) (S J n : Nat) (x : C6) (w : World) (hR : RdA B w0 F lv xs) (hX : Sx B w0 F lv N (o ++ [(n : Int)]) op S J w) (hN : N = xs.length) (hnx : xs[n]? = some x) (hno : (n : Int) ∉ o) (hop : -1000 ≤ op ∧ op ≤ 100000) (hol : o.length ≤ 100000) :
    Calls Try.prog 75 #[.pointer (some ⟨S, 0, none⟩)] w (SxPost B w0 F lv N o (op + openN x) S J) := by
  have hn2 : n < N := by have := (List.getElem?_eq_some_iff.1 hnx).1; omega
  obtain ⟨vo, Lo, hS, hO⟩ := hX
  obtain ⟨gl, ol, cl, rfl, hAt⟩ := rda_at hR hO.tail.tail.right hN hnx
  have HAT := Lib.hid hAt
  obtain ⟨m, hm⟩ : ∃ m, o.length = m := ⟨_, rfl⟩
  obtain ⟨q, hq⟩ : ∃ q, (o ++ [(n : Int)]).length = q := ⟨_, rfl⟩
  have hqm : q = m + 1 := by rw [← hq, ← hm]; simp
  have hrd := sl_rd6 (w := w) hS (fun p hp => hO.get p (by simp [hp]))
  obtain ⟨g, off, cap, rfl⟩ : ∃ g off cap, vo = .slice (some ⟨g, off, none⟩) q cap := by
    rcases hrd with ⟨h, _⟩ | ⟨g, off, cap, he, _⟩
    · simp at h
    · exact ⟨g, off, cap, by rw [he, hq]⟩
  have hform : q ≤ cap ∧ cap ≤ maxLen := by
    obtain ⟨ao, c', he, h1, h2⟩ := hS.form
    simp only [Value.slice.injEq] at he
    obtain ⟨_, _, rfl⟩ := he
    exact ⟨by omega, h2⟩
  have hcell : w.cell? ⟨g, off + m, none⟩ = some (.int .i64 n) := by
    rcases hrd with ⟨h, _⟩ | ⟨g', off', cap', he, hc⟩
    · simp at h
    · simp only [Value.slice.injEq, Option.some.injEq, Addr.mk.injEq, and_true] at he
      obtain ⟨⟨rfl, rfl⟩, _, _⟩ := he
      exact hc m _ (by rw [flatI]; simp [← hm])
  have hS2 : Sl 3 1 I (.slice (some ⟨g, off, none⟩) m cap) o Lo := by
    have := Sl.take hS I_len m (by omega)
    rwa [List.take_append_of_le_length (by omega), ← hm, List.take_length, hm] at this
  have gl1 := World.block_lt_of_cell? _ _ hcell
  have hw : IntKind.i64.wrap ((q : Int) - 1) = (m : Int) := by rw [IntWalk.i64_in _ (by omega)]; omega
  have m0 : (0 : Int) ≤ m := by omega
  have m1 : (m : Int) < q := by omega
  have m2 : (m : Int) ≤ cap := by omega
  obtain ⟨s0, s1, s2, s3⟩ := s4 hO.head
  have sf := free_of_get hO.head
  have sl := lt_of_get hO.head
  have HO := Lib.hid hO
  have HS := Lib.hid hS2
  have HNO := Lib.hid hno
  have i1 : (0 : Int) ≤ n := by omega
  have i2 : (n : Int) < N := by omega
  by_cases ht : x.til = 0
  · have hb : (x.til != 0) = false := by simp [ht]
    have HT := Lib.hid (show op + openN x = op by simp [openN, ht])
    clear ht hAt hO hS hS2 hno hm hq hqm hrd hform hR hnx hN
    go_enter Try.func75, Try.ntmps75
    go_upto_region 0 with fail
    go_quiet (fail)
    generalize nq = nq1
    go_upto_region 1 with fail
    have HO1 := Lib.hid (HO.out.drewN nq1)
    generalize w.drewN nq1 = W at HO1 ⊢
    clear s0 s1 s2 s3 sf sl gl1 hcell
    obtain ⟨s0, s1, s2, s3⟩ := s4 HO1.out.head
    have sf := free_of_get HO1.out.head
    have sl := lt_of_get HO1.out.head
    go_still_tail 14, (by kernel_rfl)
    change wpList _ _ _ _ _ W.drew
    have HO2 := Lib.hid HO1.out.drew
    generalize W.drew = W2 at HO2 ⊢
    clear s0 s1 s2 s3 sf sl HO HO1
    obtain ⟨s0, s1, s2, s3⟩ := s4 HO2.out.head
    have sf := free_of_get HO2.out.head
    have sl := lt_of_get HO2.out.head
    have j0 : W2.cell? ⟨J, n, none⟩ = some (.bool ((o ++ [(n : Int)]).contains (n : Int))) := (cell_of_get HO2.out.tail.head n).trans (arrJ_get _ hn2)
    have jf := free_of_get HO2.out.tail.head
    have jl := lt_of_get HO2.out.tail.head
    have jj : J ≠ S := fun h => HO2.out.notMem (by rw [h]; simp)
    have hO3 := HO2.out.setTo 2 (.slice (some ⟨g, off, none⟩) m cap) rfl
    have hO4 := own_swap ((own_swap hO3).setTo n (.bool false) (arrJ_pop o hn2 HNO.out))
    obtain ⟨gl3, e0, e1, e2, e3, e4, e5⟩ := HAT.out _ hO4.tail.tail.right
    have sl3 := lt_of_get hO4.head
    obtain ⟨u0, u1, u2, u3⟩ := s4 hO4.head
    have uf := free_of_get hO4.head
    have HO4 := Lib.hid hO4
    clear hO3 hO4
    go_wp2
    refine bodyPost_ret (v := .tuple #[]) (by simp [results, Try.results75, go_sem]) rfl ?_
    exact ⟨rfl, by rw [HT.out]; exact ⟨_, Lo, HS.out, HO4.out⟩⟩
  · have hb : (x.til != 0) = true := by simp [ht]
    have HT := Lib.hid (show op + openN x = op + 1 by simp [openN, ht])
    clear ht hAt hO hS hS2 hno hm hq hqm hrd hform hR hnx hN
    go_enter Try.func75, Try.ntmps75
    go_upto_region 0 with fail
    go_quiet (fail)
    generalize nq = nq1
    go_upto_region 1 with fail
    have HO1 := Lib.hid (HO.out.drewN nq1)
    generalize w.drewN nq1 = W at HO1 ⊢
    clear s0 s1 s2 s3 sf sl gl1 hcell
    obtain ⟨s0, s1, s2, s3⟩ := s4 HO1.out.head
    have sf := free_of_get HO1.out.head
    have sl := lt_of_get HO1.out.head
    go_still_tail 14, (by kernel_rfl)
    change wpList _ _ _ _ _ W.drew
    have HO2 := Lib.hid HO1.out.drew
    generalize W.drew = W2 at HO2 ⊢
    clear s0 s1 s2 s3 sf sl HO HO1
    obtain ⟨s0, s1, s2, s3⟩ := s4 HO2.out.head
    have sf := free_of_get HO2.out.head
    have sl := lt_of_get HO2.out.head
    have j0 : W2.cell? ⟨J, n, none⟩ = some (.bool ((o ++ [(n : Int)]).contains (n : Int))) := (cell_of_get HO2.out.tail.head n).trans (arrJ_get _ hn2)
    have jf := free_of_get HO2.out.tail.head
    have jl := lt_of_get HO2.out.tail.head
    have jj : J ≠ S := fun h => HO2.out.notMem (by rw [h]; simp)
    have hO3 := HO2.out.setTo 2 (.slice (some ⟨g, off, none⟩) m cap) rfl
    have hO4 := own_swap ((own_swap hO3).setTo n (.bool false) (arrJ_pop o hn2 HNO.out))
    obtain ⟨gl3, e0, e1, e2, e3, e4, e5⟩ := HAT.out _ hO4.tail.tail.right
    have sl3 := lt_of_get hO4.head
    obtain ⟨u0, u1, u2, u3⟩ := s4 hO4.head
    have uf := free_of_get hO4.head
    have HO4 := Lib.hid hO4
    clear hO3 hO4
    go_wp2
    refine bodyPost_ret (v := .tuple #[]) (by simp [results, Try.results75, go_sem]) rfl ?_
    exact ⟨rfl, by rw [HT.out]; exact ⟨_, Lo, HS.out, HO4.out.setTo 3 (.int .i64 (op + 1)) rfl⟩⟩

end Go.Proofs.Ytojcojoleodjmaa
