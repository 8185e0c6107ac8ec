/-
  spec: calls in memory; contracts of ended, before, known, Check's closure, slices.IndexFunc and ContainsFunc over calls, Check. No condition.
-/
import Derived.Test.YtojcojoleodjmaaRqIntsB
import Derived.Shelf.RegionOpen
import Derived.Shelf.Abstract
import Derived.Deep.RegionHeld3
import Derived.Deep.DrawnRows
import Derived.Deep.DeepCutAuto
import Derived.Deep.CutBlock
import Derived.Carry
namespace Go.Proofs.Ytojcojoleodjmaa
open Go.RowKit Go.Shelf Go.Sh
attribute [local go_sem ↓] Go.wp_at_zero Go.wp_at_succ

/-- A value: its tag, its number. -/
structure V2 : Type where
  t : Int
  n : Int
  deriving DecidableEq
instance : Inhabited V2 := ⟨⟨0, 0⟩⟩
/-- A call. -/
structure C6 : Type where
  who : Int
  op : Int
  v : V2
  fro : Int
  til : Int
  deriving DecidableEq
instance : Inhabited C6 := ⟨⟨0, 0, ⟨0, 0⟩, 0, 0⟩⟩
abbrev C2 (x : V2) : List Value := [.int .i64 x.t, .int .i64 x.n]
abbrev CC (x : C6) : List Value := [.int .i64 x.who, .int .i64 x.op, .int .i64 x.v.t, .int .i64 x.v.n, .int .i64 x.fro, .int .i64 x.til]
theorem C2_len (x : V2) : (C2 x).length = 2 := rfl
theorem CC_len (x : C6) : (CC x).length = 6 := rfl
theorem C2_one (x : V2) : ∀ u ∈ C2 x, u.oneCell' = true := fun u h => by simp at h; rcases h with rfl | rfl <;> rfl
abbrev agg6 (x : C6) : Value := .agg #[.int .i64 x.who, .int .i64 x.op, .int .i64 x.v.t, .int .i64 x.v.n, .int .i64 x.fro, .int .i64 x.til]
abbrev ob6 (x : C6) : Obj := Obj.cells #[.int .i64 x.who, .int .i64 x.op, .int .i64 x.v.t, .int .i64 x.v.n, .int .i64 x.fro, .int .i64 x.til] 80 (0, 0)

def At6 (w : World) (g o : Nat) (x : C6) : Prop :=
  w.cell? ⟨g, o, none⟩ = some (.int .i64 x.who) ∧ w.cell? ⟨g, o + 1, none⟩ = some (.int .i64 x.op) ∧ w.cell? ⟨g, o + 2, none⟩ = some (.int .i64 x.v.t) ∧
  w.cell? ⟨g, o + 3, none⟩ = some (.int .i64 x.v.n) ∧ w.cell? ⟨g, o + 4, none⟩ = some (.int .i64 x.fro) ∧ w.cell? ⟨g, o + 5, none⟩ = some (.int .i64 x.til)

theorem rd_cc {w : World} {v : Value} {xs : List C6} (h : Rd w CC v xs) : ∃ ao cap, v = .slice ao xs.length cap ∧ ∀ i (hi : i < xs.length), ∃ g off, ao = some ⟨g, off, none⟩ ∧ g < w.heap.size ∧ At6 w g (off + i * 6) xs[i] := by
  rcases h with ⟨rfl, ao, cap, rfl⟩ | ⟨g, off, cap, rfl, hc⟩
  · exact ⟨ao, cap, rfl, fun i hi => by simp at hi⟩
  · refine ⟨_, cap, rfl, fun i hi => ?_⟩
    have hh : ∀ j (hj : j < 6), w.cell? ⟨g, off + i * 6 + j, none⟩ = (CC xs[i])[j]? := fun j hj => by
      have h0 := flatMap_get CC_len xs i j hj
      rw [List.getElem?_eq_getElem hi] at h0
      have h1 : ((CC xs[i])[j]?).isSome := by simp; omega
      obtain ⟨u, hu⟩ := Option.isSome_iff_exists.1 h1
      have := hc (i * 6 + j) u (by rw [h0]; exact hu)
      rw [← Nat.add_assoc] at this
      rw [this, hu]
    have h0 := hh 0 (by omega)
    exact ⟨g, off, rfl, World.block_lt_of_cell? _ _ h0, h0, hh 1 (by omega), hh 2 (by omega), hh 3 (by omega), hh 4 (by omega), hh 5 (by omega)⟩

theorem cells6 {w : World} {b : Nat} {x : C6} (h : w.heap[b]? = some (ob6 x)) : At6 w b 0 x :=
  ⟨cell_of_get h 0, cell_of_get h 1, cell_of_get h 2, cell_of_get h 3, cell_of_get h 4, cell_of_get h 5⟩

def endedB (a b : C6) : Bool := a.til != 0 && decide (a.til ≤ b.fro)

theorem ended64 (a b : C6) (w : World) : Calls Try.prog 64 #[agg6 a, agg6 b] w fun e w' => e = .returned (.bool (endedB a b)) ∧ w' = (w.alloc (ob6 a)).alloc (ob6 b) := by
  by_cases h : a.til = 0
  · have HR := Lib.hid (show endedB a b = false by simp [endedB, h])
    have h0 : (a.til != 0) = false := by simp [h]
    clear h
    go_enter Try.func64, Try.ntmps64
    go_wp2
    go_ret
    exact ⟨by rw [HR.out]; rfl, rfl⟩
  · have HR := Lib.hid (show endedB a b = decide (a.til ≤ b.fro) by simp [endedB, h])
    have h0 : (a.til != 0) = true := by simp [h]
    clear h
    go_enter Try.func64, Try.ntmps64
    go_wp2
    go_ret
    exact ⟨by rw [HR.out]; rfl, rfl⟩

theorem before66 (a b : C6) (w : World) : Calls Try.prog 66 #[agg6 a, agg6 b] w fun e w' => e = .returned (.bool (endedB a b)) ∧ w' = (w.alloc (ob6 a)).alloc (ob6 b) := by
  by_cases h : a.til = 0
  · have HR := Lib.hid (show endedB a b = false by simp [endedB, h])
    have h0 : (a.til != 0) = false := by simp [h]
    clear h
    go_enter Try.func66, Try.ntmps66
    go_wp2
    go_ret
    exact ⟨by rw [HR.out]; rfl, rfl⟩
  · have HR := Lib.hid (show endedB a b = decide (a.til ≤ b.fro) by simp [endedB, h])
    have h0 : (a.til != 0) = true := by simp [h]
    clear h
    go_enter Try.func66, Try.ntmps66
    go_wp2
    go_ret
    exact ⟨by rw [HR.out]; rfl, rfl⟩

/-- A bool, new blocks of which nothing is kept. -/
def BoolJ (B : Nat) (w0 w : World) (F : List (Nat × Obj)) (b : Bool) (e : Ending) (w' : World) : Prop := e = .returned (.bool b) ∧ Own B w0 w' F ∧ Below w.heap.size w w'

theorem ended_v (B : Nat) (w0 : World) (F : List (Nat × Obj)) (a b : C6) (w : World) (hO : Own B w0 w F) : Calls Try.prog 64 #[agg6 a, agg6 b] w (BoolJ B w0 w F (endedB a b)) := by
  refine (ended64 a b w).mono ?_
  rintro e w' ⟨he, rfl⟩
  exact ⟨he, (hO.junk _).junk _, ((Below.refl _ w).alloc (Nat.le_refl _) _).alloc (by simp) _⟩
theorem before_v (B : Nat) (w0 : World) (F : List (Nat × Obj)) (a b : C6) (w : World) (hO : Own B w0 w F) : Calls Try.prog 66 #[agg6 a, agg6 b] w (BoolJ B w0 w F (endedB a b)) := by
  refine (before66 a b w).mono ?_
  rintro e w' ⟨he, rfl⟩
  exact ⟨he, (hO.junk _).junk _, ((Below.refl _ w).alloc (Nat.le_refl _) _).alloc (by simp) _⟩

def knownB (k : Int) : Bool := k == 1 || k == 2
theorem known67 (k : Int) (w : World) : Calls Try.prog 67 #[.int .i64 k] w fun e w' => e = .returned (.bool (knownB k)) ∧ w = w' := by
  by_cases h1 : k = 1
  · subst h1
    go_enter Try.func67, Try.ntmps67
    go_wp2
    go_ret
    exact ⟨rfl, rfl⟩
  · have h2 : (k == 1) = false := by simp [h1]
    have HR := Lib.hid (show knownB k = (k == 2) by unfold knownB; rw [h2]; rfl)
    clear h1
    go_enter Try.func67, Try.ntmps67
    go_wp2
    go_ret
    exact ⟨by rw [HR.out]; rfl, rfl⟩

def overB (o c : C6) : Bool := o.who == c.who && (!endedB o c && !endedB c o)

set_option maxHeartbeats 1000000 in
theorem over63 (B : Nat) (w0 : World) (F : List (Nat × Obj)) (o c : C6) (Bc : Nat) (w : World) (hc : At6 w Bc 0 c) (hO : Own B w0 w F) :
    Calls Try.prog 63 #[agg6 o, .pointer (some ⟨Bc, 0, none⟩)] w (BoolJ B w0 w F (overB o c)) := by
  obtain ⟨c0, c1, c2, c3, c4, c5⟩ := hc
  simp only [Nat.zero_add] at c1 c2 c3 c4 c5
  have cl := World.block_lt_of_cell? _ _ c0
  have cl0 : Bc < w.heap.size := cl
  have cl1 : Bc < w.heap.size + 1 := by omega
  have cl2 : Bc < w.heap.size + 1 + 1 := by omega
  have cl3 : Bc < w.heap.size + 1 + 1 + 1 := by omega
  have hO1 := hO.junk (ob6 o)
  have HB := Lib.hid ((Below.refl _ w).alloc (Nat.le_refl _) (ob6 o))
  by_cases hw : o.who = c.who
  · have hwb : (o.who == c.who) = true := by simp [hw]
    cases h1 : endedB o c with
    | true =>
      have HR := Lib.hid (show overB o c = false by simp [overB, h1])
      have H1 := Lib.hid h1
      have HO := Lib.hid ((hO1.junk (ob6 o)).junk (ob6 c))
      have HB2 := Lib.hid ((HB.out.alloc (by simp <;> omega) (ob6 o)).alloc (by simp <;> omega) (ob6 c))
      clear h1 hw hO hO1
      go_enter Try.func63, Try.ntmps63
      go_wp2_with (go_at_call 64; refine (ended64 o c _).mono ?_; rintro e w' ⟨rfl, rfl⟩; rw [H1.out])
      go_ret
      exact ⟨by rw [HR.out]; rfl, HO.out, HB2.out⟩
    | false =>
      have HR := Lib.hid (show overB o c = !endedB c o by simp [overB, h1, hw])
      have H1 := Lib.hid h1
      have HO := Lib.hid ((((hO1.junk (ob6 o)).junk (ob6 c)).junk (ob6 c)).junk (ob6 o))
      have HB2 := Lib.hid ((((HB.out.alloc (by simp <;> omega) (ob6 o)).alloc (by simp <;> omega) (ob6 c)).alloc (by simp <;> omega) (ob6 c)).alloc (by simp <;> omega) (ob6 o))
      clear h1 hw hO hO1
      go_enter Try.func63, Try.ntmps63
      go_wp2_with (first | (go_at_call 64; (with_reducible refine (ended64 o c _).mono ?_); rintro e w' ⟨rfl, rfl⟩; rw [H1.out]) | (go_at_call 64; (with_reducible refine (ended64 c o _).mono ?_); rintro e w' ⟨rfl, rfl⟩))
      go_ret
      exact ⟨by rw [HR.out]; rfl, HO.out, HB2.out⟩
  · have hwb : (o.who == c.who) = false := by simp [hw]
    have HR := Lib.hid (show overB o c = false by simp [overB, hw])
    have HO := Lib.hid hO1
    clear hw hO hO1
    go_enter Try.func63, Try.ntmps63
    go_wp2
    go_ret
    exact ⟨by rw [HR.out]; rfl, HO.out, HB.out⟩

def IfPost (B : Nat) (w0 w : World) (F : List (Nat × Obj)) (b : Bool) (e : Ending) (w' : World) : Prop := ∃ r : Int, e = .returned (.int .i64 r) ∧ decide (0 ≤ r) = b ∧ Own B w0 w' F ∧ Below w.heap.size w w'

set_option maxRecDepth 100000 in
set_option maxHeartbeats 2000000 in
theorem idxf76 (B : Nat) (w0 : World) (F : List (Nat × Obj)) (xs : List C6) (v : Value) (c : C6) (Bc : Nat) (w : World) (hR : Rd w CC v xs) (hO : Own B w0 w F) (hc : At6 w Bc 0 c) (hx : xs.length ≤ 9223372036854775807) :
    Calls Try.prog 76 #[v, .func (.func 63) #[] #[.pointer (some ⟨Bc, 0, none⟩)]] w (IfPost B w0 w F (xs.any fun o => overB o c)) := by
  obtain ⟨ao, cap, rfl, hr⟩ := rd_cc hR
  have eg : ∀ args w, (callFunc 63 args).run Try.prog w = .ok (.enter 63 args) w := enters_of Try.func63 (by kernel_rfl) rfl
  have HC := Lib.hid hr
  have HW := Lib.hid hc
  have HB0 := Lib.hid (Below.refl w.heap.size w)
  clear hR hr hc
  go_enter Try.func76, Try.ntmps76
  go_wp2
  go_loopw [5, 8] (fun _ i wr => ∃ k : Nat, k ≤ xs.length ∧ i = .int .i64 k ∧ Hid ((xs.take k).any (fun o => overB o c) = false) ∧ Own B w0 wr F ∧ Hid (Below w.heap.size w wr)) (fun _ i _ => xs.length - (intOf i).toNat)
  case atStart => exact ⟨0, Nat.zero_le _, rfl, Lib.hid (by simp), hO, HB0⟩
  case round =>
    obtain ⟨k, hk, rfl, HN, hO1, HB⟩ := hrel
    by_cases hlt : k < xs.length
    · obtain ⟨g, off, rfl, hg, e0, e1, e2, e3, e4, e5⟩ := HC.out k hlt
      have c0 := (HB.out.cell (p := ⟨g, off + k * 6, none⟩) hg).trans e0
      have c1 := (HB.out.cell (p := ⟨g, off + k * 6 + 1, none⟩) hg).trans e1
      have c2 := (HB.out.cell (p := ⟨g, off + k * 6 + 2, none⟩) hg).trans e2
      have c3 := (HB.out.cell (p := ⟨g, off + k * 6 + 3, none⟩) hg).trans e3
      have c4 := (HB.out.cell (p := ⟨g, off + k * 6 + 4, none⟩) hg).trans e4
      have c5 := (HB.out.cell (p := ⟨g, off + k * 6 + 5, none⟩) hg).trans e5
      have hbw := World.block_lt_of_cell? _ _ HW.out.1
      have HWr := Lib.hid (show At6 wr Bc 0 c from ⟨(HB.out.cell (p := ⟨Bc, 0, none⟩) hbw).trans HW.out.1, (HB.out.cell (p := ⟨Bc, 0 + 1, none⟩) hbw).trans HW.out.2.1, (HB.out.cell (p := ⟨Bc, 0 + 2, none⟩) hbw).trans HW.out.2.2.1, (HB.out.cell (p := ⟨Bc, 0 + 3, none⟩) hbw).trans HW.out.2.2.2.1, (HB.out.cell (p := ⟨Bc, 0 + 4, none⟩) hbw).trans HW.out.2.2.2.2.1, (HB.out.cell (p := ⟨Bc, 0 + 5, none⟩) hbw).trans HW.out.2.2.2.2.2⟩)
      have hki : (k : Int) < xs.length := by omega
      obtain ⟨x, hxe⟩ : ∃ x, xs[k] = x := ⟨_, rfl⟩
      rw [hxe] at c0 c1 c2 c3 c4 c5
      have HT := Lib.hid (show (xs.take (k + 1)).any (fun o => overB o c) = overB x c by rw [List.take_succ_eq_append_getElem hlt, List.any_append, HN.out, hxe]; simp)
      have HIN := Lib.hid (show x ∈ xs by rw [← hxe]; exact List.getElem_mem hlt)
      clear e0 e1 e2 e3 e4 e5 hO hbw hxe
      cases ho : overB x c with
      | true =>
        have HOV := Lib.hid ho
        have HR := Lib.hid (show xs.any (fun o => overB o c) = true from List.any_eq_true.2 ⟨x, HIN.out, ho⟩)
        have hk0 : (0 : Int) ≤ k := by omega
        clear ho
        go_wp2_with (go_at_fn 63; refine (over63 B w0 F x c Bc _ HWr.out hO1).mono ?_; rintro e w2 ⟨rfl, hO2, hb2⟩; rw [HOV.out])
        go_ret
        exact ⟨k, rfl, by rw [HR.out]; simp, hO2, HB.out.trans (hb2.mono HB.out.size)⟩
      | false =>
        have HOV := Lib.hid ho
        clear ho
        go_wp2_with (go_at_fn 63; refine (over63 B w0 F x c Bc _ HWr.out hO1).mono ?_; rintro e w2 ⟨rfl, hO2, hb2⟩; rw [HOV.out])
        exact ⟨⟨k + 1, by omega, by go_num, Lib.hid (by rw [HT.out]; exact HOV.out), hO2, Lib.hid (HB.out.trans (hb2.mono HB.out.size))⟩, by simp [intOf]; omega⟩
    · obtain rfl : k = xs.length := by omega
      have HR := Lib.hid (show xs.any (fun o => overB o c) = false by have := HN.out; rwa [List.take_length] at this)
      go_wp2
      go_ret
      exact ⟨-1, rfl, by rw [HR.out]; rfl, hO1, HB.out⟩

theorem contf65 (B : Nat) (w0 : World) (F : List (Nat × Obj)) (xs : List C6) (v : Value) (c : C6) (Bc : Nat) (w : World) (hR : Rd w CC v xs) (hO : Own B w0 w F) (hc : At6 w Bc 0 c) (hx : xs.length ≤ 9223372036854775807) :
    Calls Try.prog 65 #[v, .func (.func 63) #[] #[.pointer (some ⟨Bc, 0, none⟩)]] w (BoolJ B w0 w F (xs.any fun o => overB o c)) := by
  have HR := Lib.hid hR
  have HO := Lib.hid hO
  have HC := Lib.hid hc
  obtain ⟨b, hb⟩ : ∃ b, (xs.any fun o => overB o c) = b := ⟨_, rfl⟩
  rw [hb]
  have HBB := Lib.hid hb
  clear hR hO hc hb
  go_enter Try.func65, Try.ntmps65
  go_wp2_with fail
  refine (idxf76 B w0 F xs v c Bc _ HR.out HO.out HC.out hx).mono ?_
  rintro e w2 ⟨r, rfl, hr, hO2, hb2⟩
  rw [HBB.out] at hr
  have HRR := Lib.hid hr
  clear hr
  go_wp2
  go_ret
  exact ⟨by rw [← HRR.out]; rfl, hO2, hb2⟩

end Go.Proofs.Ytojcojoleodjmaa
