/-
  chanq: what lies in memory; contracts of slices.IndexFunc at the waiters with at's closure, of at, of none. Condition: few waiters.
-/
import Derived.Test.YtidnkienkdlmkaaMxAwake
import Derived.Test.YtidnkienkdlmkaaMxMore
import Derived.Test.YtidnkienkdlmkaaDel
import Derived.Shelf.RegionOpen
import Derived.Shelf.Abstract
namespace Go.Proofs.Ytidnkienkdlmkaa
open Go.RowKit Go.Sh

/-- A value of the language. -/
structure V2 : Type where
  t : Int
  n : Int
/-- Who waits, and its value. -/
structure W3 : Type where
  who : Int
  t : Int
  n : Int
instance : Inhabited V2 := ⟨⟨0, 0⟩⟩
instance : Inhabited W3 := ⟨⟨0, 0, 0⟩⟩
abbrev C2 (x : V2) : List Value := [.int .i64 x.t, .int .i64 x.n]
abbrev C3 (x : W3) : List Value := [.int .i64 x.who, .int .i64 x.t, .int .i64 x.n]
theorem C2_len (x : V2) : (C2 x).length = 2 := rfl
theorem C3_len (x : W3) : (C3 x).length = 3 := rfl
theorem C2_one (x : V2) : ∀ u ∈ C2 x, u.oneCell' = true := fun u h => by simp at h; rcases h with rfl | rfl <;> rfl
theorem C3_one (x : W3) : ∀ u ∈ C3 x, u.oneCell' = true := fun u h => by simp at h; rcases h with rfl | rfl | rfl <;> rfl
theorem Try.info30 : (Try.prog.info? 30).map (fun i => (i.zero, i.size, i.bytes)) = some (some (.agg #[.int .i64 0, .int .i64 0]), 2, 16) := by kernel_rfl
theorem Try.info136 : (Try.prog.info? 136).map (fun i => (i.zero, i.size, i.bytes)) = some (some (.agg #[.int .i64 0, .int .i64 0, .int .i64 0]), 3, 24) := by kernel_rfl

theorem rd_c3 {w : World} {v : Value} {xs : List W3} (h : Rd w C3 v xs) : ∃ ao cap, v = .slice ao xs.length cap ∧ ∀ i (hi : i < xs.length), ∃ g off, ao = some ⟨g, off, none⟩ ∧ g < w.heap.size ∧ w.cell? ⟨g, off + i * 3, none⟩ = some (.int .i64 xs[i].who) ∧ w.cell? ⟨g, off + i * 3 + 1, none⟩ = some (.int .i64 xs[i].t) ∧ w.cell? ⟨g, off + i * 3 + 2, none⟩ = some (.int .i64 xs[i].n) := by
  rcases h with ⟨rfl, ao, cap, rfl⟩ | ⟨g, off, cap, rfl, hc⟩
  · exact ⟨ao, cap, rfl, fun i hi => by simp at hi⟩
  · refine ⟨_, cap, rfl, fun i hi => ?_⟩
    have h0 := hc (i * 3 + 0) (.int .i64 xs[i].who) (by rw [flatMap_get C3_len xs i 0 (by omega), List.getElem?_eq_getElem hi]; rfl)
    have h1 := hc (i * 3 + 1) (.int .i64 xs[i].t) (by rw [flatMap_get C3_len xs i 1 (by omega), List.getElem?_eq_getElem hi]; rfl)
    have h2 := hc (i * 3 + 2) (.int .i64 xs[i].n) (by rw [flatMap_get C3_len xs i 2 (by omega), List.getElem?_eq_getElem hi]; rfl)
    rw [← Nat.add_assoc] at h0 h1 h2
    exact ⟨g, off, rfl, World.block_lt_of_cell? _ _ h0, h0, h1, h2⟩

/-- The closure of at. -/
theorem atc113 (x : W3) (who : Int) (Bw : Nat) (w : World) (hw : w.cell? ⟨Bw, 0, none⟩ = some (.int .i64 who)) :
    Calls Try.prog 113 #[.agg #[.int .i64 x.who, .int .i64 x.t, .int .i64 x.n], .pointer (some ⟨Bw, 0, none⟩)] w fun e w' => e = .returned (.bool (x.who == who)) ∧ w' = w.alloc (.cells #[.int .i64 x.who, .int .i64 x.t, .int .i64 x.n] 136) := by
  have hlt := World.block_lt_of_cell? _ _ hw
  go_enter Try.func113, Try.ntmps113
  go_wp2
  go_ret
  exact ⟨rfl, rfl⟩

/-- Where a thread waits. -/
def widx (xs : List W3) (who : Int) : Int := idx (xs.map W3.who) who

def IdxPost (B : Nat) (w0 w : World) (F : List (Nat × Obj)) (r : Int) (e : Ending) (w' : World) : Prop := e = .returned (.int .i64 r) ∧ Own B w0 w' F ∧ Below w.heap.size w w'

set_option maxRecDepth 100000 in
set_option maxHeartbeats 1000000 in
theorem idxf112 (B : Nat) (w0 : World) (F : List (Nat × Obj)) (xs : List W3) (v : Value) (who : Int) (Bw : Nat) (w : World) (hR : Rd w C3 v xs) (hO : Own B w0 w F) (hw : w.cell? ⟨Bw, 0, none⟩ = some (.int .i64 who)) (hx : xs.length ≤ 100000) :
    Calls Try.prog 112 #[v, .func (.func 113) #[] #[.pointer (some ⟨Bw, 0, none⟩)]] w (IdxPost B w0 w F (widx xs who)) := by
  obtain ⟨ao, cap, rfl, hc⟩ := rd_c3 hR
  have eg : ∀ args w, (callFunc 113 args).run Try.prog w = .ok (.enter 113 args) w := enters_of Try.func113 (by kernel_rfl) rfl
  have HC := Lib.hid hc
  have HW := Lib.hid hw
  have hbw := World.block_lt_of_cell? _ _ hw
  have HB0 := Lib.hid (Below.refl w.heap.size w)
  clear hR hc hw
  go_enter Try.func112, Try.ntmps112
  go_wp2
  go_loopw [5, 8] (fun _ i wr => ∃ k : Nat, k ≤ xs.length ∧ i = .int .i64 k ∧ Hid (∀ j, j < k → (xs.map W3.who)[j]?.getD 0 ≠ who) ∧ Own B w0 wr F ∧ Hid (Below w.heap.size w wr)) (fun _ i _ => xs.length - (intOf i).toNat)
  case atStart => exact ⟨0, Nat.zero_le _, rfl, Lib.hid fun _ h => by omega, hO, HB0⟩
  case round =>
    obtain ⟨k, hk, rfl, HN, hO1, HB⟩ := hrel
    by_cases hlt : k < xs.length
    · obtain ⟨g, off, rfl, hg, e0, e1, e2⟩ := HC.out k hlt
      have c0 := (HB.out.cell (p := ⟨g, off + k * 3, none⟩) hg).trans e0
      have c1 := (HB.out.cell (p := ⟨g, off + k * 3 + 1, none⟩) hg).trans e1
      have c2 := (HB.out.cell (p := ⟨g, off + k * 3 + 2, none⟩) hg).trans e2
      have hwc := (HB.out.cell (p := ⟨Bw, 0, none⟩) hbw).trans HW.out
      have hki : (k : Int) < xs.length := by omega
      have hO2 := hO1.junk (.cells #[.int .i64 xs[k].who, .int .i64 xs[k].t, .int .i64 xs[k].n] 136)
      have hb2 := Lib.hid (HB.out.trans ((Below.refl _ wr).alloc HB.out.size (.cells #[.int .i64 xs[k].who, .int .i64 xs[k].t, .int .i64 xs[k].n] 136)))
      clear e0 e1 e2 hO hO1
      by_cases hq : xs[k].who = who
      · have hqb : (xs[k].who == who) = true := by simpa using hq
        have HR := Lib.hid (show widx xs who = k from idx_at (by simpa using hlt) (by simp [hq]) HN.out)
        clear hq
        go_wp2_with (go_at_fn 113; refine (atc113 xs[k] who Bw _ hwc).mono ?_; rintro e w' ⟨rfl, rfl⟩; rw [hqb])
        go_ret
        exact ⟨by rw [HR.out]; rfl, hO2, hb2.out⟩
      · have hqb : (xs[k].who == who) = false := by simpa using hq
        have HQ := Lib.hid hq
        clear hq
        go_wp2_with (go_at_fn 113; refine (atc113 xs[k] who Bw _ hwc).mono ?_; rintro e w' ⟨rfl, rfl⟩; rw [hqb])
        exact ⟨⟨k + 1, by omega, by go_num, Lib.hid fun j hj => by
          rcases Nat.lt_succ_iff_lt_or_eq.1 hj with h' | rfl
          · exact HN.out j h'
          · simpa [hlt] using HQ.out, hO2, hb2⟩, by simp [intOf]; omega⟩
    · obtain rfl : k = xs.length := by omega
      have HR := Lib.hid (show widx xs who = -1 from idx_none (fun j hj => HN.out j (by simpa using hj)))
      go_wp2
      go_ret
      exact ⟨by rw [HR.out]; rfl, hO1, HB.out⟩

theorem at91 (B : Nat) (w0 : World) (F : List (Nat × Obj)) (xs : List W3) (v : Value) (who : Int) (w : World) (hR : Rd w C3 v xs) (hO : Own B w0 w F) (hx : xs.length ≤ 100000) :
    Calls Try.prog 91 #[.agg #[v], .int .i64 who] w (IdxPost B w0 w F (widx xs who)) := by
  obtain ⟨ao, cap, rfl, _⟩ := rd_c3 hR
  have hb2 : Below w.heap.size w ((w.alloc (.cells #[.slice ao xs.length cap] 111)).alloc (.cells #[.int .i64 who] 3)) := ((Below.refl _ w).alloc (Nat.le_refl _) _).alloc (by simp) _
  have hR2 := hR.later hb2
  have hO2 := (hO.junk (.cells #[.slice ao xs.length cap] 111)).junk (.cells #[.int .i64 who] 3)
  have HB := Lib.hid hb2
  have HR := Lib.hid hR2
  have HO := Lib.hid hO2
  clear hR hR2 hb2 hO hO2
  go_enter Try.func91, Try.ntmps91
  go_wp2_with (go_at_call 112; refine (idxf112 B w0 F xs _ who (w.heap.size + 1) _ HR.out HO.out (by simp) hx).mono ?_; rintro e w' ⟨rfl, hO3, hb3⟩)
  go_ret
  exact ⟨rfl, hO3, HB.out.trans (hb3.mono (by simp; omega))⟩

end Go.Proofs.Ytidnkienkdlmkaa
