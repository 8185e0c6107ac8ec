/-
  chanq.Chan in memory; contracts of none, may, done, shut, waits. Conditions: at most 64 values, 256 waiters.
-/
import Derived.Test.YtidnkienkdlmkaaChQ
import Derived.Test.YtidnkienkdlmkaaMxUnlock
namespace Go.Proofs.Ytidnkienkdlmkaa
open Go.RowKit Go.Sh

/-- A channel's state. -/
structure CS : Type where
  room : Int
  vals : List V2
  snd : List W3
  rcv : List W3
  shut : Bool

abbrev cobj (room : Int) (v1 v2 v3 : Value) (sh : Bool) : Obj := Obj.cells #[.bool true, .int .i64 room, v1, v2, v3, .bool sh] 113 (0, 0)

structure Cs (s : CS) (v1 v2 v3 : Value) (L1 L2 L3 : List (Nat × Obj)) : Prop where
  s1 : Sl 30 2 C2 v1 s.vals L1
  s2 : Sl 136 3 C3 v2 s.snd L2
  s3 : Sl 136 3 C3 v3 s.rcv L3
  l1 : s.vals.length ≤ 64
  l2 : s.snd.length ≤ 256
  l3 : s.rcv.length ≤ 256
  r0 : 0 ≤ s.room
  r1 : s.room ≤ 64

def Cx (b : Nat) (s : CS) (L : List (Nat × Obj)) : Prop := ∃ v1 v2 v3 L1 L2 L3, Cs s v1 v2 v3 L1 L2 L3 ∧ L = (b, cobj s.room v1 v2 v3 s.shut) :: (L1 ++ (L2 ++ L3))

def isW (xs : List W3) (who : Int) : Bool := (xs.map W3.who).contains who

def mayC (s : CS) (who : Int) : Int := if who < 0 then 1 else if 65536 ≤ who then 1 else if isW s.snd who = true then 1 else if isW s.rcv who = true then 1 else 0

theorem widx_cases (xs : List W3) (who : Int) : (widx xs who = -1 ∧ isW xs who = false) ∨ ∃ i : Nat, i < xs.length ∧ widx xs who = i ∧ isW xs who = true := by
  have hge := idx_ge (xs.map W3.who) who
  rcases idx_cases (xs.map W3.who) who with h | ⟨i, hi, h⟩
  · exact .inl ⟨h, by rw [h] at hge; exact hge.symm⟩
  · exact .inr ⟨i, by simpa using hi, h, by rw [h] at hge; rw [isW, ← hge]; simp⟩

theorem cnone (b : Nat) (m : Bool) (w : World) (h : w.cell? ⟨b, 0, none⟩ = some (.bool m)) : Calls Try.prog 88 #[.pointer (some ⟨b, 0, none⟩)] w fun e w' => e = .returned (.bool (!m)) ∧ w = w' := by
  go_enter Try.func88, Try.ntmps88
  go_wp2
  go_ret
  exact ⟨rfl, rfl⟩

section
variable {B : Nat} {w0 w : World} {b : Nat} {s : CS} {v1 v2 v3 : Value} {L1 L2 L3 F : List (Nat × Obj)}

theorem c_get (hO : Own B w0 w F) (hL : ∀ p ∈ (b, cobj s.room v1 v2 v3 s.shut) :: (L1 ++ (L2 ++ L3)), p ∈ F) : w.heap[b]? = some (cobj s.room v1 v2 v3 s.shut) := hO.get (b, cobj s.room v1 v2 v3 s.shut) (hL _ List.mem_cons_self)
theorem c_rd2 (hC : Cs s v1 v2 v3 L1 L2 L3) (hO : Own B w0 w F) (hL : ∀ p ∈ (b, cobj s.room v1 v2 v3 s.shut) :: (L1 ++ (L2 ++ L3)), p ∈ F) : Rd w C3 v2 s.snd := Sl_rd hC.s2 (fun p hp => hO.get p (hL p (by simp [hp])))
theorem c_rd3 (hC : Cs s v1 v2 v3 L1 L2 L3) (hO : Own B w0 w F) (hL : ∀ p ∈ (b, cobj s.room v1 v2 v3 s.shut) :: (L1 ++ (L2 ++ L3)), p ∈ F) : Rd w C3 v3 s.rcv := Sl_rd hC.s3 (fun p hp => hO.get p (hL p (by simp [hp])))

end

def CIntPost (B : Nat) (w0 : World) (F : List (Nat × Obj)) (r : Int) (e : Ending) (w' : World) : Prop := e = .returned (.int .i64 r) ∧ Own B w0 w' F

set_option maxRecDepth 100000 in
set_option maxHeartbeats 2000000 in
theorem cmay (B : Nat) (w0 : World) (b : Nat) (s : CS) (L F : List (Nat × Obj)) (who : Int) (w : World) (hX : Cx b s L) (hL : ∀ p ∈ L, p ∈ F) (hO : Own B w0 w F) :
    Calls Try.prog 80 #[.pointer (some ⟨b, 0, none⟩), .int .i64 who] w (CIntPost B w0 F (mayC s who)) := by
  obtain ⟨v1, v2, v3, L1, L2, L3, hC, rfl⟩ := hX
  have hb := c_get hO hL
  have c0 : w.cell? ⟨b, 0, none⟩ = some (.bool true) := cell_of_get hb 0
  obtain ⟨a2, p2, hv2, _, _⟩ := hC.s2.form
  obtain ⟨a3, p3, hv3, _, _⟩ := hC.s3.form
  have c3 : w.cell? ⟨b, 3, none⟩ = some (.slice a2 s.snd.length p2) := by rw [← hv2]; exact cell_of_get hb 3
  have HC0 := Lib.hid c0
  have HO := Lib.hid hO
  have HL := Lib.hid hL
  have hr2 := Lib.hid (c_rd2 hC hO hL)
  have l2 := hC.l2
  have l3 := hC.l3
  by_cases h1 : who < 0
  · have HR := Lib.hid (show mayC s who = 1 by simp [mayC, h1])
    clear hb hO hL hv2 hv3
    go_enter Try.func80, Try.ntmps80
    go_wp2_with (go_at_call 88; refine (cnone b true _ HC0.out).mono ?_; rintro e w' ⟨rfl, rfl⟩)
    go_ret
    rw [HR.out]
    exact ⟨rfl, HO.out⟩
  · by_cases h2 : 65536 ≤ who
    · have HR := Lib.hid (show mayC s who = 1 by simp [mayC, h1, h2])
      clear hb hO hL hv2 hv3
      go_enter Try.func80, Try.ntmps80
      go_wp2_with (go_at_call 88; refine (cnone b true _ HC0.out).mono ?_; rintro e w' ⟨rfl, rfl⟩)
      go_ret
      rw [HR.out]
      exact ⟨rfl, HO.out⟩
    · rcases widx_cases s.snd who with ⟨h3, h4⟩ | ⟨i, hi, h3, h4⟩
      · rcases widx_cases s.rcv who with ⟨h5, h6⟩ | ⟨j, hj, h5, h6⟩
        · have HR := Lib.hid (show mayC s who = 0 by simp [mayC, h1, h2, h4, h6])
          have H3 := Lib.hid h3
          have H5 := Lib.hid h5
          have HV3 := Lib.hid hv3
          have HV2 := Lib.hid hv2
          clear hb hO hL hv2 hv3 h3 h4 h5 h6
          go_enter Try.func80, Try.ntmps80
          go_wp2_with (first | (go_at_call 88; refine (cnone b true _ HC0.out).mono ?_; rintro e w' ⟨rfl, rfl⟩) | (go_at_call_of 91 (Value.agg #[Value.slice a2 s.snd.length p2]); refine (at91 B w0 F s.snd _ who _ (by rw [← HV2.out]; exact hr2.out) HO.out (by omega)).mono ?_; rintro e w2 ⟨rfl, hO2, _⟩; rw [H3.out]; have c4 : w2.cell? ⟨b, 4, none⟩ = some (.slice a3 s.rcv.length p3) := (by rw [← HV3.out]; exact cell_of_get (c_get hO2 HL.out) 4); have hr3 := Lib.hid (c_rd3 hC hO2 HL.out)) | (go_at_call 91; refine (at91 B w0 F s.rcv _ who _ (by rw [← HV3.out]; exact hr3.out) hO2 (by omega)).mono ?_; rintro e w3 ⟨rfl, hO3, _⟩; rw [H5.out]))
          go_ret
          rw [HR.out]
          exact ⟨rfl, hO3⟩
        · have HR := Lib.hid (show mayC s who = 1 by simp [mayC, h1, h2, h4, h6])
          have H3 := Lib.hid h3
          have H5 := Lib.hid h5
          have HV3 := Lib.hid hv3
          have HV2 := Lib.hid hv2
          clear hb hO hL hv2 hv3 h3 h4 h5 h6
          go_enter Try.func80, Try.ntmps80
          go_wp2_with (first | (go_at_call 88; refine (cnone b true _ HC0.out).mono ?_; rintro e w' ⟨rfl, rfl⟩) | (go_at_call_of 91 (Value.agg #[Value.slice a2 s.snd.length p2]); refine (at91 B w0 F s.snd _ who _ (by rw [← HV2.out]; exact hr2.out) HO.out (by omega)).mono ?_; rintro e w2 ⟨rfl, hO2, _⟩; rw [H3.out]; have c4 : w2.cell? ⟨b, 4, none⟩ = some (.slice a3 s.rcv.length p3) := (by rw [← HV3.out]; exact cell_of_get (c_get hO2 HL.out) 4); have hr3 := Lib.hid (c_rd3 hC hO2 HL.out)) | (go_at_call 91; refine (at91 B w0 F s.rcv _ who _ (by rw [← HV3.out]; exact hr3.out) hO2 (by omega)).mono ?_; rintro e w3 ⟨rfl, hO3, _⟩; rw [H5.out]))
          go_ret
          rw [HR.out]
          exact ⟨rfl, hO3⟩
      · have HR := Lib.hid (show mayC s who = 1 by simp [mayC, h1, h2, h4])
        have H3 := Lib.hid h3
        have HV2 := Lib.hid hv2
        clear hb hO hL hv2 hv3 h3 h4
        go_enter Try.func80, Try.ntmps80
        go_wp2_with (first | (go_at_call 88; refine (cnone b true _ HC0.out).mono ?_; rintro e w' ⟨rfl, rfl⟩) | (go_at_call 91; refine (at91 B w0 F s.snd _ who _ (by rw [← HV2.out]; exact hr2.out) HO.out (by omega)).mono ?_; rintro e w2 ⟨rfl, hO2, _⟩; rw [H3.out]))
        go_ret
        rw [HR.out]
        exact ⟨rfl, hO2⟩

theorem cshut (w : World) : Calls Try.prog 81 #[] w fun e w' => e = .returned (outV false 0 0 11 (.slice none 0 0)) ∧ w' = w.alloc (.cells #[.bool false, .int .i64 0, .int .i64 0, .int .i64 11, .slice none 0 0] 33) := by
  go_enter Try.func81, Try.ntmps81
  go_wp2
  refine bodyPost_ret (v := outV false 0 0 11 (.slice none 0 0)) (by simp [results, Try.results81, go_sem]) rfl ⟨rfl, rfl⟩

theorem cdone (t n : Int) (ao : Option Addr) (len cap : Nat) (w : World) : Calls Try.prog 83 #[.agg #[.int .i64 t, .int .i64 n], .slice ao len cap] w fun e w' => e = .returned (outV true t n 0 (.slice ao len cap)) ∧
    w' = (w.alloc (.cells #[.int .i64 t, .int .i64 n] 30)).alloc (.cells #[.bool true, .int .i64 t, .int .i64 n, .int .i64 0, .slice ao len cap] 33) := by
  go_enter Try.func83, Try.ntmps83
  go_wp2
  refine bodyPost_ret (v := outV true t n 0 (.slice ao len cap)) (by simp [results, Try.results83, go_sem]) rfl ⟨rfl, rfl⟩

/-- waits: there is no room, or it is put. -/
theorem cwaits_full (B : Nat) (w0 : World) (b f : Nat) (x : W3) (n : Nat) (ao : Option Addr) (cap : Nat) (w : World) (F : List (Nat × Obj)) (hc : w.cell? ⟨b, f, none⟩ = some (.slice ao n cap)) (hn : 256 ≤ n) (hO : Own B w0 w F) :
    Calls Try.prog 85 #[.pointer (some ⟨b, f, none⟩), .agg #[.int .i64 x.who, .int .i64 x.t, .int .i64 x.n]] w fun e w' => e = .returned (.tuple #[outV false 0 0 0 (.slice none 0 0), .int .i64 7]) ∧ Own B w0 w' F := by
  have hlt := World.block_lt_of_cell? _ _ hc
  have hlt0 : b < w.heap.size := hlt
  have hlt1 : b < w.heap.size + 1 := by omega
  have hni : (256 : Int) ≤ n := by omega
  have HO := Lib.hid ((hO.junk (.cells #[.int .i64 x.who, .int .i64 x.t, .int .i64 x.n] 136)).junk (.cells #[.bool false, .int .i64 0, .int .i64 0, .int .i64 0, .slice none 0 0] 33))
  clear hO
  go_enter Try.func85, Try.ntmps85
  go_wp2
  refine bodyPost_ret (v := .tuple #[outV false 0 0 0 (.slice none 0 0), .int .i64 7]) (by simp [results, Try.results85, go_sem]) rfl ⟨rfl, HO.out⟩

abbrev outZ : Obj := Obj.cells #[.bool false, .int .i64 0, .int .i64 0, .int .i64 0, .slice none 0 0] 33 (0, 0)

set_option maxRecDepth 100000 in
set_option maxHeartbeats 2000000 in
theorem cwaits_put (B : Nat) (w0 : World) (b f : Nat) (T : TypeId) (cur : Array Value) (xs : List W3) (x : W3) (v : Value) (Lq F : List (Nat × Obj)) (w : World) (hS : Sl 136 3 C3 v xs Lq) (hc : cur[f]? = some v) (hO : Own B w0 w (Lq ++ ((b, Obj.cells cur T (0, 0)) :: F))) (hn : xs.length < 256) :
    Calls Try.prog 85 #[.pointer (some ⟨b, f, none⟩), .agg #[.int .i64 x.who, .int .i64 x.t, .int .i64 x.n]] w fun e w' => e = .returned (.tuple #[outV false 0 0 0 (.slice none 0 0), .int .i64 0]) ∧
      ∃ v' L', Sl 136 3 C3 v' (xs ++ [x]) L' ∧ Own B w0 w' (L' ++ ((b, Obj.cells (cur.setIfInBounds f v') T (0, 0)) :: F)) := by
  obtain ⟨ao, cap, rfl, hcap, hcm⟩ := hS.form
  have hb : w.heap[b]? = some (Obj.cells cur T (0, 0)) := hO.get (b, Obj.cells cur T (0, 0)) (by simp)
  have hcell : w.cell? ⟨b, f, none⟩ = some (.slice ao xs.length cap) := by rw [cell_of_get hb, hc]
  have hlt := lt_of_get hb
  have hlt1 : b < w.heap.size + 1 := by omega
  have hni : ¬ (256 : Int) ≤ xs.length := by omega
  have hO2 := ((hO.junk (.cells #[.int .i64 x.who, .int .i64 x.t, .int .i64 x.n] 136)).allocAt outZ (n := w.heap.size + 1) (by simp)).shuf [[_], Lq, _ :: F] [1, 2, 0] rfl rfl
  have hO2' : Own B w0 ((w.alloc (.cells #[.int .i64 x.who, .int .i64 x.t, .int .i64 x.n] 136)).alloc outZ) (Lq ++ ((b, Obj.cells cur T (0, 0)) :: (F ++ [(w.heap.size + 1, outZ)]))) := hO2
  have HO := Lib.hid hO2'
  have HC := Lib.hid hc
  clear hO hO2 hO2' hb hc
  go_enter Try.func85, Try.ntmps85
  go_wp2_with (go_at_call 109; refine (put109 B w0 b f T cur xs x _ Lq _ _ hS HC.out HO.out (by omega)).mono ?_; rintro e w2 ⟨rfl, v', L', hS', hO3⟩; have hZ := hO3.get (w.heap.size + 1, outZ) (by simp); have z0 := cell_of_get hZ 0; have z1 := cell_of_get hZ 1; have z2 := cell_of_get hZ 2; have z3 := cell_of_get hZ 3; have z4 := cell_of_get hZ 4; have zf := free_of_get hZ; have zl := lt_of_get hZ; simp at z0 z1 z2 z3 z4; clear hZ)
  have hO4 := hO3.shuf [L', [_], F, [_]] [3, 0, 1, 2] rfl rfl
  have hO5 := ((((hO4.setTo 0 (.bool false) rfl).setTo 1 (.int .i64 0) rfl).setTo 2 (.int .i64 0) rfl).setTo 3 (.int .i64 0) rfl).setTo 4 (.slice none 0 0) rfl
  have rr := cell_of_get hO5.head
  have r0 := rr 0
  have r1 := rr 1
  have r2 := rr 2
  have r3 := rr 3
  have r4 := rr 4
  have HO5 := Lib.hid hO5.tail
  clear hO3 hO4 hO5 rr z0 z1 z2 z3 z4
  refine bodyPost_ret (v := .tuple #[outV false 0 0 0 (.slice none 0 0), .int .i64 0]) (by simp [results, Try.results85, go_sem, r0, r1, r2, r3, r4]) rfl ?_
  exact ⟨rfl, v', L', hS', HO5.out⟩

end Go.Proofs.Ytidnkienkdlmkaa
