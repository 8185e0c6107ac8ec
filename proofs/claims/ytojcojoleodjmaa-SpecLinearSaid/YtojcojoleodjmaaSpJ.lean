/-
  spec: contract of Linear. Condition: few calls.
-/
import Derived.Test.YtojcojoleodjmaaSpI
namespace Go.Proofs.Ytojcojoleodjmaa
open Go.RowKit Go.Shelf Go.Sh
attribute [local go_sem] Oper.semAt_some

structure Lin : Type where
  a : List Int
  ok : Bool
  e : Int
def linR (kind : Int) (xs : List C6) : Lin := if mayR kind xs = 0 then (match allT kind xs with | [] => ⟨[], false, 0⟩ | o :: _ => ⟨o, true, 0⟩) else ⟨[], false, mayR kind xs⟩

def LinPost (B : Nat) (w0 : World) (F : List (Nat × Obj)) (r : Lin) (e : Ending) (w' : World) : Prop :=
  ∃ v L', e = .returned (.tuple #[v, .bool r.ok, .int .i64 r.e]) ∧ Sl 3 1 I v r.a L' ∧ Sh.Own B w0 w' (L' ++ F)

abbrev o28 (v : Value) : Obj := Obj.cells #[v] 28 (0, 0)
abbrev o4 (b : Bool) : Obj := Obj.cells #[.bool b] 4 (0, 0)
abbrev o24 (n : Int) : Obj := Obj.cells #[.int .i64 n] 24 (0, 0)

theorem lin_a {B : Nat} {w0 w : World} {l k a b c : Nat × Obj} {F : List (Nat × Obj)} (h : Sh.Own B w0 w (l :: k :: c :: b :: a :: F)) : Sh.Own B w0 w ([a, b, c] ++ (l :: k :: F)) :=
  h.shuf [[l, k], [c], [b], [a], F] [3, 2, 1, 0, 4] rfl rfl
theorem lin_b {B : Nat} {w0 w : World} {R1 R2 R3 : Nat} {v1 : Value} {b1 : Bool} {n1 : Int} {Lo G : List (Nat × Obj)} (h : Sh.Own B w0 w ([(R1, o28 v1), (R2, o4 b1), (R3, o24 n1)] ++ (Lo ++ G))) (v : Value) (b : Bool) (n : Int) :
    Sh.Own B w0 (((w.setCell ⟨R1, 0, none⟩ v).setCell ⟨R2, 0, none⟩ (.bool b)).setCell ⟨R3, 0, none⟩ (.int .i64 n)) (((R1, o28 v) :: (R2, o4 b) :: (R3, o24 n) :: Lo) ++ G) := by
  have h1 := (h.setTo 0 v rfl : Sh.Own B w0 _ ((R1, o28 v) :: (R2, o4 b1) :: (R3, o24 n1) :: (Lo ++ G)))
  have h2 := ((own_swap h1).setTo 0 (.bool b) rfl : Sh.Own B w0 _ ((R2, o4 b) :: (R1, o28 v) :: (R3, o24 n1) :: (Lo ++ G)))
  have h3 := ((h2.shuf [[_], [_], [_], Lo ++ G] [2, 0, 1, 3] rfl rfl).setTo 0 (.int .i64 n) rfl : Sh.Own B w0 _ ((R3, o24 n) :: (R2, o4 b) :: (R1, o28 v) :: (Lo ++ G)))
  exact h3.shuf [[_], [_], [_], Lo, G] [2, 1, 0, 3, 4] rfl rfl

theorem lin_c {B : Nat} {w0 w : World} {a b c d l k : Nat × Obj} {F : List (Nat × Obj)} (h : Sh.Own B w0 w ((a :: b :: c :: []) ++ (d :: l :: k :: F))) : Sh.Own B w0 w (d :: l :: k :: a :: b :: c :: F) :=
  h.shuf [[a, b, c], [d, l, k], F] [1, 0, 2] rfl rfl
theorem lin_d {B : Nat} {w0 w : World} {a b c d l k : Nat × Obj} {Lo F : List (Nat × Obj)} (h : Sh.Own B w0 w ((a :: b :: c :: Lo) ++ (d :: l :: k :: F))) : Sh.Own B w0 w (d :: l :: k :: a :: b :: c :: (Lo ++ F)) :=
  h.shuf [[a, b, c], Lo, [d, l, k], F] [2, 0, 1, 3] rfl rfl
theorem lin_e {B : Nat} {w0 w : World} {a b c d l k : Nat × Obj} {L : List (Nat × Obj)} (h : Sh.Own B w0 w (d :: l :: k :: a :: b :: c :: L)) : Sh.Own B w0 w L := h.tail.tail.tail.tail.tail.tail

set_option maxRecDepth 100000 in
set_option maxHeartbeats 4000000 in
theorem linear32 (B : Nat) (w0 : World) (F : List (Nat × Obj)) (kind : Int) (ao : Option Addr) (nn cap : Nat) (xs : List C6) (w : World) (hR : RdA B w0 F (.slice ao nn cap) xs) (hO : Sh.Own B w0 w F) (hnc : nn ≤ cap) (hx : xs.length ≤ 9223372036854775807) :
    Calls Try.prog 32 #[.int .i64 kind, .slice ao nn cap] w (LinPost B w0 F (linR kind xs)) := by
  have hcap : ∀ a n c, Value.slice ao nn cap = .slice a n c → n ≤ c := by
    intro a n c h
    simp only [Value.slice.injEq] at h
    obtain ⟨_, rfl, rfl⟩ := h
    exact hnc
  have hO1 := ((hO.allocAt (o28 (.slice none 0 0)) (n := w.heap.size) rfl).allocAt (o4 false) (n := w.heap.size + 1) (by simp)).allocAt (o24 0) (n := w.heap.size + 1 + 1) (by simp)
  have HM := Lib.hid (may57 B w0 _ kind xs _ _ (hR _ hO1.tail.tail.tail) hO1 hx hcap)
  have HC := Lib.hid (allc59 B w0 F kind (.slice ao nn cap) xs)
  have HR := Lib.hid hR
  have HCAP := Lib.hid hcap
  clear hO hO1 hR hcap
  refine (callsIn_wide (n := 4)).1 (callsIn_of_wp_marks Try.func32 rfl trivial ?_ rfl)
  simp only [Try.ntmps32, List.size_toArray, List.length_cons, List.length_nil, Nat.reduceAdd, Nat.reduceSub, Array.replicate_succ, Array.replicate_zero, List.push_toArray, List.append_toArray, List.nil_append, List.cons_append]
  by_cases h0 : mayR kind xs = 0
  · have HL := Lib.hid (show linR kind xs = match allT kind xs with | [] => ⟨[], false, 0⟩ | o :: _ => ⟨o, true, 0⟩ by unfold linR; rw [if_pos h0])
    rw [h0] at HM
    clear h0
    gi_wp2
    refine ⟨trivial, (callsIn_wide.2 HM.out).mono ?_⟩
    rintro e w1 ⟨rfl, hO1, _⟩
    have HO1 := Lib.hid hO1
    clear hO1
    gi_wp2
    refine ⟨trivial, (callsIn_wide.2 (all37 kind ao nn cap w1)).mono ?_⟩
    rintro e w2 ⟨rfl, rfl⟩
    have hO2 := (HO1.out.allocAt (obK kind) (n := w1.heap.size) rfl).allocAt (obL (.slice ao nn cap)) (n := w1.heap.size + 1) (by simp)
    have HO2 := Lib.hid hO2
    clear hO2
    gi_wp2
    have hnx : w.heap.size ≠ w.heap.size + 1 := by omega
    have hnx2 : w.heap.size ≠ w.heap.size + 1 + 1 := by omega
    refine wpIn_rangeFunc_sep rfl (by omega) (gf := 59) (lb := #[.pointer (some ⟨w1.heap.size, 0, none⟩), .pointer (some ⟨w1.heap.size + 1, 0, none⟩)]) rfl trivial (enters_of Try.func59 (by kernel_rfl) rfl)
      (HC.out 3 w1.heap.size (w1.heap.size + 1) HR.out HCAP.out hx) (lin_a HO2.out) rfl
      (fun pre Lb => pre = [] ∧ Lb = [(w.heap.size, o28 (.slice none 0 0)), (w.heap.size + 1, o4 false), (w.heap.size + 1 + 1, o24 0)])
      (fun c pre Lb => ∃ v Lo o, c = .ret ∧ pre = [o] ∧ Lb = (w.heap.size, o28 v) :: (w.heap.size + 1, o4 true) :: (w.heap.size + 1 + 1, o24 0) :: Lo ∧ Sl 3 1 I v o Lo)
      ⟨rfl, rfl⟩
      (fun v => { tmps := #[.int .i64 kind, .slice ao nn cap, undef, undef, .pointer (some ⟨w.heap.size, 0, none⟩), .pointer (some ⟨w.heap.size + 1, 0, none⟩), .pointer (some ⟨w.heap.size + 1 + 1, 0, none⟩), .int .i64 0, v, .int .i64 kind, .slice ao nn cap, .int .i64 0, .int .i64 0, .bool false, undef, .int .i64 kind, .slice ao nn cap, .func (.func 59) #[] #[.pointer (some ⟨w1.heap.size, 0, none⟩), .pointer (some ⟨w1.heap.size + 1, 0, none⟩)], v, undef], defers := [] }) ?assign ?body ?done ?stop
    case assign =>
      intro l v W K hK
      gi_wp2
      exact hK
    case body =>
      rintro l pre o v Lo Lb G W hpre hv ⟨rfl, rfl⟩ hW
      obtain ⟨ao2, cap2, rfl, _, _⟩ := Sl.form hv
      obtain ⟨n2, hn2⟩ : ∃ n, o.length = n := ⟨_, rfl⟩
      have hv2 : Sl 3 1 I (.slice ao2 o.length cap2) o Lo := hv
      rw [hn2] at hv2 ⊢
      clear hv
      have g0 := hW.get (w.heap.size, o28 (.slice none 0 0)) (by simp)
      have g1 := hW.get (w.heap.size + 1, o4 false) (by simp)
      have g2 := hW.get (w.heap.size + 1 + 1, o24 0) (by simp)
      have q0 := cell_of_get g0 0
      have q1 := cell_of_get g1 0
      have q2 := cell_of_get g2 0
      have f0 := free_of_get g0
      have f1 := free_of_get g1
      have f2 := free_of_get g2
      have y0 := lt_of_get g0
      have y1 := lt_of_get g1
      have y2 := lt_of_get g2
      have HV := Lib.hid hv2
      have HW := Lib.hid (lin_b hW (.slice ao2 n2 cap2) true 0)
      clear hW hv2 g0 g1 g2 hn2
      gi_wp2
      exact ⟨_, ⟨rfl, _, Lo, o, rfl, rfl, HV.out⟩, HW.out⟩
    case done =>
      rintro D Lb W ⟨hT, rfl⟩ hW
      have hT2 : linR kind xs = ⟨[], false, 0⟩ := by rw [HL.out, hT]
      have HT := Lib.hid hT2
      have g0 := hW.get (w.heap.size, o28 (.slice none 0 0)) (by simp)
      have g1 := hW.get (w.heap.size + 1, o4 false) (by simp)
      have g2 := hW.get (w.heap.size + 1 + 1, o24 0) (by simp)
      have q0 := cell_of_get g0 0
      have q1 := cell_of_get g1 0
      have q2 := cell_of_get g2 0
      have f0 := free_of_get g0
      have f1 := free_of_get g1
      have f2 := free_of_get g2
      have y0 := lt_of_get g0
      have y1 := lt_of_get g1
      have y2 := lt_of_get g2
      have hW2 := lin_b (Lo := []) hW (.slice none 0 0) false 0
      have hW3 := lin_c hW2
      have hK := hW3.head
      have hW4 := hW3.putObj (.deferred none)
      have r0 := cell_of_get (hW4.get (w.heap.size, o28 (.slice none 0 0)) (by simp)) 0
      have r1 := cell_of_get (hW4.get (w.heap.size + 1, o4 false) (by simp)) 0
      have r2 := cell_of_get (hW4.get (w.heap.size + 1 + 1, o24 0) (by simp)) 0
      have HW4 := Lib.hid (show Sh.Own B w0 _ ([] ++ F) from hW4.tail.tail.tail.tail.tail.tail)
      have HK := Lib.hid hK
      clear hW hW2 hW3 hW4 g0 g1 g2 hK hT hT2
      gi_wp2
      refine ⟨by simp, .inl ⟨_, _, rfl, run_takeDeferred HK.out, ?_⟩⟩
      refine ⟨.tuple #[.slice none 0 0, .bool false, .int .i64 0], by simp [results, Try.results32, go_sem, r0, r1, r2], ?_⟩
      rw [HT.out]
      exact ⟨_, [], rfl, Sl.nil, HW4.out⟩
    case stop =>
      rintro D c pre Lb W hpre ⟨v, Lo, o, rfl, rfl, rfl, hv⟩ hW
      have hT2 : linR kind xs = ⟨o, true, 0⟩ := by
        rw [HL.out]
        obtain ⟨t, ht⟩ := hpre
        rw [← ht]; rfl
      have HT := Lib.hid hT2
      have HV := Lib.hid hv
      have hW3 := lin_d hW
      have hK := hW3.head
      have hW4 := hW3.putObj (.deferred none)
      have r0 := cell_of_get (hW4.get (w.heap.size, o28 v) (by simp)) 0
      have r1 := cell_of_get (hW4.get (w.heap.size + 1, o4 true) (by simp)) 0
      have r2 := cell_of_get (hW4.get (w.heap.size + 1 + 1, o24 0) (by simp)) 0
      have HW4 := Lib.hid (lin_e hW4)
      have HK := Lib.hid hK
      clear hW hW3 hW4 hK hT2 hv hpre
      gi_wp2
      refine ⟨by simp, .inl ⟨_, _, rfl, run_takeDeferred HK.out, ?_⟩⟩
      refine ⟨.tuple #[v, .bool true, .int .i64 0], by simp [results, Try.results32, go_sem, r0, r1, r2], ?_⟩
      rw [HT.out]
      exact ⟨v, Lo, rfl, HV.out, HW4.out⟩
  · have hb : (mayR kind xs != 0) = true := by simp [h0]
    have HL := Lib.hid (show linR kind xs = ⟨[], false, mayR kind xs⟩ by unfold linR; rw [if_neg h0])
    obtain ⟨c, hc⟩ : ∃ c, mayR kind xs = c := ⟨_, rfl⟩
    rw [hc] at HM HL hb
    clear h0 hc HC HR HCAP
    gi_wp2
    refine ⟨trivial, (callsIn_wide.2 HM.out).mono ?_⟩
    rintro e w1 ⟨rfl, hO1, _⟩
    have hW0 : Sh.Own B w0 w1 ([(w.heap.size, o28 (.slice none 0 0)), (w.heap.size + 1, o4 false), (w.heap.size + 1 + 1, o24 0)] ++ ([] ++ F)) := hO1.shuf [[_], [_], [_], F] [2, 1, 0, 3] rfl rfl
    have g0 := hW0.get (w.heap.size, o28 (.slice none 0 0)) (by simp)
    have g1 := hW0.get (w.heap.size + 1, o4 false) (by simp)
    have g2 := hW0.get (w.heap.size + 1 + 1, o24 0) (by simp)
    have q0 := cell_of_get g0 0
    have q1 := cell_of_get g1 0
    have q2 := cell_of_get g2 0
    have f0 := free_of_get g0
    have f1 := free_of_get g1
    have f2 := free_of_get g2
    have y0 := lt_of_get g0
    have y1 := lt_of_get g1
    have y2 := lt_of_get g2
    have hW4 := lin_b (Lo := []) hW0 (.slice none 0 0) false c
    have r0 := cell_of_get (hW4.get (w.heap.size, o28 (.slice none 0 0)) (by simp)) 0
    have r1 := cell_of_get (hW4.get (w.heap.size + 1, o4 false) (by simp)) 0
    have r2 := cell_of_get (hW4.get (w.heap.size + 1 + 1, o24 c) (by simp)) 0
    have HW4 := Lib.hid (show Sh.Own B w0 _ ([] ++ F) from hW4.tail.tail.tail)
    clear hW0 hO1 hW4 g0 g1 g2
    gi_wp2
    refine ⟨.tuple #[.slice none 0 0, .bool false, .int .i64 c], by simp [results, Try.results32, go_sem, r0, r1, r2], ?_⟩
    rw [HL.out]
    exact ⟨_, [], rfl, Sl.nil, HW4.out⟩

end Go.Proofs.Ytojcojoleodjmaa
