/-
  The document's channel (shuttleref15): what lies in memory; contracts of New, At, bad, Who. Conditions: at most 64 values, 256 waiters.
-/
import Derived.Test.YtidnkienkdlmkaaChSend
import Derived.Test.YtidnkienkdlmkaaRefMx
namespace Go.Proofs.Ytidnkienkdlmkaa
open Go.RowKit Go.Sh

theorem Try.info174 : (Try.prog.info? 174).map (fun i => (i.zero, i.size, i.bytes)) = some (some (.agg #[.int .i64 0, .int .i64 0, .int .i64 0]), 3, 24) := by kernel_rfl

/-- The document's channel in block b. -/
abbrev rcobj (room : Int) (v1 v2 v3 : Value) (sh : Bool) : Obj := Obj.cells #[.int .i64 room, v1, v2, v3, .bool sh] 156 (0, 0)
structure Rcs (s : CS) (v1 v2 v3 : Value) (L1 L2 L3 : List (Nat × Obj)) : Prop where
  s1 : Sl 30 2 C2 v1 s.vals L1
  s2 : Sl 174 3 C3 v2 s.snd L2
  s3 : Sl 174 3 C3 v3 s.rcv L3
  l1 : s.vals.length ≤ 64
  l2 : s.snd.length ≤ 256
  l3 : s.rcv.length ≤ 256
  r0 : 0 ≤ s.room
  r1 : s.room ≤ 64
def Rcx (b : Nat) (s : CS) (L : List (Nat × Obj)) : Prop := ∃ v1 v2 v3 L1 L2 L3, Rcs s v1 v2 v3 L1 L2 L3 ∧ L = (b, rcobj s.room v1 v2 v3 s.shut) :: (L1 ++ (L2 ++ L3))

theorem Rcx.new (b : Nat) (room : Int) (h0 : 0 ≤ room) (h1 : room ≤ 64) : Rcx b ⟨room, [], [], [], false⟩ [(b, rcobj room (.slice none 0 0) (.slice none 0 0) (.slice none 0 0) false)] :=
  ⟨_, _, _, [], [], [], ⟨Sl.nil, Sl.nil, Sl.nil, by simp, by simp, by simp, h0, h1⟩, rfl⟩

theorem rcnew58 (room : Int) (w : World) (h0 : 0 ≤ room) (h1 : room ≤ 64) : Calls Try.prog 58 #[.int .i64 room] w fun e w' => e = .returned (.tuple #[.pointer (some ⟨w.heap.size, 0, none⟩), .int .i64 0]) ∧ w' = w.alloc (rcobj room (.slice none 0 0) (.slice none 0 0) (.slice none 0 0) false) := by
  go_enter Try.func58, Try.ntmps58
  go_wp2
  go_ret2
  exact ⟨rfl, rfl⟩

theorem rcnew58_bad (room : Int) (w : World) (h : room < 0 ∨ 64 < room) : Calls Try.prog 58 #[.int .i64 room] w fun e w' => e = .returned (.tuple #[.pointer none, .int .i64 1]) ∧ w = w' := by
  rcases h with h | h
  · go_enter Try.func58, Try.ntmps58
    go_wp2
    go_ret2
    exact ⟨rfl, rfl⟩
  · have h' : ¬ room < 0 := by omega
    go_enter Try.func58, Try.ntmps58
    go_wp2
    go_ret2
    exact ⟨rfl, rfl⟩

theorem cnew41_bad (room : Int) (w : World) (h : room < 0 ∨ 64 < room) : Calls Try.prog 41 #[.int .i64 room] w fun e w' => e = .returned (.tuple #[.pointer none, .int .i64 1]) ∧ w = w' := by
  rcases h with h | h
  · go_enter Try.func41, Try.ntmps41
    go_wp2
    go_ret2
    exact ⟨rfl, rfl⟩
  · have h' : ¬ room < 0 := by omega
    go_enter Try.func41, Try.ntmps41
    go_wp2
    go_ret2
    exact ⟨rfl, rfl⟩

set_option maxHeartbeats 400000 in
theorem at117 (xs : List W3) (x : Int) (v : Value) (w : World) (hm : xs.length ≤ 100000) (hr : Rd w C3 v xs) :
    Calls Try.prog 117 #[v, .int .i64 x] w fun e w' => e = .returned (.int .i64 (widx xs x)) ∧ w = w' := by
  obtain ⟨ao, cap, rfl, hc⟩ := rd_c3 hr
  have HC := Lib.hid hc
  clear hr hc
  go_enter Try.func117, Try.ntmps117
  go_wp2
  go_loop [5] (fun i => ∃ k : Nat, k ≤ xs.length ∧ i = .int .i64 k ∧ Hid (∀ j, j < k → (xs.map W3.who)[j]?.getD 0 ≠ x)) (fun i => xs.length - (intOf i).toNat)
  case atStart => exact ⟨0, Nat.zero_le _, rfl, Lib.hid fun _ h => by omega⟩
  case round =>
    obtain ⟨k, hk, rfl, HN⟩ := hrel
    by_cases hlt : k < xs.length
    · obtain ⟨g, off, rfl, hg, e0, _⟩ := HC.out k hlt
      have hki : (k : Int) < xs.length := by omega
      by_cases hq : xs[k].who = x
      · have HR := Lib.hid (show widx xs x = k from idx_at (by simpa using hlt) (by simp [hq]) HN.out)
        have hqb : (xs[k].who == x) = true := by simpa using hq
        clear hq
        go_wp2
        go_ret
        exact ⟨by rw [HR.out]; rfl, rfl⟩
      · have hqb : (xs[k].who == x) = false := by simpa using hq
        have HQ := Lib.hid hq
        clear hq
        go_wp2
        exact ⟨⟨k + 1, by omega, by go_num, Lib.hid fun j hj => by
          rcases Nat.lt_succ_iff_lt_or_eq.1 hj with h' | rfl
          · exact HN.out j h'
          · simpa [hlt] using HQ.out⟩, by simp [intOf]; omega⟩
    · obtain rfl : k = xs.length := by omega
      have HR := Lib.hid (show widx xs x = -1 from idx_none (fun j hj => HN.out j (by simpa using hj)))
      go_wp2
      go_ret
      exact ⟨by rw [HR.out]; rfl, rfl⟩

section
variable {B : Nat} {w0 w : World} {b : Nat} {s : CS} {L F : List (Nat × Obj)}

theorem Rcx.rd2 (hX : Rcx b s L) (hg : ∀ p ∈ L, w.heap[p.1]? = some p.2) : ∃ v1 v2 v3, w.heap[b]? = some (rcobj s.room v1 v2 v3 s.shut) ∧ Rd w C2 v1 s.vals ∧ Rd w C3 v2 s.snd ∧ Rd w C3 v3 s.rcv := by
  obtain ⟨v1, v2, v3, L1, L2, L3, hC, rfl⟩ := hX
  exact ⟨v1, v2, v3, hg (b, rcobj s.room v1 v2 v3 s.shut) List.mem_cons_self, Sl_rd hC.s1 (fun p hp => hg p (by simp [hp])), Sl_rd hC.s2 (fun p hp => hg p (by simp [hp])), Sl_rd hC.s3 (fun p hp => hg p (by simp [hp]))⟩

theorem Rcx.len (hX : Rcx b s L) : s.vals.length ≤ 64 ∧ s.snd.length ≤ 256 ∧ s.rcv.length ≤ 256 ∧ 0 ≤ s.room ∧ s.room ≤ 64 := by
  obtain ⟨v1, v2, v3, L1, L2, L3, hC, rfl⟩ := hX
  exact ⟨hC.l1, hC.l2, hC.l3, hC.r0, hC.r1⟩
end

def badC (s : CS) (who : Int) : Bool := mayC s who != 0

set_option maxRecDepth 100000 in
set_option maxHeartbeats 1000000 in
theorem bad116 (b : Nat) (s : CS) (L : List (Nat × Obj)) (who : Int) (w : World) (hX : Rcx b s L) (hg : ∀ p ∈ L, w.heap[p.1]? = some p.2) :
    Calls Try.prog 116 #[.pointer (some ⟨b, 0, none⟩), .int .i64 who] w fun e w' => e = .returned (.bool (badC s who)) ∧ w = w' := by
  obtain ⟨v1, v2, v3, hb, _, h2, h3⟩ := hX.rd2 hg
  obtain ⟨l1, l2, l3, _, _⟩ := hX.len
  have c2 : w.cell? ⟨b, 2, none⟩ = some v2 := cell_of_get hb 2
  have c3 : w.cell? ⟨b, 3, none⟩ = some v3 := cell_of_get hb 3
  have H2 := Lib.hid h2
  have H3 := Lib.hid h3
  clear hX hg hb h2 h3
  cases ht : thrB who with
  | false =>
    have HT := Lib.hid ht
    have HR := Lib.hid (show badC s who = true by
      unfold thrB at ht
      unfold badC mayC
      by_cases h1 : who < 0
      · simp [h1]
      · have h2 : 65536 ≤ who := by
          rw [decide_eq_true (show 0 ≤ who by omega)] at ht
          simp at ht
          exact ht
        simp [h1, h2])
    clear ht
    go_enter Try.func116, Try.ntmps116
    go_wp2_with (go_at_call 108; refine (thread108 who _).mono ?_; rintro e w' ⟨rfl, rfl⟩; rw [HT.out])
    go_ret
    exact ⟨by rw [HR.out]; rfl, rfl⟩
  | true =>
    have HT := Lib.hid ht
    have ht0 : 0 ≤ who ∧ who < 65536 := by unfold thrB at ht; simpa using ht
    obtain ⟨ht1, ht2⟩ := ht0
    clear ht
    rcases widx_cases s.snd who with ⟨hi, hq⟩ | ⟨i, hil, hi, hq⟩
    · rcases widx_cases s.rcv who with ⟨hi2, hq2⟩ | ⟨i2, hil2, hi2, hq2⟩
      · have HR := Lib.hid (show badC s who = false by unfold badC mayC; rw [if_neg (by omega), if_neg (by omega), hq, hq2]; rfl)
        have HI := Lib.hid hi
        have HI2 := Lib.hid hi2
        clear hi hq hi2 hq2
        go_enter Try.func116, Try.ntmps116
        go_wp2_with (first | (go_at_call 108; refine (thread108 who _).mono ?_; rintro e w' ⟨rfl, rfl⟩; rw [HT.out]) | (go_at_call 117; (with_reducible refine (at117 s.snd who v2 _ (by omega) H2.out).mono ?_); rintro e w' ⟨rfl, rfl⟩; rw [HI.out]) | (go_at_call 117; (with_reducible refine (at117 s.rcv who v3 _ (by omega) H3.out).mono ?_); rintro e w' ⟨rfl, rfl⟩; rw [HI2.out]))
        go_ret
        exact ⟨by rw [HR.out]; rfl, rfl⟩
      · have HR := Lib.hid (show badC s who = true by unfold badC mayC; rw [if_neg (by omega), if_neg (by omega), hq, hq2]; rfl)
        have HI := Lib.hid hi
        have HI2 := Lib.hid hi2
        have hp : (0 : Int) ≤ i2 := by omega
        clear hi hq hi2 hq2
        go_enter Try.func116, Try.ntmps116
        go_wp2_with (first | (go_at_call 108; refine (thread108 who _).mono ?_; rintro e w' ⟨rfl, rfl⟩; rw [HT.out]) | (go_at_call 117; (with_reducible refine (at117 s.snd who v2 _ (by omega) H2.out).mono ?_); rintro e w' ⟨rfl, rfl⟩; rw [HI.out]) | (go_at_call 117; (with_reducible refine (at117 s.rcv who v3 _ (by omega) H3.out).mono ?_); rintro e w' ⟨rfl, rfl⟩; rw [HI2.out]))
        go_ret
        exact ⟨by rw [HR.out]; rfl, rfl⟩
    · have HR := Lib.hid (show badC s who = true by unfold badC mayC; rw [if_neg (by omega), if_neg (by omega), hq]; rfl)
      have HI := Lib.hid hi
      have hp : (0 : Int) ≤ i := by omega
      clear hi hq
      go_enter Try.func116, Try.ntmps116
      go_wp2_with (first | (go_at_call 108; refine (thread108 who _).mono ?_; rintro e w' ⟨rfl, rfl⟩; rw [HT.out]) | (go_at_call 117; (with_reducible refine (at117 s.snd who v2 _ (by omega) H2.out).mono ?_); rintro e w' ⟨rfl, rfl⟩; rw [HI.out]))
      go_ret
      exact ⟨by rw [HR.out]; rfl, rfl⟩

def RwRel (B : Nat) (w0 : World) (F : List (Nat × Obj)) (xs : List W3) (s3 i : Value) (wr : World) : Prop :=
  ∃ (k : Nat) (Lo : List (Nat × Obj)), k ≤ xs.length ∧ i = .int .i64 k ∧ Sl 3 1 I s3 ((xs.map W3.who).take k) Lo ∧ Own B w0 wr (Lo ++ F)

set_option maxRecDepth 100000 in
set_option maxHeartbeats 2000000 in
theorem rcwho101 (B : Nat) (w0 : World) (F : List (Nat × Obj)) (xs : List W3) (v : Value) (Lq : List (Nat × Obj)) (w : World) (hs : Sl 174 3 C3 v xs Lq) (hL : ∀ p ∈ Lq, p ∈ F) (hO : Own B w0 w F) (hxl : xs.length ≤ 1000) :
    Calls Try.prog 101 #[v] w (NewSl 3 1 I B w0 F (xs.map W3.who)) := by
  obtain ⟨i0, hi, hz0, hz1, hz2⟩ := info_parts Try.info3
  obtain ⟨ao, cap, rfl, hcap, _⟩ := hs.form
  have HRD := Lib.hid (show ∀ (wr : World) Lo, Own B w0 wr (Lo ++ F) → ∀ i (hi : i < xs.length), ∃ g off, ao = some ⟨g, off, none⟩ ∧ wr.cell? ⟨g, off + i * 3, none⟩ = some (.int .i64 xs[i].who) by
    intro wr Lo h i hi
    obtain ⟨ao', cap', he, hc⟩ := rd_c3 (Sl_rd (w := wr) hs (fun p hp => h.get p (List.mem_append_right _ (hL p hp))))
    simp only [Value.slice.injEq, true_and] at he
    obtain ⟨rfl, rfl⟩ := he
    obtain ⟨g, off, h1, _, h2, _⟩ := hc i hi
    exact ⟨g, off, h1, h2⟩)
  have HO := Lib.hid hO
  clear hs hO hL
  go_enter Try.func101, Try.ntmps101
  go_wp2
  go_loopw [3, 4] (fun s3 i wr => RwRel B w0 F xs s3 i wr) (fun _ i _ => xs.length - (intOf i).toNat)
  case atStart => exact ⟨0, [], Nat.zero_le _, rfl, by simpa using Sl.nil, HO.out⟩
  case round =>
    obtain ⟨k, Lo, hk, rfl, hS, hO⟩ := hrel
    obtain ⟨so, sc, rfl, hsc, _⟩ := hS.form
    obtain ⟨ys, hys⟩ : ∃ ys, ys = (xs.map W3.who).take k := ⟨_, rfl⟩
    rw [← hys] at hS hsc ⊢
    have hlk : ys.length ≤ 1000 := by rw [hys]; simp; omega
    have HYS := Lib.hid hys
    clear hys
    by_cases hlt : k < xs.length
    · obtain ⟨g, off, rfl, k0⟩ := HRD.out wr Lo hO k hlt
      have hki : (k : Int) < xs.length := by omega
      have hO2 := hO.junk (.cells #[.int .i64 xs[k].who] 3)
      have hsn := Lib.hid (show ys ++ [xs[k].who] = (xs.map W3.who).take (k + 1) by
        rw [HYS.out, List.take_succ_eq_append_getElem (by simpa using hlt)]; simp)
      have hsl := Lib.hid (show ys.length + 1 = ((xs.map W3.who).take (k + 1)).length by rw [← hsn.out]; simp)
      clear hO
      go_wp2_with (at_builtin; refine wpList_append_sl rfl (.tmp 11) (.tmp 17) 26 rfl _ _ _ Try.underlying26 hi hz0 hz1 hz2 rfl I_len I_one rfl hS (by exact hO2) ⟨wr.heap.size, 0, none⟩ [xs[k].who] 1 1 rfl rfl (news_one (x := .int .i64 xs[k].who) (by simp)) (by decide) (by unfold maxLen; omega) (by omega) ?_)
      intro g' off' cap' w3 L3 hS3 hO3 _ _
      rw [hsn.out] at hS3
      have HS3 := Lib.hid hS3
      clear hO2 hS hS3
      go_wp2
      exact ⟨⟨k + 1, L3, by omega, by go_num, HS3.out, hO3⟩, by simp [intOf]; omega⟩
    · obtain rfl : k = xs.length := by omega
      have hS' : Sl 3 1 I (.slice so ys.length sc) (xs.map W3.who) Lo := by rw [show xs.map W3.who = ys by rw [HYS.out, List.take_of_length_le (by simp)]]; exact hS
      have HS := Lib.hid hS'
      clear hS hS' hlk
      go_wp2
      go_ret
      exact ⟨_, Lo, rfl, HS.out, hO⟩

end Go.Proofs.Ytidnkienkdlmkaa
