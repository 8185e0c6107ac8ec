/-
  Contracts of who, Senders, Receivers, Len, Room, Closed. Conditions: at most 64 values, 256 waiters.
-/
import Derived.Test.YtidnkienkdlmkaaChB
namespace Go.Proofs.Ytidnkienkdlmkaa
open Go.RowKit Go.Sh

def WhoRel (B : Nat) (w0 : World) (F : List (Nat × Obj)) (xs : List W3) (s3 i : Value) (wr : World) : Prop :=
  ∃ (k : Nat) (Lo : List (Nat × Obj)), k ≤ xs.length ∧ i = .int .i64 k ∧ Sl 3 1 I s3 ((xs.map W3.who).take k) Lo ∧ Own B w0 wr (Lo ++ F)

set_option maxRecDepth 100000 in
set_option maxHeartbeats 2000000 in
theorem who89 (B : Nat) (w0 : World) (F : List (Nat × Obj)) (xs : List W3) (v : Value) (Lq : List (Nat × Obj)) (w : World) (hS : Sl 136 3 C3 v xs Lq) (hL : ∀ p ∈ Lq, p ∈ F) (hO : Own B w0 w F) (hx : xs.length ≤ 1000) :
    Calls Try.prog 89 #[.agg #[v]] w (NewSl 3 1 I B w0 F (xs.map W3.who)) := by
  obtain ⟨i0, hi, hz0, hz1, hz2⟩ := info_parts Try.info3
  obtain ⟨ao, cap, rfl, hcap, _⟩ := hS.form
  have HRD := Lib.hid (show ∀ wr Lo, Own B w0 wr (Lo ++ F) → ∀ i (hi : i < xs.length), ∃ g off, ao = some ⟨g, off, none⟩ ∧ g < wr.heap.size ∧ wr.cell? ⟨g, off + i * 3, none⟩ = some (.int .i64 xs[i].who) ∧ wr.cell? ⟨g, off + i * 3 + 1, none⟩ = some (.int .i64 xs[i].t) ∧ wr.cell? ⟨g, off + i * 3 + 2, none⟩ = some (.int .i64 xs[i].n) by
    intro wr Lo h i hi
    obtain ⟨ao', cap', he, hc⟩ := rd_c3 (Sl_rd (w := wr) hS (fun p hp => h.get p (List.mem_append_right _ (hL p hp))))
    simp only [Value.slice.injEq, true_and] at he
    obtain ⟨rfl, rfl⟩ := he
    exact hc i hi)
  have HO := Lib.hid (hO.junk (.cells #[.slice ao xs.length cap] 111))
  clear hS hO
  go_enter Try.func89, Try.ntmps89
  go_wp2
  go_loopw [3, 9] (fun s3 i wr => WhoRel B w0 F xs s3 i wr) (fun _ i _ => xs.length - (intOf i).toNat)
  case atStart => exact ⟨0, [], Nat.zero_le _, rfl, by simpa using Sl.nil, HO.out⟩
  case round =>
    obtain ⟨k, Lo, hk, rfl, hS, hO⟩ := hrel
    obtain ⟨so, sc, rfl, hsc, _⟩ := hS.form
    obtain ⟨ys, hys⟩ : ∃ ys, ys = (xs.map W3.who).take k := ⟨_, rfl⟩
    rw [← hys] at hS hsc ⊢
    have hlk : ys.length ≤ 1000 := by rw [hys]; simp; omega
    have HYS := Lib.hid hys
    clear hys
    by_cases hlt : k < xs.length
    · obtain ⟨g, off, rfl, hg, c0, c1, c2⟩ := HRD.out wr Lo hO k hlt
      have hki : (k : Int) < xs.length := by omega
      have hO2 := (hO.junk (.cells #[.int .i64 xs[k].who, .int .i64 xs[k].t, .int .i64 xs[k].n] 136)).junk (.cells #[.int .i64 xs[k].who] 3)
      have hsn := Lib.hid (show ys ++ [xs[k].who] = (xs.map W3.who).take (k + 1) by
        rw [HYS.out, List.take_succ_eq_append_getElem (by simpa using hlt)]; simp)
      have hsl := Lib.hid (show ys.length + 1 = ((xs.map W3.who).take (k + 1)).length by rw [← hsn.out]; simp)
      clear hO
      go_wp2_with (at_builtin; refine wpList_append_sl rfl (.tmp 13) (.tmp 16) 26 rfl _ _ _ Try.underlying26 hi hz0 hz1 hz2 rfl I_len I_one rfl hS (by exact hO2) ⟨wr.heap.size + 1, 0, none⟩ [xs[k].who] 1 1 rfl rfl (news_one (x := .int .i64 xs[k].who) (by simp)) (by decide) (by unfold maxLen; omega) (by omega) ?_)
      intro g' off' cap' w3 L3 hS3 hO3 _ _
      rw [hsn.out] at hS3
      have HS3 := Lib.hid hS3
      clear hO2 hS hS3
      go_wp2
      exact ⟨⟨k + 1, L3, by omega, by go_num, HS3.out, hO3⟩, by simp [intOf]; omega⟩
    · obtain rfl : k = xs.length := by omega
      have hS' : Sl 3 1 I (.slice so ys.length sc) (xs.map W3.who) Lo := by rw [show xs.map W3.who = ys by rw [HYS.out, List.take_of_length_le (by simp)]]; exact hS
      have HS := Lib.hid hS'
      clear hS hS' hlk
      go_wp2
      go_ret
      exact ⟨_, Lo, rfl, HS.out, hO⟩

section
variable (B : Nat) (w0 : World) (F : List (Nat × Obj)) (b : Nat) (s : CS) (L : List (Nat × Obj)) (w : World)

theorem csenders (hX : Cx b s L) (hL : ∀ p ∈ L, p ∈ F) (hO : Own B w0 w F) : Calls Try.prog 48 #[.pointer (some ⟨b, 0, none⟩)] w (NewSl 3 1 I B w0 F (s.snd.map W3.who)) := by
  obtain ⟨v1, v2, v3, L1, L2, L3, hC, rfl⟩ := hX
  obtain ⟨a2, p2, hv2, _, _⟩ := hC.s2.form
  have hb := c_get hO hL
  have c0 := Lib.hid (show w.cell? ⟨b, 0, none⟩ = some (.bool true) from cell_of_get hb 0)
  have c3 : w.cell? ⟨b, 3, none⟩ = some (.slice a2 s.snd.length p2) := by rw [← hv2]; exact cell_of_get hb 3
  have HV := Lib.hid hv2
  have HO := Lib.hid hO
  have l2 := hC.l2
  clear hb hO hv2
  go_enter Try.func48, Try.ntmps48
  go_wp2_with (first | (go_at_call 88; refine (cnone b true _ c0.out).mono ?_; rintro e w' ⟨rfl, rfl⟩) | (go_at_call 89; refine (who89 B w0 F s.snd _ L2 _ (by rw [← HV.out]; exact hC.s2) (fun p hp => hL p (by simp [hp])) HO.out (by omega)).mono ?_; rintro e w' ⟨vr, Lr, rfl, hSr, hOr⟩))
  go_ret
  exact ⟨vr, Lr, rfl, hSr, hOr⟩

theorem creceivers (hX : Cx b s L) (hL : ∀ p ∈ L, p ∈ F) (hO : Own B w0 w F) : Calls Try.prog 52 #[.pointer (some ⟨b, 0, none⟩)] w (NewSl 3 1 I B w0 F (s.rcv.map W3.who)) := by
  obtain ⟨v1, v2, v3, L1, L2, L3, hC, rfl⟩ := hX
  obtain ⟨a2, p2, hv2, _, _⟩ := hC.s3.form
  have hb := c_get hO hL
  have c0 := Lib.hid (show w.cell? ⟨b, 0, none⟩ = some (.bool true) from cell_of_get hb 0)
  have c3 : w.cell? ⟨b, 4, none⟩ = some (.slice a2 s.rcv.length p2) := by rw [← hv2]; exact cell_of_get hb 4
  have HV := Lib.hid hv2
  have HO := Lib.hid hO
  have l2 := hC.l3
  clear hb hO hv2
  go_enter Try.func52, Try.ntmps52
  go_wp2_with (first | (go_at_call 88; refine (cnone b true _ c0.out).mono ?_; rintro e w' ⟨rfl, rfl⟩) | (go_at_call 89; refine (who89 B w0 F s.rcv _ L3 _ (by rw [← HV.out]; exact hC.s3) (fun p hp => hL p (by simp [hp])) HO.out (by omega)).mono ?_; rintro e w' ⟨vr, Lr, rfl, hSr, hOr⟩))
  go_ret
  exact ⟨vr, Lr, rfl, hSr, hOr⟩

theorem clen (hX : Cx b s L) (hg : ∀ p ∈ L, w.heap[p.1]? = some p.2) : Calls Try.prog 53 #[.pointer (some ⟨b, 0, none⟩)] w fun e w' => e = .returned (.int .i64 s.vals.length) ∧ w = w' := by
  obtain ⟨v1, v2, v3, L1, L2, L3, hC, rfl⟩ := hX
  obtain ⟨a1, p1, hv1, _, _⟩ := hC.s1.form
  have hb : w.heap[b]? = some (cobj s.room v1 v2 v3 s.shut) := hg (b, cobj s.room v1 v2 v3 s.shut) List.mem_cons_self
  have c0 := Lib.hid (show w.cell? ⟨b, 0, none⟩ = some (.bool true) from cell_of_get hb 0)
  have c2 : w.cell? ⟨b, 2, none⟩ = some (.slice a1 s.vals.length p1) := by rw [← hv1]; exact cell_of_get hb 2
  clear hb hv1 hg
  go_enter Try.func53, Try.ntmps53
  go_wp2_with (go_at_call 88; refine (cnone b true _ c0.out).mono ?_; rintro e w' ⟨rfl, rfl⟩)
  go_ret
  exact ⟨rfl, rfl⟩

theorem croom (hX : Cx b s L) (hg : ∀ p ∈ L, w.heap[p.1]? = some p.2) : Calls Try.prog 54 #[.pointer (some ⟨b, 0, none⟩)] w fun e w' => e = .returned (.int .i64 s.room) ∧ w = w' := by
  obtain ⟨v1, v2, v3, L1, L2, L3, hC, rfl⟩ := hX
  have hb : w.heap[b]? = some (cobj s.room v1 v2 v3 s.shut) := hg (b, cobj s.room v1 v2 v3 s.shut) List.mem_cons_self
  have c0 := Lib.hid (show w.cell? ⟨b, 0, none⟩ = some (.bool true) from cell_of_get hb 0)
  have c1 : w.cell? ⟨b, 1, none⟩ = some (.int .i64 s.room) := cell_of_get hb 1
  clear hb hg
  go_enter Try.func54, Try.ntmps54
  go_wp2_with (go_at_call 88; refine (cnone b true _ c0.out).mono ?_; rintro e w' ⟨rfl, rfl⟩)
  go_ret
  exact ⟨rfl, rfl⟩

theorem cclosed (hX : Cx b s L) (hg : ∀ p ∈ L, w.heap[p.1]? = some p.2) : Calls Try.prog 55 #[.pointer (some ⟨b, 0, none⟩)] w fun e w' => e = .returned (.bool s.shut) ∧ w = w' := by
  obtain ⟨v1, v2, v3, L1, L2, L3, hC, rfl⟩ := hX
  have hb : w.heap[b]? = some (cobj s.room v1 v2 v3 s.shut) := hg (b, cobj s.room v1 v2 v3 s.shut) List.mem_cons_self
  have c0 := Lib.hid (show w.cell? ⟨b, 0, none⟩ = some (.bool true) from cell_of_get hb 0)
  have c5 : w.cell? ⟨b, 5, none⟩ = some (.bool s.shut) := cell_of_get hb 5
  clear hb hg
  go_enter Try.func55, Try.ntmps55
  go_wp2_with (go_at_call 88; refine (cnone b true _ c0.out).mono ?_; rintro e w' ⟨rfl, rfl⟩)
  go_ret
  exact ⟨rfl, rfl⟩

end

def csNew (room : Int) : CS := ⟨room, [], [], [], false⟩

theorem cnew41 (room : Int) (w : World) (h0 : 0 ≤ room) (h1 : room ≤ 64) : Calls Try.prog 41 #[.int .i64 room] w fun e w' => e = .returned (.tuple #[.pointer (some ⟨w.heap.size, 0, none⟩), .int .i64 0]) ∧ w' = w.alloc (cobj room (.slice none 0 0) (.slice none 0 0) (.slice none 0 0) false) := by
  go_enter Try.func41, Try.ntmps41
  go_wp2
  refine bodyPost_ret (v := .tuple #[.pointer (some ⟨w.heap.size, 0, none⟩), .int .i64 0]) (by simp [results, Try.results41, go_sem]) rfl ⟨rfl, rfl⟩

theorem Cx.new (b : Nat) (room : Int) (h0 : 0 ≤ room) (h1 : room ≤ 64) : Cx b (csNew room) [(b, cobj room (.slice none 0 0) (.slice none 0 0) (.slice none 0 0) false)] :=
  ⟨_, _, _, [], [], [], ⟨Sl.nil, Sl.nil, Sl.nil, by simp [csNew], by simp [csNew], by simp [csNew], h0, h1⟩, rfl⟩

end Go.Proofs.Ytidnkienkdlmkaa
