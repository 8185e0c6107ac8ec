/-
  Contract of Drop. Conditions: at most 64 values, 256 waiters.
-/
import Derived.Test.YtidnkienkdlmkaaChClose
import Derived.Test.YtidnkienkdlmkaaMxDrop
namespace Go.Proofs.Ytidnkienkdlmkaa
open Go.RowKit Go.Sh
attribute [local go_sem ↓] Go.wp_at_zero Go.wp_at_succ

def outW (xs : List W3) (who : Int) : List W3 := xs.take (widx xs who).toNat ++ xs.drop ((widx xs who).toNat + 1)

def dropC (s : CS) (who : Int) : Int × CS :=
  if isW s.snd who = true then (0, ⟨s.room, s.vals, outW s.snd who, s.rcv, s.shut⟩)
  else if isW s.rcv who = true then (0, ⟨s.room, s.vals, s.snd, outW s.rcv who, s.shut⟩)
  else (6, s)

def CDropPost (B : Nat) (w0 : World) (b : Nat) (F : List (Nat × Obj)) (r : Int × CS) (e : Ending) (w' : World) : Prop :=
  e = .returned (.int .i64 r.1) ∧ ∃ L', Cx b r.2 L' ∧ Own B w0 w' (L' ++ F)

abbrev qarr (b : Nat) : Obj := Obj.cells #[.pointer (some ⟨b, 3, none⟩), .pointer (some ⟨b, 4, none⟩)] 142 (0, 0)

theorem own_drop {B : Nat} {w0 w : World} {c : Nat × Obj} {L1 L2 L3 F R : List (Nat × Obj)} (h : Own B w0 w (c :: (L1 ++ (L2 ++ (L3 ++ (F ++ R)))))) : Own B w0 w ((c :: (L1 ++ (L2 ++ L3))) ++ F) := by
  have h2 := h.sub (L' := c :: (L1 ++ (L2 ++ (L3 ++ F)))) (((List.Sublist.refl L1).append ((List.Sublist.refl L2).append ((List.Sublist.refl L3).append (List.sublist_append_left F R)))).cons_cons c)
  exact own_pack h2

set_option maxRecDepth 100000 in
set_option maxHeartbeats 4000000 in
theorem cdrop_snd (B : Nat) (w0 : World) (b : Nat) (s : CS) (L F : List (Nat × Obj)) (who : Int) (w : World) (hX : Cx b s L) (hO : Own B w0 w (L ++ F)) (i : Nat) (hi : i < s.snd.length) (h1 : widx s.snd who = i) (h2 : isW s.snd who = true) :
    Calls Try.prog 51 #[.pointer (some ⟨b, 0, none⟩), .int .i64 who] w (CDropPost B w0 b F (dropC s who)) := by
  have HR := Lib.hid (show dropC s who = (0, ⟨s.room, s.vals, s.snd.take i ++ s.snd.drop (i + 1), s.rcv, s.shut⟩) by simp [dropC, h2, outW, h1])
  obtain ⟨v1, v2, v3, L1, L2, L3, hC, rfl⟩ := hX
  have hcb := hO.get (b, cobj s.room v1 v2 v3 s.shut) (by simp)
  obtain ⟨a2, p2, hv2, _, _⟩ := hC.s2.form
  obtain ⟨a3, p3, hv3, _, _⟩ := hC.s3.form
  have c0 := Lib.hid (show w.cell? ⟨b, 0, none⟩ = some (.bool true) from cell_of_get hcb 0)
  have hbl := lt_of_get hcb
  have c3 : w.cell? ⟨b, 3, none⟩ = some (.slice a2 s.snd.length p2) := by rw [← hv2]; exact cell_of_get hcb 3
  have HV2 := Lib.hid hv2
  have HV3 := Lib.hid hv3
  have H1 := Lib.hid h1
  have hOq := (own_flat hO).alloc (qarr b)
  have HOq := Lib.hid hOq.drew
  have hwi : who = who := rfl
  have l2 := hC.l2
  have l3 := hC.l3
  clear h1 h2 hcb hv2 hv3 hO hOq hwi
  go_enter Try.func51, Try.ntmps51
  go_wp2_with (go_at_call 88; refine (cnone b true _ c0.out).mono ?_; rintro e w' ⟨rfl, rfl⟩)
  go_region
  go_wp2
  refine wp_loop_rounds 3 ?_
  rw [rounds_succ]
  go_wp2_with fail
  refine (at91 B w0 _ s.snd _ who _ (by rw [← HV2.out]; exact Sl_rd hC.s2 (fun p hp => HOq.out.get p (by simp [hp]))) HOq.out (by omega)).mono ?_
  rintro e w1 ⟨rfl, hO1, _⟩
  have hcb := hO1.get (b, cobj s.room v1 v2 v3 s.shut) (by simp)
  have hbl1 := lt_of_get hcb
  rw [H1.out]
  have d3 : w1.cell? ⟨b, 3, none⟩ = some (.slice a2 s.snd.length p2) := by rw [← HV2.out]; exact cell_of_get hcb 3
  have hi0 : (0 : Int) ≤ (i : Int) := by omega
  have hbf := free_of_get hcb
  have HD := Lib.hid (hO1.shuf [[_], [_], L1, L2, L3, F] [3, 0, 1, 2, 4, 5] rfl rfl)
  clear hcb hO1
  go_wp2_with fail
  refine (delete92 B w0 _ s.snd _ _ i _ rfl _ (by rw [← HV2.out]; exact hC.s2) HD.out hi).mono ?_
  rintro e wd ⟨vd, Ld, rfl, hSd, hOd⟩
  have ll0 : (s.snd.take i ++ s.snd.drop (i + 1)).length ≤ 256 := by simp; omega
  obtain ⟨zs, hzs⟩ : ∃ zs, zs = s.snd.take i ++ s.snd.drop (i + 1) := ⟨_, rfl⟩
  rw [← hzs] at hSd HR ll0
  clear hzs
  have ll := Lib.hid ll0
  clear ll0
  obtain ⟨da, dc, rfl, hdc, _⟩ := hSd.form
  have hOe := hOd.shuf [Ld, [_], [_], L1, L3, F] [2, 3, 0, 4, 5, 1] rfl rfl
  have hcd := hOe.head
  have k3 := cell_of_get hcd 3
  have kf := free_of_get hcd
  have kl := lt_of_get hcd
  simp at k3
  have hOf := Lib.hid (own_drop (L1 := L1) (L2 := Ld) (L3 := L3) (F := F) (R := [(w.heap.size, qarr b)]) (Own.setTo hOe 3 (.slice da zs.length dc) rfl))
  clear hOd hOe hcd d3 hbf
  go_wp2
  go_ret
  rw [HR.out]
  exact ⟨rfl, _, ⟨v1, _, v3, L1, Ld, L3, ⟨hC.s1, hSd, hC.s3, hC.l1, ll.out, hC.l3, hC.r0, hC.r1⟩, rfl⟩, hOf.out⟩

set_option maxRecDepth 100000 in
set_option maxHeartbeats 4000000 in
theorem cdrop_rcv (B : Nat) (w0 : World) (b : Nat) (s : CS) (L F : List (Nat × Obj)) (who : Int) (w : World) (hX : Cx b s L) (hO : Own B w0 w (L ++ F)) (h0 : widx s.snd who = -1) (h0b : isW s.snd who = false) (i : Nat) (hi : i < s.rcv.length) (h1 : widx s.rcv who = i) (h2 : isW s.rcv who = true) :
    Calls Try.prog 51 #[.pointer (some ⟨b, 0, none⟩), .int .i64 who] w (CDropPost B w0 b F (dropC s who)) := by
  have HR := Lib.hid (show dropC s who = (0, ⟨s.room, s.vals, s.snd, s.rcv.take i ++ s.rcv.drop (i + 1), s.shut⟩) by simp [dropC, h0b, h2, outW, h1])
  obtain ⟨v1, v2, v3, L1, L2, L3, hC, rfl⟩ := hX
  have hcb := hO.get (b, cobj s.room v1 v2 v3 s.shut) (by simp)
  obtain ⟨a2, p2, hv2, _, _⟩ := hC.s2.form
  obtain ⟨a3, p3, hv3, _, _⟩ := hC.s3.form
  have c0 := Lib.hid (show w.cell? ⟨b, 0, none⟩ = some (.bool true) from cell_of_get hcb 0)
  have hbl := lt_of_get hcb
  have c3 : w.cell? ⟨b, 3, none⟩ = some (.slice a2 s.snd.length p2) := by rw [← hv2]; exact cell_of_get hcb 3
  have HV2 := Lib.hid hv2
  have HV3 := Lib.hid hv3
  have H1 := Lib.hid h1
  have H0 := Lib.hid h0
  have hOq := (own_flat hO).alloc (qarr b)
  have HOq := Lib.hid hOq.drew
  have hwi : who = who := rfl
  have l2 := hC.l2
  have l3 := hC.l3
  clear h1 h2 h0 h0b hcb hv2 hv3 hO hOq hwi
  go_enter Try.func51, Try.ntmps51
  go_wp2_with (go_at_call 88; refine (cnone b true _ c0.out).mono ?_; rintro e w' ⟨rfl, rfl⟩)
  go_region
  go_wp2
  refine wp_loop_rounds 3 ?_
  rw [rounds_succ]
  go_wp2_with fail
  refine (at91 B w0 _ s.snd _ who _ (by rw [← HV2.out]; exact Sl_rd hC.s2 (fun p hp => HOq.out.get p (by simp [hp]))) HOq.out (by omega)).mono ?_
  rintro e w1 ⟨rfl, hO1, _⟩
  have hcb := hO1.get (b, cobj s.room v1 v2 v3 s.shut) (by simp)
  have hbl1 := lt_of_get hcb
  have qq := hO1.head
  have q1 : w1.cell? ⟨w.heap.size, 1, none⟩ = some (.pointer (some ⟨b, 4, none⟩)) := cell_of_get qq 1
  have ql := lt_of_get qq
  have k4 : w1.cell? ⟨b, 4, none⟩ = some (.slice a3 s.rcv.length p3) := by rw [← HV3.out]; exact cell_of_get hcb 4
  rw [H0.out]
  clear hcb qq c3 hbl
  go_wp2
  rw [rounds_succ]
  go_wp2_with fail
  refine (at91 B w0 _ s.rcv _ who _ (by rw [← HV3.out]; exact Sl_rd hC.s3 (fun p hp => hO1.get p (by simp [hp]))) hO1 (by omega)).mono ?_
  rintro e w2 ⟨rfl, hO2, _⟩
  clear hO1
  have hcb := hO2.get (b, cobj s.room v1 v2 v3 s.shut) (by simp)
  have hbl1 := lt_of_get hcb
  clear q1 k4 ql
  rw [H1.out]
  have d4 : w2.cell? ⟨b, 4, none⟩ = some (.slice a3 s.rcv.length p3) := by rw [← HV3.out]; exact cell_of_get hcb 4
  have hi0 : (0 : Int) ≤ (i : Int) := by omega
  have hbf := free_of_get hcb
  have HD := Lib.hid (hO2.shuf [[_], [_], L1, L2, L3, F] [4, 0, 1, 2, 3, 5] rfl rfl)
  clear hcb hO2
  go_wp2_with fail
  refine (delete92 B w0 _ s.rcv _ _ i _ rfl _ (by rw [← HV3.out]; exact hC.s3) HD.out hi).mono ?_
  rintro e wd ⟨vd, Ld, rfl, hSd, hOd⟩
  have ll0 : (s.rcv.take i ++ s.rcv.drop (i + 1)).length ≤ 256 := by simp; omega
  obtain ⟨zs, hzs⟩ : ∃ zs, zs = s.rcv.take i ++ s.rcv.drop (i + 1) := ⟨_, rfl⟩
  rw [← hzs] at hSd HR ll0
  clear hzs
  have ll := Lib.hid ll0
  clear ll0
  obtain ⟨da, dc, rfl, hdc, _⟩ := hSd.form
  have hOe := hOd.shuf [Ld, [_], [_], L1, L2, F] [2, 3, 4, 0, 5, 1] rfl rfl
  have hcd := hOe.head
  have k4 := cell_of_get hcd 4
  have kf := free_of_get hcd
  have kl := lt_of_get hcd
  simp at k4
  have hOf := Lib.hid (own_drop (L1 := L1) (L2 := L2) (L3 := Ld) (F := F) (R := [(w.heap.size, qarr b)]) (Own.setTo hOe 4 (.slice da zs.length dc) rfl))
  clear hOd hOe hcd d4 hbf
  go_wp2
  go_ret
  rw [HR.out]
  exact ⟨rfl, _, ⟨v1, v2, _, L1, L2, Ld, ⟨hC.s1, hC.s2, hSd, hC.l1, hC.l2, ll.out, hC.r0, hC.r1⟩, rfl⟩, hOf.out⟩

set_option maxRecDepth 100000 in
set_option maxHeartbeats 4000000 in
theorem cdrop_none (B : Nat) (w0 : World) (b : Nat) (s : CS) (L F : List (Nat × Obj)) (who : Int) (w : World) (hX : Cx b s L) (hO : Own B w0 w (L ++ F)) (h0 : widx s.snd who = -1) (h0b : isW s.snd who = false) (h1 : widx s.rcv who = -1) (h2 : isW s.rcv who = false) :
    Calls Try.prog 51 #[.pointer (some ⟨b, 0, none⟩), .int .i64 who] w (CDropPost B w0 b F (dropC s who)) := by
  have HR := Lib.hid (show dropC s who = (6, s) by simp [dropC, h0b, h2])
  obtain ⟨v1, v2, v3, L1, L2, L3, hC, rfl⟩ := hX
  have hcb := hO.get (b, cobj s.room v1 v2 v3 s.shut) (by simp)
  obtain ⟨a2, p2, hv2, _, _⟩ := hC.s2.form
  obtain ⟨a3, p3, hv3, _, _⟩ := hC.s3.form
  have c0 := Lib.hid (show w.cell? ⟨b, 0, none⟩ = some (.bool true) from cell_of_get hcb 0)
  have hbl := lt_of_get hcb
  have c3 : w.cell? ⟨b, 3, none⟩ = some (.slice a2 s.snd.length p2) := by rw [← hv2]; exact cell_of_get hcb 3
  have HV2 := Lib.hid hv2
  have HV3 := Lib.hid hv3
  have H1 := Lib.hid h1
  have H0 := Lib.hid h0
  have hOq := (own_flat hO).alloc (qarr b)
  have HOq := Lib.hid hOq.drew
  have hwi : who = who := rfl
  have l2 := hC.l2
  have l3 := hC.l3
  clear h1 h2 h0 h0b hcb hv2 hv3 hO hOq hwi
  go_enter Try.func51, Try.ntmps51
  go_wp2_with (go_at_call 88; refine (cnone b true _ c0.out).mono ?_; rintro e w' ⟨rfl, rfl⟩)
  go_region
  go_wp2
  refine wp_loop_rounds 3 ?_
  rw [rounds_succ]
  go_wp2_with fail
  refine (at91 B w0 _ s.snd _ who _ (by rw [← HV2.out]; exact Sl_rd hC.s2 (fun p hp => HOq.out.get p (by simp [hp]))) HOq.out (by omega)).mono ?_
  rintro e w1 ⟨rfl, hO1, _⟩
  have hcb := hO1.get (b, cobj s.room v1 v2 v3 s.shut) (by simp)
  have hbl1 := lt_of_get hcb
  have qq := hO1.head
  have q1 : w1.cell? ⟨w.heap.size, 1, none⟩ = some (.pointer (some ⟨b, 4, none⟩)) := cell_of_get qq 1
  have ql := lt_of_get qq
  have k4 : w1.cell? ⟨b, 4, none⟩ = some (.slice a3 s.rcv.length p3) := by rw [← HV3.out]; exact cell_of_get hcb 4
  rw [H0.out]
  clear hcb qq c3 hbl
  go_wp2
  rw [rounds_succ]
  go_wp2_with fail
  refine (at91 B w0 _ s.rcv _ who _ (by rw [← HV3.out]; exact Sl_rd hC.s3 (fun p hp => hO1.get p (by simp [hp]))) hO1 (by omega)).mono ?_
  rintro e w2 ⟨rfl, hO2, _⟩
  clear hO1
  rw [H1.out]
  have hO3 := Lib.hid (own_pack hO2.tail)
  clear hO2 q1 k4 ql
  go_wp2
  rw [rounds_succ]
  go_wp2
  go_ret
  rw [HR.out]
  exact ⟨rfl, _, ⟨v1, v2, v3, L1, L2, L3, hC, rfl⟩, hO3.out⟩

theorem cdrop (B : Nat) (w0 : World) (b : Nat) (s : CS) (L F : List (Nat × Obj)) (who : Int) (w : World) (hX : Cx b s L) (hO : Own B w0 w (L ++ F)) :
    Calls Try.prog 51 #[.pointer (some ⟨b, 0, none⟩), .int .i64 who] w (CDropPost B w0 b F (dropC s who)) := by
  rcases widx_cases s.snd who with ⟨h0, h0b⟩ | ⟨i, hi, h1, h2⟩
  · rcases widx_cases s.rcv who with ⟨h1, h2⟩ | ⟨i, hi, h1, h2⟩
    · exact cdrop_none B w0 b s L F who w hX hO h0 h0b h1 h2
    · exact cdrop_rcv B w0 b s L F who w hX hO h0 h0b i hi h1 h2
  · exact cdrop_snd B w0 b s L F who w hX hO i hi h1 h2

end Go.Proofs.Ytidnkienkdlmkaa
