/-
  shuttleref19: the document's queues in memory; contracts of at, Thread, New, Len, richest. Conditions: 1 to 16 workers, at most 1,024 threads in a queue.
-/
import Derived.Test.YtojcojoleodjmaaRqCont
import Derived.Test.YtojcojoleodjmaaRqDrop
import Derived.Laws.MakeOwn
import Derived.WalkMore
namespace Go.Proofs.Ytojcojoleodjmaa
open Go.RowKit Go.Sh

def rrow (n : Nat) (vs : Nat → Value) : Array Value := ((List.range n).map vs).toArray

theorem rrow_k {n : Nat} (vs : Nat → Value) {k : Nat} (h : k < n) : (rrow n vs)[k]? = some (vs k) := by
  simp [rrow, h]

theorem rrow_set {n : Nat} (vs : Nat → Value) {k : Nat} (v : Value) : (rrow n vs).setIfInBounds k v = rrow n (upd vs k v) := by
  apply Array.ext_getElem?
  intro j
  rw [Array.getElem?_setIfInBounds]
  simp only [rrow, List.getElem?_toArray, List.size_toArray, List.length_map, List.length_range, List.getElem?_map]
  by_cases hk : k < n
  · by_cases hj : k = j
    · subst hj; simp [hk, upd]
    · simp only [hj, if_false]
      by_cases hjn : j < n
      · simp [hjn, upd, show ¬ j = k from fun e => hj e.symm]
      · simp [hjn]
  · by_cases hj : k = j
    · subst hj; simp [hk]
    · simp only [hj, if_false]
      by_cases hjn : j < n
      · simp [hjn, upd, show ¬ j = k from fun e => hj e.symm]
      · simp [hjn]

abbrev rhead (br n : Nat) (st : Int) : Obj := Obj.cells #[.slice (some ⟨br, 0, none⟩) n n, .int .i64 st] 93 (0, 0)
abbrev robj (n : Nat) (vs : Nat → Value) : Obj := Obj.cells (rrow n vs) 28 (0, 0)

/-- What the document's queues own. -/
def rown (b br n : Nat) (vs : Nat → Value) (Ls : Nat → List (Nat × Obj)) (st : Int) : List (Nat × Obj) := (b, rhead br n st) :: (br, robj n vs) :: (List.range 16).flatMap Ls

def Rqx (b br n : Nat) (ls : Nat → List Int) (st : Int) (L : List (Nat × Obj)) : Prop := ∃ vs Ls, Qs vs Ls n ls ∧ L = rown b br n vs Ls st

section
variable {B : Nat} {w0 w : World} {b br n : Nat} {vs : Nat → Value} {Ls : Nat → List (Nat × Obj)} {ls : Nat → List Int} {st : Int} {F : List (Nat × Obj)} {k : Nat}

theorem r_get (hO : Own B w0 w (rown b br n vs Ls st ++ F)) : w.heap[b]? = some (rhead br n st) := hO.get (b, rhead br n st) List.mem_cons_self
theorem r_row (hO : Own B w0 w (rown b br n vs Ls st ++ F)) : w.heap[br]? = some (robj n vs) := hO.get (br, robj n vs) (by simp [rown])
theorem r_rd (hQ : Qs vs Ls n ls) (hO : Own B w0 w (rown b br n vs Ls st ++ F)) (hk : k < 16) : Rd w I (vs k) (ls k) :=
  Sl_rd (hQ.sl k hk) (fun p hp => hO.get p (List.mem_append_left _ (List.mem_cons_of_mem _ (List.mem_cons_of_mem _ (mem_fam hk hp)))))

theorem rown_open (b br n : Nat) (vs : Nat → Value) (Ls : Nat → List (Nat × Obj)) (st : Int) (F : List (Nat × Obj)) {k : Nat} (hk : k < 16) :
    (rown b br n vs Ls st ++ F).Perm (Ls k ++ ((b, rhead br n st) :: (br, robj n vs) :: (rest 16 k Ls ++ F))) := by
  have h1 := (fam_perm hk Ls).append_right F
  rw [List.append_assoc] at h1
  exact ((h1.cons (br, robj n vs)).cons (b, rhead br n st)).trans ((List.perm_middle.symm.cons _).trans List.perm_middle.symm)

theorem rown_shut (b br n : Nat) (vs : Nat → Value) (Ls : Nat → List (Nat × Obj)) (st : Int) (F : List (Nat × Obj)) {k : Nat} (hk : k < 16) (v : Value) (L : List (Nat × Obj)) :
    (L ++ ((b, rhead br n st) :: (br, robj n (upd vs k v)) :: (rest 16 k Ls ++ F))).Perm (rown b br n (upd vs k v) (upd Ls k L) st ++ F) := by
  have h1 := ((fam_upd hk Ls L).symm).append_right F
  rw [List.append_assoc] at h1
  exact (List.perm_middle.trans (List.perm_middle.cons _)).trans ((h1.cons _).cons _)

/-- A queue's new value is laid: what was its row before may be lost. -/
theorem r_put {L : List (Nat × Obj)} (hO : Own B w0 w (L ++ ((b, rhead br n st) :: (br, robj n vs) :: (rest 16 k Ls ++ F)))) (hk : k < 16) (v : Value) :
    Own B w0 (w.setCell ⟨br, k, none⟩ v) (rown b br n (upd vs k v) (upd Ls k L) st ++ F) := by
  have h1 := hO.perm (List.perm_middle.trans (List.perm_middle.cons (b, rhead br n st)) |>.trans (List.Perm.swap _ _ _))
  have h2 := h1.setTo k v (rrow_set vs v)
  refine (h2.perm ?_).perm (rown_shut b br n vs Ls st F hk v L)
  exact (List.Perm.swap _ _ _).trans ((List.perm_middle.symm.cons _).trans List.perm_middle.symm)

theorem r_st (hO : Own B w0 w (rown b br n vs Ls st ++ F)) (st' : Int) : Own B w0 (w.setCell ⟨b, 1, none⟩ (.int .i64 st')) (rown b br n vs Ls st' ++ F) :=
  Own.setTo (L := (br, robj n vs) :: (List.range 16).flatMap Ls ++ F) hO 1 _ rfl

theorem r_cells (hO : Own B w0 w (rown b br n vs Ls st ++ F)) : w.cell? ⟨b, 0, none⟩ = some (.slice (some ⟨br, 0, none⟩) n n) ∧ w.cell? ⟨b, 1, none⟩ = some (.int .i64 st) ∧ ∀ k, k < n → w.cell? ⟨br, k, none⟩ = some (vs k) :=
  ⟨cell_of_get (r_get hO) 0, cell_of_get (r_get hO) 1, fun k hk => (cell_of_get (r_row hO) k).trans (rrow_k vs hk)⟩

end

set_option maxHeartbeats 400000 in
theorem at54 (xs : List Int) (x : Int) (v : Value) (w : World) (hm : xs.length ≤ 9223372036854775807) (hr : Rd w I v xs) :
    Calls Try.prog 54 #[v, .int .i64 x] w fun e w' => e = .returned (.int .i64 (idx xs x)) ∧ w = w' := by
  rcases hr with ⟨rfl, ao, cap, rfl⟩ | ⟨g, off, cap, rfl, hc⟩
  · go_enter Try.func54, Try.ntmps54
    go_wp2
    refine wp_loop_rounds 1 ?_
    rw [rounds_succ]
    go_wp2
    go_ret
    exact ⟨rfl, rfl⟩
  · have hc' : ∀ j, j < xs.length → w.cell? ⟨g, off + j, none⟩ = some (.int .i64 (xs[j]?.getD 0)) := fun j hj => hc j _ (by rw [flatI]; simp [List.getElem?_eq_getElem hj])
    have HC := Lib.hid hc'
    clear hc hc'
    go_enter Try.func54, Try.ntmps54
    go_wp2
    go_loop [5] (fun i => ∃ k : Nat, k ≤ xs.length ∧ i = .int .i64 k ∧ ∀ j, j < k → xs[j]?.getD 0 ≠ x) (fun i => xs.length - (intOf i).toNat)
    case atStart => exact ⟨0, Nat.zero_le _, rfl, fun _ h => by omega⟩
    case round =>
      obtain ⟨k, hk, rfl, hn⟩ := hrel
      have HN := Lib.hid hn
      clear hn
      by_cases hlt : k < xs.length
      · have hcell := HC.out k hlt
        go_wp2
        · have h : (xs[k] == x) = true := by assumption
          go_ret
          exact ⟨by rw [idx_at hlt (by rw [beq_iff_eq] at h ⊢; exact h.symm) HN.out]; rfl, rfl⟩
        · have h : (xs[k] == x) = false := by assumption
          go_round
          case rel => exact ⟨k + 1, by omega, by go_num, fun j hj => by
            rcases Nat.lt_succ_iff_lt_or_eq.1 hj with h' | rfl
            · exact HN.out j h'
            · intro e; rw [List.getElem?_eq_getElem hlt] at e; simp at e; rw [e] at h; simp at h⟩
          case measure => simp [intOf]; omega
      · go_wp2
        go_ret
        exact ⟨by rw [idx_none (fun j hj => HN.out j (by omega))]; rfl, rfl⟩

def thrB (who : Int) : Bool := decide (0 ≤ who) && decide (who < 65536)

theorem thread53 (who : Int) (w : World) : Calls Try.prog 53 #[.int .i64 who] w fun e w' => e = .returned (.bool (thrB who)) ∧ w = w' := by
  by_cases h1 : 0 ≤ who
  · by_cases h2 : who < 65536
    · have HR := Lib.hid (show thrB who = true by simp [thrB, h1, h2])
      go_enter Try.func53, Try.ntmps53
      go_wp2
      go_ret
      exact ⟨by rw [HR.out]; rfl, rfl⟩
    · have HR := Lib.hid (show thrB who = false by simp [thrB, h2])
      go_enter Try.func53, Try.ntmps53
      go_wp2
      go_ret
      exact ⟨by rw [HR.out]; rfl, rfl⟩
  · have HR := Lib.hid (show thrB who = false by simp [thrB, h1])
    go_enter Try.func53, Try.ntmps53
    go_wp2
    go_ret
    exact ⟨by rw [HR.out]; rfl, rfl⟩

theorem Try.info28 : (Try.prog.info? 28).map (fun i => (i.zero, i.size, i.bytes)) = some (some (.slice none 0 0), 1, 24) := by kernel_rfl

theorem made_rrow (n : Nat) : madeCells (Value.slice none 0 0).cells (n * 1) = rrow n (fun _ => .slice none 0 0) := by
  apply Array.ext_getElem?
  intro j
  by_cases h : j < n <;> simp [madeCells, rrow, h, Value.cells, Nat.mod_one]

def RNewPost (B : Nat) (w0 : World) (n : Nat) (F : List (Nat × Obj)) (e : Ending) (w' : World) : Prop :=
  ∃ b br L, e = .returned (.tuple #[.pointer (some ⟨b, 0, none⟩), .int .i64 0]) ∧ Rqx b br n (fun _ => []) 0 L ∧ Own B w0 w' (L ++ F)

set_option maxRecDepth 4000 in
theorem rnew25 (B : Nat) (w0 : World) (F : List (Nat × Obj)) (n : Nat) (m : Int) (hm : m = n) (w : World) (h1 : 1 ≤ n) (h2 : n ≤ 16) (hO : Own B w0 w F) : Calls Try.prog 25 #[.int .i64 m] w (RNewPost B w0 n F) := by
  subst hm
  obtain ⟨i0, hi, hz0, hz1, hz2⟩ := info_parts Try.info28
  have hmk := run_makeSlice (P := Try.prog) (w := w) 63 28 i0 _ Try.underlying63 hi hz0 .i64 .i64 n n (by omega) (by omega) (by rw [hz1]; omega) (by rw [hz2]; omega) (by omega)
  rw [hz1, Int.toNat_natCast, made_rrow] at hmk
  have hO1 := (hO.alloc (robj n (fun _ => .slice none 0 0))).alloc (rhead w.heap.size n 0)
  have HO := Lib.hid hO1
  clear hO hO1 hz0 hz1 hz2 hi
  go_enter Try.func25, Try.ntmps25
  go_wp2
  refine bodyPost_ret (v := .tuple #[.pointer (some ⟨w.heap.size + 1, 0, none⟩), .int .i64 0]) (by simp [results, Try.results25, go_sem]) rfl ⟨w.heap.size + 1, w.heap.size, _, rfl, ⟨_, _, Qs.new h1 h2, rfl⟩, ?_⟩
  have hz : (List.range 16).flatMap (fun _ => ([] : List (Nat × Obj))) = [] := by simp
  have := HO.out
  simp only [World.size_alloc] at this
  show Own B w0 _ ((w.heap.size + 1, rhead w.heap.size n 0) :: (w.heap.size, robj n (fun _ => .slice none 0 0)) :: ((List.range 16).flatMap (fun _ => ([] : List (Nat × Obj))) ++ F))
  rw [hz]
  exact this

theorem rnew25_bad (m : Int) (w : World) (h : m < 1 ∨ 16 < m) : Calls Try.prog 25 #[.int .i64 m] w fun e w' => e = .returned (.tuple #[.pointer none, .int .i64 1]) ∧ w' = w := by
  rcases h with h | h
  · go_enter Try.func25, Try.ntmps25
    go_wp2
    refine bodyPost_ret (v := .tuple #[.pointer none, .int .i64 1]) (by simp [results, Try.results25, go_sem]) rfl ⟨rfl, rfl⟩
  · have h' : ¬ m < 1 := by omega
    go_enter Try.func25, Try.ntmps25
    go_wp2
    refine bodyPost_ret (v := .tuple #[.pointer none, .int .i64 1]) (by simp [results, Try.results25, go_sem]) rfl ⟨rfl, rfl⟩

set_option maxRecDepth 100000 in
set_option maxHeartbeats 1000000 in
theorem rlen56 (B : Nat) (w0 : World) (b br n : Nat) (vs : Nat → Value) (Ls : Nat → List (Nat × Obj)) (ls : Nat → List Int) (st : Int) (F : List (Nat × Obj)) (w : World) (hQ : Qs vs Ls n ls) (hO : Own B w0 w (rown b br n vs Ls st ++ F)) :
    Calls Try.prog 56 #[.pointer (some ⟨b, 0, none⟩)] w fun e w' => e = .returned (.int .i64 (lenQ ls n)) ∧ w = w' := by
  obtain ⟨c0, _, hck⟩ := r_cells hO
  have HCK := Lib.hid hck
  have htop := hQ.top
  have hle := Lib.hid (lenQ_le hQ.len)
  have hlen := Lib.hid hQ.len
  have hform := Lib.hid (show ∀ k, k < 16 → ∃ ao cap, vs k = .slice ao (ls k).length cap from fun k hk => by obtain ⟨ao, cap, h, _⟩ := (hQ.sl k hk).form; exact ⟨ao, cap, h⟩)
  clear hO hQ hck
  go_enter Try.func56, Try.ntmps56
  go_wp2
  go_loop [3, 4] (fun t i => ∃ k : Nat, k ≤ n ∧ i = .int .i64 k ∧ t = .int .i64 (lenQ ls k)) (fun _ i => n - (intOf i).toNat)
  case atStart => exact ⟨0, Nat.zero_le _, rfl, rfl⟩
  case round =>
    obtain ⟨k, hk, rfl, rfl⟩ := hrel
    by_cases hlt : k < n
    · obtain ⟨ao, cap, hv⟩ := hform.out k (by omega)
      have hcell := HCK.out k hlt
      rw [hv] at hcell
      have hl1 := hle.out k (by omega)
      have hl2 := hlen.out k (by omega)
      have hn2 := Lib.hid (show lenQ ls (k + 1) = lenQ ls k + (ls k).length from rfl)
      clear hv
      go_wp2
      go_round
      case rel => exact ⟨k + 1, by omega, by go_num, by rw [hn2.out]; go_num⟩
      case measure => simp [intOf]; omega
    · obtain rfl : k = n := by omega
      go_wp2
      go_ret
      exact ⟨rfl, rfl⟩

def RichRel (ls : Nat → List Int) (n worker : Nat) (w : World) (best i : Value) (wr : World) : Prop :=
  ∃ m q : Nat, m < n ∧ i = .int .i64 ((m : Int) + 1) ∧ best = .int .i64 (encB (vupto ls n worker m)) ∧ wr = w.drewN q

set_option maxRecDepth 100000 in
set_option maxHeartbeats 400000 in
theorem rich55 (B : Nat) (w0 : World) (b br n : Nat) (vs : Nat → Value) (Ls : Nat → List (Nat × Obj)) (ls : Nat → List Int) (st : Int) (F : List (Nat × Obj)) (k : Nat) (w : World) (hk : k < n) (hQ : Qs vs Ls n ls) (hO : Own B w0 w (rown b br n vs Ls st ++ F)) :
    Calls Try.prog 55 #[.pointer (some ⟨b, 0, none⟩), .int .i64 k] w fun e w' => e = .returned (.int .i64 (encB (victimQ n ls k))) ∧ ∃ q, w' = w.drewN q := by
  obtain ⟨hc, _, hck0⟩ := r_cells hO
  have hck := Lib.hid (show ∀ k, k < n → ∃ ao cap, w.cell? ⟨br, k, none⟩ = some (.slice ao (ls k).length cap) from fun k hk => by
    have := hQ.top
    obtain ⟨ao, cap, hv, _, _⟩ := (hQ.sl k (by omega)).form
    exact ⟨ao, cap, by rw [hck0 k hk, hv]⟩)
  have hpos := hQ.pos
  have hn := hQ.top
  clear hO hQ hck0
  go_enter Try.func55, Try.ntmps55
  go_wp2
  go_loopw [5, 6] (fun best i wr => RichRel ls n k w best i wr) (fun _ i _ => n - (intOf i).toNat)
  case atStart => exact ⟨0, 0, by omega, rfl, rfl, rfl⟩
  case round =>
    obtain ⟨m, q, hm, rfl, rfl, rfl⟩ := hrel
    by_cases hlt2 : m + 1 < n
    · obtain ⟨j, hj⟩ : ∃ j, j = (k + (m + 1)) % n := ⟨_, rfl⟩
      have hjn : j < n := by rw [hj]; exact Nat.mod_lt _ (by omega)
      have hmod : ((k : Int) + ((m : Int) + 1)) % (n : Int) = (j : Int) := by rw [hj]; push_cast; rfl
      have hstep := Lib.hid (show vupto ls n k (m + 1) = vstep ls j (vupto ls n k m) by rw [hj]; rfl)
      clear hj
      obtain ⟨ao, cap, hcj⟩ := hck.out j (by omega)
      by_cases hz : (ls j).length = 0
      · have hn2 := Lib.hid (show vupto ls n k (m + 1) = vupto ls n k m by rw [hstep.out, vstep.eq_def, if_pos hz])
        have hz' : decide ((0 : Nat) < (ls j).length) = false := by simp [hz]
        clear hz hstep
        go_wp2
        go_quiet (fail)
        go_wp2
        go_roundw
        case rel => exact ⟨m + 1, _, by omega, by go_num, by rw [hn2.out], rfl⟩
        case measure => simp [intOf]; omega
      · have hz' : decide ((0 : Nat) < (ls j).length) = true := by simp; omega
        cases hv : vupto ls n k m with
        | none =>
          have hn2 := Lib.hid (show vupto ls n k (m + 1) = some j by rw [hstep.out, hv, vstep.eq_def, if_neg hz])
          clear hv hstep hz
          have hd : decide ((-1 : Int) < 0) = true := by decide
          unfold encB
          go_wp2
          go_quiet (fail)
          go_wp2
          go_roundw
          case rel => exact ⟨m + 1, _, by omega, by go_num, by rw [hn2.out]; first | rfl | (show _ = Value.int .i64 (j : Int); rw [← hmod]), rfl⟩
          case measure => simp [intOf]; omega
        | some b' =>
          obtain ⟨hb1, hb2, hb3⟩ := vupto_some hk hm hv
          obtain ⟨ao2, cap2, hcb⟩ := hck.out b' (by omega)
          have hd : decide ((b' : Int) < 0) = false := decide_eq_false (by omega)
          by_cases hle : (ls j).length ≤ (ls b').length
          · have hn2 := Lib.hid (show vupto ls n k (m + 1) = some b' by rw [hstep.out, hv, vstep.eq_def, if_neg hz]; dsimp only; rw [if_pos hle])
            have hle' : decide ((ls b').length < (ls j).length) = false := by simp; omega
            clear hv hstep hz hle hb2 hb3
            unfold encB
            go_wp2
            go_quiet (fail)
            go_wp2
            go_roundw
            case rel => exact ⟨m + 1, _, by omega, by go_num, by rw [hn2.out]; first | rfl | (show _ = Value.int .i64 (j : Int); rw [← hmod]), rfl⟩
            case measure => simp [intOf]; omega
          · have hn2 := Lib.hid (show vupto ls n k (m + 1) = some j by rw [hstep.out, hv, vstep.eq_def, if_neg hz]; dsimp only; rw [if_neg hle])
            have hle' : decide ((ls b').length < (ls j).length) = true := by simp; omega
            clear hv hstep hz hle hb2 hb3
            unfold encB
            go_wp2
            go_quiet (fail)
            go_wp2
            go_roundw
            case rel => exact ⟨m + 1, _, by omega, by go_num, by rw [hn2.out]; first | rfl | (show _ = Value.int .i64 (j : Int); rw [← hmod]), rfl⟩
            case measure => simp [intOf]; omega
    · obtain rfl : m = n - 1 := by omega
      go_wp2
      go_ret
      exact ⟨rfl, q, rfl⟩

end Go.Proofs.Ytojcojoleodjmaa
