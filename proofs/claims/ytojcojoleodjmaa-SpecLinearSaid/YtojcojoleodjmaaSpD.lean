/-
  spec: contract of with. Condition: few values.
-/
import Derived.Test.YtojcojoleodjmaaSpC
namespace Go.Proofs.Ytojcojoleodjmaa
open Go.RowKit Go.Shelf Go.Sh
attribute [local go_sem ↓] Go.wp_at_zero Go.wp_at_succ

theorem sl_rd6 {α : Type} {e : TypeId} {k : Nat} {enc : α → List Value} {v : Value} {xs : List α} {L : List (Nat × Obj)} {w : World} (h : Sl e k enc v xs L) (hg : ∀ p ∈ L, w.heap[p.1]? = some p.2) : Rd w enc v xs := by
  rcases h with ⟨rfl, rfl, rfl⟩ | ⟨g, off, cap, cur, rfl, rfl, h1, h2, h3, h4⟩
  · exact .inl ⟨rfl, none, 0, rfl⟩
  · refine .inr ⟨g, off, cap, rfl, fun j u hu => ?_⟩
    rw [cell_of_get (hg _ (List.mem_cons_self))]
    rw [← h4, List.getElem?_take] at hu
    split at hu
    · simpa using hu
    · cases hu
theorem news_blk6 {w : World} {b : Nat} {C : Array Value} {t : TypeId} {fr : Nat × Nat} (h : w.heap[b]? = some (.cells C t fr)) : ∀ j u, C.toList[j]? = some u → w.cell? ((⟨b, 0, none⟩ : Addr).add j) = some u := by
  intro j u hu
  have ha : (⟨b, 0, none⟩ : Addr).add j = ⟨b, j, none⟩ := by unfold Addr.add; split <;> simp_all
  rw [ha, cell_of_get h]
  simpa using hu

/-- A slice cut to its length, as an append reads it. -/
theorem old_clip {α : Type} {e : TypeId} {k : Nat} {enc : α → List Value} {w : World} {ao : Option Addr} {n cap : Nat} {xs : List α} {L : List (Nat × Obj)} (h : Sl e k enc (.slice ao n cap) xs L) (hg : ∀ p ∈ L, w.heap[p.1]? = some p.2) : Old w enc (.slice ao n n) xs := by
  rcases h with ⟨h, rfl, rfl⟩ | ⟨g, off, cap', cur, h, rfl, h1, h2, h3, h4⟩
  · simp only [Value.slice.injEq] at h
    obtain ⟨rfl, rfl, rfl⟩ := h
    exact .inl ⟨rfl, rfl⟩
  · simp only [Value.slice.injEq] at h
    obtain ⟨rfl, rfl, rfl⟩ := h
    refine .inr ⟨_, rfl, fun j u hu => ?_⟩
    have hh : w.heap[g]? = some (.cells cur e (0, 0)) := hg (g, _) List.mem_cons_self
    have ha : (⟨g, off, none⟩ : Addr).add j = ⟨g, off + j, none⟩ := by unfold Addr.add; split <;> simp_all
    rw [ha]
    simp only [World.cell?, hh]
    rw [← h4, List.getElem?_take] at hu
    split at hu
    · simpa using hu
    · cases hu

/-- A first element, and the rest behind it. -/
theorem sl_first {α : Type} {e : TypeId} {k : Nat} {enc : α → List Value} (hk : ∀ x, (enc x).length = k) {v : Value} {y : α} {r : List α} {L : List (Nat × Obj)} (h : Sl e k enc v (y :: r) L) :
    ∃ g off cap cur, v = .slice (some ⟨g, off, none⟩) (r.length + 1) cap ∧ L = [(g, Obj.cells cur e (0, 0))] ∧ r.length + 1 ≤ cap ∧ cap ≤ maxLen ∧
      ((cap = 1 ∧ r.length = 0 ∧ Sl e k enc (.slice (some ⟨g, off, none⟩) 0 0) r L) ∨ (¬ cap = 1 ∧ Sl e k enc (.slice (some ⟨g, off + k, none⟩) r.length (cap - 1)) r L)) := by
  rcases h with ⟨_, h, _⟩ | ⟨g, off, cap, cur, rfl, rfl, hcap, hcm, hsz, hcur⟩
  · cases h
  · have hs : Sl e k enc (.slice (some ⟨g, off, none⟩) (y :: r).length cap) (y :: r) [(g, Obj.cells cur e (0, 0))] := .inr ⟨g, off, cap, cur, rfl, rfl, hcap, hcm, hsz, hcur⟩
    refine ⟨g, off, cap, cur, rfl, rfl, hcap, hcm, ?_⟩
    obtain ⟨off', hoff, hS'⟩ := hs.dropIf hk 1 (by simp) (cap = 1) id
    have hS2 : Sl e k enc (.slice (some ⟨g, off', none⟩) r.length (cap - 1)) r [(g, Obj.cells cur e (0, 0))] := by simpa using hS'
    by_cases hc : cap = 1
    · rw [if_pos hc] at hoff
      simp at hoff
      subst hoff
      have hr : r.length = 0 := by simp at hcap; omega
      subst hc
      rw [hr] at hS2
      exact .inl ⟨rfl, hr, hS2⟩
    · rw [if_neg hc] at hoff
      simp at hoff
      subst hoff
      exact .inr ⟨hc, hS2⟩

section
variable {B : Nat} {w0 w : World} {z : Nat} {a0 a1 : Value} {R : List (Nat × Obj)}
theorem outT (h : Own B w0 w ((z, Obj.cells #[a0, a1] 102 (0, 0)) :: R)) (k v : Value) : Own B w0 ((w.setCell ⟨z, 0, none⟩ k).setCell ⟨z, 1, none⟩ v) ((z, Obj.cells #[k, v] 102 (0, 0)) :: R) := (h.setTo 0 k rfl).setTo 1 v rfl
theorem tz (h : w.heap[z]? = some (Obj.cells #[a0, a1] 102 (0, 0))) : w.cell? ⟨z, 0, none⟩ = some a0 ∧ w.cell? ⟨z, 1, none⟩ = some a1 := ⟨cell_of_get h 0, cell_of_get h 1⟩
end

theorem put_shuf {B : Nat} {w0 w : World} {L' F : List (Nat × Obj)} {a z p t : Nat × Obj} (h : Own B w0 w (L' ++ (a :: z :: p :: t :: F))) : Own B w0 w (z :: (L' ++ (a :: p :: t :: F))) ∧ w.heap[t.1]? = some t.2 :=
  ⟨h.shuf [L', [a], [z], [p, t], F] [2, 0, 1, 3, 4] rfl rfl, h.get t (by simp)⟩
theorem put_out {B : Nat} {w0 w : World} {L' F : List (Nat × Obj)} {a z p t : Nat × Obj} (h : Own B w0 w (z :: (L' ++ (a :: p :: t :: F)))) : Own B w0 w (L' ++ F) :=
  (h.shuf [[z], L', [a], [p, t], F] [0, 2, 3, 1, 4] rfl rfl).tail.tail.tail.tail
theorem withT_put2 {l : List V2} {c : C6} (h1 : c.op = 1) : withT 2 l c = ([c.v], true) := by simp [withT, h1]
theorem withT_put {kind : Int} {l : List V2} {c : C6} (h1 : c.op = 1) (h2 : kind ≠ 2) : withT kind l c = (l ++ [c.v], true) := by simp [withT, h1, h2]
theorem withT_open {l : List V2} {c : C6} (h1 : c.op ≠ 1) (h3 : c.til = 0) : withT 2 l c = (l, true) := by simp [withT, h1, h3]
theorem withT_nil {kind : Int} {c : C6} (h1 : c.op ≠ 1) (h3 : ¬ (c.til = 0 ∧ kind = 2)) : withT kind [] c = ([], false) := by unfold withT; rw [if_neg h1, if_neg h3]
theorem withT_cons {kind : Int} {x : V2} {r : List V2} {c : C6} (h1 : c.op ≠ 1) (h3 : ¬ (c.til = 0 ∧ kind = 2)) : withT kind (x :: r) c = if c.til ≠ 0 ∧ x ≠ c.v then (x :: r, false) else if kind = 2 then (x :: r, true) else (r, true) := by
  unfold withT; rw [if_neg h1, if_neg h3]

set_option maxRecDepth 100000 in
set_option maxHeartbeats 2000000 in
theorem with_put2 (B : Nat) (w0 : World) (F : List (Nat × Obj)) (l : List V2) (v : Value) (Lt : List (Nat × Obj)) (c : C6) (w : World) (hS : Sl 77 2 C2 v (l) Lt) (hO : Own B w0 w F) (h1 : c.op = 1) :
    Calls Try.prog 69 #[.agg #[.int .i64 2, v], agg6 c] w (WithPost B w0 F Lt 2 (withT 2 (l) c)) := by
  have HR := Lib.hid (withT_put2 (l := l) h1)
  obtain ⟨ao, cap, rfl, hcap, hcm⟩ := hS.form
  obtain ⟨n, hn⟩ : ∃ n, (l).length = n := ⟨_, rfl⟩
  rw [hn] at hS hcap ⊢
  have H1_ := Lib.hid h1
  clear h1
  have hOF := ((hO.allocAt (obT 2 (.slice ao n cap)) (n := w.heap.size) rfl).allocAt (ob6 c) (n := w.heap.size + 1) (by simp)).allocAt (obT 0 (.slice none 0 0)) (n := w.heap.size + 1 + 1) (by simp)
  clear hO
  go_enter Try.func69, Try.ntmps69
  go_upto_region 1 with fail
  obtain ⟨T, hTe⟩ : ∃ T, w.heap.size = T := ⟨_, rfl⟩
  obtain ⟨P, hPe⟩ : ∃ P, T + 1 = P := ⟨_, rfl⟩
  obtain ⟨Z, hZe⟩ : ∃ Z, P + 1 = Z := ⟨_, rfl⟩
  rw [hTe, hPe, hZe] at hOF
  rw [hTe, hPe, hZe]
  have hZP : Z ≠ P := by omega
  have hZT : Z ≠ T := by omega
  generalize ((w.alloc (.cells #[.int .i64 2, .slice ao n cap] 102)).alloc (.cells #[.int .i64 c.who, .int .i64 c.op, .int .i64 c.v.t, .int .i64 c.v.n, .int .i64 c.fro, .int .i64 c.til] 80)).alloc (.cells #[.int .i64 0, .slice none 0 0] 102) = W at hOF ⊢
  clear hTe hPe hZe
  have z0 : W.cell? ⟨Z, 0, none⟩ = some (.int .i64 0) := cell_of_get hOF.head 0
  have z1 : W.cell? ⟨Z, 1, none⟩ = some (.slice none 0 0) := cell_of_get hOF.head 1
  have zf := free_of_get hOF.head
  have zl := lt_of_get hOF.head
  obtain ⟨p0, p1, p2, p3, p4, p5⟩ := cells6 hOF.tail.head
  simp only [Nat.zero_add] at p1 p2 p3 p4 p5
  have pl := lt_of_get hOF.tail.head
  have t0 : W.cell? ⟨T, 0, none⟩ = some (.int .i64 2) := cell_of_get hOF.tail.tail.head 0
  have t1 : W.cell? ⟨T, 1, none⟩ = some (.slice ao n cap) := cell_of_get hOF.tail.tail.head 1
  have tl := lt_of_get hOF.tail.tail.head
  have h1 := H1_.out
  rw [h1] at p1
  have hO8 := (outT hOF (.int .i64 2) (.slice (some ⟨W.heap.size, 0, none⟩) 1 1)).allocAt (Obj.cells #[.int .i64 c.v.t, .int .i64 c.v.n] 77 (0, 0)) (n := W.heap.size) (by simp)
  have HR8 := Lib.hid (tz hO8.tail.head)
  have HO8 := Lib.hid (hO8.shuf [[_], [_], [_], [_], F] [1, 2, 3, 0, 4] rfl rfl).tail.tail.tail
  clear hO8 hOF h1
  go_wp2
  obtain ⟨r0, r1⟩ := HR8.out
  refine bodyPost_ret (v := .tuple #[.agg #[.int .i64 2, .slice (some ⟨W.heap.size, 0, none⟩) 1 1], .bool true]) (by simp [results, Try.results69, go_sem, r0, r1]) rfl ?_
  exact with_mk _ ([(W.heap.size, Obj.cells #[.int .i64 c.v.t, .int .i64 c.v.n] 77 (0, 0))]) ([(W.heap.size, Obj.cells #[.int .i64 c.v.t, .int .i64 c.v.n] 77 (0, 0))]) HR rfl (.inr ⟨W.heap.size, 0, 1, _, rfl, rfl, by simp, by simp [maxLen], by simp, by simp⟩) (fun p hp => List.mem_append_left _ hp) HO8.out

set_option maxRecDepth 100000 in
set_option maxHeartbeats 2000000 in
theorem with_open (B : Nat) (w0 : World) (F : List (Nat × Obj)) (l : List V2) (v : Value) (Lt : List (Nat × Obj)) (c : C6) (w : World) (hS : Sl 77 2 C2 v (l) Lt) (hO : Own B w0 w F) (h1 : c.op ≠ 1) (h3 : c.til = 0) :
    Calls Try.prog 69 #[.agg #[.int .i64 2, v], agg6 c] w (WithPost B w0 F Lt 2 (withT 2 (l) c)) := by
  have HR := Lib.hid (withT_open (l := l) h1 h3)
  obtain ⟨ao, cap, rfl, hcap, hcm⟩ := hS.form
  obtain ⟨n, hn⟩ : ∃ n, (l).length = n := ⟨_, rfl⟩
  rw [hn] at hS hcap ⊢
  have H1_ := Lib.hid h1
  clear h1
  have H3_ := Lib.hid h3
  clear h3
  have hOF := ((hO.allocAt (obT 2 (.slice ao n cap)) (n := w.heap.size) rfl).allocAt (ob6 c) (n := w.heap.size + 1) (by simp)).allocAt (obT 0 (.slice none 0 0)) (n := w.heap.size + 1 + 1) (by simp)
  clear hO
  go_enter Try.func69, Try.ntmps69
  go_upto_region 1 with fail
  obtain ⟨T, hTe⟩ : ∃ T, w.heap.size = T := ⟨_, rfl⟩
  obtain ⟨P, hPe⟩ : ∃ P, T + 1 = P := ⟨_, rfl⟩
  obtain ⟨Z, hZe⟩ : ∃ Z, P + 1 = Z := ⟨_, rfl⟩
  rw [hTe, hPe, hZe] at hOF
  rw [hTe, hPe, hZe]
  have hZP : Z ≠ P := by omega
  have hZT : Z ≠ T := by omega
  generalize ((w.alloc (.cells #[.int .i64 2, .slice ao n cap] 102)).alloc (.cells #[.int .i64 c.who, .int .i64 c.op, .int .i64 c.v.t, .int .i64 c.v.n, .int .i64 c.fro, .int .i64 c.til] 80)).alloc (.cells #[.int .i64 0, .slice none 0 0] 102) = W at hOF ⊢
  clear hTe hPe hZe
  have z0 : W.cell? ⟨Z, 0, none⟩ = some (.int .i64 0) := cell_of_get hOF.head 0
  have z1 : W.cell? ⟨Z, 1, none⟩ = some (.slice none 0 0) := cell_of_get hOF.head 1
  have zf := free_of_get hOF.head
  have zl := lt_of_get hOF.head
  obtain ⟨p0, p1, p2, p3, p4, p5⟩ := cells6 hOF.tail.head
  simp only [Nat.zero_add] at p1 p2 p3 p4 p5
  have pl := lt_of_get hOF.tail.head
  have t0 : W.cell? ⟨T, 0, none⟩ = some (.int .i64 2) := cell_of_get hOF.tail.tail.head 0
  have t1 : W.cell? ⟨T, 1, none⟩ = some (.slice ao n cap) := cell_of_get hOF.tail.tail.head 1
  have tl := lt_of_get hOF.tail.tail.head
  have h1 := H1_.out
  have h3 := H3_.out
  have b1 : (c.op == 1) = false := by simp [h1]
  rw [h3] at p5
  clear h1 h3
  have hO8 := outT hOF (.int .i64 2) (.slice ao n cap)
  have HR8 := Lib.hid (tz hO8.head)
  have HO8 := Lib.hid hO8.tail.tail.tail
  have HS := Lib.hid hS
  clear hO8 hOF hS
  go_wp2
  obtain ⟨r0, r1⟩ := HR8.out
  refine bodyPost_ret (v := .tuple #[.agg #[.int .i64 2, .slice ao n cap], .bool true]) (by simp [results, Try.results69, go_sem, r0, r1]) rfl ?_
  exact with_mk _ (Lt) ([]) HR rfl HS.out (fun p hp => hp) HO8.out

set_option maxRecDepth 100000 in
set_option maxHeartbeats 2000000 in
theorem with_nil (B : Nat) (w0 : World) (F : List (Nat × Obj)) (kind : Int) (v : Value) (Lt : List (Nat × Obj)) (c : C6) (w : World) (hS : Sl 77 2 C2 v (([] : List V2)) Lt) (hO : Own B w0 w F) (hl : (([] : List V2)).length ≤ 100000) (h1 : c.op ≠ 1) (h3 : c.til ≠ 0) :
    Calls Try.prog 69 #[.agg #[.int .i64 kind, v], agg6 c] w (WithPost B w0 F Lt kind (withT kind (([] : List V2)) c)) := by
  have HR := Lib.hid (withT_nil (kind := kind) h1 (fun h => h3 h.1))
  obtain ⟨ao, cap, rfl, hcap, hcm⟩ := hS.form
  obtain ⟨n, hn⟩ : ∃ n, (([] : List V2)).length = n := ⟨_, rfl⟩
  rw [hn] at hS hcap hl ⊢
  have H1_ := Lib.hid h1
  clear h1
  have H3_ := Lib.hid h3
  clear h3
  have hOF := ((hO.allocAt (obT kind (.slice ao n cap)) (n := w.heap.size) rfl).allocAt (ob6 c) (n := w.heap.size + 1) (by simp)).allocAt (obT 0 (.slice none 0 0)) (n := w.heap.size + 1 + 1) (by simp)
  clear hO
  go_enter Try.func69, Try.ntmps69
  go_upto_region 1 with fail
  obtain ⟨T, hTe⟩ : ∃ T, w.heap.size = T := ⟨_, rfl⟩
  obtain ⟨P, hPe⟩ : ∃ P, T + 1 = P := ⟨_, rfl⟩
  obtain ⟨Z, hZe⟩ : ∃ Z, P + 1 = Z := ⟨_, rfl⟩
  rw [hTe, hPe, hZe] at hOF
  rw [hTe, hPe, hZe]
  have hZP : Z ≠ P := by omega
  have hZT : Z ≠ T := by omega
  generalize ((w.alloc (.cells #[.int .i64 kind, .slice ao n cap] 102)).alloc (.cells #[.int .i64 c.who, .int .i64 c.op, .int .i64 c.v.t, .int .i64 c.v.n, .int .i64 c.fro, .int .i64 c.til] 80)).alloc (.cells #[.int .i64 0, .slice none 0 0] 102) = W at hOF ⊢
  clear hTe hPe hZe
  have z0 : W.cell? ⟨Z, 0, none⟩ = some (.int .i64 0) := cell_of_get hOF.head 0
  have z1 : W.cell? ⟨Z, 1, none⟩ = some (.slice none 0 0) := cell_of_get hOF.head 1
  have zf := free_of_get hOF.head
  have zl := lt_of_get hOF.head
  obtain ⟨p0, p1, p2, p3, p4, p5⟩ := cells6 hOF.tail.head
  simp only [Nat.zero_add] at p1 p2 p3 p4 p5
  have pl := lt_of_get hOF.tail.head
  have t0 : W.cell? ⟨T, 0, none⟩ = some (.int .i64 kind) := cell_of_get hOF.tail.tail.head 0
  have t1 : W.cell? ⟨T, 1, none⟩ = some (.slice ao n cap) := cell_of_get hOF.tail.tail.head 1
  have tl := lt_of_get hOF.tail.tail.head
  have h1 := H1_.out
  have h3 := H3_.out
  have b1 : (c.op == 1) = false := by simp [h1]
  have b3 : (c.til == 0) = false := by simp [h3]
  clear h1 h3
  have hO8 := outT hOF (.int .i64 kind) (.slice ao n cap)
  have HR8 := Lib.hid (tz hO8.head)
  have HO8 := Lib.hid hO8.tail.tail.tail
  have HS := Lib.hid hS
  clear hO8 hOF hS
  obtain rfl : n = 0 := by simpa using hn.symm
  clear hn
  go_wp2
  obtain ⟨r0, r1⟩ := HR8.out
  refine bodyPost_ret (v := .tuple #[.agg #[.int .i64 kind, .slice ao 0 cap], .bool false]) (by simp [results, Try.results69, go_sem, r0, r1]) rfl ?_
  exact with_mk _ (Lt) ([]) HR rfl HS.out (fun p hp => hp) HO8.out

set_option maxRecDepth 100000 in
set_option maxHeartbeats 2000000 in
theorem with_nil0 (B : Nat) (w0 : World) (F : List (Nat × Obj)) (kind : Int) (v : Value) (Lt : List (Nat × Obj)) (c : C6) (w : World) (hS : Sl 77 2 C2 v (([] : List V2)) Lt) (hO : Own B w0 w F) (hl : (([] : List V2)).length ≤ 100000) (h1 : c.op ≠ 1) (h3 : c.til = 0) (h4 : kind ≠ 2) :
    Calls Try.prog 69 #[.agg #[.int .i64 kind, v], agg6 c] w (WithPost B w0 F Lt kind (withT kind (([] : List V2)) c)) := by
  have HR := Lib.hid (withT_nil (kind := kind) h1 (fun h => h4 h.2))
  obtain ⟨ao, cap, rfl, hcap, hcm⟩ := hS.form
  obtain ⟨n, hn⟩ : ∃ n, (([] : List V2)).length = n := ⟨_, rfl⟩
  rw [hn] at hS hcap hl ⊢
  have H1_ := Lib.hid h1
  clear h1
  have H3_ := Lib.hid h3
  clear h3
  have H4_ := Lib.hid h4
  clear h4
  have hOF := ((hO.allocAt (obT kind (.slice ao n cap)) (n := w.heap.size) rfl).allocAt (ob6 c) (n := w.heap.size + 1) (by simp)).allocAt (obT 0 (.slice none 0 0)) (n := w.heap.size + 1 + 1) (by simp)
  clear hO
  go_enter Try.func69, Try.ntmps69
  go_upto_region 1 with fail
  obtain ⟨T, hTe⟩ : ∃ T, w.heap.size = T := ⟨_, rfl⟩
  obtain ⟨P, hPe⟩ : ∃ P, T + 1 = P := ⟨_, rfl⟩
  obtain ⟨Z, hZe⟩ : ∃ Z, P + 1 = Z := ⟨_, rfl⟩
  rw [hTe, hPe, hZe] at hOF
  rw [hTe, hPe, hZe]
  have hZP : Z ≠ P := by omega
  have hZT : Z ≠ T := by omega
  generalize ((w.alloc (.cells #[.int .i64 kind, .slice ao n cap] 102)).alloc (.cells #[.int .i64 c.who, .int .i64 c.op, .int .i64 c.v.t, .int .i64 c.v.n, .int .i64 c.fro, .int .i64 c.til] 80)).alloc (.cells #[.int .i64 0, .slice none 0 0] 102) = W at hOF ⊢
  clear hTe hPe hZe
  have z0 : W.cell? ⟨Z, 0, none⟩ = some (.int .i64 0) := cell_of_get hOF.head 0
  have z1 : W.cell? ⟨Z, 1, none⟩ = some (.slice none 0 0) := cell_of_get hOF.head 1
  have zf := free_of_get hOF.head
  have zl := lt_of_get hOF.head
  obtain ⟨p0, p1, p2, p3, p4, p5⟩ := cells6 hOF.tail.head
  simp only [Nat.zero_add] at p1 p2 p3 p4 p5
  have pl := lt_of_get hOF.tail.head
  have t0 : W.cell? ⟨T, 0, none⟩ = some (.int .i64 kind) := cell_of_get hOF.tail.tail.head 0
  have t1 : W.cell? ⟨T, 1, none⟩ = some (.slice ao n cap) := cell_of_get hOF.tail.tail.head 1
  have tl := lt_of_get hOF.tail.tail.head
  have h1 := H1_.out
  have h3 := H3_.out
  have h4 := H4_.out
  have b1 : (c.op == 1) = false := by simp [h1]
  have b4 : (kind == 2) = false := by simp [h4]
  rw [h3] at p5
  clear h1 h3 h4
  have hO8 := outT hOF (.int .i64 kind) (.slice ao n cap)
  have HR8 := Lib.hid (tz hO8.head)
  have HO8 := Lib.hid hO8.tail.tail.tail
  have HS := Lib.hid hS
  clear hO8 hOF hS
  obtain rfl : n = 0 := by simpa using hn.symm
  clear hn
  go_wp2
  obtain ⟨r0, r1⟩ := HR8.out
  refine bodyPost_ret (v := .tuple #[.agg #[.int .i64 kind, .slice ao 0 cap], .bool false]) (by simp [results, Try.results69, go_sem, r0, r1]) rfl ?_
  exact with_mk _ (Lt) ([]) HR rfl HS.out (fun p hp => hp) HO8.out

set_option maxRecDepth 100000 in
set_option maxHeartbeats 2000000 in
theorem with_refT (B : Nat) (w0 : World) (F : List (Nat × Obj)) (kind : Int) (x : V2) (r : List V2) (v : Value) (Lt : List (Nat × Obj)) (c : C6) (w : World) (hS : Sl 77 2 C2 v (x :: r) Lt) (hL : ∀ p ∈ Lt, p ∈ F) (hO : Own B w0 w F) (hl : (x :: r).length ≤ 100000) (h1 : c.op ≠ 1) (h3 : c.til ≠ 0) (h5 : x.t ≠ c.v.t) :
    Calls Try.prog 69 #[.agg #[.int .i64 kind, v], agg6 c] w (WithPost B w0 F Lt kind (withT kind (x :: r) c)) := by
  have HR := Lib.hid (show withT kind (x :: r) c = (x :: r, false) by
    rw [withT_cons h1 (fun h => h3 h.1), if_pos ⟨h3, fun e => h5 (by rw [e])⟩])
  obtain ⟨ao, cap, rfl, hcap, hcm⟩ := hS.form
  obtain ⟨n, hn⟩ : ∃ n, (x :: r).length = n := ⟨_, rfl⟩
  rw [hn] at hS hcap hl ⊢
  have H1_ := Lib.hid h1
  clear h1
  have H3_ := Lib.hid h3
  clear h3
  have H5_ := Lib.hid h5
  clear h5
  have hOF := ((hO.allocAt (obT kind (.slice ao n cap)) (n := w.heap.size) rfl).allocAt (ob6 c) (n := w.heap.size + 1) (by simp)).allocAt (obT 0 (.slice none 0 0)) (n := w.heap.size + 1 + 1) (by simp)
  clear hO
  go_enter Try.func69, Try.ntmps69
  go_upto_region 1 with fail
  obtain ⟨T, hTe⟩ : ∃ T, w.heap.size = T := ⟨_, rfl⟩
  obtain ⟨P, hPe⟩ : ∃ P, T + 1 = P := ⟨_, rfl⟩
  obtain ⟨Z, hZe⟩ : ∃ Z, P + 1 = Z := ⟨_, rfl⟩
  rw [hTe, hPe, hZe] at hOF
  rw [hTe, hPe, hZe]
  have hZP : Z ≠ P := by omega
  have hZT : Z ≠ T := by omega
  generalize ((w.alloc (.cells #[.int .i64 kind, .slice ao n cap] 102)).alloc (.cells #[.int .i64 c.who, .int .i64 c.op, .int .i64 c.v.t, .int .i64 c.v.n, .int .i64 c.fro, .int .i64 c.til] 80)).alloc (.cells #[.int .i64 0, .slice none 0 0] 102) = W at hOF ⊢
  clear hTe hPe hZe
  have z0 : W.cell? ⟨Z, 0, none⟩ = some (.int .i64 0) := cell_of_get hOF.head 0
  have z1 : W.cell? ⟨Z, 1, none⟩ = some (.slice none 0 0) := cell_of_get hOF.head 1
  have zf := free_of_get hOF.head
  have zl := lt_of_get hOF.head
  obtain ⟨p0, p1, p2, p3, p4, p5⟩ := cells6 hOF.tail.head
  simp only [Nat.zero_add] at p1 p2 p3 p4 p5
  have pl := lt_of_get hOF.tail.head
  have t0 : W.cell? ⟨T, 0, none⟩ = some (.int .i64 kind) := cell_of_get hOF.tail.tail.head 0
  have t1 : W.cell? ⟨T, 1, none⟩ = some (.slice ao n cap) := cell_of_get hOF.tail.tail.head 1
  have tl := lt_of_get hOF.tail.tail.head
  have h1 := H1_.out
  have h3 := H3_.out
  have h5 := H5_.out
  obtain ⟨g, off, cap', cur, hv, rfl, hc1, hc2, hcase⟩ := sl_first C2_len hS
  have hrd := sl_rd6 (w := W) hS (fun p hp => hOF.get p (List.mem_cons_of_mem _ (List.mem_cons_of_mem _ (List.mem_cons_of_mem _ (hL p hp)))))
  rcases hrd with ⟨h, _⟩ | ⟨g', off', cap2, he, hcell⟩
  · cases h
  simp only [Value.slice.injEq] at hv
  obtain ⟨rfl, hv2, rfl⟩ := hv
  simp only [Value.slice.injEq, Option.some.injEq, Addr.mk.injEq, and_true] at he
  obtain ⟨⟨rfl, rfl⟩, hle, rfl⟩ := he
  have d0 : W.cell? ⟨g, off, none⟩ = some (.int .i64 x.t) := hcell 0 _ rfl
  have d1 : W.cell? ⟨g, off + 1, none⟩ = some (.int .i64 x.n) := hcell 1 _ rfl
  have gl : g < W.heap.size := World.block_lt_of_cell? _ _ d0
  have hnp : (0 : Int) < n := by rw [hv2]; omega
  have hnp1 : (1 : Int) ≤ n := by omega
  have hcn : (n : Int) ≤ cap := by omega
  have hnb : ((n : Int) == 0) = false := by simp; omega
  clear hle hcell
  have b1 : (c.op == 1) = false := by simp [h1]
  have b3 : (c.til == 0) = false := by simp [h3]
  have b4 : (c.til != 0) = true := by simp [h3]
  have b5 : (x.t == c.v.t) = false := by simp [h5]
  have b6 : (x.t != c.v.t) = true := by simp [h5]
  clear h1 h3 h5
  have HS := Lib.hid hS
  have HOF := Lib.hid hOF
  clear hOF hS hL hcase hc1 hc2 hcap hcm hv2 hn
  go_upto_region 9 with fail
  go_quiet (fail)
  have hO8 := outT (HOF.out.drewN nq) (.int .i64 kind) (.slice (some ⟨g, off, none⟩) n cap)
  have HR8 := Lib.hid (tz hO8.head)
  have HO8 := Lib.hid hO8.tail.tail.tail
  clear hO8
  go_wp2
  obtain ⟨r0, r1⟩ := HR8.out
  refine bodyPost_ret (v := .tuple #[.agg #[.int .i64 kind, .slice (some ⟨g, off, none⟩) n cap], .bool false]) (by simp [results, Try.results69, go_sem, r0, r1]) rfl ?_
  exact with_mk _ ([(g, Obj.cells cur 77 (0, 0))]) ([]) HR rfl HS.out (fun p hp => hp) HO8.out

set_option maxRecDepth 100000 in
set_option maxHeartbeats 2000000 in
theorem with_refN (B : Nat) (w0 : World) (F : List (Nat × Obj)) (kind : Int) (x : V2) (r : List V2) (v : Value) (Lt : List (Nat × Obj)) (c : C6) (w : World) (hS : Sl 77 2 C2 v (x :: r) Lt) (hL : ∀ p ∈ Lt, p ∈ F) (hO : Own B w0 w F) (hl : (x :: r).length ≤ 100000) (h1 : c.op ≠ 1) (h3 : c.til ≠ 0) (h5 : x.t = c.v.t) (h6 : x.n ≠ c.v.n) :
    Calls Try.prog 69 #[.agg #[.int .i64 kind, v], agg6 c] w (WithPost B w0 F Lt kind (withT kind (x :: r) c)) := by
  have HR := Lib.hid (show withT kind (x :: r) c = (x :: r, false) by
    rw [withT_cons h1 (fun h => h3 h.1), if_pos ⟨h3, fun e => h6 (by rw [e])⟩])
  obtain ⟨ao, cap, rfl, hcap, hcm⟩ := hS.form
  obtain ⟨n, hn⟩ : ∃ n, (x :: r).length = n := ⟨_, rfl⟩
  rw [hn] at hS hcap hl ⊢
  have H1_ := Lib.hid h1
  clear h1
  have H3_ := Lib.hid h3
  clear h3
  have H5_ := Lib.hid h5
  clear h5
  have H6_ := Lib.hid h6
  clear h6
  have hOF := ((hO.allocAt (obT kind (.slice ao n cap)) (n := w.heap.size) rfl).allocAt (ob6 c) (n := w.heap.size + 1) (by simp)).allocAt (obT 0 (.slice none 0 0)) (n := w.heap.size + 1 + 1) (by simp)
  clear hO
  go_enter Try.func69, Try.ntmps69
  go_upto_region 1 with fail
  obtain ⟨T, hTe⟩ : ∃ T, w.heap.size = T := ⟨_, rfl⟩
  obtain ⟨P, hPe⟩ : ∃ P, T + 1 = P := ⟨_, rfl⟩
  obtain ⟨Z, hZe⟩ : ∃ Z, P + 1 = Z := ⟨_, rfl⟩
  rw [hTe, hPe, hZe] at hOF
  rw [hTe, hPe, hZe]
  have hZP : Z ≠ P := by omega
  have hZT : Z ≠ T := by omega
  generalize ((w.alloc (.cells #[.int .i64 kind, .slice ao n cap] 102)).alloc (.cells #[.int .i64 c.who, .int .i64 c.op, .int .i64 c.v.t, .int .i64 c.v.n, .int .i64 c.fro, .int .i64 c.til] 80)).alloc (.cells #[.int .i64 0, .slice none 0 0] 102) = W at hOF ⊢
  clear hTe hPe hZe
  have z0 : W.cell? ⟨Z, 0, none⟩ = some (.int .i64 0) := cell_of_get hOF.head 0
  have z1 : W.cell? ⟨Z, 1, none⟩ = some (.slice none 0 0) := cell_of_get hOF.head 1
  have zf := free_of_get hOF.head
  have zl := lt_of_get hOF.head
  obtain ⟨p0, p1, p2, p3, p4, p5⟩ := cells6 hOF.tail.head
  simp only [Nat.zero_add] at p1 p2 p3 p4 p5
  have pl := lt_of_get hOF.tail.head
  have t0 : W.cell? ⟨T, 0, none⟩ = some (.int .i64 kind) := cell_of_get hOF.tail.tail.head 0
  have t1 : W.cell? ⟨T, 1, none⟩ = some (.slice ao n cap) := cell_of_get hOF.tail.tail.head 1
  have tl := lt_of_get hOF.tail.tail.head
  have h1 := H1_.out
  have h3 := H3_.out
  have h5 := H5_.out
  have h6 := H6_.out
  obtain ⟨g, off, cap', cur, hv, rfl, hc1, hc2, hcase⟩ := sl_first C2_len hS
  have hrd := sl_rd6 (w := W) hS (fun p hp => hOF.get p (List.mem_cons_of_mem _ (List.mem_cons_of_mem _ (List.mem_cons_of_mem _ (hL p hp)))))
  rcases hrd with ⟨h, _⟩ | ⟨g', off', cap2, he, hcell⟩
  · cases h
  simp only [Value.slice.injEq] at hv
  obtain ⟨rfl, hv2, rfl⟩ := hv
  simp only [Value.slice.injEq, Option.some.injEq, Addr.mk.injEq, and_true] at he
  obtain ⟨⟨rfl, rfl⟩, hle, rfl⟩ := he
  have d0 : W.cell? ⟨g, off, none⟩ = some (.int .i64 x.t) := hcell 0 _ rfl
  have d1 : W.cell? ⟨g, off + 1, none⟩ = some (.int .i64 x.n) := hcell 1 _ rfl
  have gl : g < W.heap.size := World.block_lt_of_cell? _ _ d0
  have hnp : (0 : Int) < n := by rw [hv2]; omega
  have hnp1 : (1 : Int) ≤ n := by omega
  have hcn : (n : Int) ≤ cap := by omega
  have hnb : ((n : Int) == 0) = false := by simp; omega
  clear hle hcell
  have b1 : (c.op == 1) = false := by simp [h1]
  have b3 : (c.til == 0) = false := by simp [h3]
  have b4 : (c.til != 0) = true := by simp [h3]
  rw [h5] at d0
  have b5 : (x.n == c.v.n) = false := by simp [h6]
  have b6 : (x.n != c.v.n) = true := by simp [h6]
  clear h6
  clear h1 h3 h5
  have HS := Lib.hid hS
  have HOF := Lib.hid hOF
  clear hOF hS hL hcase hc1 hc2 hcap hcm hv2 hn
  go_upto_region 9 with fail
  go_quiet (fail)
  have hO8 := outT (HOF.out.drewN nq) (.int .i64 kind) (.slice (some ⟨g, off, none⟩) n cap)
  have HR8 := Lib.hid (tz hO8.head)
  have HO8 := Lib.hid hO8.tail.tail.tail
  clear hO8
  go_wp2
  obtain ⟨r0, r1⟩ := HR8.out
  refine bodyPost_ret (v := .tuple #[.agg #[.int .i64 kind, .slice (some ⟨g, off, none⟩) n cap], .bool false]) (by simp [results, Try.results69, go_sem, r0, r1]) rfl ?_
  exact with_mk _ ([(g, Obj.cells cur 77 (0, 0))]) ([]) HR rfl HS.out (fun p hp => hp) HO8.out

set_option maxRecDepth 100000 in
set_option maxHeartbeats 2000000 in
theorem with_regV (B : Nat) (w0 : World) (F : List (Nat × Obj)) (x : V2) (r : List V2) (v : Value) (Lt : List (Nat × Obj)) (c : C6) (w : World) (hS : Sl 77 2 C2 v (x :: r) Lt) (hL : ∀ p ∈ Lt, p ∈ F) (hO : Own B w0 w F) (hl : (x :: r).length ≤ 100000) (h1 : c.op ≠ 1) (h3 : c.til ≠ 0) (h5 : x = c.v) :
    Calls Try.prog 69 #[.agg #[.int .i64 2, v], agg6 c] w (WithPost B w0 F Lt 2 (withT 2 (x :: r) c)) := by
  have HR := Lib.hid (show withT 2 (x :: r) c = (x :: r, true) by
    rw [withT_cons h1 (fun h => h3 h.1), if_neg (fun h => h.2 h5), if_pos rfl])
  obtain ⟨ao, cap, rfl, hcap, hcm⟩ := hS.form
  obtain ⟨n, hn⟩ : ∃ n, (x :: r).length = n := ⟨_, rfl⟩
  rw [hn] at hS hcap hl ⊢
  have H1_ := Lib.hid h1
  clear h1
  have H3_ := Lib.hid h3
  clear h3
  have H5_ := Lib.hid h5
  clear h5
  have hOF := ((hO.allocAt (obT 2 (.slice ao n cap)) (n := w.heap.size) rfl).allocAt (ob6 c) (n := w.heap.size + 1) (by simp)).allocAt (obT 0 (.slice none 0 0)) (n := w.heap.size + 1 + 1) (by simp)
  clear hO
  go_enter Try.func69, Try.ntmps69
  go_upto_region 1 with fail
  obtain ⟨T, hTe⟩ : ∃ T, w.heap.size = T := ⟨_, rfl⟩
  obtain ⟨P, hPe⟩ : ∃ P, T + 1 = P := ⟨_, rfl⟩
  obtain ⟨Z, hZe⟩ : ∃ Z, P + 1 = Z := ⟨_, rfl⟩
  rw [hTe, hPe, hZe] at hOF
  rw [hTe, hPe, hZe]
  have hZP : Z ≠ P := by omega
  have hZT : Z ≠ T := by omega
  generalize ((w.alloc (.cells #[.int .i64 2, .slice ao n cap] 102)).alloc (.cells #[.int .i64 c.who, .int .i64 c.op, .int .i64 c.v.t, .int .i64 c.v.n, .int .i64 c.fro, .int .i64 c.til] 80)).alloc (.cells #[.int .i64 0, .slice none 0 0] 102) = W at hOF ⊢
  clear hTe hPe hZe
  have z0 : W.cell? ⟨Z, 0, none⟩ = some (.int .i64 0) := cell_of_get hOF.head 0
  have z1 : W.cell? ⟨Z, 1, none⟩ = some (.slice none 0 0) := cell_of_get hOF.head 1
  have zf := free_of_get hOF.head
  have zl := lt_of_get hOF.head
  obtain ⟨p0, p1, p2, p3, p4, p5⟩ := cells6 hOF.tail.head
  simp only [Nat.zero_add] at p1 p2 p3 p4 p5
  have pl := lt_of_get hOF.tail.head
  have t0 : W.cell? ⟨T, 0, none⟩ = some (.int .i64 2) := cell_of_get hOF.tail.tail.head 0
  have t1 : W.cell? ⟨T, 1, none⟩ = some (.slice ao n cap) := cell_of_get hOF.tail.tail.head 1
  have tl := lt_of_get hOF.tail.tail.head
  have h1 := H1_.out
  have h3 := H3_.out
  have h5 := H5_.out
  obtain ⟨g, off, cap', cur, hv, rfl, hc1, hc2, hcase⟩ := sl_first C2_len hS
  have hrd := sl_rd6 (w := W) hS (fun p hp => hOF.get p (List.mem_cons_of_mem _ (List.mem_cons_of_mem _ (List.mem_cons_of_mem _ (hL p hp)))))
  rcases hrd with ⟨h, _⟩ | ⟨g', off', cap2, he, hcell⟩
  · cases h
  simp only [Value.slice.injEq] at hv
  obtain ⟨rfl, hv2, rfl⟩ := hv
  simp only [Value.slice.injEq, Option.some.injEq, Addr.mk.injEq, and_true] at he
  obtain ⟨⟨rfl, rfl⟩, hle, rfl⟩ := he
  have d0 : W.cell? ⟨g, off, none⟩ = some (.int .i64 x.t) := hcell 0 _ rfl
  have d1 : W.cell? ⟨g, off + 1, none⟩ = some (.int .i64 x.n) := hcell 1 _ rfl
  have gl : g < W.heap.size := World.block_lt_of_cell? _ _ d0
  have hnp : (0 : Int) < n := by rw [hv2]; omega
  have hnp1 : (1 : Int) ≤ n := by omega
  have hcn : (n : Int) ≤ cap := by omega
  have hnb : ((n : Int) == 0) = false := by simp; omega
  clear hle hcell
  have b1 : (c.op == 1) = false := by simp [h1]
  have b3 : (c.til == 0) = false := by simp [h3]
  have b4 : (c.til != 0) = true := by simp [h3]
  subst h5
  clear h1 h3
  have HS := Lib.hid hS
  have HOF := Lib.hid hOF
  clear hOF hS hL hcase hc1 hc2 hcap hcm hv2 hn
  go_upto_region 9 with fail
  go_quiet (fail)
  have hO8 := outT (HOF.out.drewN nq) (.int .i64 2) (.slice (some ⟨g, off, none⟩) n cap)
  have HR8 := Lib.hid (tz hO8.head)
  have HO8 := Lib.hid hO8.tail.tail.tail
  clear hO8
  go_wp2
  obtain ⟨r0, r1⟩ := HR8.out
  refine bodyPost_ret (v := .tuple #[.agg #[.int .i64 2, .slice (some ⟨g, off, none⟩) n cap], .bool true]) (by simp [results, Try.results69, go_sem, r0, r1]) rfl ?_
  exact with_mk _ ([(g, Obj.cells cur 77 (0, 0))]) ([]) HR rfl HS.out (fun p hp => hp) HO8.out

set_option maxRecDepth 100000 in
set_option maxHeartbeats 2000000 in
theorem with_takeV (B : Nat) (w0 : World) (F : List (Nat × Obj)) (kind : Int) (x : V2) (r : List V2) (v : Value) (Lt : List (Nat × Obj)) (c : C6) (w : World) (hS : Sl 77 2 C2 v (x :: r) Lt) (hL : ∀ p ∈ Lt, p ∈ F) (hO : Own B w0 w F) (hl : (x :: r).length ≤ 100000) (h1 : c.op ≠ 1) (h2 : kind ≠ 2) (h3 : c.til ≠ 0) (h5 : x = c.v) :
    Calls Try.prog 69 #[.agg #[.int .i64 kind, v], agg6 c] w (WithPost B w0 F Lt kind (withT kind (x :: r) c)) := by
  have HR := Lib.hid (show withT kind (x :: r) c = (r, true) by
    rw [withT_cons h1 (fun h => h3 h.1), if_neg (fun h => h.2 h5), if_neg h2])
  obtain ⟨ao, cap, rfl, hcap, hcm⟩ := hS.form
  obtain ⟨n, hn⟩ : ∃ n, (x :: r).length = n := ⟨_, rfl⟩
  rw [hn] at hS hcap hl ⊢
  have H1_ := Lib.hid h1
  clear h1
  have H2_ := Lib.hid h2
  clear h2
  have H3_ := Lib.hid h3
  clear h3
  have H5_ := Lib.hid h5
  clear h5
  have hOF := ((hO.allocAt (obT kind (.slice ao n cap)) (n := w.heap.size) rfl).allocAt (ob6 c) (n := w.heap.size + 1) (by simp)).allocAt (obT 0 (.slice none 0 0)) (n := w.heap.size + 1 + 1) (by simp)
  clear hO
  go_enter Try.func69, Try.ntmps69
  go_upto_region 1 with fail
  obtain ⟨T, hTe⟩ : ∃ T, w.heap.size = T := ⟨_, rfl⟩
  obtain ⟨P, hPe⟩ : ∃ P, T + 1 = P := ⟨_, rfl⟩
  obtain ⟨Z, hZe⟩ : ∃ Z, P + 1 = Z := ⟨_, rfl⟩
  rw [hTe, hPe, hZe] at hOF
  rw [hTe, hPe, hZe]
  have hZP : Z ≠ P := by omega
  have hZT : Z ≠ T := by omega
  generalize ((w.alloc (.cells #[.int .i64 kind, .slice ao n cap] 102)).alloc (.cells #[.int .i64 c.who, .int .i64 c.op, .int .i64 c.v.t, .int .i64 c.v.n, .int .i64 c.fro, .int .i64 c.til] 80)).alloc (.cells #[.int .i64 0, .slice none 0 0] 102) = W at hOF ⊢
  clear hTe hPe hZe
  have z0 : W.cell? ⟨Z, 0, none⟩ = some (.int .i64 0) := cell_of_get hOF.head 0
  have z1 : W.cell? ⟨Z, 1, none⟩ = some (.slice none 0 0) := cell_of_get hOF.head 1
  have zf := free_of_get hOF.head
  have zl := lt_of_get hOF.head
  obtain ⟨p0, p1, p2, p3, p4, p5⟩ := cells6 hOF.tail.head
  simp only [Nat.zero_add] at p1 p2 p3 p4 p5
  have pl := lt_of_get hOF.tail.head
  have t0 : W.cell? ⟨T, 0, none⟩ = some (.int .i64 kind) := cell_of_get hOF.tail.tail.head 0
  have t1 : W.cell? ⟨T, 1, none⟩ = some (.slice ao n cap) := cell_of_get hOF.tail.tail.head 1
  have tl := lt_of_get hOF.tail.tail.head
  have h1 := H1_.out
  have h2 := H2_.out
  have h3 := H3_.out
  have h5 := H5_.out
  obtain ⟨g, off, cap', cur, hv, rfl, hc1, hc2, hcase⟩ := sl_first C2_len hS
  have hrd := sl_rd6 (w := W) hS (fun p hp => hOF.get p (List.mem_cons_of_mem _ (List.mem_cons_of_mem _ (List.mem_cons_of_mem _ (hL p hp)))))
  rcases hrd with ⟨h, _⟩ | ⟨g', off', cap2, he, hcell⟩
  · cases h
  simp only [Value.slice.injEq] at hv
  obtain ⟨rfl, hv2, rfl⟩ := hv
  simp only [Value.slice.injEq, Option.some.injEq, Addr.mk.injEq, and_true] at he
  obtain ⟨⟨rfl, rfl⟩, hle, rfl⟩ := he
  have d0 : W.cell? ⟨g, off, none⟩ = some (.int .i64 x.t) := hcell 0 _ rfl
  have d1 : W.cell? ⟨g, off + 1, none⟩ = some (.int .i64 x.n) := hcell 1 _ rfl
  have gl : g < W.heap.size := World.block_lt_of_cell? _ _ d0
  have hnp : (0 : Int) < n := by rw [hv2]; omega
  have hnp1 : (1 : Int) ≤ n := by omega
  have hcn : (n : Int) ≤ cap := by omega
  have hnb : ((n : Int) == 0) = false := by simp; omega
  clear hle hcell
  have b1 : (c.op == 1) = false := by simp [h1]
  have b2 : (kind == 2) = false := by simp [h2]
  have b3 : (c.til == 0) = false := by simp [h3]
  have b4 : (c.til != 0) = true := by simp [h3]
  subst h5
  clear h1 h3 h2
  have HOF := Lib.hid hOF
  have HCM := Lib.hid hcm
  have hnr : n - 1 = r.length := by omega
  have HCASE := Lib.hid hcase
  clear hOF hS hL hcase hc1 hc2 hcm hn
  go_upto_region 9 with fail
  go_quiet (fail)
  have hO7 := HOF.out.drewN nq
  go_upto_region 13 with fail
  generalize W.drewN nq = W2 at hO7 ⊢
  clear z0 z1 zf zl p0 p1 p2 p3 p4 p5 pl t0 t1 tl d0 d1 gl
  have z0 : W2.cell? ⟨Z, 0, none⟩ = some (.int .i64 0) := cell_of_get hO7.head 0
  have z1 : W2.cell? ⟨Z, 1, none⟩ = some (.slice none 0 0) := cell_of_get hO7.head 1
  have zf := free_of_get hO7.head
  have zl := lt_of_get hO7.head
  have t0 : W2.cell? ⟨T, 0, none⟩ = some (.int .i64 kind) := cell_of_get hO7.tail.tail.head 0
  have t1 : W2.cell? ⟨T, 1, none⟩ = some (.slice (some ⟨g, off, none⟩) n cap) := cell_of_get hO7.tail.tail.head 1
  have tl := lt_of_get hO7.tail.tail.head
  have HO7 := Lib.hid hO7
  clear hO7
  rcases HCASE.out with ⟨rfl, hr0, hS⟩ | ⟨hc, hS⟩
  · obtain rfl : n = 1 := by omega
    have HS := Lib.hid hS
    clear hS hv2
    go_region
    all_goals
      have hO8 := (outT HO7.out (.int .i64 kind) (.slice (some ⟨g, off, none⟩) 0 0)).drew
      have HR8 := Lib.hid (show _ ∧ _ from ⟨cell_of_get (HO7.out.setTo 0 (.int .i64 kind) rfl).head 0, cell_of_get (outT HO7.out (.int .i64 kind) (.slice (some ⟨g, off, none⟩) 0 0)).head 1⟩)
      have HO8 := Lib.hid hO8.tail.tail.tail
      clear hO8
      go_wp2
      obtain ⟨r0, r1⟩ := HR8.out
      refine bodyPost_ret (v := .tuple #[.agg #[.int .i64 kind, .slice (some ⟨g, off, none⟩) 0 0], .bool true]) (by simp [results, Try.results69, go_sem, r0, r1]) rfl ?_
      exact with_mk _ ([(g, Obj.cells cur 77 (0, 0))]) ([]) HR rfl HS.out (fun p hp => hp) HO8.out
  · have HS := Lib.hid hS
    clear hS hv2
    go_region
    all_goals
      have hO8 := (outT HO7.out (.int .i64 kind) (.slice (some ⟨g, off + 2, none⟩) r.length (cap - 1))).drew
      have HR8 := Lib.hid (show _ ∧ _ from ⟨cell_of_get (HO7.out.setTo 0 (.int .i64 kind) rfl).head 0, cell_of_get (outT HO7.out (.int .i64 kind) (.slice (some ⟨g, off + 2, none⟩) r.length (cap - 1))).head 1⟩)
      have HO8 := Lib.hid hO8.tail.tail.tail
      clear hO8
      go_wp2
      obtain ⟨r0, r1⟩ := HR8.out
      refine bodyPost_ret (v := .tuple #[.agg #[.int .i64 kind, .slice (some ⟨g, off + 2, none⟩) r.length (cap - 1)], .bool true]) (by simp [results, Try.results69, go_sem, r0, r1]) rfl ?_
      exact with_mk _ ([(g, Obj.cells cur 77 (0, 0))]) ([]) HR rfl HS.out (fun p hp => hp) HO8.out

set_option maxRecDepth 100000 in
set_option maxHeartbeats 2000000 in
theorem with_takeO (B : Nat) (w0 : World) (F : List (Nat × Obj)) (kind : Int) (x : V2) (r : List V2) (v : Value) (Lt : List (Nat × Obj)) (c : C6) (w : World) (hS : Sl 77 2 C2 v (x :: r) Lt) (hL : ∀ p ∈ Lt, p ∈ F) (hO : Own B w0 w F) (hl : (x :: r).length ≤ 100000) (h1 : c.op ≠ 1) (h2 : kind ≠ 2) (h3 : c.til = 0) :
    Calls Try.prog 69 #[.agg #[.int .i64 kind, v], agg6 c] w (WithPost B w0 F Lt kind (withT kind (x :: r) c)) := by
  have HR := Lib.hid (show withT kind (x :: r) c = (r, true) by
    rw [withT_cons h1 (fun h => h2 h.2), if_neg (fun h => h.1 h3), if_neg h2])
  obtain ⟨ao, cap, rfl, hcap, hcm⟩ := hS.form
  obtain ⟨n, hn⟩ : ∃ n, (x :: r).length = n := ⟨_, rfl⟩
  rw [hn] at hS hcap hl ⊢
  have H1_ := Lib.hid h1
  clear h1
  have H2_ := Lib.hid h2
  clear h2
  have H3_ := Lib.hid h3
  clear h3
  have hOF := ((hO.allocAt (obT kind (.slice ao n cap)) (n := w.heap.size) rfl).allocAt (ob6 c) (n := w.heap.size + 1) (by simp)).allocAt (obT 0 (.slice none 0 0)) (n := w.heap.size + 1 + 1) (by simp)
  clear hO
  go_enter Try.func69, Try.ntmps69
  go_upto_region 1 with fail
  obtain ⟨T, hTe⟩ : ∃ T, w.heap.size = T := ⟨_, rfl⟩
  obtain ⟨P, hPe⟩ : ∃ P, T + 1 = P := ⟨_, rfl⟩
  obtain ⟨Z, hZe⟩ : ∃ Z, P + 1 = Z := ⟨_, rfl⟩
  rw [hTe, hPe, hZe] at hOF
  rw [hTe, hPe, hZe]
  have hZP : Z ≠ P := by omega
  have hZT : Z ≠ T := by omega
  generalize ((w.alloc (.cells #[.int .i64 kind, .slice ao n cap] 102)).alloc (.cells #[.int .i64 c.who, .int .i64 c.op, .int .i64 c.v.t, .int .i64 c.v.n, .int .i64 c.fro, .int .i64 c.til] 80)).alloc (.cells #[.int .i64 0, .slice none 0 0] 102) = W at hOF ⊢
  clear hTe hPe hZe
  have z0 : W.cell? ⟨Z, 0, none⟩ = some (.int .i64 0) := cell_of_get hOF.head 0
  have z1 : W.cell? ⟨Z, 1, none⟩ = some (.slice none 0 0) := cell_of_get hOF.head 1
  have zf := free_of_get hOF.head
  have zl := lt_of_get hOF.head
  obtain ⟨p0, p1, p2, p3, p4, p5⟩ := cells6 hOF.tail.head
  simp only [Nat.zero_add] at p1 p2 p3 p4 p5
  have pl := lt_of_get hOF.tail.head
  have t0 : W.cell? ⟨T, 0, none⟩ = some (.int .i64 kind) := cell_of_get hOF.tail.tail.head 0
  have t1 : W.cell? ⟨T, 1, none⟩ = some (.slice ao n cap) := cell_of_get hOF.tail.tail.head 1
  have tl := lt_of_get hOF.tail.tail.head
  have h1 := H1_.out
  have h2 := H2_.out
  have h3 := H3_.out
  obtain ⟨g, off, cap', cur, hv, rfl, hc1, hc2, hcase⟩ := sl_first C2_len hS
  have hrd := sl_rd6 (w := W) hS (fun p hp => hOF.get p (List.mem_cons_of_mem _ (List.mem_cons_of_mem _ (List.mem_cons_of_mem _ (hL p hp)))))
  rcases hrd with ⟨h, _⟩ | ⟨g', off', cap2, he, hcell⟩
  · cases h
  simp only [Value.slice.injEq] at hv
  obtain ⟨rfl, hv2, rfl⟩ := hv
  simp only [Value.slice.injEq, Option.some.injEq, Addr.mk.injEq, and_true] at he
  obtain ⟨⟨rfl, rfl⟩, hle, rfl⟩ := he
  have d0 : W.cell? ⟨g, off, none⟩ = some (.int .i64 x.t) := hcell 0 _ rfl
  have d1 : W.cell? ⟨g, off + 1, none⟩ = some (.int .i64 x.n) := hcell 1 _ rfl
  have gl : g < W.heap.size := World.block_lt_of_cell? _ _ d0
  have hnp : (0 : Int) < n := by rw [hv2]; omega
  have hnp1 : (1 : Int) ≤ n := by omega
  have hcn : (n : Int) ≤ cap := by omega
  have hnb : ((n : Int) == 0) = false := by simp; omega
  clear hle hcell
  have b1 : (c.op == 1) = false := by simp [h1]
  have b2 : (kind == 2) = false := by simp [h2]
  rw [h3] at p5
  clear h1 h3 h2
  have HOF := Lib.hid hOF
  have HCM := Lib.hid hcm
  have hnr : n - 1 = r.length := by omega
  have HCASE := Lib.hid hcase
  clear hOF hS hL hcase hc1 hc2 hcm hn
  go_upto_region 9 with fail
  go_quiet (fail)
  have hO7 := HOF.out.drewN nq
  go_upto_region 13 with fail
  generalize W.drewN nq = W2 at hO7 ⊢
  clear z0 z1 zf zl p0 p1 p2 p3 p4 p5 pl t0 t1 tl d0 d1 gl
  have z0 : W2.cell? ⟨Z, 0, none⟩ = some (.int .i64 0) := cell_of_get hO7.head 0
  have z1 : W2.cell? ⟨Z, 1, none⟩ = some (.slice none 0 0) := cell_of_get hO7.head 1
  have zf := free_of_get hO7.head
  have zl := lt_of_get hO7.head
  have t0 : W2.cell? ⟨T, 0, none⟩ = some (.int .i64 kind) := cell_of_get hO7.tail.tail.head 0
  have t1 : W2.cell? ⟨T, 1, none⟩ = some (.slice (some ⟨g, off, none⟩) n cap) := cell_of_get hO7.tail.tail.head 1
  have tl := lt_of_get hO7.tail.tail.head
  have HO7 := Lib.hid hO7
  clear hO7
  rcases HCASE.out with ⟨rfl, hr0, hS⟩ | ⟨hc, hS⟩
  · obtain rfl : n = 1 := by omega
    have HS := Lib.hid hS
    clear hS hv2
    go_region
    all_goals
      have hO8 := (outT HO7.out (.int .i64 kind) (.slice (some ⟨g, off, none⟩) 0 0)).drew
      have HR8 := Lib.hid (show _ ∧ _ from ⟨cell_of_get (HO7.out.setTo 0 (.int .i64 kind) rfl).head 0, cell_of_get (outT HO7.out (.int .i64 kind) (.slice (some ⟨g, off, none⟩) 0 0)).head 1⟩)
      have HO8 := Lib.hid hO8.tail.tail.tail
      clear hO8
      go_wp2
      obtain ⟨r0, r1⟩ := HR8.out
      refine bodyPost_ret (v := .tuple #[.agg #[.int .i64 kind, .slice (some ⟨g, off, none⟩) 0 0], .bool true]) (by simp [results, Try.results69, go_sem, r0, r1]) rfl ?_
      exact with_mk _ ([(g, Obj.cells cur 77 (0, 0))]) ([]) HR rfl HS.out (fun p hp => hp) HO8.out
  · have HS := Lib.hid hS
    clear hS hv2
    go_region
    all_goals
      have hO8 := (outT HO7.out (.int .i64 kind) (.slice (some ⟨g, off + 2, none⟩) r.length (cap - 1))).drew
      have HR8 := Lib.hid (show _ ∧ _ from ⟨cell_of_get (HO7.out.setTo 0 (.int .i64 kind) rfl).head 0, cell_of_get (outT HO7.out (.int .i64 kind) (.slice (some ⟨g, off + 2, none⟩) r.length (cap - 1))).head 1⟩)
      have HO8 := Lib.hid hO8.tail.tail.tail
      clear hO8
      go_wp2
      obtain ⟨r0, r1⟩ := HR8.out
      refine bodyPost_ret (v := .tuple #[.agg #[.int .i64 kind, .slice (some ⟨g, off + 2, none⟩) r.length (cap - 1)], .bool true]) (by simp [results, Try.results69, go_sem, r0, r1]) rfl ?_
      exact with_mk _ ([(g, Obj.cells cur 77 (0, 0))]) ([]) HR rfl HS.out (fun p hp => hp) HO8.out

set_option maxRecDepth 100000 in
set_option maxHeartbeats 8000000 in
theorem with_put (B : Nat) (w0 : World) (F : List (Nat × Obj)) (kind : Int) (l : List V2) (v : Value) (Lt : List (Nat × Obj)) (c : C6) (w : World) (hS : Sl 77 2 C2 v (l) Lt) (hL : ∀ p ∈ Lt, p ∈ F) (hO : Own B w0 w F) (hl : (l).length ≤ 100000) (h1 : c.op = 1) (h2 : kind ≠ 2) :
    Calls Try.prog 69 #[.agg #[.int .i64 kind, v], agg6 c] w (WithPost B w0 F Lt kind (withT kind (l) c)) := by
  obtain ⟨i0, hi, hz0, hz1, hz2⟩ := info_parts Try.info77
  have HR := Lib.hid (withT_put (kind := kind) (l := l) h1 h2)
  obtain ⟨ao, cap, rfl, hcap, hcm⟩ := hS.form
  obtain ⟨n, hn⟩ : ∃ n, (l).length = n := ⟨_, rfl⟩
  rw [hn] at hS hcap hl ⊢
  have H1_ := Lib.hid h1
  clear h1
  have H2_ := Lib.hid h2
  clear h2
  have hOF := ((hO.allocAt (obT kind (.slice ao n cap)) (n := w.heap.size) rfl).allocAt (ob6 c) (n := w.heap.size + 1) (by simp)).allocAt (obT 0 (.slice none 0 0)) (n := w.heap.size + 1 + 1) (by simp)
  clear hO
  go_enter Try.func69, Try.ntmps69
  go_upto_region 1 with fail
  obtain ⟨T, hTe⟩ : ∃ T, w.heap.size = T := ⟨_, rfl⟩
  obtain ⟨P, hPe⟩ : ∃ P, T + 1 = P := ⟨_, rfl⟩
  obtain ⟨Z, hZe⟩ : ∃ Z, P + 1 = Z := ⟨_, rfl⟩
  rw [hTe, hPe, hZe] at hOF
  rw [hTe, hPe, hZe]
  have hZP : Z ≠ P := by omega
  have hZT : Z ≠ T := by omega
  generalize ((w.alloc (.cells #[.int .i64 kind, .slice ao n cap] 102)).alloc (.cells #[.int .i64 c.who, .int .i64 c.op, .int .i64 c.v.t, .int .i64 c.v.n, .int .i64 c.fro, .int .i64 c.til] 80)).alloc (.cells #[.int .i64 0, .slice none 0 0] 102) = W at hOF ⊢
  clear hTe hPe hZe
  have z0 : W.cell? ⟨Z, 0, none⟩ = some (.int .i64 0) := cell_of_get hOF.head 0
  have z1 : W.cell? ⟨Z, 1, none⟩ = some (.slice none 0 0) := cell_of_get hOF.head 1
  have zf := free_of_get hOF.head
  have zl := lt_of_get hOF.head
  obtain ⟨p0, p1, p2, p3, p4, p5⟩ := cells6 hOF.tail.head
  simp only [Nat.zero_add] at p1 p2 p3 p4 p5
  have pl := lt_of_get hOF.tail.head
  have t0 : W.cell? ⟨T, 0, none⟩ = some (.int .i64 kind) := cell_of_get hOF.tail.tail.head 0
  have t1 : W.cell? ⟨T, 1, none⟩ = some (.slice ao n cap) := cell_of_get hOF.tail.tail.head 1
  have tl := lt_of_get hOF.tail.tail.head
  have h1 := H1_.out
  have h2 := H2_.out
  rw [h1] at p1
  have b2 : (kind == 2) = false := by simp [h2]
  have hno : ao = none → cap = 0 := by
    intro e
    subst e
    rcases hS with ⟨h, _⟩ | ⟨_, _, _, _, h, _⟩
    · simp at h; exact h.2
    · simp at h
  have HNO := Lib.hid hno
  have HN := Lib.hid hn
  have HCAP := Lib.hid hcap
  have HCM := Lib.hid hcm
  have HA := Lib.hid ((hOF.allocAt (Obj.cells #[.int .i64 c.v.t, .int .i64 c.v.n] 77 (0, 0)) (n := W.heap.size) rfl).drew)
  have HOLD := Lib.hid (old_clip (w := (W.alloc (Obj.cells #[.int .i64 c.v.t, .int .i64 c.v.n] 77 (0, 0))).drew) hS (fun p hp => HA.out.get p (by simp [hL p hp])))
  have tl1 : T < W.heap.size + 1 := by omega
  have pl1 : P < W.heap.size + 1 := by omega
  clear h1 h2 hno hn hcap hcm hOF hS hL
  clear z0 z1 zf zl
  go_wp2
  go_region_law (first
    | (refine step_append_full rfl (.tmp 31) (.tmp 34) 75 rfl _ _ _ Try.underlying75 hi hz0 hz1 hz2 rfl C2_len rfl HOLD.out HA.out ⟨W.heap.size, 0, none⟩ [c.v] 1 1 rfl rfl (news_blk6 (C := #[.int .i64 c.v.t, .int .i64 c.v.n]) (t := 77) (fr := (0, 0)) (by exact HA.out.head)) (by decide) (by rw [HN.out]; unfold maxLen; omega) (by rw [HN.out]; omega) ?_; intro g off cap' w1 L' hS1 hO1 _; rw [HN.out] at hS1 ⊢; obtain ⟨hO2, hT⟩ := put_shuf hO1; have z0 : w1.cell? ⟨Z, 0, none⟩ = some (.int .i64 0) := cell_of_get hO2.head 0; have z1 : w1.cell? ⟨Z, 1, none⟩ = some (.slice none 0 0) := cell_of_get hO2.head 1; have zf := free_of_get hO2.head; have zl := lt_of_get hO2.head; have t0 : w1.cell? ⟨T, 0, none⟩ = some (.int .i64 kind) := cell_of_get hT 0; have tl := lt_of_get hT; clear hT hO1)
    | (go_simp; go_at_call 79; refine (clip79 ao n cap _ HCAP.out HNO.out HCM.out).mono ?_; rintro e w' ⟨rfl, rfl⟩))
  all_goals
    have hO8 := outT hO2 (.int .i64 kind) (.slice (some ⟨g, off, none⟩) (n + 1) cap')
    have HR8 := Lib.hid (tz hO8.head)
    have HO8 := Lib.hid (put_out hO8)
    have HS := Lib.hid hS1
    clear hO8 hO2 hS1 z0 z1 zf zl
    go_wp2
    obtain ⟨r0, r1⟩ := HR8.out
    refine bodyPost_ret (v := .tuple #[.agg #[.int .i64 kind, .slice (some ⟨g, off, none⟩) (n + 1) cap'], .bool true]) (by simp [results, Try.results69, go_sem, r0, r1]) rfl ?_
    exact with_mk _ (L') (L') HR rfl HS.out (fun p hp => List.mem_append_left _ hp) HO8.out

theorem with69 (B : Nat) (w0 : World) (F : List (Nat × Obj)) (kind : Int) (l : List V2) (v : Value) (Lt : List (Nat × Obj)) (c : C6) (w : World) (hS : Sl 77 2 C2 v l Lt) (hL : ∀ p ∈ Lt, p ∈ F) (hO : Own B w0 w F) (hl : l.length ≤ 100000) :
    Calls Try.prog 69 #[.agg #[.int .i64 kind, v], agg6 c] w (WithPost B w0 F Lt kind (withT kind l c)) := by
  by_cases h1 : c.op = 1
  · by_cases h2 : kind = 2
    · subst h2; exact with_put2 B w0 F l v Lt c w hS hO h1
    · exact with_put B w0 F kind l v Lt c w hS hL hO hl h1 h2
  · by_cases h3 : c.til = 0
    · by_cases h2 : kind = 2
      · subst h2; exact with_open B w0 F l v Lt c w hS hO h1 h3
      · cases l with
        | nil => exact with_nil0 B w0 F kind v Lt c w hS hO hl h1 h3 h2
        | cons x r => exact with_takeO B w0 F kind x r v Lt c w hS hL hO hl h1 h2 h3
    · cases l with
      | nil => exact with_nil B w0 F kind v Lt c w hS hO hl h1 h3
      | cons x r =>
        by_cases h5 : x = c.v
        · by_cases h2 : kind = 2
          · subst h2; exact with_regV B w0 F x r v Lt c w hS hL hO hl h1 h3 h5
          · exact with_takeV B w0 F kind x r v Lt c w hS hL hO hl h1 h2 h3 h5
        · by_cases ht : x.t = c.v.t
          · exact with_refN B w0 F kind x r v Lt c w hS hL hO hl h1 h3 ht (fun hn => h5 (by cases x; cases hcv : c.v; simp_all))
          · exact with_refT B w0 F kind x r v Lt c w hS hL hO hl h1 h3 ht

end Go.Proofs.Ytojcojoleodjmaa
