import Derived.Test.YtbfgoopomfenjaaDoorMh
namespace Go.Proofs.YtbfgoopomfenjaaDoor
open Go.RowKit Go.Proofs.YtbfgoopomfenjaaDoorW.PrintWords Go.Proofs.YtbfgoopomfenjaaDoorW.PrintLast Go.Proofs.YtbfgoopomfenjaaDoor.PTseitinValues
set_option linter.unusedVariables false
set_option linter.unusedSimpArgs false
attribute [local go_sem] World.cell?_alloc_lt
attribute [local go_sem] run_store_fn

/-- The literals so far, the clauses so far. -/
def RLRel (at_ us : List S41) (st : LS) (w0 W0 : World) (b3 : Nat) (F : Nat → Prop) (v8 i : Value) (wr : World) : Prop :=
  ∃ k Ax cx A1 c1, k ≤ us.length ∧ i = .int .i64 (k : Nat) ∧ v8 = .slice Ax k cx ∧
    Aside0 (wr.ownsRow W0.heap.size 3 1 (.slice Ax k cx) k (nums .i64 (layL false at_ (us.take k) st []).2)) ∧
    Aside0 (wr.heap[b3]? = some (.cells #[.int .i64 (layL false at_ (us.take k) st []).1.n, .slice A1 (layL false at_ (us.take k) st []).1.l.length c1] 60 (0, 0))) ∧
    Aside0 (LT w0.heap.size (fun i => (F i ∨ W0.heap.size ≤ i) ∧ ¬ Ev (.slice Ax k cx) i) wr (.slice A1 (layL false at_ (us.take k) st []).1.l.length c1) (layL false at_ (us.take k) st []).1.l) ∧
    Aside0 (Upd (fun i => i = b3) W0 wr)
theorem RLRel.mk {at_ us : List S41} {st : LS} {w0 W0 : World} {b3 : Nat} {F : Nat → Prop} {v8 i : Value} {wr : World} (k : Nat) (Ax : Option Addr) (cx : Nat) (A1 : Option Addr) (c1 : Nat) (r : LS × List Int) (hr : layL false at_ (us.take k) st [] = r) (h1 : k ≤ us.length) (h2 : i = .int .i64 k) (h3 : v8 = .slice Ax k cx)
    (h4 : wr.ownsRow W0.heap.size 3 1 (.slice Ax k cx) k (nums .i64 r.2)) (h5 : wr.heap[b3]? = some (.cells #[.int .i64 r.1.n, .slice A1 r.1.l.length c1] 60 (0, 0))) (h6 : LT w0.heap.size (fun i => (F i ∨ W0.heap.size ≤ i) ∧ ¬ Ev (.slice Ax k cx) i) wr (.slice A1 r.1.l.length c1) r.1.l) (h7 : Upd (fun i => i = b3) W0 wr) :
    RLRel at_ us st w0 W0 b3 F v8 i wr := by subst hr; exact ⟨k, Ax, cx, A1, c1, h1, h2, h3, ⟨h4⟩, ⟨h5⟩, ⟨h6⟩, ⟨h7⟩⟩

/-- A literal row is read. -/
theorem reads_lit {R : List Int → List Value → Prop} {W : World} {b : Nat} {news : List Value} {M : List (List Int)} {m : Nat} (h : W.heap[b]? = some (.cells news.toArray 54 (0, 0))) (hR : Reps R 1 M news) (hm : M.length = m) (hl : m ≤ 1000000) : ReadsRow R 1 W (some ⟨b, 0, none⟩) m M := by
  refine ⟨hm, by omega, fun _ => ⟨_, rfl, fun j p hj => ⟨(news.drop (j * 1)).take 1, ?_, hR.2 j p hj, fun i u hi => ?_⟩⟩⟩
  · have := hR.1
    have hjl := (List.getElem?_eq_some_iff.1 hj).1
    rw [List.length_take, List.length_drop]; omega
  · rw [List.getElem?_take] at hi
    split at hi
    · rename_i h0
      rw [List.getElem?_drop] at hi
      exact news_at h (j * 1 + i) u hi
    · cases hi

/-- Where rows are laid. -/
theorem rows1 (F : Nat → Prop) (W : World) (r1 : List Int) (hF : ∀ i, W.heap.size ≤ i → F i) (h1 : r1.length ≤ 1000) {A B : World} (hA : A = W.alloc (.cells (nums .i64 r1).toArray 3)) (hB : B = A.alloc (.cells [.slice (some ⟨W.heap.size, 0, none⟩) r1.length r1.length].toArray 54)) :
    Below W.heap.size W B ∧ ReadsRow (RI F B) 1 B (some ⟨W.heap.size + 1, 0, none⟩) 1 [r1] := by
  have sA : A.heap.size = W.heap.size + 1 := by rw [hA, World.size_alloc]
  have sB : B.heap.size = W.heap.size + 1 + 1 := by rw [hB, World.size_alloc]; rw [sA]
  have b0 : Below W.heap.size W W := Below.refl _ _
  have b1 : Below W.heap.size W A := by rw [hA]; exact b0.alloc (by exact Nat.le_refl _) _
  have b2 : Below W.heap.size W B := by rw [hB]; exact b1.alloc (by rw [sA]; omega) _
  have x1 : B.heap[W.heap.size]? = some (.cells (nums .i64 r1).toArray 3 (0, 0)) := by rw [hB]; exact blk_alloc (by rw [hA]; exact blk_newAt _ _ _ rfl) _
  refine ⟨b2, reads_lit (by rw [hB]; exact blk_newAt _ _ _ sA.symm) ?_ rfl (by omega)⟩
  exact Reps.snoc (Reps.none _ _) (RI.blk x1 (hF _ (by omega)) (by omega)) rfl
theorem rows2 (F : Nat → Prop) (W : World) (r1 r2 : List Int) (hF : ∀ i, W.heap.size ≤ i → F i) (h1 : r1.length ≤ 1000) (h2 : r2.length ≤ 1000) {A B C : World} (hA : A = W.alloc (.cells (nums .i64 r1).toArray 3)) (hB : B = A.alloc (.cells (nums .i64 r2).toArray 3)) (hC : C = B.alloc (.cells [.slice (some ⟨W.heap.size, 0, none⟩) r1.length r1.length, .slice (some ⟨W.heap.size + 1, 0, none⟩) r2.length r2.length].toArray 54)) :
    Below W.heap.size W C ∧ ReadsRow (RI F C) 1 C (some ⟨W.heap.size + 1 + 1, 0, none⟩) 2 [r1, r2] := by
  have sA : A.heap.size = W.heap.size + 1 := by rw [hA, World.size_alloc]
  have sB : B.heap.size = W.heap.size + 1 + 1 := by rw [hB, World.size_alloc]; rw [sA]
  have sC : C.heap.size = W.heap.size + 1 + 1 + 1 := by rw [hC, World.size_alloc]; rw [sB]
  have b0 : Below W.heap.size W W := Below.refl _ _
  have b1 : Below W.heap.size W A := by rw [hA]; exact b0.alloc (by exact Nat.le_refl _) _
  have b2 : Below W.heap.size W B := by rw [hB]; exact b1.alloc (by rw [sA]; omega) _
  have b3 : Below W.heap.size W C := by rw [hC]; exact b2.alloc (by rw [sB]; omega) _
  have x1 : C.heap[W.heap.size]? = some (.cells (nums .i64 r1).toArray 3 (0, 0)) := by rw [hC]; exact blk_alloc (by rw [hB]; exact blk_alloc (by rw [hA]; exact blk_newAt _ _ _ rfl) _) _
  have x2 : C.heap[W.heap.size + 1]? = some (.cells (nums .i64 r2).toArray 3 (0, 0)) := by rw [hC]; exact blk_alloc (by rw [hB]; exact blk_newAt _ _ _ sA.symm) _
  refine ⟨b3, reads_lit (by rw [hC]; exact blk_newAt _ _ _ sB.symm) ?_ rfl (by omega)⟩
  exact Reps.snoc (Reps.snoc (Reps.none _ _) (RI.blk x1 (hF _ (by omega)) (by omega)) rfl) (RI.blk x2 (hF _ (by omega)) (by omega)) rfl
theorem rows2s (F : Nat → Prop) (W : World) (r1 r2 : List Int) (hF : ∀ i, W.heap.size ≤ i → F i) (h1 : r1.length ≤ 1000) (h2 : r2.length ≤ 1000) {A B C : World} (hA : A = W.alloc (.cells (nums .i64 r2).toArray 3)) (hB : B = A.alloc (.cells (nums .i64 r1).toArray 3)) (hC : C = B.alloc (.cells [.slice (some ⟨W.heap.size + 1, 0, none⟩) r1.length r1.length, .slice (some ⟨W.heap.size, 0, none⟩) r2.length r2.length].toArray 54)) :
    Below W.heap.size W C ∧ ReadsRow (RI F C) 1 C (some ⟨W.heap.size + 1 + 1, 0, none⟩) 2 [r1, r2] := by
  have sA : A.heap.size = W.heap.size + 1 := by rw [hA, World.size_alloc]
  have sB : B.heap.size = W.heap.size + 1 + 1 := by rw [hB, World.size_alloc]; rw [sA]
  have sC : C.heap.size = W.heap.size + 1 + 1 + 1 := by rw [hC, World.size_alloc]; rw [sB]
  have b0 : Below W.heap.size W W := Below.refl _ _
  have b1 : Below W.heap.size W A := by rw [hA]; exact b0.alloc (by exact Nat.le_refl _) _
  have b2 : Below W.heap.size W B := by rw [hB]; exact b1.alloc (by rw [sA]; omega) _
  have b3 : Below W.heap.size W C := by rw [hC]; exact b2.alloc (by rw [sB]; omega) _
  have x1 : C.heap[W.heap.size + 1]? = some (.cells (nums .i64 r1).toArray 3 (0, 0)) := by rw [hC]; exact blk_alloc (by rw [hB]; exact blk_newAt _ _ _ sA.symm) _
  have x2 : C.heap[W.heap.size]? = some (.cells (nums .i64 r2).toArray 3 (0, 0)) := by rw [hC]; exact blk_alloc (by rw [hB]; exact blk_alloc (by rw [hA]; exact blk_newAt _ _ _ rfl) _) _
  refine ⟨b3, reads_lit (by rw [hC]; exact blk_newAt _ _ _ sB.symm) ?_ rfl (by omega)⟩
  exact Reps.snoc (Reps.snoc (Reps.none _ _) (RI.blk x1 (hF _ (by omega)) (by omega)) rfl) (RI.blk x2 (hF _ (by omega)) (by omega)) rfl
theorem rows3 (F : Nat → Prop) (W : World) (r1 r2 r3 : List Int) (hF : ∀ i, W.heap.size ≤ i → F i) (h1 : r1.length ≤ 1000) (h2 : r2.length ≤ 1000) (h3 : r3.length ≤ 1000) {A B C D : World} (hA : A = W.alloc (.cells (nums .i64 r1).toArray 3)) (hB : B = A.alloc (.cells (nums .i64 r2).toArray 3)) (hC : C = B.alloc (.cells (nums .i64 r3).toArray 3)) (hD : D = C.alloc (.cells [.slice (some ⟨W.heap.size, 0, none⟩) r1.length r1.length, .slice (some ⟨W.heap.size + 1, 0, none⟩) r2.length r2.length, .slice (some ⟨W.heap.size + 1 + 1, 0, none⟩) r3.length r3.length].toArray 54)) :
    Below W.heap.size W D ∧ ReadsRow (RI F D) 1 D (some ⟨W.heap.size + 1 + 1 + 1, 0, none⟩) 3 [r1, r2, r3] := by
  have sA : A.heap.size = W.heap.size + 1 := by rw [hA, World.size_alloc]
  have sB : B.heap.size = W.heap.size + 1 + 1 := by rw [hB, World.size_alloc]; rw [sA]
  have sC : C.heap.size = W.heap.size + 1 + 1 + 1 := by rw [hC, World.size_alloc]; rw [sB]
  have sD : D.heap.size = W.heap.size + 1 + 1 + 1 + 1 := by rw [hD, World.size_alloc]; rw [sC]
  have b0 : Below W.heap.size W W := Below.refl _ _
  have b1 : Below W.heap.size W A := by rw [hA]; exact b0.alloc (by exact Nat.le_refl _) _
  have b2 : Below W.heap.size W B := by rw [hB]; exact b1.alloc (by rw [sA]; omega) _
  have b3 : Below W.heap.size W C := by rw [hC]; exact b2.alloc (by rw [sB]; omega) _
  have b4 : Below W.heap.size W D := by rw [hD]; exact b3.alloc (by rw [sC]; omega) _
  have x1 : D.heap[W.heap.size]? = some (.cells (nums .i64 r1).toArray 3 (0, 0)) := by rw [hD]; exact blk_alloc (by rw [hC]; exact blk_alloc (by rw [hB]; exact blk_alloc (by rw [hA]; exact blk_newAt _ _ _ rfl) _) _) _
  have x2 : D.heap[W.heap.size + 1]? = some (.cells (nums .i64 r2).toArray 3 (0, 0)) := by rw [hD]; exact blk_alloc (by rw [hC]; exact blk_alloc (by rw [hB]; exact blk_newAt _ _ _ sA.symm) _) _
  have x3 : D.heap[W.heap.size + 1 + 1]? = some (.cells (nums .i64 r3).toArray 3 (0, 0)) := by rw [hD]; exact blk_alloc (by rw [hC]; exact blk_newAt _ _ _ sB.symm) _
  refine ⟨b4, reads_lit (by rw [hD]; exact blk_newAt _ _ _ sC.symm) ?_ rfl (by omega)⟩
  exact Reps.snoc (Reps.snoc (Reps.snoc (Reps.none _ _) (RI.blk x1 (hF _ (by omega)) (by omega)) rfl) (RI.blk x2 (hF _ (by omega)) (by omega)) rfl) (RI.blk x3 (hF _ (by omega)) (by omega)) rfl
theorem rows4 (F : Nat → Prop) (W : World) (r1 r2 r3 r4 : List Int) (hF : ∀ i, W.heap.size ≤ i → F i) (h1 : r1.length ≤ 1000) (h2 : r2.length ≤ 1000) (h3 : r3.length ≤ 1000) (h4 : r4.length ≤ 1000) {A B C D E : World} (hA : A = W.alloc (.cells (nums .i64 r1).toArray 3)) (hB : B = A.alloc (.cells (nums .i64 r2).toArray 3)) (hC : C = B.alloc (.cells (nums .i64 r3).toArray 3)) (hD : D = C.alloc (.cells (nums .i64 r4).toArray 3)) (hE : E = D.alloc (.cells [.slice (some ⟨W.heap.size, 0, none⟩) r1.length r1.length, .slice (some ⟨W.heap.size + 1, 0, none⟩) r2.length r2.length, .slice (some ⟨W.heap.size + 1 + 1, 0, none⟩) r3.length r3.length, .slice (some ⟨W.heap.size + 1 + 1 + 1, 0, none⟩) r4.length r4.length].toArray 54)) :
    Below W.heap.size W E ∧ ReadsRow (RI F E) 1 E (some ⟨W.heap.size + 1 + 1 + 1 + 1, 0, none⟩) 4 [r1, r2, r3, r4] := by
  have sA : A.heap.size = W.heap.size + 1 := by rw [hA, World.size_alloc]
  have sB : B.heap.size = W.heap.size + 1 + 1 := by rw [hB, World.size_alloc]; rw [sA]
  have sC : C.heap.size = W.heap.size + 1 + 1 + 1 := by rw [hC, World.size_alloc]; rw [sB]
  have sD : D.heap.size = W.heap.size + 1 + 1 + 1 + 1 := by rw [hD, World.size_alloc]; rw [sC]
  have sE : E.heap.size = W.heap.size + 1 + 1 + 1 + 1 + 1 := by rw [hE, World.size_alloc]; rw [sD]
  have b0 : Below W.heap.size W W := Below.refl _ _
  have b1 : Below W.heap.size W A := by rw [hA]; exact b0.alloc (by exact Nat.le_refl _) _
  have b2 : Below W.heap.size W B := by rw [hB]; exact b1.alloc (by rw [sA]; omega) _
  have b3 : Below W.heap.size W C := by rw [hC]; exact b2.alloc (by rw [sB]; omega) _
  have b4 : Below W.heap.size W D := by rw [hD]; exact b3.alloc (by rw [sC]; omega) _
  have b5 : Below W.heap.size W E := by rw [hE]; exact b4.alloc (by rw [sD]; omega) _
  have x1 : E.heap[W.heap.size]? = some (.cells (nums .i64 r1).toArray 3 (0, 0)) := by rw [hE]; exact blk_alloc (by rw [hD]; exact blk_alloc (by rw [hC]; exact blk_alloc (by rw [hB]; exact blk_alloc (by rw [hA]; exact blk_newAt _ _ _ rfl) _) _) _) _
  have x2 : E.heap[W.heap.size + 1]? = some (.cells (nums .i64 r2).toArray 3 (0, 0)) := by rw [hE]; exact blk_alloc (by rw [hD]; exact blk_alloc (by rw [hC]; exact blk_alloc (by rw [hB]; exact blk_newAt _ _ _ sA.symm) _) _) _
  have x3 : E.heap[W.heap.size + 1 + 1]? = some (.cells (nums .i64 r3).toArray 3 (0, 0)) := by rw [hE]; exact blk_alloc (by rw [hD]; exact blk_alloc (by rw [hC]; exact blk_newAt _ _ _ sB.symm) _) _
  have x4 : E.heap[W.heap.size + 1 + 1 + 1]? = some (.cells (nums .i64 r4).toArray 3 (0, 0)) := by rw [hE]; exact blk_alloc (by rw [hD]; exact blk_newAt _ _ _ sC.symm) _
  refine ⟨b5, reads_lit (by rw [hE]; exact blk_newAt _ _ _ sD.symm) ?_ rfl (by omega)⟩
  exact Reps.snoc (Reps.snoc (Reps.snoc (Reps.snoc (Reps.none _ _) (RI.blk x1 (hF _ (by omega)) (by omega)) rfl) (RI.blk x2 (hF _ (by omega)) (by omega)) rfl) (RI.blk x3 (hF _ (by omega)) (by omega)) rfl) (RI.blk x4 (hF _ (by omega)) (by omega)) rfl
/-- The end: the result is laid. -/
theorem rlay_end {w0 W w2 : World} {b6 n m : Nat} {F : Nat → Prop} {A5 : Option Addr} {c5 : Nat} {l : List (List Int)} {r : LS × Int} (hr : r = (⟨n, l⟩, (n : Int))) (hm : l.length = m) (hL : LT w0.heap.size (fun i => F i ∨ W.heap.size ≤ i) w2 (.slice A5 m c5) l) (hb6 : w2.heap[b6]? = some (.cells #[.int .i64 0, .slice none 0 0] 60 (0, 0))) (hle : W.heap.size ≤ b6) (hB : Below W.heap.size W w2) :
    RLOut w0 F r W (.returned (.tuple #[.agg #[.int .i64 n, .slice A5 m c5], .int .i64 n])) ((w2.setCell ⟨b6, 0, none⟩ (.int .i64 n)).setCell ⟨b6, 1, none⟩ (.slice A5 m c5)) := by
  subst hr hm
  exact ⟨A5, c5, rfl, hL.upd1 (((Upd.refl (fun i => i = b6) _).setCell (p := ⟨b6, 0, none⟩) rfl _).setCell (p := ⟨b6, 1, none⟩) rfl _) hb6 (by decide) (by decide), (hB.setCell (p := ⟨b6, 0, none⟩) hle _).setCell (p := ⟨b6, 1, none⟩) hle _⟩

theorem rlay_next {n0 N M k : Nat} {F : Nat → Prop} {w2 w3 : World} {v vx v3 : Value} {L : List (List Int)} {xs : List Value} (hx : w2.ownsRow N 3 1 vx k xs) (hxM : ∀ i, Ev vx i → i < M) (hNM : N ≤ M) (hM : M ≤ w2.heap.size)
    (hL : LT n0 (fun i => ((F i ∨ N ≤ i) ∧ ¬ Ev vx i) ∨ M ≤ i) w2 v L) (hg : w2.grownBy w3 vx.ownBlock) (hat : v3.ownBlock = vx.ownBlock ∨ ∃ b, v3.ownBlock = some b ∧ w2.heap.size ≤ b) :
    LT n0 (fun i => (F i ∨ N ≤ i) ∧ ¬ Ev v3 i) w3 v L := by
  refine hL.move (fun i hi => hg.block i (hL.lt i hi) (fun e => ?_)) (fun i cur hf hc => ?_)
  · obtain ⟨_, ho, _⟩ := hL
    exact own_types ho hx (by decide) i hi e.symm
  · have hne : ¬ Ev vx i := by
      rcases hf with hf | hf
      · exact hf.2
      · intro e; have := hxM i e; omega
    refine ⟨hg.block i (blk_lt hc) (fun e => hne e.symm), ?_, ?_⟩
    · rcases hf with hf | hf
      · exact hf.1
      · exact .inr (by omega)
    · intro e
      rcases hat with hat | ⟨b, hb, hle⟩
      · exact hne (hat.symm.trans e)
      · have : b = i := by rw [show v3.ownBlock = some i from e] at hb; injection hb with hb; exact hb.symm
        have := blk_lt hc
        omega

set_option maxRecDepth 100000 in
set_option maxHeartbeats 4000000 in
theorem rlay_node (w0 : World) (at_ : List S41) (t : S41) (hp : isPart t.f0 = true) (ih : ∀ (k : Nat) (x : S41), t.f4[k]? = some x → RL w0 at_ x) : RL w0 at_ t := by
  intro A c B d A0 c0 Aa ca st F W hP hB hR hAT hL hn hl ha
  have HR := Aside0.mk (layC_part false at_ t st hp)
  obtain ⟨⟨h1, h2⟩, hsub, hok⟩ := cparts_ok hR
  have HOK := Aside0.mk hok
  have HIH := Aside0.mk ih
  have HSUB := Aside0.mk hsub
  have hk2 : t.f4.length ≤ 2 := by have : csN t.f0 ≤ 2 := by (unfold csN; (repeat' split) <;> omega)
                                   omega
  have HSZ : Aside0 (st.n + (t.f4.map csize).sum ≤ 999999 ∧ st.l.length + 4 * (t.f4.map csize).sum ≤ 99999996) := ⟨by rw [csize_eq, csizeL_sum] at hn hl; omega⟩
  have HHA := Aside0.mk ha
  have hlb := hP.C2.2.1
  obtain ⟨hBW, X3, X5, X6⟩ := lay_boxes W st.n (.slice A0 st.l.length c0) (c41 t A c B d)
  have X := T41.mk_box X5 (hP.below hB) hBW
  have HP := Aside0.mk hP
  have HB := Aside0.mk (hB.trans (hBW.mono hB.size))
  have HAT := Aside0.mk (hAT.upd (Upd.of_below (E := fun _ => False) hBW) (fun _ _ h => h))
  have HL := Aside0.mk (hL.below hBW)
  have HBW := Aside0.mk hBW
  have HX3 := Aside0.mk X3
  have HX6 := Aside0.mk X6
  have HX5 := Aside0.mk X5
  have HWB : Aside0 (w0.heap.size ≤ W.heap.size) := ⟨hB.size⟩
  clear hBW hP hB hAT hL hR hsub hok ih ha hn hl X3 X5 X6
  go_enter Tryd.func34, Tryd.ntmps34
  go_upto_region 1 with fail
  generalize hW : ((W.alloc (.cells #[.int .i64 st.n, .slice A0 st.l.length c0] 60)).alloc (.cells (c41 t A c B d) 41)).alloc (.cells #[.int .i64 0, .slice none 0 0] 60) = W0 at *
  clear hW
  obtain ⟨k0, k1, k2, k3, k4, kl0, kln⟩ := X.box
  go_wp2_with (first
    | (go_at_call 64; refine (ref_part t A c B d _ h1 h2).mono ?_; rintro e w1 ⟨rfl, hb⟩; have X1 := X.below hb; have HAT1 := Aside0.mk (HAT.out.upd (Upd.of_below (E := fun _ => False) hb) (fun _ _ h => h)); have HB1 := Aside0.mk (HB.out.trans (hb.mono HB.out.size)); have HL1 := Aside0.mk (HL.out.below hb); have HBW1 := Aside0.mk (below_step HBW.out hb); have HX31 := Aside0.mk (blk_below HX3.out hb); have HX61 := Aside0.mk (blk_below HX6.out hb); have HX51 := Aside0.mk (blk_below HX5.out hb); clear hb; rw [hp]))
  clear k0 k1 k2 k3 k4 kl0 kln X HAT HB HL HX3 HX6 HX5 HBW
  have HX1 := Aside0.mk X1
  have HNA : Aside0 (∀ i, Ev (.slice Aa at_.length ca) i → ¬ (i = W.heap.size)) := ⟨fun i hi e => by
    subst e
    exact OwnRow.ne_block HAT1.out HX31.out (by decide) hi.symm⟩
  clear X1
  go_loopw [8, 9] (fun v i wr => RLRel at_ t.f4 st w0 w1 W.heap.size F v i wr) (fun _ i _ => t.f4.length - (intOf i).toNat)
  case atStart =>
    exact RLRel.mk 0 none 0 A0 c0 (st, []) (by rw [List.take_zero, layL]) (Nat.zero_le _) rfl rfl (own_nil _ _ _ _) HX31.out (HL1.out.weaken (fun i hi hlt => ⟨.inl hi, fun e => by cases e⟩)) (Upd.refl _ _)
  case round =>
    obtain ⟨k, Ax, cx, A1, c1, hk, rfl, rfl, HX, HS3, HL, HU⟩ := hrel
    have HBk := Aside0.mk (HB1.out.trans (HU.out.below HB1.out.size (fun i e => by have := HWB.out; omega)))
    have HX1k : Aside0 (wr.heap[W.heap.size + 1]? = some (.cells (c41 t A c B d) 41 (0, 0))) := ⟨HU.out.blk HX51.out (by omega)⟩
    have m4 := blk_cell HX1k.out 4
    have ml0 := blk_lt HX1k.out
    by_cases hlt : k < t.f4.length
    · have hltb : decide (k < t.f4.length) = true := decide_eq_true hlt
      obtain ⟨x, ad, A3, c3, B3, d3, hx, rfl, Z0⟩ := at41 HP.out.C2 k hlt
      have Z := Z0.below HBk.out
      obtain ⟨z0, z1, z2, z3, z4, zl0, zln⟩ := Z.cells
      have HE := Aside0.mk (layL_take false at_ hx st [])
      have hnl := layL_nl false at_ t.f4 st k
      have HQ1 : Aside0 ((layL false at_ (t.f4.take k) st []).1.n + csize x ≤ 1000000 ∧ (layL false at_ (t.f4.take k) st []).1.l.length + 4 * csize x ≤ 100000000) := ⟨by
        have h2 := sumTo_step csize hx
        have h3 := sumTo_le csize t.f4 (k + 1)
        have := HSZ.out
        omega⟩
      have HV := Aside0.mk (layC_val false at_ x (layL false at_ (t.f4.take k) st []).1 HHA.out HQ1.out.1)
      have HXL : Aside0 ((layL false at_ (t.f4.take k) st []).2.length = k) := ⟨by rw [layL_len2, List.length_take]; simp; omega⟩
      have hATk := HAT1.out.upd HU.out HNA.out
      have HC : Aside0 (∀ V, Below wr.heap.size wr V → Calls Tryd.prog 34 #[.agg #[.int .i64 (layL false at_ (t.f4.take k) st []).1.n, .slice A1 (layL false at_ (t.f4.take k) st []).1.l.length c1], .slice Aa at_.length ca, v41 x A3 c3 B3 d3] V (RLOut w0 (fun i => (F i ∨ w1.heap.size ≤ i) ∧ ¬ Ev (.slice Ax k cx) i) (layC false at_ x (layL false at_ (t.f4.take k) st []).1) V)) := ⟨fun V hV => HIH.out k x hx A3 c3 B3 d3 A1 c1 Aa ca (layL false at_ (t.f4.take k) st []).1 _ V Z0.P (HBk.out.trans (hV.mono HBk.out.size)) (HOK.out k x hx) (hATk.upd (Upd.of_below (E := fun _ => False) hV) (fun _ _ h => h)) (HL.out.below hV) HQ1.out.1 HQ1.out.2 HHA.out⟩
      clear hx hnl hATk
      have HZ := Aside0.mk Z
      clear Z0 Z
      have s0 := blk_cell HS3.out 0
      have s1 := blk_cell HS3.out 1
      have sl := blk_lt HS3.out
      generalize hst : layL false at_ (t.f4.take k) st [] = R at *
      generalize hrr : layC false at_ x R.1 = S at *
      have hv0 := HV.out.1
      have hv1 := HV.out.2
      go_upto_region 7 with fail
      rename_i K1 hK1
      have HK1 := Aside0.mk hK1
      clear hK1
      go_cut [10, 11] (fun v10 v11 wx => v11 = .int .i64 S.2 ∧ ∃ p A5 c5, v10 = .pointer (some ⟨p, 0, none⟩) ∧ wr.heap.size ≤ p ∧ Aside0 (wx.heap[p]? = some (.cells #[.int .i64 S.1.n, .slice A5 S.1.l.length c5] 60 (0, 0))) ∧ Aside0 (LT w0.heap.size (fun i => ((F i ∨ w1.heap.size ≤ i) ∧ ¬ Ev (.slice Ax k cx) i) ∨ wr.heap.size ≤ i) wx (.slice A5 S.1.l.length c5) S.1.l) ∧ Aside0 (Below wr.heap.size wr wx))
      case first =>
        have n1 : W.heap.size ≠ wr.heap.size := by omega
        have n2 : W.heap.size + 1 ≠ wr.heap.size := by omega
        have n3 : (ad.add (k * 5)).block ≠ wr.heap.size := by omega
        have n4 := n1.symm
        have n5 := n2.symm
        have n6 := n3.symm
        go_region_held3 (fun V => V.cell? ⟨W.heap.size, 0, none⟩ = some (.int .i64 R.1.n) ∧ V.cell? ⟨W.heap.size, 1, none⟩ = some (.slice A1 R.1.l.length c1) ∧ V.cell? ⟨W.heap.size + 1, 4, none⟩ = some (.slice (some ad) t.f4.length d) ∧ V.cell? (ad.add (k * 5)) = some (.int .i64 x.f0) ∧ V.cell? ⟨(ad.add (k * 5)).block, (ad.add (k * 5)).off + 1, none⟩ = some (.string x.f1) ∧ V.cell? ⟨(ad.add (k * 5)).block, (ad.add (k * 5)).off + 2, none⟩ = some (.string x.f2) ∧ V.cell? ⟨(ad.add (k * 5)).block, (ad.add (k * 5)).off + 3, none⟩ = some (.slice A3 x.f3.length c3) ∧ V.cell? ⟨(ad.add (k * 5)).block, (ad.add (k * 5)).off + 4, none⟩ = some (.slice B3 x.f4.length d3)) (go_keep) (first | (go_at_call 34; refine (HC.out _ (by first | exact (Below.refl _ _).drew | exact (below_alloc (Below.refl _ _) _).drew)).mono ?_; rintro e w2 ⟨A5, c5, rfl, hl2, hb2⟩; have hb3 : Below wr.heap.size wr w2 := (by first | exact below_step ((Below.refl _ _).drew) hb2 | exact below_step ((below_alloc (Below.refl _ _) _).drew) hb2); have HL2 := Aside0.mk hl2; have HB2 := Aside0.mk hb3; have Z2 := HZ.out.below hb3; obtain ⟨y0, y1, y2, y3, y4, yl0, yln⟩ := Z2.cells; have q3 := blk_below HS3.out hb3; have q5 := blk_below HX1k.out hb3; have t0 := blk_cell q3 0; have t1 := blk_cell q3 1; have tl := blk_lt q3; have t4 := blk_cell q5 4; have tl5 := blk_lt q5; try (have hn : w2.heap[wr.heap.size]? = some (.cells #[.int .i64 0, .slice none 0 0] 60 (0, 0)) := (hb2.block _ (by show wr.heap.size < (wr.alloc _).heap.size; rw [World.size_alloc]; exact Nat.lt_succ_self _)).trans (blk_drew (blk_newAt _ _ _ rfl)); have g0 := blk_cell hn 0; have g1 := blk_cell hn 1; have gl := blk_lt hn; have gf0 := blk_frozen hn 0; have gf1 := blk_frozen hn 1; have HN2 := Aside0.mk hn; clear hn); clear q3 q5 hb2 hl2 hb3 Z2))
        · go_wp2_with fail
          go_meet
          case rel =>
            exact ⟨rfl, w2.heap.size, A5, c5, rfl, HB2.out.size, ⟨blk_new _ _⟩, ⟨(HL2.out.below (below_alloc (Below.refl _ _) _)).weaken (fun i h _ => h.elim .inl .inr)⟩, ⟨below_step HB2.out (below_alloc (Below.refl _ _) _)⟩⟩
        · go_wp2_with fail
          go_meet
          case rel =>
            exact ⟨rfl, wr.heap.size, A5, c5, rfl, Nat.le_refl _, ⟨blk_put (cs := #[.int .i64 S.1.n, .slice none 0 0]) (blk_put (cs := #[.int .i64 0, .slice none 0 0]) HN2.out 0 _ rfl) 1 _ rfl⟩, ⟨(HL2.out.upd1 (((Upd.refl (fun i => i = wr.heap.size) w2).setCell (p := ⟨wr.heap.size, 0, none⟩) rfl _).setCell (p := ⟨wr.heap.size, 1, none⟩) rfl _) HN2.out (by decide) (by decide)).weaken (fun i h _ => h.elim .inl (fun h => .inr (Nat.le_trans (by show wr.heap.size ≤ (wr.alloc _).heap.size; rw [World.size_alloc]; exact Nat.le_succ _) h)))⟩, ⟨(HB2.out.setCell (p := ⟨wr.heap.size, 0, none⟩) (Nat.le_refl _) _).setCell (p := ⟨wr.heap.size, 1, none⟩) (Nat.le_refl _) _⟩⟩
      case rest =>
        obtain ⟨rfl, p, A5, c5, rfl, hp, HPB, HL2, HB2⟩ := hcut
        refine HK1.out _ _ ?_
        clear HK1
        have HS3c := Aside0.mk (blk_below HS3.out HB2.out)
        have p0 := blk_cell HPB.out 0
        have p1 := blk_cell HPB.out 1
        have pl := blk_lt HPB.out
        have c0_ := blk_cell HS3c.out 0
        have c1_ := blk_cell HS3c.out 1
        have cf0 := blk_frozen HS3c.out 0
        have cf1 := blk_frozen HS3c.out 1
        have cl := blk_lt HS3c.out
        clear s0 s1 sl m4 ml0 z0 z1 z2 z3 z4 zl0 zln
        go_upto_region 9 with fail
        have HUs := Aside0.mk (((Upd.refl (fun i => i = W.heap.size) wc).setCell (p := ⟨W.heap.size, 0, none⟩) rfl (.int .i64 S.1.n)).setCell (p := ⟨W.heap.size, 1, none⟩) rfl (.slice A5 S.1.l.length c5))
        have HS4 := Aside0.mk (blk_put (cs' := #[.int .i64 S.1.n, .slice A5 S.1.l.length c5]) (blk_put (cs' := #[.int .i64 S.1.n, .slice A1 R.1.l.length c1]) HS3c.out 0 (.int .i64 S.1.n) rfl) 1 (.slice A5 S.1.l.length c5) rfl)
        generalize hW4 : (wc.setCell ⟨W.heap.size, 0, none⟩ (.int .i64 S.1.n)).setCell ⟨W.heap.size, 1, none⟩ (.slice A5 S.1.l.length c5) = W4 at *
        clear hW4
        have HL4 := Aside0.mk (HL2.out.upd1 HUs.out HS3c.out (by decide) (by decide))
        have HU4 := Aside0.mk ((HU.out.trans (Upd.of_below HB2.out)).trans HUs.out)
        have HX4 : Aside0 (W4.ownsRow w1.heap.size 3 1 (.slice Ax k cx) R.2.length (nums .i64 R.2)) := ⟨by
          rw [HXL.out]
          exact own_move (own_move HX.out (fun i hi => HB2.out.block i (own_lt HX.out i hi))) (fun i hi => HUs.out.block i (Nat.lt_of_lt_of_le (own_lt HX.out i hi) HB2.out.size) (fun e => own_ne HX.out HS3.out (by decide) (by rw [← e]; exact hi.symm)))⟩
        clear p0 p1 pl c0_ c1_ cf0 cf1 cl
        go_wp2_with (first
          | (at_builtin
             refine print_append_num (w0 := W4) w1.heap.size rfl (.tmp 41) (.tmp 43) 54 3 .i64 8 rfl Tryd.underlying54 info3 (by omega) (.slice Ax k cx) R.2 S.2 rfl rfl HX4.out (Below.refl _ _) HU4.out.size (by have := HXL.out; omega) ?_
             intro v3 w3 ho3 hb3 hg3 hat3
             have HX3' := Aside0.mk ho3
             have HG3 := Aside0.mk hg3
             have HT3 := Aside0.mk hat3
             clear ho3 hg3 hat3 hb3))
        have hlen : (R.2 ++ [S.2]).length = k + 1 := by rw [List.length_append, HXL.out]; rfl
        have hx3 := HX3'.out
        rw [hlen] at hx3
        obtain ⟨A4, c4, rfl⟩ := own_slice hx3
        have l1 := rlay_next (n0 := w0.heap.size) (N := w1.heap.size) (M := wr.heap.size) (F := F) HX4.out (fun i hi => own_lt HX.out i hi) HU.out.size (Nat.le_trans HB2.out.size HUs.out.size) HL4.out HG3.out HT3.out
        refine ⟨?_, by simp [intOf]; omega⟩
        exact RLRel.mk (k + 1) A4 c4 A5 c5 (S.1, R.2 ++ [S.2]) (by rw [HE.out]) (by omega) (by go_num) (by first | rfl | go_num) hx3 (blk_grown HS4.out HG3.out (own_ne HX4.out HS4.out (by decide))) l1 (HU4.out.grown HG3.out (fun r e hlt => absurd (own_base HX4.out r e) (by omega)))
    · have hltb : decide (k < t.f4.length) = false := decide_eq_false hlt
      have hkk : k = t.f4.length := by omega
      have htk : t.f4.take k = t.f4 := List.take_of_length_le (by omega)
      have hnl := layL_nl false at_ t.f4 st k
      have hsz := sumTo_le csize t.f4 k
      have HXL : Aside0 ((layL false at_ t.f4 st []).2.length = t.f4.length) := ⟨by rw [layL_len2]; simp⟩
      rw [htk] at hnl HX HS3 HL
      have hRn : (layL false at_ t.f4 st []).1.n ≤ 999999 := by have := HSZ.out; omega
      have hRl : (layL false at_ t.f4 st []).1.l.length ≤ 99999996 := by have := HSZ.out; omega
      clear hnl hsz
      generalize hst : layL false at_ t.f4 st [] = R at *
      subst hkk
      have o0 := blk_cell HS3.out 0
      have of0 := blk_frozen HS3.out 0
      have ol := blk_lt HS3.out
      go_upto_region 11 with fail
      have HUs := Aside0.mk ((Upd.refl (fun i => i = W.heap.size) wr).setCell (p := ⟨W.heap.size, 0, none⟩) rfl (.int .i64 ((R.1.n : Int) + 1)))
      have HS4 : Aside0 ((wr.setCell ⟨W.heap.size, 0, none⟩ (.int .i64 ((R.1.n : Int) + 1))).heap[W.heap.size]? = some (.cells #[.int .i64 (R.1.n + 1 : Nat), .slice A1 R.1.l.length c1] 60 (0, 0))) := ⟨blk_put (cs := #[.int .i64 R.1.n, .slice A1 R.1.l.length c1]) HS3.out 0 _ rfl⟩
      clear o0 of0 ol m4 ml0
      generalize hW : wr.setCell ⟨W.heap.size, 0, none⟩ (.int .i64 ((R.1.n : Int) + 1)) = W1 at *
      clear hW
      have HL2 := Aside0.mk ((HL.out.upd1 HUs.out HS3.out (by decide) (by decide)).weaken (F' := fun i => F i ∨ W.heap.size ≤ i) (fun i hi _ => hi.1.elim .inl (fun h => .inr (Nat.le_trans HBW1.out.size h))))
      have HX2 := Aside0.mk (own_move HX.out (fun i hi => HUs.out.block i (own_lt HX.out i hi) (fun e => own_ne HX.out HS3.out (by decide) (by rw [← e]; exact hi.symm))))
      have HU2 := Aside0.mk (HU.out.trans HUs.out)
      have HBW2 := Aside0.mk (HBW1.out.trans (HU2.out.below HBW1.out.size (fun i e => by omega)))
      have HX16 : Aside0 (W1.heap[W.heap.size + 1]? = some (.cells (c41 t A c B d) 41 (0, 0))) := ⟨HU2.out.blk HX51.out (by omega)⟩
      have HX66 : Aside0 (W1.heap[W.heap.size + 1 + 1]? = some (.cells #[.int .i64 0, .slice none 0 0] 60 (0, 0))) := ⟨HU2.out.blk HX61.out (by omega)⟩
      clear HL HX HU HS3
      have hn0 := blk_cell HS4.out 0
      have hn1 := blk_cell HS4.out 1
      have hf0 := blk_frozen HS4.out 0
      have hf1 := blk_frozen HS4.out 1
      have hl3 := blk_lt HS4.out
      have hop0 := blk_cell HX16.out 0
      have hl5 := blk_lt HX16.out
      generalize hvn : R.1.n + 1 = N at *
      have hN : (N : Int) ≤ 1000000 := by omega
      have hN0 : (0 : Int) ≤ (N : Int) := Int.natCast_nonneg _
      have HR2 : Aside0 (layC false at_ t st = (⟨N, R.1.l ++ cls t.f0 N R.2⟩, (N : Int))) := ⟨by rw [HR.out, if_neg (fun h => absurd h.1 (by decide))]⟩
      clear HR hvn
      have hcells : #[Value.int .i64 t.f0, .string t.f1, .string t.f2, .slice A t.f3.length c, .slice B t.f4.length d][0]? = some (.int .i64 t.f0) := rfl
      rw [hcells] at hop0
      obtain hop | hop | hop | hop | hop | hop | hop : t.f0 = 1 ∨ t.f0 = 2 ∨ t.f0 = 6 ∨ t.f0 = 7 ∨ t.f0 = 8 ∨ t.f0 = 9 ∨ t.f0 = 10 := by
        unfold isPart at hp; simp only [Bool.or_eq_true, Bool.and_eq_true, beq_iff_eq, decide_eq_true_eq] at hp; omega
      · as_aux_lemma =>
        rw [hop] at hop0 HR2
        clear hop
        have HFF : ∀ i, W1.heap.size ≤ i → (fun i => F i ∨ W.heap.size ≤ i) i := fun i h => .inr (Nat.le_trans HBW2.out.size h)
        obtain ⟨hb, hr⟩ := rows1 (fun i => F i ∨ W.heap.size ≤ i) W1 [(N : Int)] HFF (by simp) rfl rfl
        have HB2 := Aside0.mk (hb)
        have HQ := Aside0.mk (ref_add w0.heap.size (fun i => F i ∨ W.heap.size ≤ i) N R.1.l [[(N : Int)]] A1 c1 _ 1 1 _ (HL2.out.below HB2.out) hr (Nat.le_trans HWB.out (Nat.le_trans HBW2.out.size HB2.out.size)) (by omega))
        clear hb hr
        clear HFF
        go_wp2_with (first | (go_at_call 35; refine HQ.out.mono ?_; rintro e w2 ⟨A5, c5, rfl, hl2, hb2⟩; have HL3 := Aside0.mk hl2; have HBz := Aside0.mk (below_step HB2.out hb2); have x6 := blk_below HX66.out HBz.out; have HX6z := Aside0.mk x6; have x3 := blk_below HS4.out HBz.out; have HX3z := Aside0.mk x3; have x60 := blk_cell x6 0; have x61 := blk_cell x6 1; have xf0 := blk_frozen x6 0; have xf1 := blk_frozen x6 1; have xl := blk_lt x6; have x30 := blk_cell x3 0; have x31 := blk_cell x3 1; have xe0 := blk_frozen x3 0; have xe1 := blk_frozen x3 1; have xl3 := blk_lt x3; clear x6 x3 hl2 hb2))
        have hlen : (R.1.l ++ [[(N : Int)]]).length = R.1.l.length + 1 := by rw [List.length_append]; rfl
        have hL9 := HL3.out
        rw [hlen] at hL9
        refine bodyPost_ret (results_ct rfl _ _ (W.heap.size + 1 + 1) 60 #[.int .i64 N, .slice A5 (R.1.l.length + 1) c5] (0, 0) _ rfl (blk_put (cs := #[.int .i64 N, .slice none 0 0]) (blk_put (cs := #[.int .i64 0, .slice none 0 0]) HX6z.out 0 _ rfl) 1 _ rfl) Tryd.underlying60 rfl (by kernel_rfl)) rfl ?_
        exact rlay_end HR2.out hlen hL9 HX6z.out (by omega) (HBW2.out.trans (HBz.out.mono HBW2.out.size))
      · as_aux_lemma =>
        rw [hop] at hop0 HR2
        clear hop
        have HFF : ∀ i, W1.heap.size ≤ i → (fun i => F i ∨ W.heap.size ≤ i) i := fun i h => .inr (Nat.le_trans HBW2.out.size h)
        obtain ⟨hb, hr⟩ := rows1 (fun i => F i ∨ W.heap.size ≤ i) W1 [-(N : Int)] HFF (by simp) rfl rfl
        have HB2 := Aside0.mk (hb)
        have HQ := Aside0.mk (ref_add w0.heap.size (fun i => F i ∨ W.heap.size ≤ i) N R.1.l [[-(N : Int)]] A1 c1 _ 1 1 _ (HL2.out.below HB2.out) hr (Nat.le_trans HWB.out (Nat.le_trans HBW2.out.size HB2.out.size)) (by omega))
        clear hb hr
        clear HFF
        go_wp2_with (first | (go_at_call 35; refine HQ.out.mono ?_; rintro e w2 ⟨A5, c5, rfl, hl2, hb2⟩; have HL3 := Aside0.mk hl2; have HBz := Aside0.mk (below_step HB2.out hb2); have x6 := blk_below HX66.out HBz.out; have HX6z := Aside0.mk x6; have x3 := blk_below HS4.out HBz.out; have HX3z := Aside0.mk x3; have x60 := blk_cell x6 0; have x61 := blk_cell x6 1; have xf0 := blk_frozen x6 0; have xf1 := blk_frozen x6 1; have xl := blk_lt x6; have x30 := blk_cell x3 0; have x31 := blk_cell x3 1; have xe0 := blk_frozen x3 0; have xe1 := blk_frozen x3 1; have xl3 := blk_lt x3; clear x6 x3 hl2 hb2))
        have hlen : (R.1.l ++ [[-(N : Int)]]).length = R.1.l.length + 1 := by rw [List.length_append]; rfl
        have hL9 := HL3.out
        rw [hlen] at hL9
        refine bodyPost_ret (results_ct rfl _ _ (W.heap.size + 1 + 1) 60 #[.int .i64 N, .slice A5 (R.1.l.length + 1) c5] (0, 0) _ rfl (blk_put (cs := #[.int .i64 N, .slice none 0 0]) (blk_put (cs := #[.int .i64 0, .slice none 0 0]) HX6z.out 0 _ rfl) 1 _ rfl) Tryd.underlying60 rfl (by kernel_rfl)) rfl ?_
        exact rlay_end HR2.out hlen hL9 HX6z.out (by omega) (HBW2.out.trans (HBz.out.mono HBW2.out.size))
      · as_aux_lemma =>
        rw [hop] at hop0 HR2
        have h4 : t.f4.length = 1 := by have h5 := HSUB.out; rw [hop] at h5; have e : csN 6 = 1 := rfl; omega
        have hvs := layL_val false at_ t.f4 st t.f4.length HHA.out (by have := HSZ.out; have := sumTo_le csize t.f4 t.f4.length; omega)
        rw [List.take_length, hst] at hvs
        rw [h4] at HX2
        obtain ⟨gx, rfl, hgx, hxs⟩ := own_cells HX2.out (by omega)
        have hl2 : R.2.length = 1 := HXL.out.trans h4
        obtain ⟨a, hRab⟩ : ∃ a, R.2 = [a] := List.length_eq_one_iff.1 hl2
        have hxa := hxs 0 a (by rw [hRab]; rfl)
        obtain ⟨ha0, ha1⟩ := hvs a (by rw [hRab]; simp)
        rw [hRab] at HR2
        have ng1 : gx ≠ W.heap.size + 1 + 1 := fun e => own_ne HX2.out HX66.out (by decide) (congrArg some e.symm)
        clear hxs hvs HX2
        rw [h4]
        clear hop
        have HFF : ∀ i, W1.heap.size ≤ i → (fun i => F i ∨ W.heap.size ≤ i) i := fun i h => .inr (Nat.le_trans HBW2.out.size h)
        obtain ⟨hba, hra⟩ := rows2 (fun i => F i ∨ W.heap.size ≤ i) W1 [(IntKind.i64.wrap (-(N : Int))), (IntKind.i64.wrap (-a))] [(N : Int), a] HFF (by simp) (by simp) rfl rfl rfl
        have HB2a := Aside0.mk (hba.drew)
        have HQa := Aside0.mk (ref_add w0.heap.size (fun i => F i ∨ W.heap.size ≤ i) N R.1.l [[(IntKind.i64.wrap (-(N : Int))), (IntKind.i64.wrap (-a))], [(N : Int), a]] A1 c1 _ 2 2 _ (HL2.out.below HB2a.out) (hra.imp_ (Below.refl _ _).drew (fun p cs h => h.move (fun i cur hf hc => ⟨rfl, hf⟩))) (Nat.le_trans HWB.out (Nat.le_trans HBW2.out.size HB2a.out.size)) (by omega))
        clear hba hra
        obtain ⟨hbb, hrb⟩ := rows2s (fun i => F i ∨ W.heap.size ≤ i) W1 [(IntKind.i64.wrap (-(N : Int))), (IntKind.i64.wrap (-a))] [(N : Int), a] HFF (by simp) (by simp) rfl rfl rfl
        have HB2b := Aside0.mk (hbb.drew)
        have HQb := Aside0.mk (ref_add w0.heap.size (fun i => F i ∨ W.heap.size ≤ i) N R.1.l [[(IntKind.i64.wrap (-(N : Int))), (IntKind.i64.wrap (-a))], [(N : Int), a]] A1 c1 _ 2 2 _ (HL2.out.below HB2b.out) (hrb.imp_ (Below.refl _ _).drew (fun p cs h => h.move (fun i cur hf hc => ⟨rfl, hf⟩))) (Nat.le_trans HWB.out (Nat.le_trans HBW2.out.size HB2b.out.size)) (by omega))
        clear hbb hrb
        clear HFF
        go_upto_region 18 with fail
        have ng2 := ng1.symm
        have hln : ∀ q, W.heap.size < W1.heap.size + q := fun q => by omega
        have hgn : ∀ q, gx < W1.heap.size + q := fun q => by omega
        have ng3 : W.heap.size ≠ W.heap.size + 1 + 1 := by omega
        have ng4 := ng3.symm
        go_region_held3 (fun V => V.cell? ⟨W.heap.size, 0, none⟩ = some (.int .i64 N) ∧ V.cell? ⟨W.heap.size, 1, none⟩ = some (.slice A1 R.1.l.length c1) ∧ V.cell? ⟨gx, 0, none⟩ = some (.int .i64 a)) (simp [*, World.cell?_alloc_lt, World.cell?_alloc_some, World.cell?_setCell_far]) (first | (go_at_call 35; refine HQa.out.mono ?_; rintro e w2 ⟨A5, c5, rfl, hl2, hb2⟩; have HL3 := Aside0.mk hl2; have HBz := Aside0.mk (below_step HB2a.out hb2); have x6 := blk_below HX66.out HBz.out; have HX6z := Aside0.mk x6; have x3 := blk_below HS4.out HBz.out; have HX3z := Aside0.mk x3; have x60 := blk_cell x6 0; have x61 := blk_cell x6 1; have xf0 := blk_frozen x6 0; have xf1 := blk_frozen x6 1; have xl := blk_lt x6; have x30 := blk_cell x3 0; have x31 := blk_cell x3 1; have xe0 := blk_frozen x3 0; have xe1 := blk_frozen x3 1; have xl3 := blk_lt x3; clear x6 x3 hl2 hb2; have xg : w2.cell? ⟨gx, 0, none⟩ = some (.int .i64 a) := (HBz.out.cell (p := ⟨gx, 0, none⟩) hgx).trans hxa) | (go_at_call 35; refine HQb.out.mono ?_; rintro e w2 ⟨A5, c5, rfl, hl2, hb2⟩; have HL3 := Aside0.mk hl2; have HBz := Aside0.mk (below_step HB2b.out hb2); have x6 := blk_below HX66.out HBz.out; have HX6z := Aside0.mk x6; have x3 := blk_below HS4.out HBz.out; have HX3z := Aside0.mk x3; have x60 := blk_cell x6 0; have x61 := blk_cell x6 1; have xf0 := blk_frozen x6 0; have xf1 := blk_frozen x6 1; have xl := blk_lt x6; have x30 := blk_cell x3 0; have x31 := blk_cell x3 1; have xe0 := blk_frozen x3 0; have xe1 := blk_frozen x3 1; have xl3 := blk_lt x3; clear x6 x3 hl2 hb2; have xg : w2.cell? ⟨gx, 0, none⟩ = some (.int .i64 a) := (HBz.out.cell (p := ⟨gx, 0, none⟩) hgx).trans hxa))
        all_goals go_wp2_with fail
        all_goals (
          have hlen : (R.1.l ++ [[-(N : Int), -a], [(N : Int), a]]).length = R.1.l.length + 2 := by rw [List.length_append]; rfl
          have hL9 := HL3.out
          rw [show IntKind.i64.wrap (-(N : Int)) = -(N : Int) from (i64_w _).trans (wrap64_id (by omega) (by omega)), show IntKind.i64.wrap (-a) = -a from (i64_w _).trans (wrap64_id (by omega) (by omega))] at hL9
          rw [hlen] at hL9
          refine bodyPost_ret (results_ct rfl _ _ (W.heap.size + 1 + 1) 60 #[.int .i64 N, .slice A5 (R.1.l.length + 2) c5] (0, 0) _ rfl (blk_put (cs := #[.int .i64 N, .slice none 0 0]) (blk_put (cs := #[.int .i64 0, .slice none 0 0]) HX6z.out 0 _ rfl) 1 _ rfl) Tryd.underlying60 rfl (by kernel_rfl)) rfl ?_
          exact rlay_end HR2.out hlen hL9 HX6z.out (by omega) (HBW2.out.trans (HBz.out.mono HBW2.out.size)))
      · as_aux_lemma =>
        rw [hop] at hop0 HR2
        have h4 : t.f4.length = 2 := by have h5 := HSUB.out; rw [hop] at h5; have e : csN 7 = 2 := rfl; omega
        have hvs := layL_val false at_ t.f4 st t.f4.length HHA.out (by have := HSZ.out; have := sumTo_le csize t.f4 t.f4.length; omega)
        rw [List.take_length, hst] at hvs
        rw [h4] at HX2
        obtain ⟨gx, rfl, hgx, hxs⟩ := own_cells HX2.out (by omega)
        have hl2 : R.2.length = 2 := HXL.out.trans h4
        obtain ⟨a, b, hRab⟩ := len_two hl2
        have hxa := hxs 0 a (by rw [hRab]; rfl)
        have hxb := hxs 1 b (by rw [hRab]; rfl)
        obtain ⟨ha0, ha1⟩ := hvs a (by rw [hRab]; simp)
        obtain ⟨hb0, hb1⟩ := hvs b (by rw [hRab]; simp)
        rw [hRab] at HR2
        clear hxs hvs HX2
        rw [h4]
        clear hop
        go_upto_region 19 with fail
        go_quiet (fail)
        have HS4d : Aside0 ((W1.drewN nq).heap[W.heap.size]? = some (.cells #[.int .i64 N, .slice A1 R.1.l.length c1] 60 (0, 0))) := ⟨HS4.out⟩
        have HX16d : Aside0 ((W1.drewN nq).heap[W.heap.size + 1]? = some (.cells (c41 t A c B d) 41 (0, 0))) := ⟨HX16.out⟩
        have HX66d : Aside0 ((W1.drewN nq).heap[W.heap.size + 1 + 1]? = some (.cells #[.int .i64 0, .slice none 0 0] 60 (0, 0))) := ⟨HX66.out⟩
        have HL2d := Aside0.mk (HL2.out.below (pw_below_drewN (Below.refl _ _) nq))
        have HBW2d := Aside0.mk (below_step HBW2.out (pw_below_drewN (Below.refl _ _) nq))
        have hop0d : (W1.drewN nq).cell? ⟨W.heap.size + 1, 0, none⟩ = some (.int .i64 7) := hop0
        have hl5d : W.heap.size + 1 < (W1.drewN nq).heap.size := hl5
        clear hn0 hn1 hf0 hf1 hl3 hop0 hl5 hxa hxb
        generalize hWd : W1.drewN nq = Wd at *
        clear hWd HS4 HX16 HX66 HL2 HBW2
        have HS4 := HS4d
        have HX66 := HX66d
        have HL2 := HL2d
        have HBW2 := HBW2d
        clear HS4d HX16d HX66d HL2d HBW2d
        have hn0 := blk_cell HS4.out 0
        have hn1 := blk_cell HS4.out 1
        have hl3 := blk_lt HS4.out
        have HFF : ∀ i, Wd.heap.size ≤ i → (fun i => F i ∨ W.heap.size ≤ i) i := fun i h => .inr (Nat.le_trans HBW2.out.size h)
        obtain ⟨hb, hr⟩ := rows3 (fun i => F i ∨ W.heap.size ≤ i) Wd [-(N : Int), a] [-(N : Int), b] [(N : Int), -a, -b] HFF (by simp) (by simp) (by simp) rfl rfl rfl rfl
        have HB2 := Aside0.mk (hb)
        have HQ := Aside0.mk (ref_add w0.heap.size (fun i => F i ∨ W.heap.size ≤ i) N R.1.l [[-(N : Int), a], [-(N : Int), b], [(N : Int), -a, -b]] A1 c1 _ 3 3 _ (HL2.out.below HB2.out) hr (Nat.le_trans HWB.out (Nat.le_trans HBW2.out.size HB2.out.size)) (by omega))
        clear hb hr
        clear HFF
        go_upto_region 29 with (first | (go_at_call 35; refine HQ.out.mono ?_; rintro e w2 ⟨A5, c5, rfl, hl2, hb2⟩; have HL3 := Aside0.mk hl2; have HBz := Aside0.mk (below_step HB2.out hb2); have x6 := blk_below HX66.out HBz.out; have HX6z := Aside0.mk x6; have x3 := blk_below HS4.out HBz.out; have HX3z := Aside0.mk x3; have x60 := blk_cell x6 0; have x61 := blk_cell x6 1; have xf0 := blk_frozen x6 0; have xf1 := blk_frozen x6 1; have xl := blk_lt x6; have x30 := blk_cell x3 0; have x31 := blk_cell x3 1; have xe0 := blk_frozen x3 0; have xe1 := blk_frozen x3 1; have xl3 := blk_lt x3; clear x6 x3 hl2 hb2))
        have HU9 := Aside0.mk (((Upd.refl (fun i => i = W.heap.size) w2).setCell (p := ⟨W.heap.size, 0, none⟩) rfl (.int .i64 N)).setCell (p := ⟨W.heap.size, 1, none⟩) rfl (.slice A5 (R.1.l.length + 3) c5))
        have HX39 := Aside0.mk (blk_put (cs' := #[.int .i64 N, .slice A5 (R.1.l.length + 3) c5]) (blk_put (cs' := #[.int .i64 N, .slice A1 R.1.l.length c1]) HX3z.out 0 (.int .i64 N) rfl) 1 (.slice A5 (R.1.l.length + 3) c5) rfl)
        clear x60 x61 xf0 xf1 xl x30 x31 xe0 xe1 xl3
        generalize hW9 : (w2.setCell ⟨W.heap.size, 0, none⟩ (.int .i64 N)).setCell ⟨W.heap.size, 1, none⟩ (.slice A5 (R.1.l.length + 3) c5) = w9 at *
        clear hW9
        have x6 : w9.heap[W.heap.size + 1 + 1]? = some (.cells #[.int .i64 0, .slice none 0 0] 60 (0, 0)) := HU9.out.blk HX6z.out (by omega)
        have HX69 := Aside0.mk x6
        have x60 := blk_cell x6 0
        have x61 := blk_cell x6 1
        have xf0 := blk_frozen x6 0
        have xf1 := blk_frozen x6 1
        have xl := blk_lt x6
        have x30 := blk_cell HX39.out 0
        have x31 := blk_cell HX39.out 1
        have xl3 := blk_lt HX39.out
        clear x6
        go_wp2_with fail
        have hlen : (R.1.l ++ [[-(N : Int), a], [-(N : Int), b], [(N : Int), -a, -b]]).length = R.1.l.length + 3 := by rw [List.length_append]; rfl
        have hL9 := HL3.out
        rw [hlen] at hL9
        refine bodyPost_ret (results_ct rfl _ _ (W.heap.size + 1 + 1) 60 #[.int .i64 N, .slice A5 (R.1.l.length + 3) c5] (0, 0) _ rfl (blk_put (cs := #[.int .i64 N, .slice none 0 0]) (blk_put (cs := #[.int .i64 0, .slice none 0 0]) HX69.out 0 _ rfl) 1 _ rfl) Tryd.underlying60 rfl (by kernel_rfl)) rfl ?_
        exact rlay_end HR2.out hlen (hL9.upd1 HU9.out HX3z.out (by decide) (by decide)) HX69.out (by omega) ((HBW2.out.trans (HBz.out.mono HBW2.out.size)).trans (HU9.out.below (HBW2.out.trans (HBz.out.mono HBW2.out.size)).size (fun i e => by omega)))
      · as_aux_lemma =>
        rw [hop] at hop0 HR2
        have h4 : t.f4.length = 2 := by have h5 := HSUB.out; rw [hop] at h5; have e : csN 8 = 2 := rfl; omega
        have hvs := layL_val false at_ t.f4 st t.f4.length HHA.out (by have := HSZ.out; have := sumTo_le csize t.f4 t.f4.length; omega)
        rw [List.take_length, hst] at hvs
        rw [h4] at HX2
        obtain ⟨gx, rfl, hgx, hxs⟩ := own_cells HX2.out (by omega)
        have hl2 : R.2.length = 2 := HXL.out.trans h4
        obtain ⟨a, b, hRab⟩ := len_two hl2
        have hxa := hxs 0 a (by rw [hRab]; rfl)
        have hxb := hxs 1 b (by rw [hRab]; rfl)
        obtain ⟨ha0, ha1⟩ := hvs a (by rw [hRab]; simp)
        obtain ⟨hb0, hb1⟩ := hvs b (by rw [hRab]; simp)
        rw [hRab] at HR2
        clear hxs hvs HX2
        rw [h4]
        clear hop
        go_upto_region 19 with fail
        go_quiet (fail)
        have HS4d : Aside0 ((W1.drewN nq).heap[W.heap.size]? = some (.cells #[.int .i64 N, .slice A1 R.1.l.length c1] 60 (0, 0))) := ⟨HS4.out⟩
        have HX16d : Aside0 ((W1.drewN nq).heap[W.heap.size + 1]? = some (.cells (c41 t A c B d) 41 (0, 0))) := ⟨HX16.out⟩
        have HX66d : Aside0 ((W1.drewN nq).heap[W.heap.size + 1 + 1]? = some (.cells #[.int .i64 0, .slice none 0 0] 60 (0, 0))) := ⟨HX66.out⟩
        have HL2d := Aside0.mk (HL2.out.below (pw_below_drewN (Below.refl _ _) nq))
        have HBW2d := Aside0.mk (below_step HBW2.out (pw_below_drewN (Below.refl _ _) nq))
        have hop0d : (W1.drewN nq).cell? ⟨W.heap.size + 1, 0, none⟩ = some (.int .i64 8) := hop0
        have hl5d : W.heap.size + 1 < (W1.drewN nq).heap.size := hl5
        clear hn0 hn1 hf0 hf1 hl3 hop0 hl5 hxa hxb
        generalize hWd : W1.drewN nq = Wd at *
        clear hWd HS4 HX16 HX66 HL2 HBW2
        have HS4 := HS4d
        have HX66 := HX66d
        have HL2 := HL2d
        have HBW2 := HBW2d
        clear HS4d HX16d HX66d HL2d HBW2d
        have hn0 := blk_cell HS4.out 0
        have hn1 := blk_cell HS4.out 1
        have hl3 := blk_lt HS4.out
        have HFF : ∀ i, Wd.heap.size ≤ i → (fun i => F i ∨ W.heap.size ≤ i) i := fun i h => .inr (Nat.le_trans HBW2.out.size h)
        obtain ⟨hb, hr⟩ := rows3 (fun i => F i ∨ W.heap.size ≤ i) Wd [-(N : Int), a, b] [(N : Int), -a] [(N : Int), -b] HFF (by simp) (by simp) (by simp) rfl rfl rfl rfl
        have HB2 := Aside0.mk (hb)
        have HQ := Aside0.mk (ref_add w0.heap.size (fun i => F i ∨ W.heap.size ≤ i) N R.1.l [[-(N : Int), a, b], [(N : Int), -a], [(N : Int), -b]] A1 c1 _ 3 3 _ (HL2.out.below HB2.out) hr (Nat.le_trans HWB.out (Nat.le_trans HBW2.out.size HB2.out.size)) (by omega))
        clear hb hr
        clear HFF
        go_upto_region 29 with (first | (go_at_call 35; refine HQ.out.mono ?_; rintro e w2 ⟨A5, c5, rfl, hl2, hb2⟩; have HL3 := Aside0.mk hl2; have HBz := Aside0.mk (below_step HB2.out hb2); have x6 := blk_below HX66.out HBz.out; have HX6z := Aside0.mk x6; have x3 := blk_below HS4.out HBz.out; have HX3z := Aside0.mk x3; have x60 := blk_cell x6 0; have x61 := blk_cell x6 1; have xf0 := blk_frozen x6 0; have xf1 := blk_frozen x6 1; have xl := blk_lt x6; have x30 := blk_cell x3 0; have x31 := blk_cell x3 1; have xe0 := blk_frozen x3 0; have xe1 := blk_frozen x3 1; have xl3 := blk_lt x3; clear x6 x3 hl2 hb2))
        have HU9 := Aside0.mk (((Upd.refl (fun i => i = W.heap.size) w2).setCell (p := ⟨W.heap.size, 0, none⟩) rfl (.int .i64 N)).setCell (p := ⟨W.heap.size, 1, none⟩) rfl (.slice A5 (R.1.l.length + 3) c5))
        have HX39 := Aside0.mk (blk_put (cs' := #[.int .i64 N, .slice A5 (R.1.l.length + 3) c5]) (blk_put (cs' := #[.int .i64 N, .slice A1 R.1.l.length c1]) HX3z.out 0 (.int .i64 N) rfl) 1 (.slice A5 (R.1.l.length + 3) c5) rfl)
        clear x60 x61 xf0 xf1 xl x30 x31 xe0 xe1 xl3
        generalize hW9 : (w2.setCell ⟨W.heap.size, 0, none⟩ (.int .i64 N)).setCell ⟨W.heap.size, 1, none⟩ (.slice A5 (R.1.l.length + 3) c5) = w9 at *
        clear hW9
        have x6 : w9.heap[W.heap.size + 1 + 1]? = some (.cells #[.int .i64 0, .slice none 0 0] 60 (0, 0)) := HU9.out.blk HX6z.out (by omega)
        have HX69 := Aside0.mk x6
        have x60 := blk_cell x6 0
        have x61 := blk_cell x6 1
        have xf0 := blk_frozen x6 0
        have xf1 := blk_frozen x6 1
        have xl := blk_lt x6
        have x30 := blk_cell HX39.out 0
        have x31 := blk_cell HX39.out 1
        have xl3 := blk_lt HX39.out
        clear x6
        go_wp2_with fail
        have hlen : (R.1.l ++ [[-(N : Int), a, b], [(N : Int), -a], [(N : Int), -b]]).length = R.1.l.length + 3 := by rw [List.length_append]; rfl
        have hL9 := HL3.out
        rw [hlen] at hL9
        refine bodyPost_ret (results_ct rfl _ _ (W.heap.size + 1 + 1) 60 #[.int .i64 N, .slice A5 (R.1.l.length + 3) c5] (0, 0) _ rfl (blk_put (cs := #[.int .i64 N, .slice none 0 0]) (blk_put (cs := #[.int .i64 0, .slice none 0 0]) HX69.out 0 _ rfl) 1 _ rfl) Tryd.underlying60 rfl (by kernel_rfl)) rfl ?_
        exact rlay_end HR2.out hlen (hL9.upd1 HU9.out HX3z.out (by decide) (by decide)) HX69.out (by omega) ((HBW2.out.trans (HBz.out.mono HBW2.out.size)).trans (HU9.out.below (HBW2.out.trans (HBz.out.mono HBW2.out.size)).size (fun i e => by omega)))
      · as_aux_lemma =>
        rw [hop] at hop0 HR2
        have h4 : t.f4.length = 2 := by have h5 := HSUB.out; rw [hop] at h5; have e : csN 9 = 2 := rfl; omega
        have hvs := layL_val false at_ t.f4 st t.f4.length HHA.out (by have := HSZ.out; have := sumTo_le csize t.f4 t.f4.length; omega)
        rw [List.take_length, hst] at hvs
        rw [h4] at HX2
        obtain ⟨gx, rfl, hgx, hxs⟩ := own_cells HX2.out (by omega)
        have hl2 : R.2.length = 2 := HXL.out.trans h4
        obtain ⟨a, b, hRab⟩ := len_two hl2
        have hxa := hxs 0 a (by rw [hRab]; rfl)
        have hxb := hxs 1 b (by rw [hRab]; rfl)
        obtain ⟨ha0, ha1⟩ := hvs a (by rw [hRab]; simp)
        obtain ⟨hb0, hb1⟩ := hvs b (by rw [hRab]; simp)
        rw [hRab] at HR2
        clear hxs hvs HX2
        rw [h4]
        clear hop
        go_upto_region 19 with fail
        go_quiet (fail)
        have HS4d : Aside0 ((W1.drewN nq).heap[W.heap.size]? = some (.cells #[.int .i64 N, .slice A1 R.1.l.length c1] 60 (0, 0))) := ⟨HS4.out⟩
        have HX16d : Aside0 ((W1.drewN nq).heap[W.heap.size + 1]? = some (.cells (c41 t A c B d) 41 (0, 0))) := ⟨HX16.out⟩
        have HX66d : Aside0 ((W1.drewN nq).heap[W.heap.size + 1 + 1]? = some (.cells #[.int .i64 0, .slice none 0 0] 60 (0, 0))) := ⟨HX66.out⟩
        have HL2d := Aside0.mk (HL2.out.below (pw_below_drewN (Below.refl _ _) nq))
        have HBW2d := Aside0.mk (below_step HBW2.out (pw_below_drewN (Below.refl _ _) nq))
        have hop0d : (W1.drewN nq).cell? ⟨W.heap.size + 1, 0, none⟩ = some (.int .i64 9) := hop0
        have hl5d : W.heap.size + 1 < (W1.drewN nq).heap.size := hl5
        clear hn0 hn1 hf0 hf1 hl3 hop0 hl5 hxa hxb
        generalize hWd : W1.drewN nq = Wd at *
        clear hWd HS4 HX16 HX66 HL2 HBW2
        have HS4 := HS4d
        have HX66 := HX66d
        have HL2 := HL2d
        have HBW2 := HBW2d
        clear HS4d HX16d HX66d HL2d HBW2d
        have hn0 := blk_cell HS4.out 0
        have hn1 := blk_cell HS4.out 1
        have hl3 := blk_lt HS4.out
        have HFF : ∀ i, Wd.heap.size ≤ i → (fun i => F i ∨ W.heap.size ≤ i) i := fun i h => .inr (Nat.le_trans HBW2.out.size h)
        obtain ⟨hb, hr⟩ := rows3 (fun i => F i ∨ W.heap.size ≤ i) Wd [-(N : Int), -a, b] [(N : Int), a] [(N : Int), -b] HFF (by simp) (by simp) (by simp) rfl rfl rfl rfl
        have HB2 := Aside0.mk (hb)
        have HQ := Aside0.mk (ref_add w0.heap.size (fun i => F i ∨ W.heap.size ≤ i) N R.1.l [[-(N : Int), -a, b], [(N : Int), a], [(N : Int), -b]] A1 c1 _ 3 3 _ (HL2.out.below HB2.out) hr (Nat.le_trans HWB.out (Nat.le_trans HBW2.out.size HB2.out.size)) (by omega))
        clear hb hr
        clear HFF
        go_upto_region 29 with (first | (go_at_call 35; refine HQ.out.mono ?_; rintro e w2 ⟨A5, c5, rfl, hl2, hb2⟩; have HL3 := Aside0.mk hl2; have HBz := Aside0.mk (below_step HB2.out hb2); have x6 := blk_below HX66.out HBz.out; have HX6z := Aside0.mk x6; have x3 := blk_below HS4.out HBz.out; have HX3z := Aside0.mk x3; have x60 := blk_cell x6 0; have x61 := blk_cell x6 1; have xf0 := blk_frozen x6 0; have xf1 := blk_frozen x6 1; have xl := blk_lt x6; have x30 := blk_cell x3 0; have x31 := blk_cell x3 1; have xe0 := blk_frozen x3 0; have xe1 := blk_frozen x3 1; have xl3 := blk_lt x3; clear x6 x3 hl2 hb2))
        have HU9 := Aside0.mk (((Upd.refl (fun i => i = W.heap.size) w2).setCell (p := ⟨W.heap.size, 0, none⟩) rfl (.int .i64 N)).setCell (p := ⟨W.heap.size, 1, none⟩) rfl (.slice A5 (R.1.l.length + 3) c5))
        have HX39 := Aside0.mk (blk_put (cs' := #[.int .i64 N, .slice A5 (R.1.l.length + 3) c5]) (blk_put (cs' := #[.int .i64 N, .slice A1 R.1.l.length c1]) HX3z.out 0 (.int .i64 N) rfl) 1 (.slice A5 (R.1.l.length + 3) c5) rfl)
        clear x60 x61 xf0 xf1 xl x30 x31 xe0 xe1 xl3
        generalize hW9 : (w2.setCell ⟨W.heap.size, 0, none⟩ (.int .i64 N)).setCell ⟨W.heap.size, 1, none⟩ (.slice A5 (R.1.l.length + 3) c5) = w9 at *
        clear hW9
        have x6 : w9.heap[W.heap.size + 1 + 1]? = some (.cells #[.int .i64 0, .slice none 0 0] 60 (0, 0)) := HU9.out.blk HX6z.out (by omega)
        have HX69 := Aside0.mk x6
        have x60 := blk_cell x6 0
        have x61 := blk_cell x6 1
        have xf0 := blk_frozen x6 0
        have xf1 := blk_frozen x6 1
        have xl := blk_lt x6
        have x30 := blk_cell HX39.out 0
        have x31 := blk_cell HX39.out 1
        have xl3 := blk_lt HX39.out
        clear x6
        go_wp2_with fail
        have hlen : (R.1.l ++ [[-(N : Int), -a, b], [(N : Int), a], [(N : Int), -b]]).length = R.1.l.length + 3 := by rw [List.length_append]; rfl
        have hL9 := HL3.out
        rw [hlen] at hL9
        refine bodyPost_ret (results_ct rfl _ _ (W.heap.size + 1 + 1) 60 #[.int .i64 N, .slice A5 (R.1.l.length + 3) c5] (0, 0) _ rfl (blk_put (cs := #[.int .i64 N, .slice none 0 0]) (blk_put (cs := #[.int .i64 0, .slice none 0 0]) HX69.out 0 _ rfl) 1 _ rfl) Tryd.underlying60 rfl (by kernel_rfl)) rfl ?_
        exact rlay_end HR2.out hlen (hL9.upd1 HU9.out HX3z.out (by decide) (by decide)) HX69.out (by omega) ((HBW2.out.trans (HBz.out.mono HBW2.out.size)).trans (HU9.out.below (HBW2.out.trans (HBz.out.mono HBW2.out.size)).size (fun i e => by omega)))
      · as_aux_lemma =>
        rw [hop] at hop0 HR2
        have h4 : t.f4.length = 2 := by have h5 := HSUB.out; rw [hop] at h5; have e : csN 10 = 2 := rfl; omega
        have hvs := layL_val false at_ t.f4 st t.f4.length HHA.out (by have := HSZ.out; have := sumTo_le csize t.f4 t.f4.length; omega)
        rw [List.take_length, hst] at hvs
        rw [h4] at HX2
        obtain ⟨gx, rfl, hgx, hxs⟩ := own_cells HX2.out (by omega)
        have hl2 : R.2.length = 2 := HXL.out.trans h4
        obtain ⟨a, b, hRab⟩ := len_two hl2
        have hxa := hxs 0 a (by rw [hRab]; rfl)
        have hxb := hxs 1 b (by rw [hRab]; rfl)
        obtain ⟨ha0, ha1⟩ := hvs a (by rw [hRab]; simp)
        obtain ⟨hb0, hb1⟩ := hvs b (by rw [hRab]; simp)
        rw [hRab] at HR2
        clear hxs hvs HX2
        rw [h4]
        clear hop
        go_upto_region 19 with fail
        go_quiet (fail)
        have HS4d : Aside0 ((W1.drewN nq).heap[W.heap.size]? = some (.cells #[.int .i64 N, .slice A1 R.1.l.length c1] 60 (0, 0))) := ⟨HS4.out⟩
        have HX16d : Aside0 ((W1.drewN nq).heap[W.heap.size + 1]? = some (.cells (c41 t A c B d) 41 (0, 0))) := ⟨HX16.out⟩
        have HX66d : Aside0 ((W1.drewN nq).heap[W.heap.size + 1 + 1]? = some (.cells #[.int .i64 0, .slice none 0 0] 60 (0, 0))) := ⟨HX66.out⟩
        have HL2d := Aside0.mk (HL2.out.below (pw_below_drewN (Below.refl _ _) nq))
        have HBW2d := Aside0.mk (below_step HBW2.out (pw_below_drewN (Below.refl _ _) nq))
        have hop0d : (W1.drewN nq).cell? ⟨W.heap.size + 1, 0, none⟩ = some (.int .i64 10) := hop0
        have hl5d : W.heap.size + 1 < (W1.drewN nq).heap.size := hl5
        clear hn0 hn1 hf0 hf1 hl3 hop0 hl5 hxa hxb
        generalize hWd : W1.drewN nq = Wd at *
        clear hWd HS4 HX16 HX66 HL2 HBW2
        have HS4 := HS4d
        have HX66 := HX66d
        have HL2 := HL2d
        have HBW2 := HBW2d
        clear HS4d HX16d HX66d HL2d HBW2d
        have hn0 := blk_cell HS4.out 0
        have hn1 := blk_cell HS4.out 1
        have hl3 := blk_lt HS4.out
        have HFF : ∀ i, Wd.heap.size ≤ i → (fun i => F i ∨ W.heap.size ≤ i) i := fun i h => .inr (Nat.le_trans HBW2.out.size h)
        obtain ⟨hb, hr⟩ := rows4 (fun i => F i ∨ W.heap.size ≤ i) Wd [-(N : Int), -a, b] [-(N : Int), a, -b] [(N : Int), a, b] [(N : Int), -a, -b] HFF (by simp) (by simp) (by simp) (by simp) rfl rfl rfl rfl rfl
        have HB2 := Aside0.mk (hb)
        have HQ := Aside0.mk (ref_add w0.heap.size (fun i => F i ∨ W.heap.size ≤ i) N R.1.l [[-(N : Int), -a, b], [-(N : Int), a, -b], [(N : Int), a, b], [(N : Int), -a, -b]] A1 c1 _ 4 4 _ (HL2.out.below HB2.out) hr (Nat.le_trans HWB.out (Nat.le_trans HBW2.out.size HB2.out.size)) (by omega))
        clear hb hr
        clear HFF
        go_upto_region 29 with (first | (go_at_call 35; refine HQ.out.mono ?_; rintro e w2 ⟨A5, c5, rfl, hl2, hb2⟩; have HL3 := Aside0.mk hl2; have HBz := Aside0.mk (below_step HB2.out hb2); have x6 := blk_below HX66.out HBz.out; have HX6z := Aside0.mk x6; have x3 := blk_below HS4.out HBz.out; have HX3z := Aside0.mk x3; have x60 := blk_cell x6 0; have x61 := blk_cell x6 1; have xf0 := blk_frozen x6 0; have xf1 := blk_frozen x6 1; have xl := blk_lt x6; have x30 := blk_cell x3 0; have x31 := blk_cell x3 1; have xe0 := blk_frozen x3 0; have xe1 := blk_frozen x3 1; have xl3 := blk_lt x3; clear x6 x3 hl2 hb2))
        have HU9 := Aside0.mk (((Upd.refl (fun i => i = W.heap.size) w2).setCell (p := ⟨W.heap.size, 0, none⟩) rfl (.int .i64 N)).setCell (p := ⟨W.heap.size, 1, none⟩) rfl (.slice A5 (R.1.l.length + 4) c5))
        have HX39 := Aside0.mk (blk_put (cs' := #[.int .i64 N, .slice A5 (R.1.l.length + 4) c5]) (blk_put (cs' := #[.int .i64 N, .slice A1 R.1.l.length c1]) HX3z.out 0 (.int .i64 N) rfl) 1 (.slice A5 (R.1.l.length + 4) c5) rfl)
        clear x60 x61 xf0 xf1 xl x30 x31 xe0 xe1 xl3
        generalize hW9 : (w2.setCell ⟨W.heap.size, 0, none⟩ (.int .i64 N)).setCell ⟨W.heap.size, 1, none⟩ (.slice A5 (R.1.l.length + 4) c5) = w9 at *
        clear hW9
        have x6 : w9.heap[W.heap.size + 1 + 1]? = some (.cells #[.int .i64 0, .slice none 0 0] 60 (0, 0)) := HU9.out.blk HX6z.out (by omega)
        have HX69 := Aside0.mk x6
        have x60 := blk_cell x6 0
        have x61 := blk_cell x6 1
        have xf0 := blk_frozen x6 0
        have xf1 := blk_frozen x6 1
        have xl := blk_lt x6
        have x30 := blk_cell HX39.out 0
        have x31 := blk_cell HX39.out 1
        have xl3 := blk_lt HX39.out
        clear x6
        go_wp2_with fail
        have hlen : (R.1.l ++ [[-(N : Int), -a, b], [-(N : Int), a, -b], [(N : Int), a, b], [(N : Int), -a, -b]]).length = R.1.l.length + 4 := by rw [List.length_append]; rfl
        have hL9 := HL3.out
        rw [hlen] at hL9
        refine bodyPost_ret (results_ct rfl _ _ (W.heap.size + 1 + 1) 60 #[.int .i64 N, .slice A5 (R.1.l.length + 4) c5] (0, 0) _ rfl (blk_put (cs := #[.int .i64 N, .slice none 0 0]) (blk_put (cs := #[.int .i64 0, .slice none 0 0]) HX69.out 0 _ rfl) 1 _ rfl) Tryd.underlying60 rfl (by kernel_rfl)) rfl ?_
        exact rlay_end HR2.out hlen (hL9.upd1 HU9.out HX3z.out (by decide) (by decide)) HX69.out (by omega) ((HBW2.out.trans (HBz.out.mono HBW2.out.size)).trans (HU9.out.below (HBW2.out.trans (HBz.out.mono HBW2.out.size)).size (fun i e => by omega)))
end Go.Proofs.YtbfgoopomfenjaaDoor
