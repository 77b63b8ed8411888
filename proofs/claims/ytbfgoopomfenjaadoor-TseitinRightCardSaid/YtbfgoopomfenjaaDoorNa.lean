import Derived.Test.YtbfgoopomfenjaaDoorMd
namespace Go.Proofs.YtbfgoopomfenjaaDoor
open Go.RowKit Go.Proofs.YtbfgoopomfenjaaDoorW.PrintWords Go.Proofs.YtbfgoopomfenjaaDoorW.PrintLast Go.Proofs.YtbfgoopomfenjaaDoor.PTseitinValues
set_option linter.unusedVariables false
set_option linter.unusedSimpArgs false
attribute [local go_sem] World.cell?_alloc_lt
attribute [local go_sem] run_store_fn

/-- The program's top: each claim is laid, and its literal is a clause, while there is room. -/
def topP (at_ : List S41) : List S41 → LS → LS
  | [], st => st
  | c :: cs, st => topP at_ cs (if st.n ≤ 1024 ∧ st.l.length ≤ 4096 then ⟨(layC true at_ c st).1.n, (layC true at_ c st).1.l ++ [[(layC true at_ c st).2]]⟩ else st)
theorem topP_snoc (at_ cs : List S41) (c : S41) (st : LS) : topP at_ (cs ++ [c]) st = if (topP at_ cs st).n ≤ 1024 ∧ (topP at_ cs st).l.length ≤ 4096 then ⟨(layC true at_ c (topP at_ cs st)).1.n, (layC true at_ c (topP at_ cs st)).1.l ++ [[(layC true at_ c (topP at_ cs st)).2]]⟩ else topP at_ cs st := by
  induction cs generalizing st with
  | nil => rw [List.nil_append, topP, topP, topP]
  | cons a cs ih => rw [List.cons_append, topP, ih, topP]
/-- What Of gives. -/
structure OfR where
  n : Nat
  l : List (List Int)
  at_ : List S41
  e : Int
def ofP (cs : List S41) : OfR :=
  if firstNZ (cs.map cright) ≠ 0 then ⟨0, [], [], firstNZ (cs.map cright)⟩
  else if 1024 < (topP (atomsL cs []) cs ⟨(atomsL cs []).length, []⟩).n ∨ 4096 < (topP (atomsL cs []) cs ⟨(atomsL cs []).length, []⟩).l.length then ⟨0, [], [], 2⟩
  else ⟨(topP (atomsL cs []) cs ⟨(atomsL cs []).length, []⟩).n, (topP (atomsL cs []) cs ⟨(atomsL cs []).length, []⟩).l, atomsL cs [], 0⟩
def OfOut (w0 : World) (r : OfR) (W : World) (e : Ending) (W' : World) : Prop :=
  ∃ A1 c1 A2 c2, e = .returned (.tuple #[.agg #[.int .i64 r.n, .slice A1 r.l.length c1], .slice A2 r.at_.length c2, .int .i64 r.e]) ∧ r.l.length ≤ c1 ∧ (Kd.slice 3 (Kd.int .i64)).C W' A1 r.l.length r.l ∧ AT w0 W' (.slice A2 r.at_.length c2) r.at_ ∧ Below W.heap.size W W'
theorem C_nil {α : Type} (d : Kd α) (W : World) : d.C W none 0 [] := ⟨rfl, by decide, fun h => absurd h (by decide)⟩

theorem topP_bound (at_ : List S41) (cs : List S41) (st : LS) : (topP at_ cs st).n ≤ st.n + (cs.map csize).sum ∧ (topP at_ cs st).l.length ≤ st.l.length + 5 * (cs.map csize).sum ∧ st.n ≤ (topP at_ cs st).n := by
  induction cs generalizing st with
  | nil => rw [topP]; exact ⟨Nat.le_add_right _ _, Nat.le_add_right _ _, Nat.le_refl _⟩
  | cons c cs ih =>
    rw [topP, List.map_cons, List.sum_cons]
    have h := layC_bound true at_ _ c st (Nat.le_refl _)
    have hc : 1 ≤ csize c := by rw [csize_eq]; omega
    split
    · have h2 := ih ⟨(layC true at_ c st).1.n, (layC true at_ c st).1.l ++ [[(layC true at_ c st).2]]⟩
      have e : ((layC true at_ c st).1.l ++ [[(layC true at_ c st).2]]).length = (layC true at_ c st).1.l.length + 1 := by simp
      simp only [e] at h2
      omega
    · have h2 := ih st; omega
theorem topP_take {at_ cs : List S41} {k : Nat} {c : S41} (hc : cs[k]? = some c) (st : LS) : topP at_ (cs.take (k + 1)) st = if (topP at_ (cs.take k) st).n ≤ 1024 ∧ (topP at_ (cs.take k) st).l.length ≤ 4096 then ⟨(layC true at_ c (topP at_ (cs.take k) st)).1.n, (layC true at_ c (topP at_ (cs.take k) st)).1.l ++ [[(layC true at_ c (topP at_ (cs.take k) st)).2]]⟩ else topP at_ (cs.take k) st := by
  rw [take_snoc hc, topP_snoc]
/-- One after the other is laid. -/
def OfRel (at_ cs : List S41) (st0 : LS) (w0 W6 : World) (bO : Nat) (i : Value) (wr : World) : Prop :=
  ∃ k A1 c1, k ≤ cs.length ∧ i = .int .i64 (k : Nat) ∧
    Aside0 (OutAt wr bO (topP at_ (cs.take k) st0).n (.slice A1 (topP at_ (cs.take k) st0).l.length c1)) ∧
    Aside0 (LT w0.heap.size (fun i => W6.heap.size ≤ i) wr (.slice A1 (topP at_ (cs.take k) st0).l.length c1) (topP at_ (cs.take k) st0).l) ∧
    Aside0 (Upd (EvB bO (.slice none 0 0)) W6 wr) ∧ Aside0 (OwnStep W6.heap.size (.slice none 0 0) (.slice A1 (topP at_ (cs.take k) st0).l.length c1))
theorem OfRel.mk {at_ cs : List S41} {st0 : LS} {w0 W6 : World} {bO : Nat} {i : Value} {wr : World} (k : Nat) (A1 : Option Addr) (c1 : Nat) (r : LS) (hr : topP at_ (cs.take k) st0 = r) (h1 : k ≤ cs.length) (h2 : i = .int .i64 k)
    (h3 : OutAt wr bO r.n (.slice A1 r.l.length c1)) (h4 : LT w0.heap.size (fun i => W6.heap.size ≤ i) wr (.slice A1 r.l.length c1) r.l) (h5 : Upd (EvB bO (.slice none 0 0)) W6 wr) (h6 : OwnStep W6.heap.size (.slice none 0 0) (.slice A1 r.l.length c1)) :
    OfRel at_ cs st0 w0 W6 bO i wr := by subst hr; exact ⟨k, A1, c1, h1, h2, ⟨h3⟩, ⟨h4⟩, ⟨h5⟩, ⟨h6⟩⟩

set_option maxRecDepth 100000 in
set_option maxHeartbeats 4000000 in
theorem of_wrong (w0 : World) (cs : List S41) (A : Option Addr) (c : Nat) (W : World) (hB : Below w0.heap.size w0 W) (hC : k41.C w0 A cs.length cs) (hN : Needs W) (hs : ∀ x ∈ cs, csize x ≤ 4096) (hne : firstNZ (cs.map cright) ≠ 0) :
    Calls Tryd.prog 11 #[.slice A cs.length c] W (OfOut w0 (ofP cs) W) := by
  have hla := hC.2.1
  have HR2 : Aside0 (ofP cs = ⟨0, [], [], firstNZ (cs.map cright)⟩) := ⟨by unfold ofP; rw [if_pos hne]⟩
  have hBW : Below W.heap.size W (W.alloc (.cells #[.int .i64 0, .slice none 0 0] 27)) := below_alloc (Below.refl _ _) _
  have HX := Aside0.mk (show (W.alloc (.cells #[.int .i64 0, .slice none 0 0] 27)).heap[W.heap.size]? = some (.cells #[.int .i64 0, .slice none 0 0] 27 (0, 0)) from blk_new _ _)
  have HB := Aside0.mk (hB.trans (hBW.mono hB.size))
  have HN := Aside0.mk (hN.below hBW)
  have HC := Aside0.mk hC
  have HBW := Aside0.mk hBW
  have HS := Aside0.mk hs
  have HNE := Aside0.mk hne
  clear hB hC hN hBW hs hne
  go_enter Tryd.func11, Tryd.ntmps11
  go_upto_region 1 with fail
  generalize hW : W.alloc (.cells #[.int .i64 0, .slice none 0 0] 27) = W1 at *
  clear hW
  go_wp2_with fail
  go_loopw [7, 16] (fun _ i wr => NoErr cright cs W1 i wr) (fun _ i _ => cs.length - (intOf i).toNat)
  case atStart => exact NoErr.start _ _ _
  case round =>
    obtain ⟨k, hk, rfl, HF, HBr⟩ := hrel
    have HB1 := Aside0.mk (HB.out.trans (HBr.out.mono HB.out.size))
    have HN1 := Aside0.mk (HN.out.below HBr.out)
    by_cases hlt : k < cs.length
    · have hltb : decide (k < cs.length) = true := decide_eq_true hlt
      obtain ⟨x, ad, A3, c3, B3, d3, hx, rfl, Z0⟩ := at41 HC.out k hlt
      have Z := Z0.below HB1.out
      obtain ⟨z0, z1, z2, z3, z4, zl0, zln⟩ := Z.cells
      have HFx := Aside0.mk (firstNZ_take cright hx HF.out)
      have HXS := Aside0.mk (HS.out x (List.mem_of_getElem? hx))
      clear hx Z0
      by_cases hz : cright x = 0
      · have hzb : (cright x != 0) = false := by simpa using hz
        have HF2 : Aside0 (firstNZ ((cs.take (k + 1)).map cright) = 0) := ⟨HFx.out.trans hz⟩
        clear hz
        go_wp2_with (first | (go_at_call 26; refine (claim_right x A3 c3 B3 d3 _ HXS.out (Z.P.below (below_alloc (Below.refl _ _) _)) (HN1.out.below (below_alloc (Below.refl _ _) _))).mono ?_; rintro e w1 ⟨rfl, hb⟩; have hb' := Aside0.mk (below_step HBr.out (below_step (below_alloc (Below.refl _ _) _) hb)); clear hb))
        refine ⟨⟨k + 1, by omega, by go_num, HF2, hb'⟩, ?_⟩
        simp [intOf]; omega
      · have hzb : (cright x != 0) = true := by simpa using hz
        have HR3 : Aside0 (firstNZ (cs.map cright) = cright x) := ⟨by rw [firstNZ_early cright (k + 1) (by rw [HFx.out]; exact hz), HFx.out]⟩
        clear hz
        go_wp2_with (first | (go_at_call 26; refine (claim_right x A3 c3 B3 d3 _ HXS.out (Z.P.below (below_alloc (Below.refl _ _) _)) (HN1.out.below (below_alloc (Below.refl _ _) _))).mono ?_; rintro e w1 ⟨rfl, hb⟩; have hb' := Aside0.mk (below_step HBr.out (below_step (below_alloc (Below.refl _ _) _) hb)); have hx1 := (hb'.out.block W.heap.size (blk_lt HX.out)).trans HX.out; have hp0 := blk_cell hx1 0; have hp1 := blk_cell hx1 1; have hq0 := blk_frozen hx1 0; have hq1 := blk_frozen hx1 1; have hqlt := blk_lt hx1; clear hb))
        refine bodyPost_ret (results_ctt rfl _ _ W.heap.size 27 #[.int .i64 0, .slice none 0 0] (0, 0) _ rfl (blk_put (cs := #[.int .i64 0, .slice none 0 0]) (blk_put (cs := #[.int .i64 0, .slice none 0 0]) hx1 0 _ rfl) 1 _ rfl) Tryd.underlying27 rfl (by kernel_rfl)) rfl ?_
        rw [HR2.out, HR3.out]
        exact ⟨none, 0, none, 0, rfl, Nat.le_refl _, C_nil _ _, AT.nil _ _, ((HBW.out.trans (hb'.out.mono HBW.out.size)).setCell (p := ⟨W.heap.size, 0, none⟩) (Nat.le_refl _) _).setCell (p := ⟨W.heap.size, 1, none⟩) (Nat.le_refl _) _⟩
    · exact absurd (by have h1 := HF.out; rwa [List.take_of_length_le (by omega)] at h1) HNE.out
end Go.Proofs.YtbfgoopomfenjaaDoor
namespace Go.Proofs.YtbfgoopomfenjaaDoor
open Go.RowKit Go.Proofs.YtbfgoopomfenjaaDoorW.PrintWords Go.Proofs.YtbfgoopomfenjaaDoorW.PrintLast Go.Proofs.YtbfgoopomfenjaaDoor.PTseitinValues
set_option linter.unusedVariables false
set_option linter.unusedSimpArgs false
attribute [local go_sem] World.cell?_alloc_lt
attribute [local go_sem] run_store_fn

abbrev kL : Kd (List Int) := Kd.slice 3 (Kd.int .i64)
/-- Rows that stay. -/
abbrev AnyB : Nat → Prop := fun _ => True
theorem LT.upd1 {n0 : Nat} {F : Nat → Prop} {W W' : World} {v : Value} {L : List (List Int)} {b : Nat} {cs : Array Value} {t : TypeId} (h : LT n0 F W v L) (hu : Upd (fun i => i = b) W W') (hb : W.heap[b]? = some (.cells cs t (0, 0))) (h1 : 54 ≠ t) (h2 : 3 ≠ t) : LT n0 F W' v L :=
  h.upd hu (fun i hi e => by subst e; exact h.ne hb h1 hi) (fun i cur hf hc e => by subst e; have := hc.symm.trans hb; injection this with this; injection this with _ this; exact absurd this h2)
def AddOut (n0 : Nat) (F : Nat → Prop) (n : Nat) (l : List (List Int)) (W : World) (e : Ending) (W' : World) : Prop :=
  ∃ A c, e = .returned (.agg #[.int .i64 n, .slice A l.length c]) ∧ LT n0 F W' (.slice A l.length c) l ∧ Below W.heap.size W W'

end Go.Proofs.YtbfgoopomfenjaaDoor
namespace Go.Proofs.YtbfgoopomfenjaaDoor
open Go.RowKit Go.Proofs.YtbfgoopomfenjaaDoorW.PrintWords Go.Proofs.YtbfgoopomfenjaaDoorW.PrintLast Go.Proofs.YtbfgoopomfenjaaDoor.PTseitinValues
set_option linter.unusedVariables false
set_option linter.unusedSimpArgs false
attribute [local go_sem] World.cell?_alloc_lt
attribute [local go_sem] run_store_fn

theorem cright_parts {t : S41} (h : cright t = 0) : cparts t = 0 := by
  unfold cright at h
  split at h
  · exact absurd h (by decide)
  · split at h
    · exact absurd h (by decide)
    · exact h

theorem of_boxes (w2 : World) (v : Value) (n : Nat) (f : Value) :
    Below w2.heap.size w2 (((w2.alloc (.cells #[v] 22)).alloc (.cells #[.int .i64 n, .slice none 0 0] 27)).alloc (.cells #[f] 56)) ∧
    Boxed (((w2.alloc (.cells #[v] 22)).alloc (.cells #[.int .i64 n, .slice none 0 0] 27)).alloc (.cells #[f] 56)) w2.heap.size 22 v ∧
    OutAt (((w2.alloc (.cells #[v] 22)).alloc (.cells #[.int .i64 n, .slice none 0 0] 27)).alloc (.cells #[f] 56)) (w2.heap.size + 1) n (.slice none 0 0) ∧
    Boxed (((w2.alloc (.cells #[v] 22)).alloc (.cells #[.int .i64 n, .slice none 0 0] 27)).alloc (.cells #[f] 56)) (w2.heap.size + 1 + 1) 56 f := by
  refine ⟨?_, ?_, ?_, ?_⟩
  · exact (((Below.refl _ _).alloc (Nat.le_refl _) _).alloc (by simp) _).alloc (by simp; omega) _
  · exact ((Boxed.new w2 22 v).alloc _).alloc _
  · exact blk_alloc (blk_newAt _ _ _ (by simp)) _
  · exact blk_newAt _ _ _ (by simp)

set_option maxRecDepth 100000 in
set_option maxHeartbeats 4000000 in
theorem of_right (w0 : World) (cs : List S41) (A : Option Addr) (c : Nat) (W : World) (hlay : ∀ (at_ : List S41) (bA bL bO : Nat) (t : S41), PL w0 at_ bA bL bO t) (hB : Below w0.heap.size w0 W) (hC : k41.C w0 A cs.length cs) (hN : Needs W) (hs : ∀ x ∈ cs, csize x ≤ 4096) (hsum : (cs.map csize).sum ≤ 900000) (hz : firstNZ (cs.map cright) = 0) :
    Calls Tryd.prog 11 #[.slice A cs.length c] W (OfOut w0 (ofP cs) W) := by
  have hla := hC.2.1
  have HR2 : Aside0 (ofP cs = if 1024 < (topP (atomsL cs []) cs ⟨(atomsL cs []).length, []⟩).n ∨ 4096 < (topP (atomsL cs []) cs ⟨(atomsL cs []).length, []⟩).l.length then ⟨0, [], [], 2⟩
    else ⟨(topP (atomsL cs []) cs ⟨(atomsL cs []).length, []⟩).n, (topP (atomsL cs []) cs ⟨(atomsL cs []).length, []⟩).l, atomsL cs [], 0⟩) := ⟨by unfold ofP; rw [if_neg (fun h => h hz)]⟩
  have hBW : Below W.heap.size W (W.alloc (.cells #[.int .i64 0, .slice none 0 0] 27)) := below_alloc (Below.refl _ _) _
  have HX := Aside0.mk (show (W.alloc (.cells #[.int .i64 0, .slice none 0 0] 27)).heap[W.heap.size]? = some (.cells #[.int .i64 0, .slice none 0 0] 27 (0, 0)) from blk_new _ _)
  have HB := Aside0.mk (hB.trans (hBW.mono hB.size))
  have HN := Aside0.mk (hN.below hBW)
  have HC := Aside0.mk hC
  have HBW := Aside0.mk hBW
  have HS := Aside0.mk hs
  have HZ := Aside0.mk hz
  have HAL : Aside0 ((atomsL cs []).length ≤ 900000) := ⟨by
    have h1 := atomsT_len cs [] cs.length
    have h2 := sumTo_le csize cs cs.length
    rw [List.take_length] at h1
    have h4 : ([] : List S41).length = 0 := rfl
    omega⟩
  have HLAY := Aside0.mk hlay
  have hmf : ∀ fn first cap w, (Instr.makeFunc fn first cap).run Tryd.prog w = .ok (.func fn first cap) w := fun _ _ _ _ => rfl
  have HSUM := Aside0.mk hsum
  have HOK : Aside0 (∀ x ∈ cs, cparts x = 0) := ⟨fun x hx => cright_parts (firstNZ_zero.1 hz _ (List.mem_map_of_mem hx))⟩
  clear hB hC hN hBW hs hz hlay hsum
  go_enter Tryd.func11, Tryd.ntmps11
  go_upto_region 1 with fail
  generalize hW : W.alloc (.cells #[.int .i64 0, .slice none 0 0] 27) = W1 at *
  clear hW
  go_wp2_with fail
  go_loopw [7, 16] (fun _ i wr => NoErr cright cs W1 i wr) (fun _ i _ => cs.length - (intOf i).toNat)
  case atStart => exact NoErr.start _ _ _
  case round =>
    obtain ⟨k, hk, rfl, HF, HBr⟩ := hrel
    have HB1 := Aside0.mk (HB.out.trans (HBr.out.mono HB.out.size))
    have HN1 := Aside0.mk (HN.out.below HBr.out)
    by_cases hlt : k < cs.length
    · have hltb : decide (k < cs.length) = true := decide_eq_true hlt
      obtain ⟨x, ad, A3, c3, B3, d3, hx, rfl, Z0⟩ := at41 HC.out k hlt
      have Z := Z0.below HB1.out
      obtain ⟨z0, z1, z2, z3, z4, zl0, zln⟩ := Z.cells
      have HFx := Aside0.mk (firstNZ_take cright hx HF.out)
      have HXS := Aside0.mk (HS.out x (List.mem_of_getElem? hx))
      have HZX := Aside0.mk (firstNZ_zero.1 HZ.out _ (List.mem_map_of_mem (List.mem_of_getElem? hx)))
      clear hx Z0
      have hz := HZX.out
      have hzb : (cright x != 0) = false := by simpa using hz
      have HF2 : Aside0 (firstNZ ((cs.take (k + 1)).map cright) = 0) := ⟨HFx.out.trans hz⟩
      clear hz
      go_wp2_with (first | (go_at_call 26; refine (claim_right x A3 c3 B3 d3 _ HXS.out (Z.P.below (below_alloc (Below.refl _ _) _)) (HN1.out.below (below_alloc (Below.refl _ _) _))).mono ?_; rintro e w1 ⟨rfl, hb⟩; have hb' := Aside0.mk (below_step HBr.out (below_step (below_alloc (Below.refl _ _) _) hb)); clear hb))
      refine ⟨⟨k + 1, by omega, by go_num, HF2, hb'⟩, ?_⟩
      simp [intOf]; omega
    · have hltb : decide (k < cs.length) = false := decide_eq_false hlt
      clear HF HZ HN1 HN
      obtain ⟨wo, rfl⟩ : ∃ wo : World, wo = wr := ⟨_, rfl⟩
      go_upto_region 12 with (first | (go_at_call 28; refine (prog_Atoms w0 cs A c _ HB1.out HC.out (by have := HSUM.out; omega)).mono ?_; rintro e w2 ⟨A1, c1, rfl, hat, hb2, hev⟩; have HAT := Aside0.mk hat; have HB2 := Aside0.mk hb2; have HEV := Aside0.mk hev; clear hat hb2 hev))
      have HQ := Aside0.mk (of_boxes w2 (.slice A1 (atomsL cs []).length c1) (atomsL cs []).length (.func (.func 29) #[] #[.pointer (some ⟨w2.heap.size, 0, none⟩), .pointer (some ⟨w2.heap.size + 1 + 1, 0, none⟩), .pointer (some ⟨w2.heap.size + 1, 0, none⟩)]))
      generalize hW : (((w2.alloc (.cells #[.slice A1 (atomsL cs []).length c1] 22)).alloc (.cells #[.int .i64 (atomsL cs []).length, .slice none 0 0] 27)).alloc (.cells #[.func (.func 29) #[] #[.pointer (some ⟨w2.heap.size, 0, none⟩), .pointer (some ⟨w2.heap.size + 1 + 1, 0, none⟩), .pointer (some ⟨w2.heap.size + 1, 0, none⟩)]] 56)) = W6 at *
      clear hW
      obtain ⟨⟨hB6, hA6, hO6, hL6⟩⟩ := HQ
      have HB6 := Aside0.mk (HB1.out.trans ((HB2.out.trans (hB6.mono HB2.out.size)).mono HB1.out.size))
      have HBW6 := Aside0.mk ((HBW.out.trans (HBr.out.mono HBW.out.size)).trans ((HB2.out.trans (hB6.mono HB2.out.size)).mono (Nat.le_trans HBW.out.size HBr.out.size)))
      have HX6 : Aside0 (W6.heap[W.heap.size]? = some (.cells #[.int .i64 0, .slice none 0 0] 27 (0, 0))) := ⟨(hB6.block _ (blk_lt ((HB2.out.block _ (blk_lt ((HBr.out.block _ (blk_lt HX.out)).trans HX.out))).trans ((HBr.out.block _ (blk_lt HX.out)).trans HX.out)))).trans ((HB2.out.block _ (blk_lt ((HBr.out.block _ (blk_lt HX.out)).trans HX.out))).trans ((HBr.out.block _ (blk_lt HX.out)).trans HX.out))⟩
      have HAT6 := Aside0.mk (HAT.out.upd (Upd.of_below (E := fun _ => False) hB6) (fun _ _ h => h))
      have HA6 := Aside0.mk hA6
      have HO6 := Aside0.mk hO6
      have HL6 := Aside0.mk hL6
      have HW2 : Aside0 (W.heap.size < w2.heap.size) := ⟨Nat.lt_of_lt_of_le (blk_lt HX.out) (Nat.le_trans HBr.out.size HB2.out.size)⟩
      have HW0 : Aside0 (w0.heap.size ≤ w2.heap.size) := ⟨Nat.le_trans HB1.out.size HB2.out.size⟩
      clear hB6 hA6 hO6 hL6 HAT
      generalize hbA : w2.heap.size = bA at *
      clear hbA
      generalize hat : atomsL cs [] = at_ at *
      clear HB HBW HX hk hlt hltb HBr HB1 HB2 HEV
      have HNE : Aside0 (∀ i, EvB (bA + 1) (.slice none 0 0) i → i = bA + 1) := ⟨fun i e => e.elim id (fun e => (Ev_nil i e).elim)⟩
      have HNA : Aside0 (∀ i, Ev (.slice A1 at_.length c1) i → ¬ EvB (bA + 1) (.slice none 0 0) i) := ⟨fun i hi e => by
        have := HNE.out i e; subst this
        exact OwnRow.ne_block HAT6.out HO6.out (by decide) hi.symm⟩
      go_wp2_with fail
      go_loopw [12, 13, 35] (fun _ _ i wr => OfRel at_ cs ⟨at_.length, []⟩ w0 W6 (bA + 1) i wr) (fun _ _ i _ => cs.length - (intOf i).toNat)
      case atStart =>
        exact OfRel.mk 0 none 0 ⟨at_.length, []⟩ (by rw [List.take_zero, topP]) (Nat.zero_le _) rfl HO6.out (LT.nil _ _ _) (Upd.refl _ _) (.inl rfl)
      case round =>
        obtain ⟨k, A2, c2, hk, rfl, HO, HL, HU, HS2⟩ := hrel
        have HBk := Aside0.mk (HB6.out.trans (HU.out.below HB6.out.size (fun i e => by have := HNE.out i e; have := HW0.out; omega)))
        by_cases hlt : k < cs.length
        · have hltb : decide (k < cs.length) = true := decide_eq_true hlt
          obtain ⟨x, ad, A3, c3, B3, d3, hx, rfl, Z0⟩ := at41 HC.out k hlt
          have Z := Z0.below HBk.out
          obtain ⟨z0, z1, z2, z3, z4, zl0, zln⟩ := Z.cells
          have HE := Aside0.mk (topP_take (at_ := at_) hx ⟨at_.length, []⟩)
          have hXS := HS.out x (List.mem_of_getElem? hx)
          have hXO := HOK.out x (List.mem_of_getElem? hx)
          generalize hst : topP at_ (cs.take k) ⟨at_.length, []⟩ = st at *
          have HXO := Aside0.mk hXO
          have HP0 := Aside0.mk Z0.P
          have o0 : wr.cell? ⟨bA + 1, 0, none⟩ = some (.int .i64 st.n) := blk_cell HO.out 0
          have o1 : wr.cell? ⟨bA + 1, 1, none⟩ = some (.slice A2 st.l.length c2) := blk_cell HO.out 1
          have hbO : bA + 1 < wr.heap.size := blk_lt HO.out
          have hbOn : ∀ q, bA + 1 < wr.heap.size + q := fun q => by omega
          have hWB : Below wr.heap.size wr (wr.alloc (.cells #[.int .i64 x.f0, .string x.f1, .string x.f2, .slice A3 x.f3.length c3, .slice B3 x.f4.length d3] 41)) := below_alloc (Below.refl _ _) _
          by_cases hn : st.n ≤ 1024
          · have hn1 : decide ((st.n : Int) ≤ 1024) = true := decide_eq_true (by omega)
            have hn2 : decide (st.n ≤ 1024) = true := decide_eq_true hn
            by_cases hlen : st.l.length ≤ 4096
            · have hm1 : decide ((st.l.length : Int) ≤ 4096) = true := decide_eq_true (by omega)
              have hm2 : decide (st.l.length ≤ 4096) = true := decide_eq_true hlen
              have HbL2 := Aside0.mk (HU.out.boxed HL6.out (fun e => by have := HNE.out _ e; omega))
              have HbA2 := Aside0.mk (HU.out.boxed HA6.out (fun e => by have := HNE.out _ e; omega))
              have HC1 := Aside0.mk (HLAY.out at_ bA (bA + 1 + 1) (bA + 1) x A3 c3 B3 d3 A2 c2 A1 c1 st (fun i => W6.heap.size ≤ i) _ HP0.out (HBk.out.trans (hWB.mono HBk.out.size)) HXO.out ((HAT6.out.upd HU.out HNA.out).upd (Upd.of_below (E := fun _ => False) hWB) (fun _ _ h => h)) (HbA2.out.kept (grown_of_below hWB none) (by simp)) (HbL2.out.kept (grown_of_below hWB none) (by simp)) (show OutAt _ (bA + 1) _ _ from (hWB.block _ (blk_lt HO.out)).trans HO.out) (HL.out.below hWB) (Nat.le_trans HW0.out (Nat.le_succ _)) (by omega) (by omega) (by have := HAL.out; omega))
              have hv := layC_val true at_ x st (by have := HAL.out; omega) (by omega)
              have hlb := (layC_bound true at_ _ x st (Nat.le_refl _)).2.2
              have hrl : (layC true at_ x st).1.l.length ≤ 100000 := by omega
              have HE2 := Aside0.mk (HE.out.trans (if_pos ⟨hn, hlen⟩))
              have HWB := Aside0.mk hWB
              have f0 := HbL2.out.cell
              have fl := HbL2.out.lt
              have fln : ∀ q, bA + 1 + 1 < wr.heap.size + q := fun q => by omega
              clear hlb hx Z0 HE hXS hWB
              generalize hrr : layC true at_ x st = S at *
              have hv0 := hv.1
              have hv1 := hv.2
              clear hv
              go_upto_region 17 with (first | (go_at_call 29; refine HC1.out.mono ?_; rintro e w3 ⟨rfl, A5, c5, ho3, hl3, hu3, hs3⟩; have HO3 := Aside0.mk ho3; have HL3 := Aside0.mk hl3; have HU3 := Aside0.mk hu3; have HS3 := Aside0.mk hs3; clear ho3 hl3 hu3 hs3))
              have HU6 := Aside0.mk ((HU.out.trans (Upd.of_below HWB.out)).ownB HS2.out HU3.out)
              have HS6 := Aside0.mk (HS2.out.trans HS3.out (Nat.le_trans HU.out.size HWB.out.size))
              have HL6' := Aside0.mk (HL3.out.weaken (F' := fun i => W6.heap.size ≤ i) (fun i hi _ => hi.elim id (fun h => Nat.le_trans (Nat.le_trans HU.out.size HWB.out.size) h)))
              have HB63 := Aside0.mk (HB6.out.trans (HU6.out.below HB6.out.size (fun i e => by have := HNE.out i e; have := HW0.out; omega)))
              have p0 : w3.cell? ⟨bA + 1, 0, none⟩ = some (.int .i64 S.1.n) := blk_cell HO3.out 0
              have p1 : w3.cell? ⟨bA + 1, 1, none⟩ = some (.slice A5 S.1.l.length c5) := blk_cell HO3.out 1
              have pf1 := blk_frozen HO3.out 1
              have plt : bA + 1 < w3.heap.size := blk_lt HO3.out
              have pltn : ∀ q, bA + 1 < w3.heap.size + q := fun q => by omega
              have hy : w3.heap.size + 1 = (w3.alloc (.cells #[.int .i64 S.2] 3)).heap.size := by simp
              have HBB2 := Aside0.mk (show Below w3.heap.size w3 ((w3.alloc (.cells #[.int .i64 S.2] 3)).alloc (.cells #[.slice (some ⟨w3.heap.size, 0, none⟩) 1 1] 54)) from ((Below.refl _ _).alloc (Nat.le_refl _) _).alloc (by simp) _)
              have HBB := Aside0.mk (show ((w3.alloc (.cells #[.int .i64 S.2] 3)).alloc (.cells #[.slice (some ⟨w3.heap.size, 0, none⟩) 1 1] 54)).heap[w3.heap.size]? = some (.cells (nums .i64 [S.2]).toArray 3 (0, 0)) from by rw [Below.heap_alloc _ _ _ (by simp)]; exact blk_new _ _)
              have HBC := Aside0.mk (show ((w3.alloc (.cells #[.int .i64 S.2] 3)).alloc (.cells #[.slice (some ⟨w3.heap.size, 0, none⟩) 1 1] 54)).heap[w3.heap.size + 1]? = some (.cells [.slice (some ⟨w3.heap.size, 0, none⟩) 1 1].toArray 54 (0, 0)) from by rw [hy]; exact blk_new _ _)
              clear hy
              go_wp2_with (first | (at_builtin; refine LT.append (F := fun i => W6.heap.size ≤ i) (n0 := w0.heap.size) rfl (.tmp 52) (.tmp 55) rfl (.slice A5 S.1.l.length c5) S.1.l [[S.2]] ⟨w3.heap.size + 1, 0, none⟩ 1 [.slice (some ⟨w3.heap.size, 0, none⟩) 1 1] rfl rfl (news_at HBC.out) (Reps.snoc (Reps.none _ _) (RI.blk (ns := [S.2]) HBB.out HU6.out.size (by simp)) rfl) rfl (by simp [Value.oneCell']) (HL6'.out.below HBB2.out) (Nat.le_trans HB63.out.size HBB2.out.size) (by omega) ?_; intro v4 w4 ho4 hg4 hat4; have HL4 := Aside0.mk ho4; have HG4 := Aside0.mk ((Upd.of_below (E := Ev (.slice A5 S.1.l.length c5)) HBB2.out).grown hg4 (fun r e _ => e)); have HT4 := Aside0.mk (OwnStep.trans (v1 := .slice A5 S.1.l.length c5) (.inl rfl) hat4 HBB2.out.size); have hO4 : OutAt w4 (bA + 1) S.1.n (.slice A5 S.1.l.length c5) := (HG4.out.block (bA + 1) (blk_lt HO3.out) (fun e => HL6'.out.ne HO3.out (by decide) e)).trans HO3.out; have hc4 : w4.cell? ⟨bA + 1, 1, none⟩ = some (.slice A5 S.1.l.length c5) := blk_cell hO4 1; have hf4 := blk_frozen hO4 1; obtain ⟨A7, c7, hv7, hq1, hq2⟩ := ho4.reads; rw [List.length_append, List.length_singleton] at hv7; subst hv7; clear hq1 hq2 ho4 hg4 hat4 hO4))
              obtain ⟨_, A8, c8, e1, e2, e3, e4⟩ := lay_end (r := (⟨S.1.n, S.1.l ++ [[S.2]]⟩, (S.1.n : Int))) (F := fun i => W6.heap.size ≤ i) (M := [[S.2]]) rfl HU6.out HS6.out HO3.out HL6'.out HG4.out.size HG4.out HT4.out (HL4.out.weaken (fun i h _ => .inl h))
              refine ⟨?_, by simp [intOf]; omega⟩
              exact OfRel.mk (k + 1) A8 c8 ⟨S.1.n, S.1.l ++ [[S.2]]⟩ (by rw [HE2.out]) (by omega) (by go_num) e1 (e2.weaken (fun i h _ => h.elim id id)) e3 e4
            · have hm1 : decide ((st.l.length : Int) ≤ 4096) = false := decide_eq_false (by omega)
              have hm2 : decide (st.l.length ≤ 4096) = false := decide_eq_false hlen
              have HE2 := Aside0.mk (HE.out.trans (if_neg (fun h => hlen h.2)))
              clear hx Z0 HE hXS
              go_wp2_with fail
              refine ⟨?_, by simp [intOf]; omega⟩
              exact OfRel.mk (k + 1) A2 c2 st HE2.out (by omega) (by go_num) ((hWB.block _ (blk_lt HO.out)).trans HO.out) (HL.out.below hWB) (HU.out.trans (Upd.of_below hWB)) HS2.out
          · have hn1 : decide ((st.n : Int) ≤ 1024) = false := decide_eq_false (by omega)
            have hn2 : decide (st.n ≤ 1024) = false := decide_eq_false hn
            have HE2 := Aside0.mk (HE.out.trans (if_neg (fun h => hn h.1)))
            clear hx Z0 HE hXS
            go_wp2_with fail
            refine ⟨?_, by simp [intOf]; omega⟩
            exact OfRel.mk (k + 1) A2 c2 st HE2.out (by omega) (by go_num) ((hWB.block _ (blk_lt HO.out)).trans HO.out) (HL.out.below hWB) (HU.out.trans (Upd.of_below hWB)) HS2.out
        · have hltb : decide (k < cs.length) = false := decide_eq_false hlt
          have htk : cs.take k = cs := List.take_of_length_le (by omega)
          rw [htk] at HO HL HS2
          have HBe := Aside0.mk (HBW6.out.trans (HU.out.below HBW6.out.size (fun i e => by have := HNE.out i e; have := HW2.out; omega)))
          have HXe : Aside0 (wr.heap[W.heap.size]? = some (.cells #[.int .i64 0, .slice none 0 0] 27 (0, 0))) := ⟨HU.out.blk HX6.out (fun e => by have := HNE.out _ e; have := HW2.out; omega)⟩
          have HATe := Aside0.mk (HAT6.out.upd HU.out HNA.out)
          have HbAe := Aside0.mk (HU.out.boxed HA6.out (fun e => by have := HNE.out _ e; omega))
          have o0 := blk_cell HO.out 0
          have o1 := blk_cell HO.out 1
          have x0 := blk_cell HXe.out 0
          have x1 := blk_cell HXe.out 1
          have y0 := blk_frozen HXe.out 0
          have y1 := blk_frozen HXe.out 1
          have a0 := HbAe.out.cell
          have l0 := blk_lt HO.out
          have l1 := blk_lt HXe.out
          have l2 := HbAe.out.lt
          have hnb := (topP_bound at_ cs ⟨at_.length, []⟩).1
          have hlb := (topP_bound at_ cs ⟨at_.length, []⟩).2.1
          have hnb2 : (topP at_ cs ⟨at_.length, []⟩).n ≤ 10000000 := by
            have h1 := HAL.out; have h2 := HSUM.out
            have h3 : (topP at_ cs ⟨at_.length, []⟩).n ≤ at_.length + (cs.map csize).sum := hnb
            omega
          have hlb2 : (topP at_ cs ⟨at_.length, []⟩).l.length ≤ 10000000 := by
            have h2 := HSUM.out
            have h3 : (topP at_ cs ⟨at_.length, []⟩).l.length ≤ 0 + 5 * (cs.map csize).sum := hlb
            omega
          clear hnb hlb
          generalize hst : topP at_ cs ⟨at_.length, []⟩ = st at *
          by_cases hn : 1024 < st.n
          · have hn1 : decide ((1024 : Int) < (st.n : Int)) = true := decide_eq_true (by omega)
            have hn2 : decide (1024 < st.n) = true := decide_eq_true hn
            have HR3 := Aside0.mk (HR2.out.trans (if_pos (.inl hn)))
            first
            | (
              go_wp2_with fail
              refine bodyPost_ret (results_ctt rfl _ _ W.heap.size 27 #[.int .i64 0, .slice none 0 0] (0, 0) _ rfl (blk_put (cs := #[.int .i64 0, .slice none 0 0]) (blk_put (cs := #[.int .i64 0, .slice none 0 0]) HXe.out 0 _ rfl) 1 _ rfl) Tryd.underlying27 rfl (by kernel_rfl)) rfl ?_
              rw [HR3.out]
              exact ⟨none, 0, none, 0, rfl, Nat.le_refl _, C_nil _ _, AT.nil _ _, (HBe.out.setCell (p := ⟨W.heap.size, 0, none⟩) (Nat.le_refl _) _).setCell (p := ⟨W.heap.size, 1, none⟩) (Nat.le_refl _) _⟩
              )
          · have hn1 : decide ((1024 : Int) < (st.n : Int)) = false := decide_eq_false (by omega)
            have hn2 : decide (1024 < st.n) = false := decide_eq_false hn
            by_cases hlen : 4096 < st.l.length
            · have hm1 : decide ((4096 : Int) < (st.l.length : Int)) = true := decide_eq_true (by omega)
              have hm2 : decide (4096 < st.l.length) = true := decide_eq_true hlen
              have HR3 := Aside0.mk (HR2.out.trans (if_pos (.inr hlen)))
              go_wp2_with fail
              refine bodyPost_ret (results_ctt rfl _ _ W.heap.size 27 #[.int .i64 0, .slice none 0 0] (0, 0) _ rfl (blk_put (cs := #[.int .i64 0, .slice none 0 0]) (blk_put (cs := #[.int .i64 0, .slice none 0 0]) HXe.out 0 _ rfl) 1 _ rfl) Tryd.underlying27 rfl (by kernel_rfl)) rfl ?_
              rw [HR3.out]
              exact ⟨none, 0, none, 0, rfl, Nat.le_refl _, C_nil _ _, AT.nil _ _, (HBe.out.setCell (p := ⟨W.heap.size, 0, none⟩) (Nat.le_refl _) _).setCell (p := ⟨W.heap.size, 1, none⟩) (Nat.le_refl _) _⟩
            · have hm1 : decide ((4096 : Int) < (st.l.length : Int)) = false := decide_eq_false (by omega)
              have hm2 : decide (4096 < st.l.length) = false := decide_eq_false hlen
              have HR3 := Aside0.mk (HR2.out.trans (if_neg (fun h => h.elim hn hlen)))
              go_upto_region 21 with fail
              have hq1 : bA ≠ W.heap.size := by have := HW2.out; omega
              have hq2 : W.heap.size ≠ bA := by have := HW2.out; omega
              go_region
              all_goals go_wp2_with fail
              all_goals (
                have HUz := Aside0.mk ((((Upd.refl (fun i => i = W.heap.size) wr).setCell (p := ⟨W.heap.size, 0, none⟩) rfl (.int .i64 st.n)).setCell (p := ⟨W.heap.size, 1, none⟩) rfl (.slice A2 st.l.length c2)).drew)
                refine bodyPost_ret (results_ctt rfl _ _ W.heap.size 27 #[.int .i64 st.n, .slice A2 st.l.length c2] (0, 0) _ rfl (blk_drew (blk_put (cs := #[.int .i64 st.n, .slice none 0 0]) (blk_put (cs := #[.int .i64 0, .slice none 0 0]) HXe.out 0 _ rfl) 1 _ rfl)) Tryd.underlying27 rfl (by kernel_rfl)) rfl ?_
                rw [HR3.out]
                obtain ⟨A9, c9, he, hle, hC9⟩ := (HL.out.upd1 HUz.out HXe.out (by decide) (by decide)).reads
                injection he with q1 q2 q3
                subst q1 q3
                exact ⟨A2, c2, A1, c1, rfl, hle, hC9, HATe.out.upd HUz.out (fun i hi e => by subst e; exact OwnRow.ne_block HATe.out HXe.out (by decide) hi.symm), ((HBe.out.setCell (p := ⟨W.heap.size, 0, none⟩) (Nat.le_refl _) _).setCell (p := ⟨W.heap.size, 1, none⟩) (Nat.le_refl _) _).drew⟩)
end Go.Proofs.YtbfgoopomfenjaaDoor
namespace Go.Proofs.YtbfgoopomfenjaaDoor
open Go.RowKit Go.Proofs.YtbfgoopomfenjaaDoor.PTseitinValues
set_option linter.unusedVariables false

/-- The reference's top: None: too long. -/
def topR (at_ : List S41) : List S41 → LS → Option LS
  | [], st => some st
  | c :: cs, st => if 1024 < (layC false at_ c st).1.n ∨ 4096 < ((layC false at_ c st).1.l ++ [[(layC false at_ c st).2]]).length then none
    else topR at_ cs ⟨(layC false at_ c st).1.n, (layC false at_ c st).1.l ++ [[(layC false at_ c st).2]]⟩
def tooLong : OfR := ⟨0, [], [], 2⟩
def ofEnd (at_ : List S41) : Option LS → OfR
  | none => tooLong
  | some st => if 1024 < st.n then tooLong else ⟨st.n, st.l, at_, 0⟩
/-- What the reference's Of gives. -/
def ofR (cs : List S41) : OfR :=
  if firstNZ (cs.map cright) ≠ 0 then ⟨0, [], [], firstNZ (cs.map cright)⟩
  else ofEnd (atomsL cs []) (topR (atomsL cs []) cs ⟨(atomsL cs []).length, []⟩)

/-- Both have the same clauses, or both have too many. -/
def Like (p r : LS) : Prop := p.n = r.n ∧ (p.l = r.l ∨ (4096 < p.l.length ∧ 4096 < r.l.length))
theorem lay_like (at_ : List S41) (q : Nat) : ∀ (t : S41) (p r : LS), csize t ≤ q → Like p r → Like (layC true at_ t p).1 (layC false at_ t r).1 ∧ (layC true at_ t p).2 = (layC false at_ t r).2 := by
  induction q with
  | zero => intro t p r h; rw [csize_eq] at h; omega
  | succ q ih =>
    intro t p r h hl
    have hL : ∀ us : List S41, csizeL us ≤ q → ∀ (p r : LS) (x : List Int), Like p r → Like (layL true at_ us p x).1 (layL false at_ us r x).1 ∧ (layL true at_ us p x).2 = (layL false at_ us r x).2 := by
      intro us
      induction us with
      | nil => intro _ p r x hp; rw [layL, layL]; exact ⟨hp, rfl⟩
      | cons a us ih2 =>
        intro hu p r x hp
        rw [csizeL] at hu
        rw [layL, layL]
        obtain ⟨h1, h2⟩ := ih a p r (by omega) hp
        rw [h2]
        exact ih2 (by omega) _ _ _ h1
    by_cases hp : isPart t.f0 = true
    · rw [layC_part true at_ t p hp, layC_part false at_ t r hp]
      rw [csize_eq] at h
      obtain ⟨⟨h1, h2⟩, h3⟩ := hL t.f4 (by omega) p r [] hl
      rw [h1, h3, if_neg (show ¬ (false = true ∧ _) from fun h => absurd h.1 (by decide))]
      generalize (layL true at_ t.f4 p []).1.l = X at *
      generalize (layL false at_ t.f4 r []).1.l = Y at *
      generalize cls t.f0 ((layL false at_ t.f4 r []).1.n + 1 : Nat) (layL false at_ t.f4 r []).2 = C at *
      refine ⟨⟨rfl, ?_⟩, rfl⟩
      show (if true = true ∧ 4096 < X.length then X else X ++ C) = Y ++ C ∨ (4096 < (if true = true ∧ 4096 < X.length then X else X ++ C).length ∧ 4096 < (Y ++ C).length)
      by_cases hlong : 4096 < X.length
      · rw [if_pos ⟨rfl, hlong⟩]
        refine .inr ⟨hlong, ?_⟩
        rw [List.length_append]
        rcases h2 with h2 | h2
        · rw [← h2]; omega
        · omega
      · rw [if_neg (fun h => hlong h.2)]
        rcases h2 with h2 | h2
        · rw [h2]; exact .inl rfl
        · exact absurd h2.1 hlong
    · have hp : isPart t.f0 = false := by simpa using hp
      rw [layC_atom true at_ t p hp, layC_atom false at_ t r hp]
      exact ⟨hl, rfl⟩
def Over (st : LS) : Prop := 1024 < st.n ∨ 4096 < st.l.length
theorem topP_over (at_ cs : List S41) (st : LS) (h : Over st) : topP at_ cs st = st := by
  induction cs with
  | nil => rw [topP]
  | cons c cs ih => rw [topP, if_neg (fun hn => by rcases h with h | h <;> omega), ih]
theorem top_both (at_ cs : List S41) (st : LS) (h : ¬ Over st) : (∃ st', topR at_ cs st = some st' ∧ topP at_ cs st = st' ∧ ¬ Over st') ∨ (topR at_ cs st = none ∧ Over (topP at_ cs st)) := by
  induction cs generalizing st with
  | nil => exact .inl ⟨st, by rw [topR], by rw [topP], h⟩
  | cons c cs ih =>
    have hno : st.n ≤ 1024 ∧ st.l.length ≤ 4096 := by
      unfold Over at h; omega
    rw [topR, topP, if_pos hno]
    obtain ⟨⟨h1, h2⟩, h3⟩ := lay_like at_ _ c st st (Nat.le_refl _) ⟨rfl, .inl rfl⟩
    by_cases ho : 1024 < (layC false at_ c st).1.n ∨ 4096 < ((layC false at_ c st).1.l ++ [[(layC false at_ c st).2]]).length
    · rw [if_pos ho]
      have hov : Over ⟨(layC true at_ c st).1.n, (layC true at_ c st).1.l ++ [[(layC true at_ c st).2]]⟩ := by
        unfold Over
        rcases ho with ho | ho
        · exact .inl (by show 1024 < (layC true at_ c st).1.n; omega)
        · refine .inr ?_
          show 4096 < ((layC true at_ c st).1.l ++ [[(layC true at_ c st).2]]).length
          rw [List.length_append] at ho ⊢
          rcases h2 with h2 | h2
          · rw [h2]; exact ho
          · have : ([[(layC true at_ c st).2]] : List (List Int)).length = 1 := rfl
            omega
      exact .inr ⟨rfl, by rw [topP_over at_ cs _ hov]; exact hov⟩
    · rw [if_neg ho]
      have heq : (layC true at_ c st).1.l = (layC false at_ c st).1.l := by
        rcases h2 with h2 | h2
        · exact h2
        · exfalso
          apply ho
          right
          rw [List.length_append]; omega
      rw [h1, h3, heq]
      exact ih _ ho
theorem ofP_ofR (cs : List S41) : ofP cs = ofR cs := by
  unfold ofP ofR
  split
  · rfl
  · by_cases h0 : Over ⟨(atomsL cs []).length, []⟩
    · rw [if_pos (show (1024 < (topP (atomsL cs []) cs ⟨(atomsL cs []).length, []⟩).n ∨ 4096 < (topP (atomsL cs []) cs ⟨(atomsL cs []).length, []⟩).l.length) from by rw [topP_over _ _ _ h0]; exact h0)]
      cases cs with
      | nil => exact absurd h0 (by unfold Over; simp [atomsL])
      | cons c cs =>
        rw [topR, if_pos ?_]
        · rfl
        · have := (layC_bound false (atomsL (c :: cs) []) _ c ⟨(atomsL (c :: cs) []).length, []⟩ (Nat.le_refl _)).1
          rcases h0 with h0 | h0
          · exact .inl (by have h1 : 1024 < (atomsL (c :: cs) []).length := h0; have h2 : (atomsL (c :: cs) []).length ≤ _ := this; omega)
          · exact absurd h0 (by simp)
    · rcases top_both (atomsL cs []) cs _ h0 with ⟨st', h1, h2, h3⟩ | ⟨h1, h2⟩
      · rw [h1, h2, if_neg (show ¬ (1024 < st'.n ∨ 4096 < st'.l.length) from h3), ofEnd, if_neg (fun h => h3 (.inl h))]
      · rw [h1, if_pos (show (1024 < (topP (atomsL cs []) cs ⟨(atomsL cs []).length, []⟩).n ∨ 4096 < (topP (atomsL cs []) cs ⟨(atomsL cs []).length, []⟩).l.length) from h2)]; rfl
end Go.Proofs.YtbfgoopomfenjaaDoor
namespace Go.Proofs.YtbfgoopomfenjaaDoor
open Go.RowKit Go.Proofs.YtbfgoopomfenjaaDoorW.PrintWords Go.Proofs.YtbfgoopomfenjaaDoorW.PrintLast Go.Proofs.YtbfgoopomfenjaaDoor.PTseitinValues
set_option linter.unusedVariables false
set_option linter.unusedSimpArgs false
attribute [local go_sem] World.cell?_alloc_lt
attribute [local go_sem] run_store_fn

/-- The literals so far, the clauses so far. -/
def RLRel (at_ us : List S41) (st : LS) (w0 W0 : World) (b3 : Nat) (F : Nat → Prop) (v8 i : Value) (wr : World) : Prop :=
  ∃ k Ax cx A1 c1, k ≤ us.length ∧ i = .int .i64 (k : Nat) ∧ v8 = .slice Ax k cx ∧
    Aside0 (wr.ownsRow W0.heap.size 3 1 (.slice Ax k cx) k (nums .i64 (layL false at_ (us.take k) st []).2)) ∧
    Aside0 (wr.heap[b3]? = some (.cells #[.int .i64 (layL false at_ (us.take k) st []).1.n, .slice A1 (layL false at_ (us.take k) st []).1.l.length c1] 60 (0, 0))) ∧
    Aside0 (LT w0.heap.size (fun i => (F i ∨ W0.heap.size ≤ i) ∧ ¬ Ev (.slice Ax k cx) i) wr (.slice A1 (layL false at_ (us.take k) st []).1.l.length c1) (layL false at_ (us.take k) st []).1.l) ∧
    Aside0 (Upd (fun i => i = b3) W0 wr)
/-- A literal row is read. -/
theorem reads_lit {R : List Int → List Value → Prop} {W : World} {b : Nat} {news : List Value} {M : List (List Int)} {m : Nat} (h : W.heap[b]? = some (.cells news.toArray 54 (0, 0))) (hR : Reps R 1 M news) (hm : M.length = m) (hl : m ≤ 1000000) : ReadsRow R 1 W (some ⟨b, 0, none⟩) m M := by
  refine ⟨hm, by omega, fun _ => ⟨_, rfl, fun j p hj => ⟨(news.drop (j * 1)).take 1, ?_, hR.2 j p hj, fun i u hi => ?_⟩⟩⟩
  · have := hR.1
    have hjl := (List.getElem?_eq_some_iff.1 hj).1
    rw [List.length_take, List.length_drop]; omega
  · rw [List.getElem?_take] at hi
    split at hi
    · rename_i h0
      rw [List.getElem?_drop] at hi
      exact news_at h (j * 1 + i) u hi
    · cases hi

end Go.Proofs.YtbfgoopomfenjaaDoor
