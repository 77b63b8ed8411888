import Derived.Test.YtbfgoopomfenjaaDoorNc
import Derived.Test.YtbfgoopomfenjaaDoorNa
import Derived.Test.YtbfgoopomfenjaaDoorNd
import Derived.Test.YtbfgoopomfenjaaDoorNb
namespace Go.Proofs.YtbfgoopomfenjaaDoor
open Go.RowKit Go.Proofs.YtbfgoopomfenjaaDoorW.PrintWords Go.Proofs.YtbfgoopomfenjaaDoorW.PrintLast Go.Proofs.YtbfgoopomfenjaaDoorW.PrintMore Go.Proofs.YtbfgoopomfenjaaDoor.PTseitinValues
set_option linter.unusedVariables false
set_option linter.unusedSimpArgs false
attribute [local go_sem] World.cell?_alloc_lt max2_int max_two
attribute [local go_sem] run_store_fn

/-- Does a literal hold by values? -/
def litT (vs : List Bool) (l : Int) : Bool := decide (l.natAbs ≤ vs.length) && (vs.getD (l.natAbs - 1) false == decide (0 < l))
def clT (vs : List Bool) (c : List Int) : Bool := c.any (litT vs)
def LitOK (l : Int) : Prop := l ≠ 0 ∧ -1000000 ≤ l ∧ l ≤ 1000000

set_option maxHeartbeats 1000000 in
theorem lit_is (x : Int) (h : LitOK x) (W : World) : Calls Tryd.prog 71 #[.int .i64 x] W fun e W' => e = .returned (.bool true) ∧ W' = W := by
  have h1 : (x != 0) = true := by simpa using h.1
  have h2 : (x != -9223372036854775808) = true := by rw [bne_iff_ne]; have := h.2.1; omega
  go_enter Tryd.func71, Tryd.ntmps71
  go_wp2_with fail
  go_ret
  exact ⟨rfl, rfl⟩
set_option maxHeartbeats 1000000 in
theorem lit_variable (x : Int) (h : LitOK x) (W : World) : Calls Tryd.prog 72 #[.int .i64 x] W fun e W' => e = .returned (.int .i64 (x.natAbs : Int)) ∧ W' = W := by
  obtain ⟨h0, h1, h2⟩ := h
  by_cases hx : x < -x
  · have HR : Aside0 (-x = (x.natAbs : Int)) := ⟨by omega⟩
    go_enter Tryd.func72, Tryd.ntmps72
    go_wp2_with fail
    all_goals first | (exact absurd hx (by omega)) | skip
    all_goals go_ret
    all_goals exact ⟨by rw [← HR.out]; rfl, rfl⟩
  · have HR : Aside0 (x = (x.natAbs : Int)) := ⟨by omega⟩
    go_enter Tryd.func72, Tryd.ntmps72
    go_wp2_with fail
    all_goals first | (exact absurd hx (by omega)) | skip
    all_goals go_ret
    all_goals exact ⟨by rw [← HR.out]; rfl, rfl⟩
def cntT (vs : List Bool) (c : List Int) : Nat := (c.filter (litT vs)).length
theorem cntT_take (vs : List Bool) {c : List Int} {k : Nat} {x : Int} (hx : c[k]? = some x) : cntT vs (c.take (k + 1)) = cntT vs (c.take k) + (if litT vs x = true then 1 else 0) := by
  unfold cntT
  rw [take_snoc hx, List.filter_append, List.length_append]
  by_cases h : litT vs x = true
  · rw [if_pos h]; simp [h]
  · rw [if_neg h]; simp [h]
theorem cntT_pos (vs : List Bool) (c : List Int) : decide ((0 : Int) < (cntT vs c : Int)) = clT vs c := by
  unfold cntT clT
  rw [Bool.eq_iff_iff, decide_eq_true_eq, List.any_eq_true]
  constructor
  · intro h
    have h1 : 0 < (c.filter (litT vs)).length := by omega
    obtain ⟨x, hx⟩ := List.exists_mem_of_length_pos h1
    rw [List.mem_filter] at hx
    exact ⟨x, hx.1, hx.2⟩
  · rintro ⟨x, hx, hl⟩
    have h1 : 0 < (c.filter (litT vs)).length := List.length_pos_of_mem (List.mem_filter.2 ⟨hx, hl⟩)
    omega

set_option maxRecDepth 100000 in
set_option maxHeartbeats 4000000 in
theorem lit_count (xs : List Int) (vs : List Bool) (A : Option Addr) (c : Nat) (B : Option Addr) (d : Nat) (W : World) (hx : ∀ x ∈ xs, LitOK x) (hA : kI.C W A xs.length xs) (hB : kB.C W B vs.length vs) :
    Calls Tryd.prog 70 #[.slice A xs.length c, .slice B vs.length d] W fun e W' => e = .returned (.int .i64 (cntT vs xs : Nat)) ∧ Below W.heap.size W W' := by
  have hla := hA.2.1
  have hlb := hB.2.1
  have HA := Aside0.mk hA
  have HB := Aside0.mk hB
  have HX := Aside0.mk hx
  clear hA hB hx
  go_enter Tryd.func70, Tryd.ntmps70
  go_wp2_with fail
  go_loopw [5, 10] (fun v i wr => ∃ k : Nat, k ≤ xs.length ∧ i = .int .i64 k ∧ v = .int .i64 (cntT vs (xs.take k) : Nat) ∧ Aside0 (Below W.heap.size W wr)) (fun _ i _ => xs.length - (intOf i).toNat)
  case atStart => exact ⟨0, Nat.zero_le _, rfl, rfl, ⟨Below.refl _ _⟩⟩
  case round =>
    obtain ⟨k, hk, rfl, rfl, HBr⟩ := hrel
    by_cases hlt : k < xs.length
    · have hltb : decide (k < xs.length) = true := decide_eq_true hlt
      obtain ⟨x, ad, hx, rfl, z0, zl⟩ := atI (Kd.C_below HA.out HBr.out) k hlt
      have HXO := Aside0.mk (HX.out x (List.mem_of_getElem? hx))
      have HE := Aside0.mk (cntT_take vs hx)
      have hcb : cntT vs (xs.take k) ≤ k := Nat.le_trans (List.length_filter_le _ _) (by rw [List.length_take]; omega)
      clear hx
      generalize cntT vs (xs.take k) = n at *
      obtain ⟨m, hm⟩ : ∃ m : Nat, x.natAbs = m + 1 := ⟨x.natAbs - 1, by have := HXO.out.1; omega⟩
      have hmm : m ≤ 1000000 := by have := HXO.out; unfold LitOK at this; omega
      have hq1 := Aside0.mk (fun V => lit_is x HXO.out V)
      have hq2 := Aside0.mk (fun V => lit_variable x HXO.out V)
      rw [hm] at hq2
      by_cases hlen : m < vs.length
      · have l1 : decide ((m : Int) + 1 ≤ (vs.length : Int)) = true := decide_eq_true (by omega)
        have l2 : decide (m + 1 ≤ vs.length) = true := decide_eq_true (by omega)
        have l3 : decide (m < vs.length) = true := decide_eq_true hlen
        obtain ⟨b, bd, hb, rfl, y0, yl⟩ := atB (Kd.C_below HB.out HBr.out) m hlen
        have HL : Aside0 (litT vs x = (b == decide (0 < x))) := ⟨by
          unfold litT
          rw [hm, decide_eq_true (by omega : m + 1 ≤ vs.length), Bool.true_and, Nat.add_sub_cancel, List.getD_eq_getElem?_getD, hb]; rfl⟩
        clear hb
        by_cases hs : 0 < x
        · have hsb : decide (0 < x) = true := decide_eq_true hs
          rw [hsb] at HL
          cases b <;> (
            go_wp2_with (first
              | (go_at_call 71; refine (hq1.out _).mono ?_; rintro e w1 ⟨rfl, rfl⟩)
              | (go_at_call 72; refine (hq2.out _).mono ?_; rintro e w1 ⟨rfl, rfl⟩))
            refine ⟨⟨k + 1, by omega, by go_num, by rw [HE.out, HL.out]; simp <;> (unfold wrap64; omega), HBr⟩, ?_⟩
            simp [intOf]; omega)
        · have hsb : decide (0 < x) = false := decide_eq_false hs
          rw [hsb] at HL
          cases b <;> (
            go_wp2_with (first
              | (go_at_call 71; refine (hq1.out _).mono ?_; rintro e w1 ⟨rfl, rfl⟩)
              | (go_at_call 72; refine (hq2.out _).mono ?_; rintro e w1 ⟨rfl, rfl⟩))
            refine ⟨⟨k + 1, by omega, by go_num, by rw [HE.out, HL.out]; simp <;> (unfold wrap64; omega), HBr⟩, ?_⟩
            simp [intOf]; omega)
      · have l1 : decide ((m : Int) + 1 ≤ (vs.length : Int)) = false := decide_eq_false (by omega)
        have l2 : decide (m + 1 ≤ vs.length) = false := decide_eq_false (by omega)
        have l3 : decide (m < vs.length) = false := decide_eq_false hlen
        have HL : Aside0 (litT vs x = false) := ⟨by unfold litT; rw [hm, decide_eq_false (by omega : ¬ m + 1 ≤ vs.length), Bool.false_and]⟩
        go_wp2_with (first
          | (go_at_call 71; refine (hq1.out _).mono ?_; rintro e w1 ⟨rfl, rfl⟩)
          | (go_at_call 72; refine (hq2.out _).mono ?_; rintro e w1 ⟨rfl, rfl⟩))
        refine ⟨⟨k + 1, by omega, by go_num, by rw [HE.out, HL.out]; simp <;> (unfold wrap64; omega), HBr⟩, ?_⟩
        simp [intOf]; omega
    · have hltb : decide (k < xs.length) = false := decide_eq_false hlt
      have htk : xs.take k = xs := List.take_of_length_le (by omega)
      rw [htk]
      go_wp2_with fail
      go_ret
      exact ⟨rfl, HBr.out⟩
set_option maxHeartbeats 1000000 in
theorem lit_holds (xs : List Int) (vs : List Bool) (A : Option Addr) (c : Nat) (B : Option Addr) (d : Nat) (W : World) (hx : ∀ x ∈ xs, LitOK x) (hA : kI.C W A xs.length xs) (hB : kB.C W B vs.length vs) :
    Calls Tryd.prog 47 #[.slice A xs.length c, .slice B vs.length d] W fun e W' => e = .returned (.bool (clT vs xs)) ∧ Below W.heap.size W W' := by
  have HQ := Aside0.mk (lit_count xs vs A c B d W hx hA hB)
  have HR := Aside0.mk (cntT_pos vs xs)
  clear hx hA hB
  generalize cntT vs xs = n at *
  go_enter Tryd.func47, Tryd.ntmps47
  go_wp2_with (first | (go_at_call 70; refine HQ.out.mono ?_; rintro e w1 ⟨rfl, hb⟩; have HB1 := Aside0.mk hb; clear hb))
  go_ret
  exact ⟨by rw [← HR.out]; simp, HB1.out⟩
set_option maxRecDepth 100000 in
set_option maxHeartbeats 2000000 in
theorem cnf_holds (n : Nat) (L : List (List Int)) (vs : List Bool) (A : Option Addr) (c : Nat) (B : Option Addr) (d : Nat) (W : World) (hx : ∀ cl ∈ L, ∀ x ∈ cl, LitOK x) (hA : kL.C W A L.length L) (hB : kB.C W B vs.length vs) :
    Calls Tryd.prog 23 #[.agg #[.int .i64 n, .slice A L.length c], .slice B vs.length d] W fun e W' => (∃ i : Int, e = .returned (.tuple #[.int .i64 i, .bool (L.all (clT vs))])) ∧ Below W.heap.size W W' := by
  have hla := hA.2.1
  have hBW : Below W.heap.size W (W.alloc (.cells #[.int .i64 n, .slice A L.length c] 27)) := below_alloc (Below.refl _ _) _
  have HA := Aside0.mk (Kd.C_below hA hBW)
  have HB := Aside0.mk (Kd.C_below hB hBW)
  have HX := Aside0.mk hx
  have HBW := Aside0.mk hBW
  clear hA hB hx hBW
  go_enter Tryd.func23, Tryd.ntmps23
  go_wp2_with fail
  generalize hW : W.alloc (.cells #[.int .i64 n, .slice A L.length c] 27) = W0 at *
  clear hW
  go_loopw [11] (fun i wr => ∃ k : Nat, k ≤ L.length ∧ i = .int .i64 k ∧ Aside0 ((L.take k).all (clT vs) = true) ∧ Aside0 (Below W0.heap.size W0 wr)) (fun i _ => L.length - (intOf i).toNat)
  case atStart => exact ⟨0, Nat.zero_le _, rfl, ⟨rfl⟩, ⟨Below.refl _ _⟩⟩
  case round =>
    obtain ⟨k, hk, rfl, HF, HBr⟩ := hrel
    by_cases hlt : k < L.length
    · have hltb : decide (k < L.length) = true := decide_eq_true hlt
      obtain ⟨x, ad, B3, d3, hx, rfl, z0, zle, zC, zl⟩ := atL (Kd.C_below HA.out HBr.out) k hlt
      have HQ := Aside0.mk (lit_holds x vs B3 d3 B d wr (HX.out x (List.mem_of_getElem? hx)) zC (Kd.C_below HB.out HBr.out))
      cases hc : clT vs x with
      | true =>
        rw [hc] at HQ
        have HF2 : Aside0 ((L.take (k + 1)).all (clT vs) = true) := ⟨by rw [take_snoc hx, List.all_append, HF.out]; simp [hc]⟩
        clear hx hc zC
        go_wp2_with (first | (go_at_call 47; refine HQ.out.mono ?_; rintro e w1 ⟨rfl, hb⟩; have HB1 := Aside0.mk (below_step HBr.out hb); clear hb))
        refine ⟨⟨k + 1, by omega, by go_num, HF2, HB1⟩, ?_⟩
        simp [intOf]; omega
      | false =>
        rw [hc] at HQ
        have HR : Aside0 (L.all (clT vs) = false) := ⟨by
          rw [List.all_eq_false]
          exact ⟨x, List.mem_of_getElem? hx, by rw [hc]; decide⟩⟩
        clear hx hc zC
        go_wp2_with (first | (go_at_call 47; refine HQ.out.mono ?_; rintro e w1 ⟨rfl, hb⟩; have HB1 := Aside0.mk (below_step HBr.out hb); clear hb))
        refine bodyPost_ret (v := .tuple #[.int .i64 k, .bool false]) (by simp [results, Tryd.results23, go_sem]) rfl ?_
        exact ⟨⟨k, by rw [HR.out]⟩, below_step HBW.out HB1.out⟩
    · have hltb : decide (k < L.length) = false := decide_eq_false hlt
      have HR : Aside0 (L.all (clT vs) = true) := ⟨by have h1 := HF.out; rwa [List.take_of_length_le (by omega)] at h1⟩
      go_wp2_with fail
      refine bodyPost_ret (v := .tuple #[.int .i64 0, .bool true]) (by simp [results, Tryd.results23, go_sem]) rfl ?_
      exact ⟨⟨0, by rw [HR.out]⟩, below_step HBW.out HBr.out⟩
end Go.Proofs.YtbfgoopomfenjaaDoor
namespace Go.Proofs.YtbfgoopomfenjaaDoor
open Go.RowKit Go.Proofs.YtbfgoopomfenjaaDoor.PTseitinValues
set_option linter.unusedVariables false
set_option linter.unusedSimpArgs false

/-- A variable's value. -/
def vr (vals : List Bool) (v : Int) : Bool := vals.getD (v.natAbs - 1) false
/-- A variable that has a value. -/
def VarIn (vals : List Bool) (v : Int) : Prop := 1 ≤ v ∧ v ≤ vals.length
theorem litT_pos {vals : List Bool} {v : Int} (h : VarIn vals v) : litT vals v = vr vals v := by
  obtain ⟨h1, h2⟩ := h
  unfold litT vr
  rw [decide_eq_true (by omega : v.natAbs ≤ vals.length), decide_eq_true (by omega : (0 : Int) < v)]
  simp
theorem litT_neg {vals : List Bool} {v : Int} (h : VarIn vals v) : litT vals (-v) = !vr vals v := by
  obtain ⟨h1, h2⟩ := h
  unfold litT vr
  rw [decide_eq_true (by omega : (-v).natAbs ≤ vals.length), decide_eq_false (by omega : ¬ (0 : Int) < -v), Int.natAbs_neg]
  simp
theorem cls_holds {vals : List Bool} (op v : Int) (x : List Int) (hp : isPart op = true) (hl : (x.length : Int) = csN op) (hv1 : VarIn vals v) (hx : ∀ y ∈ x, VarIn vals y) :
    (cls op v x).all (clT vals) = (vr vals v == hv op (x.map (vr vals))) := by
  have e1 := litT_pos hv1
  have e2 := litT_neg hv1
  obtain hop | hop | hop | hop | hop | hop | hop : op = 1 ∨ op = 2 ∨ op = 6 ∨ op = 7 ∨ op = 8 ∨ op = 9 ∨ op = 10 := by
    unfold isPart at hp; simp only [Bool.or_eq_true, Bool.and_eq_true, beq_iff_eq, decide_eq_true_eq] at hp; omega
  · subst hop
    simp [cls, clT, hv, e1]
  · subst hop
    simp [cls, clT, hv, e2]
  · subst hop
    have h1 : x.length = 1 := by have e : csN 6 = 1 := rfl; omega
    obtain ⟨a, rfl⟩ := List.length_eq_one_iff.1 h1
    have a1 := litT_pos (hx a (by simp))
    have a2 := litT_neg (hx a (by simp))
    simp [cls, clT, hv, e1, e2, a1, a2]
    cases vr vals v <;> cases vr vals a <;> rfl
  all_goals (
    subst hop
    have h1 : x.length = 2 := by have e : csN 7 = 2 := rfl; have e : csN 8 = 2 := rfl; have e : csN 9 = 2 := rfl; have e : csN 10 = 2 := rfl; omega
    obtain ⟨a, b, rfl⟩ : ∃ a b, x = [a, b] := by
      match x, h1 with
      | [a, b], _ => exact ⟨a, b, rfl⟩
    have a1 := litT_pos (hx a (by simp))
    have a2 := litT_neg (hx a (by simp))
    have b1 := litT_pos (hx b (by simp))
    have b2 := litT_neg (hx b (by simp))
    simp [cls, clT, hv, e1, e2, a1, a2, b1, b2]
    cases vr vals v <;> cases vr vals a <;> cases vr vals b <;> rfl)

/-- What is laid for a claim says that its parts' values are theirs. -/
structure Laid (vals : List Bool) (g : S41 → Bool) (t : S41) (st : LS) (r : LS × Int) (D : List (List Int)) : Prop where
  l : r.1.l = st.l ++ D
  n : r.1.n = st.n + (pv g t).length
  v : 1 ≤ r.2 ∧ r.2 ≤ (r.1.n : Int)
  d : D.all (clT vals) = true ↔ (vals.drop st.n).take (pv g t).length = pv g t
  w : (vals.drop st.n).take (pv g t).length = pv g t → vr vals r.2 = tv g t
structure LaidL (vals : List Bool) (g : S41 → Bool) (us : List S41) (st : LS) (r : LS × List Int) (x : List Int) (D : List (List Int)) : Prop where
  l : r.1.l = st.l ++ D
  n : r.1.n = st.n + (pvL g us).length
  x : ∃ y, r.2 = x ++ y ∧ y.length = us.length ∧ (∀ z ∈ y, 1 ≤ z ∧ z ≤ (r.1.n : Int)) ∧ ((vals.drop st.n).take (pvL g us).length = pvL g us → y.map (vr vals) = tvL g us)
  d : D.all (clT vals) = true ↔ (vals.drop st.n).take (pvL g us).length = pvL g us
theorem take_append_iff {α : Type} (l a b : List α) : l.take (a ++ b).length = a ++ b ↔ l.take a.length = a ∧ (l.drop a.length).take b.length = b := by
  rw [List.length_append]
  constructor
  · intro h
    have h1 : l.take a.length = a := by
      have h2 := congrArg (List.take a.length) h
      rw [List.take_take, Nat.min_eq_left (Nat.le_add_right _ _), List.take_left'] at h2
      · exact h2
      · rfl
    refine ⟨h1, ?_⟩
    have h2 := congrArg (List.drop a.length) h
    rw [List.drop_take, Nat.add_sub_cancel_left, List.drop_left'] at h2
    · exact h2
    · rfl
  · rintro ⟨h1, h2⟩
    rw [List.take_add, h1, h2]
theorem layL_mono (at_ us : List S41) (st : LS) (x : List Int) : st.n ≤ (layL false at_ us st x).1.n := by
  induction us generalizing st x with
  | nil => rw [layL]; exact Nat.le_refl _
  | cons a us ih =>
    rw [layL]
    exact Nat.le_trans (layC_bound false at_ _ a st (Nat.le_refl _)).1 (ih _ _)
theorem lay_laid (vals : List Bool) (at_ : List S41) (q : Nat) : ∀ (t : S41) (st : LS), csize t ≤ q → cparts t = 0 → at_.length ≤ st.n → (∀ a ∈ leaves t, 0 ≤ posn at_ a ∧ posn at_ a < at_.length) →
    (layC false at_ t st).1.n ≤ vals.length → ∃ D, Laid vals (lv at_ vals) t st (layC false at_ t st) D := by
  induction q with
  | zero => intro t st h; rw [csize_eq] at h; omega
  | succ q ih =>
    intro t st h hz hst hlv hn
    obtain ⟨⟨h1, h2⟩, hlen, hok⟩ := cparts_ok hz
    have hL : ∀ us : List S41, csizeL us ≤ q → (∀ x ∈ us, cparts x = 0) → (∀ x ∈ us, ∀ a ∈ leaves x, 0 ≤ posn at_ a ∧ posn at_ a < at_.length) → ∀ (st : LS) (x : List Int), at_.length ≤ st.n → (layL false at_ us st x).1.n ≤ vals.length →
        ∃ D, LaidL vals (lv at_ vals) us st (layL false at_ us st x) x D := by
      intro us
      induction us with
      | nil =>
        intro _ _ _ st x _ _
        refine ⟨[], ?_, ?_, ⟨[], ?_, rfl, ?_, ?_⟩, ?_⟩
        · rw [layL]; simp
        · rw [layL, pvL]; rfl
        · rw [layL]; simp
        · intro z hz; cases hz
        · intro _; rfl
        · simp [pvL]
      | cons y us ih2 =>
        intro hu hx hl st x hs hn
        rw [csizeL] at hu
        rw [layL] at hn ⊢
        have hmono : (layC false at_ y st).1.n ≤ (layL false at_ us (layC false at_ y st).1 (x ++ [(layC false at_ y st).2])).1.n := by
          exact layL_mono at_ us _ _
        have hs2 : st.n ≤ (layC false at_ y st).1.n := (layC_bound false at_ _ y st (Nat.le_refl _)).1
        obtain ⟨D1, a1⟩ := ih y st (by omega) (hx y (by simp)) hs (hl y (by simp)) (by omega)
        obtain ⟨D2, a2⟩ := ih2 (by omega) (fun z hz => hx z (by simp [hz])) (fun z hz => hl z (by simp [hz])) (layC false at_ y st).1 (x ++ [(layC false at_ y st).2]) (by omega) hn
        obtain ⟨w, w1, w2, w3, w4⟩ := a2.x
        have hsplit : (vals.drop st.n).take (pvL (lv at_ vals) (y :: us)).length = pvL (lv at_ vals) (y :: us) ↔ (vals.drop st.n).take (pv (lv at_ vals) y).length = pv (lv at_ vals) y ∧ (vals.drop (layC false at_ y st).1.n).take (pvL (lv at_ vals) us).length = pvL (lv at_ vals) us := by
          rw [pvL, take_append_iff, List.drop_drop, a1.n]
        refine ⟨D1 ++ D2, ?_, ?_, ⟨(layC false at_ y st).2 :: w, ?_, ?_, ?_, ?_⟩, ?_⟩
        · rw [a2.l, a1.l, List.append_assoc]
        · rw [a2.n, a1.n, pvL, List.length_append]; omega
        · rw [w1]; simp
        · simp [w2]
        · intro z hz
          rcases List.mem_cons.1 hz with rfl | hz
          · have := a1.v; omega
          · exact w3 z hz
        · intro h9
          obtain ⟨h10, h11⟩ := hsplit.1 h9
          rw [List.map_cons, a1.w h10, w4 h11, tvL]
        · rw [List.all_append, Bool.and_eq_true, a1.d, a2.d, hsplit]
    by_cases hp : isPart t.f0 = true
    · rw [layC_part false at_ t st hp] at hn ⊢
      rw [csize_eq] at h
      have hsub : ∀ x ∈ t.f4, cparts x = 0 := fun x hx => by
        obtain ⟨k, hk⟩ := List.getElem?_of_mem hx
        exact hok k x hk
      have hlvs : ∀ x ∈ t.f4, ∀ a ∈ leaves x, 0 ≤ posn at_ a ∧ posn at_ a < at_.length := fun x hx a ha => hlv a (by rw [leaves_eq, if_pos hp]; exact leavesL_mem.2 ⟨x, hx, ha⟩)
      have hn : (layL false at_ t.f4 st []).1.n + 1 ≤ vals.length := hn
      obtain ⟨D, a⟩ := hL t.f4 (by omega) hsub hlvs st [] hst (by omega)
      obtain ⟨y, y1, y2, y3, y4⟩ := a.x
      rw [List.nil_append] at y1
      have hpv : pv (lv at_ vals) t = pvL (lv at_ vals) t.f4 ++ [hv t.f0 (tvL (lv at_ vals) t.f4)] := by rw [pv_eq, if_pos hp]
      have htv : tv (lv at_ vals) t = hv t.f0 (tvL (lv at_ vals) t.f4) := by rw [tv_eq, if_pos hp]
      have hin : VarIn vals (((layL false at_ t.f4 st []).1.n + 1 : Nat) : Int) := by unfold VarIn; omega
      have hcls := cls_holds (vals := vals) t.f0 (((layL false at_ t.f4 st []).1.n + 1 : Nat) : Int) y hp (by rw [y2]; exact hlen) hin (fun z hz => by have := y3 z hz; unfold VarIn; omega)
      have hvr : vr vals (((layL false at_ t.f4 st []).1.n + 1 : Nat) : Int) = vals.getD (layL false at_ t.f4 st []).1.n false := by unfold vr; rw [Int.natAbs_natCast, Nat.add_sub_cancel]
      have hone : ∀ b : Bool, (vals.drop (layL false at_ t.f4 st []).1.n).take 1 = [b] ↔ vals.getD (layL false at_ t.f4 st []).1.n false = b := fun b => by
        have hlt : (layL false at_ t.f4 st []).1.n < vals.length := by omega
        rw [List.drop_eq_getElem_cons hlt, List.getD_eq_getElem?_getD, List.getElem?_eq_getElem hlt, List.take_succ_cons, List.take_zero, Option.getD_some]
        exact ⟨fun h => (List.cons.inj h).1, fun h => by rw [h]⟩
      have hsplit : (vals.drop st.n).take (pv (lv at_ vals) t).length = pv (lv at_ vals) t ↔ (vals.drop st.n).take (pvL (lv at_ vals) t.f4).length = pvL (lv at_ vals) t.f4 ∧ vals.getD (layL false at_ t.f4 st []).1.n false = hv t.f0 (tvL (lv at_ vals) t.f4) := by
        rw [hpv, take_append_iff, List.drop_drop, ← a.n, List.length_singleton, hone]
      refine ⟨D ++ cls t.f0 (((layL false at_ t.f4 st []).1.n + 1 : Nat) : Int) (layL false at_ t.f4 st []).2, ?_, ?_, ?_, ?_, ?_⟩
      · show (if false = true ∧ 4096 < (layL false at_ t.f4 st []).1.l.length then (layL false at_ t.f4 st []).1.l else (layL false at_ t.f4 st []).1.l ++ cls t.f0 (((layL false at_ t.f4 st []).1.n + 1 : Nat) : Int) (layL false at_ t.f4 st []).2) = _
        rw [if_neg (fun h => absurd h.1 (by decide)), a.l, List.append_assoc]
      · show (layL false at_ t.f4 st []).1.n + 1 = _
        rw [hpv, List.length_append, a.n, List.length_singleton]; omega
      · show 1 ≤ (((layL false at_ t.f4 st []).1.n + 1 : Nat) : Int) ∧ (((layL false at_ t.f4 st []).1.n + 1 : Nat) : Int) ≤ (((layL false at_ t.f4 st []).1.n + 1 : Nat) : Int)
        omega
      · rw [List.all_append, Bool.and_eq_true, a.d, y1, hcls, hsplit, hvr]
        constructor
        · rintro ⟨h9, h10⟩
          rw [y4 h9] at h10
          exact ⟨h9, by simpa using h10⟩
        · rintro ⟨h9, h10⟩
          refine ⟨h9, ?_⟩
          rw [y4 h9, h10]; simp
      · intro h9
        show vr vals (((layL false at_ t.f4 st []).1.n + 1 : Nat) : Int) = _
        rw [hvr, htv]
        exact (hsplit.1 h9).2
    · have hp : isPart t.f0 = false := by simpa using hp
      rw [layC_atom false at_ t st hp]
      have hpv : pv (lv at_ vals) t = [] := by rw [pv_eq, if_neg (by rw [hp]; decide)]
      obtain ⟨p1, p2⟩ := hlv t (by rw [leaves_eq, if_neg (by rw [hp]; decide)]; simp)
      refine ⟨[], by simp, by rw [hpv]; rfl, ?_, by rw [hpv]; simp, fun _ => ?_⟩
      · show 1 ≤ posn at_ t + 1 ∧ posn at_ t + 1 ≤ (st.n : Int)
        omega
      · show vr vals (posn at_ t + 1) = _
        rw [tv_eq, if_neg (by rw [hp]; decide)]
        unfold vr lv
        congr 1
        omega
end Go.Proofs.YtbfgoopomfenjaaDoor
namespace Go.Proofs.YtbfgoopomfenjaaDoor
open Go.RowKit Go.Proofs.YtbfgoopomfenjaaDoor.PTseitinValues
set_option linter.unusedVariables false
set_option linter.unusedSimpArgs false

/-- A clause over n variables. -/
def ClOK (n : Nat) (cl : List Int) : Prop := cl.length ≤ 3 ∧ ∀ y ∈ cl, y ≠ 0 ∧ -(n : Int) ≤ y ∧ y ≤ n
theorem ClOK.mono {n m : Nat} {cl : List Int} (h : ClOK n cl) (hm : n ≤ m) : ClOK m cl := ⟨h.1, fun y hy => by have := h.2 y hy; omega⟩
theorem cls_ok {n : Nat} (op v : Int) (x : List Int) (hp : isPart op = true) (hl : (x.length : Int) = csN op) (hv1 : 1 ≤ v ∧ v ≤ n) (hx : ∀ y ∈ x, 1 ≤ y ∧ y ≤ (n : Int)) : ∀ cl ∈ cls op v x, ClOK n cl := by
  obtain hop | hop | hop | hop | hop | hop | hop : op = 1 ∨ op = 2 ∨ op = 6 ∨ op = 7 ∨ op = 8 ∨ op = 9 ∨ op = 10 := by
    unfold isPart at hp; simp only [Bool.or_eq_true, Bool.and_eq_true, beq_iff_eq, decide_eq_true_eq] at hp; omega
  · subst hop
    intro cl h
    have h : cl = [v] := by simpa [cls] using h
    subst h
    exact ⟨by simp, by simp; omega⟩
  · subst hop
    intro cl h
    have h : cl = [-v] := by simpa [cls] using h
    subst h
    exact ⟨by simp, by simp; omega⟩
  · subst hop
    have h1 : x.length = 1 := by have e : csN 6 = 1 := rfl; omega
    obtain ⟨a, rfl⟩ := List.length_eq_one_iff.1 h1
    have a1 := hx a (by simp)
    intro cl h
    have h : cl = [-v, -a] ∨ cl = [v, a] := by simpa [cls] using h
    rcases h with rfl | rfl
    all_goals exact ⟨by simp, by simp; omega⟩
  all_goals (
    subst hop
    have h1 : x.length = 2 := by have e : csN 7 = 2 := rfl; have e : csN 8 = 2 := rfl; have e : csN 9 = 2 := rfl; have e : csN 10 = 2 := rfl; omega
    obtain ⟨a, b, rfl⟩ : ∃ a b, x = [a, b] := by
      match x, h1 with
      | [a, b], _ => exact ⟨a, b, rfl⟩
    have a1 := hx a (by simp)
    have b1 := hx b (by simp)
    intro cl h)
  · have h : cl = [-v, a] ∨ cl = [-v, b] ∨ cl = [v, -a, -b] := by simpa [cls] using h
    rcases h with rfl | rfl | rfl
    all_goals exact ⟨by simp, by simp; omega⟩
  · have h : cl = [-v, a, b] ∨ cl = [v, -a] ∨ cl = [v, -b] := by simpa [cls] using h
    rcases h with rfl | rfl | rfl
    all_goals exact ⟨by simp, by simp; omega⟩
  · have h : cl = [-v, -a, b] ∨ cl = [v, a] ∨ cl = [v, -b] := by simpa [cls] using h
    rcases h with rfl | rfl | rfl
    all_goals exact ⟨by simp, by simp; omega⟩
  · have h : cl = [-v, -a, b] ∨ cl = [-v, a, -b] ∨ cl = [v, a, b] ∨ cl = [v, -a, -b] := by simpa [cls] using h
    rcases h with rfl | rfl | rfl | rfl
    all_goals exact ⟨by simp, by simp; omega⟩
def StOK (st : LS) : Prop := ∀ cl ∈ st.l, ClOK st.n cl
theorem lay_ok (at_ : List S41) (q : Nat) : ∀ (t : S41) (st : LS), csize t ≤ q → cparts t = 0 → at_.length ≤ st.n → (∀ a ∈ leaves t, 0 ≤ posn at_ a ∧ posn at_ a < at_.length) → StOK st →
    StOK (layC false at_ t st).1 ∧ 1 ≤ (layC false at_ t st).2 ∧ (layC false at_ t st).2 ≤ ((layC false at_ t st).1.n : Int) := by
  induction q with
  | zero => intro t st h; rw [csize_eq] at h; omega
  | succ q ih =>
    intro t st h hz hst hlv hok0
    obtain ⟨⟨h1, h2⟩, hlen, hok⟩ := cparts_ok hz
    have hL : ∀ us : List S41, csizeL us ≤ q → (∀ x ∈ us, cparts x = 0) → (∀ x ∈ us, ∀ a ∈ leaves x, 0 ≤ posn at_ a ∧ posn at_ a < at_.length) → ∀ (st : LS) (x : List Int), at_.length ≤ st.n → StOK st → (∀ z ∈ x, 1 ≤ z ∧ z ≤ (st.n : Int)) →
        StOK (layL false at_ us st x).1 ∧ ∀ z ∈ (layL false at_ us st x).2, 1 ≤ z ∧ z ≤ ((layL false at_ us st x).1.n : Int) := by
      intro us
      induction us with
      | nil =>
        intro _ _ _ st x _ h8 h9
        rw [layL]; exact ⟨h8, h9⟩
      | cons y us ih2 =>
        intro hu hx hl st x hs h8 h9
        rw [csizeL] at hu
        rw [layL]
        have hs2 : st.n ≤ (layC false at_ y st).1.n := (layC_bound false at_ _ y st (Nat.le_refl _)).1
        obtain ⟨a1, a2, a3⟩ := ih y st (by omega) (hx y (by simp)) hs (hl y (by simp)) h8
        refine ih2 (by omega) (fun z hz => hx z (by simp [hz])) (fun z hz => hl z (by simp [hz])) (layC false at_ y st).1 (x ++ [(layC false at_ y st).2]) (by omega) a1 (fun z hz => ?_)
        rcases List.mem_append.1 hz with hz | hz
        · have := h9 z hz; omega
        · rw [List.mem_singleton.1 hz]; exact ⟨a2, a3⟩
    by_cases hp : isPart t.f0 = true
    · rw [layC_part false at_ t st hp]
      rw [csize_eq] at h
      have hsub : ∀ x ∈ t.f4, cparts x = 0 := fun x hx => by
        obtain ⟨k, hk⟩ := List.getElem?_of_mem hx
        exact hok k x hk
      have hlvs : ∀ x ∈ t.f4, ∀ a ∈ leaves x, 0 ≤ posn at_ a ∧ posn at_ a < at_.length := fun x hx a ha => hlv a (by rw [leaves_eq, if_pos hp]; exact leavesL_mem.2 ⟨x, hx, ha⟩)
      obtain ⟨b1, b2⟩ := hL t.f4 (by omega) hsub hlvs st [] hst hok0 (fun z hz => by cases hz)
      have b3 : ((layL false at_ t.f4 st []).2.length : Int) = csN t.f0 := by rw [layL_len2, List.length_nil, Nat.zero_add]; exact hlen
      generalize layL false at_ t.f4 st [] = R at b1 b2 b3 ⊢
      rw [if_neg (fun h : false = true ∧ _ => absurd h.1 (by decide))]
      refine ⟨fun cl hcl => ?_, by show 1 ≤ ((R.1.n + 1 : Nat) : Int); omega, by show ((R.1.n + 1 : Nat) : Int) ≤ ((R.1.n + 1 : Nat) : Int); omega⟩
      show ClOK (R.1.n + 1) cl
      rcases List.mem_append.1 hcl with hcl | hcl
      · exact (b1 cl hcl).mono (by omega)
      · exact cls_ok t.f0 _ R.2 hp b3 (by omega) (fun z hz => by have := b2 z hz; omega) cl hcl
    · have hp : isPart t.f0 = false := by simpa using hp
      rw [layC_atom false at_ t st hp]
      obtain ⟨p1, p2⟩ := hlv t (by rw [leaves_eq, if_neg (by rw [hp]; decide)]; simp)
      refine ⟨hok0, by show 1 ≤ posn at_ t + 1; omega, by show posn at_ t + 1 ≤ (st.n : Int); omega⟩
theorem top_ok (at_ : List S41) (cs : List S41) : ∀ (st st' : LS), (∀ x ∈ cs, cparts x = 0) → (∀ x ∈ cs, ∀ a ∈ leaves x, 0 ≤ posn at_ a ∧ posn at_ a < at_.length) → at_.length ≤ st.n → topR at_ cs st = some st' → StOK st → StOK st' ∧ st.n ≤ st'.n := by
  induction cs with
  | nil => intro st st' _ _ _ h hs; rw [topR] at h; injection h with h; rw [← h]; exact ⟨hs, Nat.le_refl _⟩
  | cons c cs ih =>
    intro st st' hz hl hn h hs
    rw [topR] at h
    split at h
    · cases h
    · obtain ⟨a1, a2, a3⟩ := lay_ok at_ _ c st (Nat.le_refl _) (hz c (by simp)) hn (hl c (by simp)) hs
      have hs2 : st.n ≤ (layC false at_ c st).1.n := (layC_bound false at_ _ c st (Nat.le_refl _)).1
      obtain ⟨b1, b2⟩ := ih _ st' (fun x hx => hz x (by simp [hx])) (fun x hx => hl x (by simp [hx])) (by show at_.length ≤ (layC false at_ c st).1.n; omega) h (fun cl hcl => by
        show ClOK (layC false at_ c st).1.n cl
        rcases List.mem_append.1 hcl with hcl | hcl
        · exact a1 cl hcl
        · rw [List.mem_singleton.1 hcl]
          exact ⟨by simp, fun y hy => by rw [List.mem_singleton.1 hy]; omega⟩)
      have b2 : (layC false at_ c st).1.n ≤ st'.n := b2
      exact ⟨b1, by omega⟩
theorem top_laid (vals : List Bool) (at_ : List S41) (cs : List S41) : ∀ (st st' : LS), (∀ x ∈ cs, cparts x = 0) → (∀ x ∈ cs, ∀ a ∈ leaves x, 0 ≤ posn at_ a ∧ posn at_ a < at_.length) → at_.length ≤ st.n → topR at_ cs st = some st' → st'.n ≤ vals.length → st.n ≤ st'.n →
    ∃ D, st'.l = st.l ++ D ∧ st'.n = st.n + (pvL (lv at_ vals) cs).length ∧ (D.all (clT vals) = true ↔ (vals.drop st.n).take (pvL (lv at_ vals) cs).length = pvL (lv at_ vals) cs ∧ ∀ x ∈ cs, tv (lv at_ vals) x = true) := by
  have key : ∀ (cs : List S41) (st st' : LS), topR at_ cs st = some st' → st.n ≤ st'.n := by
    intro cs
    induction cs with
    | nil => intro st st' h; rw [topR] at h; injection h with h; rw [h]; exact Nat.le_refl _
    | cons c cs ih =>
      intro st st' h
      rw [topR] at h
      split at h
      · cases h
      · have h4 : (layC false at_ c st).1.n ≤ st'.n := ih ⟨(layC false at_ c st).1.n, (layC false at_ c st).1.l ++ [[(layC false at_ c st).2]]⟩ _ h
        exact Nat.le_trans (layC_bound false at_ _ c st (Nat.le_refl _)).1 h4
  induction cs with
  | nil =>
    intro st st' _ _ _ h _ _
    rw [topR] at h; injection h with h; rw [← h]
    exact ⟨[], by simp, by simp [pvL], by simp [pvL]⟩
  | cons c cs ih =>
    intro st st' hz hl hn h hlen hmon
    rw [topR] at h
    split at h
    · cases h
    · have h3 : (layC false at_ c st).1.n ≤ st'.n := key cs ⟨(layC false at_ c st).1.n, (layC false at_ c st).1.l ++ [[(layC false at_ c st).2]]⟩ _ h
      have hs2 : st.n ≤ (layC false at_ c st).1.n := (layC_bound false at_ _ c st (Nat.le_refl _)).1
      obtain ⟨D1, a⟩ := lay_laid vals at_ _ c st (Nat.le_refl _) (hz c (by simp)) hn (hl c (by simp)) (by omega)
      obtain ⟨D2, b1, b2, b3⟩ := ih _ st' (fun x hx => hz x (by simp [hx])) (fun x hx => hl x (by simp [hx])) (by show at_.length ≤ (layC false at_ c st).1.n; omega) h hlen h3
      have b1 : st'.l = ((layC false at_ c st).1.l ++ [[(layC false at_ c st).2]]) ++ D2 := b1
      have b2 : st'.n = (layC false at_ c st).1.n + (pvL (lv at_ vals) cs).length := b2
      have b3 : D2.all (clT vals) = true ↔ (vals.drop (layC false at_ c st).1.n).take (pvL (lv at_ vals) cs).length = pvL (lv at_ vals) cs ∧ ∀ x ∈ cs, tv (lv at_ vals) x = true := b3
      have hone : clT vals [(layC false at_ c st).2] = vr vals (layC false at_ c st).2 := by
        unfold clT
        rw [List.any_cons, List.any_nil, Bool.or_false]
        exact litT_pos ⟨a.v.1, by have := a.v.2; omega⟩
      have hsplit : (vals.drop st.n).take (pvL (lv at_ vals) (c :: cs)).length = pvL (lv at_ vals) (c :: cs) ↔ (vals.drop st.n).take (pv (lv at_ vals) c).length = pv (lv at_ vals) c ∧ (vals.drop (layC false at_ c st).1.n).take (pvL (lv at_ vals) cs).length = pvL (lv at_ vals) cs := by
        rw [pvL, take_append_iff, List.drop_drop, a.n]
      refine ⟨D1 ++ ([[(layC false at_ c st).2]] ++ D2), ?_, ?_, ?_⟩
      · rw [b1, a.l]; simp
      · rw [b2, a.n, pvL, List.length_append]; omega
      · rw [List.all_append, Bool.and_eq_true, List.all_append, Bool.and_eq_true, List.all_cons, List.all_nil, Bool.and_true, hone, a.d, b3, hsplit]
        constructor
        · rintro ⟨h5, h6, h7, h8⟩
          refine ⟨⟨h5, h7⟩, fun x hx => ?_⟩
          rcases List.mem_cons.1 hx with rfl | hx
          · rw [← a.w h5]; exact h6
          · exact h8 x hx
        · rintro ⟨⟨h5, h6⟩, h7⟩
          exact ⟨h5, by rw [a.w h5]; exact h7 c (by simp), h6, fun x hx => h7 x (by simp [hx])⟩

theorem tv_congr {g g' : S41 → Bool} (q : Nat) : ∀ t : S41, csize t ≤ q → (∀ a ∈ leaves t, g a = g' a) → tv g t = tv g' t ∧ pv g t = pv g' t := by
  induction q with
  | zero => intro t h; rw [csize_eq] at h; omega
  | succ q ih =>
    intro t h hl
    rw [csize_eq] at h
    by_cases hp : isPart t.f0 = true
    · have hL : ∀ us : List S41, csizeL us ≤ q → (∀ x ∈ us, ∀ a ∈ leaves x, g a = g' a) → tvL g us = tvL g' us ∧ pvL g us = pvL g' us := by
        intro us
        induction us with
        | nil => intro _ _; exact ⟨rfl, rfl⟩
        | cons y us ih2 =>
          intro hu hx
          rw [csizeL] at hu
          obtain ⟨a1, a2⟩ := ih y (by omega) (hx y (by simp))
          obtain ⟨b1, b2⟩ := ih2 (by omega) (fun z hz => hx z (by simp [hz]))
          rw [tvL, tvL, pvL, pvL, a1, a2, b1, b2]
          exact ⟨rfl, rfl⟩
      obtain ⟨a1, a2⟩ := hL t.f4 (by omega) (fun x hx a ha => hl a (by rw [leaves_eq, if_pos hp]; exact leavesL_mem.2 ⟨x, hx, ha⟩))
      rw [tv_eq, if_pos hp, tv_eq, if_pos hp, pv_eq, if_pos hp, pv_eq, if_pos hp, a1, a2]
      exact ⟨rfl, rfl⟩
    · rw [tv_eq, if_neg hp, tv_eq, if_neg hp, pv_eq, if_neg hp, pv_eq, if_neg hp]
      exact ⟨hl t (by rw [leaves_eq, if_neg hp]; simp), rfl⟩
theorem pvL_congr {g g' : S41 → Bool} {us : List S41} (h : ∀ x ∈ us, ∀ a ∈ leaves x, g a = g' a) : pvL g us = pvL g' us := by
  induction us with
  | nil => rfl
  | cons y us ih => rw [pvL, pvL, (tv_congr _ y (Nat.le_refl _) (h y (by simp))).2, ih (fun x hx => h x (by simp [hx]))]
theorem lv_take {at_ : List S41} {vs ws : List Bool} {k : Nat} (h : vs.take k = ws.take k) {a : S41} (h0 : 0 ≤ posn at_ a) (h1 : posn at_ a < k) : lv at_ vs a = lv at_ ws a := by
  unfold lv
  rw [List.getD_eq_getElem?_getD, List.getD_eq_getElem?_getD]
  have e : ∀ l : List Bool, (l.take k)[(posn at_ a).toNat]? = l[(posn at_ a).toNat]? := fun l => by rw [List.getElem?_take, if_pos (by omega)]
  rw [← e vs, ← e ws, h]

/-- What Of's end says. -/
theorem ofR_top {cs : List S41} (h : (ofR cs).e = 0) : ∃ st, topR (atomsL cs []) cs ⟨(atomsL cs []).length, []⟩ = some st ∧ (ofR cs).n = st.n ∧ (ofR cs).l = st.l ∧ st.n ≤ 1024 := by
  unfold ofR at h ⊢
  split at h
  · rename_i h1; exact absurd h h1
  · rename_i h1
    rw [if_neg h1]
    generalize topR (atomsL cs []) cs ⟨(atomsL cs []).length, []⟩ = o at h ⊢
    cases o with
    | none => exact absurd h (show ¬ ((2 : Int) = 0) by decide)
    | some st =>
      have e : ofEnd (atomsL cs []) (some st) = if 1024 < st.n then tooLong else ⟨st.n, st.l, atomsL cs [], 0⟩ := rfl
      rw [e] at h ⊢
      by_cases h2 : 1024 < st.n
      · rw [if_pos h2] at h
        exact absurd h (show ¬ ((2 : Int) = 0) by decide)
      · rw [if_neg h2]
        exact ⟨st, rfl, rfl, rfl, by omega⟩
theorem ofR_lv {cs : List S41} (h : (ofR cs).e = 0) : ∀ x ∈ cs, ∀ a ∈ leaves x, 0 ≤ posn (ofR cs).at_ a ∧ posn (ofR cs).at_ a < (ofR cs).at_.length := by
  obtain ⟨h1, h2, h3⟩ := ofR_ok h
  intro x hx a ha
  rw [h1]
  exact ((atomsL_has (fun x hx => cright_parts2 (h2 x hx)) []).2 x hx a ha).posn
/-- The clauses are over its variables. -/
theorem ofR_cl {cs : List S41} (h : (ofR cs).e = 0) : (∀ cl ∈ (ofR cs).l, ClOK (ofR cs).n cl) ∧ (ofR cs).at_.length ≤ (ofR cs).n ∧ (ofR cs).n ≤ 1024 := by
  have hl := ofR_lv h
  obtain ⟨h1, h2, h3⟩ := ofR_ok h
  obtain ⟨st, e1, e2, e3, e4⟩ := ofR_top h
  rw [h1] at hl ⊢
  rw [e2, e3]
  obtain ⟨a1, a2⟩ := top_ok (atomsL cs []) cs _ st (fun x hx => cright_parts2 (h2 x hx)) hl (Nat.le_refl _) e1 (fun cl hcl => by cases hcl)
  exact ⟨a1, a2, e4⟩
/-- Tseitin's law. -/
theorem ofR_law {cs : List S41} (h : (ofR cs).e = 0) {vals : List Bool} (hn : (ofR cs).n ≤ vals.length) :
    (ofR cs).n = (ofR cs).at_.length + (pvL (lv (ofR cs).at_ vals) cs).length ∧
    ((ofR cs).l.all (clT vals) = true ↔ (vals.drop (ofR cs).at_.length).take (pvL (lv (ofR cs).at_ vals) cs).length = pvL (lv (ofR cs).at_ vals) cs ∧ ∀ x ∈ cs, tv (lv (ofR cs).at_ vals) x = true) := by
  have hl := ofR_lv h
  obtain ⟨_, hk, _⟩ := ofR_cl h
  obtain ⟨h1, h2, h3⟩ := ofR_ok h
  obtain ⟨st, e1, e2, e3, e4⟩ := ofR_top h
  rw [h1] at hl hk ⊢
  rw [e2] at hn hk
  rw [e2, e3]
  obtain ⟨D, a1, a2, a3⟩ := top_laid vals (atomsL cs []) cs _ st (fun x hx => cright_parts2 (h2 x hx)) hl (Nat.le_refl _) e1 hn hk
  have a1 : st.l = D := by simpa using a1
  rw [a1]
  exact ⟨a2, a3⟩
end Go.Proofs.YtbfgoopomfenjaaDoor
namespace Go.Proofs.YtbfgoopomfenjaaDoor
open Go.RowKit Go.Proofs.YtbfgoopomfenjaaDoor.PTseitinValues
set_option linter.unusedVariables false
set_option linter.unusedSimpArgs false

theorem atoms_sub (q : Nat) : ∀ (t : S41) (l : List S41), csize t ≤ q → ∀ a ∈ atomsC t l, a ∈ l ∨ a ∈ leaves t := by
  induction q with
  | zero => intro t l h; rw [csize_eq] at h; omega
  | succ q ih =>
    intro t l h a ha
    have hL : ∀ us : List S41, csizeL us ≤ q → ∀ l, ∀ a ∈ atomsL us l, a ∈ l ∨ a ∈ leavesL us := by
      intro us
      induction us with
      | nil => intro _ l a ha; rw [atomsL] at ha; exact .inl ha
      | cons x us ih2 =>
        intro hu l a ha
        rw [csizeL] at hu
        rw [atomsL] at ha
        rw [leavesL]
        rcases ih2 (by omega) _ a ha with h1 | h1
        · rcases ih x l (by omega) a h1 with h2 | h2
          · exact .inl h2
          · exact .inr (List.mem_append_left _ h2)
        · exact .inr (List.mem_append_right _ h1)
    rw [csize_eq] at h
    rw [atomsC_eq] at ha
    rw [leaves_eq]
    by_cases c1 : t.f0 = 1 ∨ t.f0 = 2
    · rw [if_pos c1] at ha
      exact .inl ha
    · rw [if_neg c1] at ha
      by_cases c2 : 6 ≤ t.f0 ∧ t.f0 ≤ 10
      · rw [if_pos c2] at ha
        rw [if_pos (by unfold isPart; simp [c2])]
        exact hL t.f4 (by omega) l a ha
      · have hp : ¬ isPart t.f0 = true := by unfold isPart; simp; omega
        rw [if_neg c2] at ha
        rw [if_neg hp]
        split at ha
        · exact .inl ha
        · rcases List.mem_append.1 ha with h1 | h1
          · exact .inl h1
          · exact .inr h1
theorem known_of {at_ : List S41} {x : S41} (h : ∀ a ∈ leaves x, 0 ≤ posn at_ a) : known at_ x = true := by
  unfold known
  rw [List.all_eq_true]
  intro a ha
  rw [atomsL, atomsL] at ha
  rcases atoms_sub _ x [] (Nat.le_refl _) a ha with h1 | h1
  · cases h1
  · exact decide_eq_true (h a h1)
theorem holds_of {cs : List S41} (h : (ofR cs).e = 0) {vs : List Bool} (hk : (ofR cs).at_.length ≤ vs.length) : ∀ x ∈ cs, holdsB (ofR cs).at_ vs x = (tv (lv (ofR cs).at_ vs) x, true) := by
  intro x hx
  have hl := ofR_lv h x hx
  unfold holdsB
  rw [if_pos ⟨(ofR_ok h).2.1 x hx, hk, known_of (fun a ha => (hl a ha).1)⟩]
theorem vals_len {cs : List S41} (h : (ofR cs).e = 0) (vs : List Bool) (hk : (ofR cs).at_.length = vs.length) : (vs ++ pvL (lv (ofR cs).at_ vs) cs).length = (ofR cs).n := by
  have h1 := (ofR_law h (vals := vs ++ List.replicate (ofR cs).n false) (by simp)).1
  have hc : pvL (lv (ofR cs).at_ (vs ++ List.replicate (ofR cs).n false)) cs = pvL (lv (ofR cs).at_ vs) cs :=
    pvL_congr (fun x hx a ha => lv_take (k := vs.length) (by simp) (ofR_lv h x hx a ha).1 (by have := (ofR_lv h x hx a ha).2; omega))
  rw [hc] at h1
  rw [List.length_append]; omega

theorem agrees_law {cs : List S41} (h : (ofR cs).e = 0) (vs : List Bool) (hk : (ofR cs).at_.length = vs.length) :
    (valsB cs vs).2 = true ∧ (valsB cs vs).1.length = (ofR cs).n ∧ (ofR cs).l.all (clT (valsB cs vs).1) = cs.all (tv (lv (ofR cs).at_ vs)) ∧ ∀ x ∈ cs, holdsB (ofR cs).at_ vs x = (tv (lv (ofR cs).at_ vs) x, true) := by
  have hV : valsB cs vs = (vs ++ pvL (lv (ofR cs).at_ vs) cs, true) := by unfold valsB; rw [if_pos ⟨h, hk⟩]
  have hlen := vals_len h vs hk
  rw [hV]
  refine ⟨rfl, hlen, ?_, holds_of h (by omega)⟩
  show (ofR cs).l.all (clT (vs ++ pvL (lv (ofR cs).at_ vs) cs)) = _
  have hg : ∀ x ∈ cs, ∀ a ∈ leaves x, lv (ofR cs).at_ (vs ++ pvL (lv (ofR cs).at_ vs) cs) a = lv (ofR cs).at_ vs a := fun x hx a ha => lv_take (k := vs.length) (by simp) (ofR_lv h x hx a ha).1 (by have := (ofR_lv h x hx a ha).2; omega)
  have h2 := (ofR_law h (vals := vs ++ pvL (lv (ofR cs).at_ vs) cs) (by omega)).2
  rw [pvL_congr hg, hk, List.drop_left, List.take_length] at h2
  rw [Bool.eq_iff_iff, h2, List.all_eq_true]
  constructor
  · rintro ⟨_, h3⟩ x hx
    rw [← (tv_congr _ x (Nat.le_refl _) (hg x hx)).1]; exact h3 x hx
  · intro h3
    exact ⟨rfl, fun x hx => by rw [(tv_congr _ x (Nat.le_refl _) (hg x hx)).1]; exact h3 x hx⟩
theorem back_law {cs : List S41} (h : (ofR cs).e = 0) (vs : List Bool) (hn : (ofR cs).n ≤ vs.length) (ha : (ofR cs).l.all (clT vs) = true) :
    valsB cs (vs.take (ofR cs).at_.length) = (vs.take (ofR cs).n, true) ∧ ∀ x ∈ cs, holdsB (ofR cs).at_ vs x = (true, true) := by
  have hk := (ofR_cl h).2.1
  obtain ⟨h1, h2⟩ := ofR_law h hn
  obtain ⟨h3, h4⟩ := h2.1 ha
  have hl : (ofR cs).at_.length = (vs.take (ofR cs).at_.length).length := by rw [List.length_take]; omega
  have hg : ∀ x ∈ cs, ∀ a ∈ leaves x, lv (ofR cs).at_ (vs.take (ofR cs).at_.length) a = lv (ofR cs).at_ vs a := fun x hx a ha => lv_take (k := (ofR cs).at_.length) (by rw [List.take_take, Nat.min_self]) (ofR_lv h x hx a ha).1 (ofR_lv h x hx a ha).2
  constructor
  · unfold valsB
    rw [if_pos ⟨h, hl⟩, pvL_congr hg, h1, List.take_add, h3]
  · intro x hx
    rw [holds_of h (by omega) x hx, h4 x hx]
end Go.Proofs.YtbfgoopomfenjaaDoor
namespace Go.Proofs.YtbfgoopomfenjaaDoor
open Go.RowKit Go.Proofs.YtbfgoopomfenjaaDoorW.PrintWords Go.Proofs.YtbfgoopomfenjaaDoorW.PrintLast Go.Proofs.YtbfgoopomfenjaaDoor.PTseitinValues
set_option linter.unusedVariables false
set_option linter.unusedSimpArgs false
attribute [local go_sem] World.cell?_alloc_lt
attribute [local go_sem] run_store_fn

theorem bools_cut (Av : Option Addr) (n cv k : Nat) (hk : k ≤ n) (hc : n ≤ cv) : ∀ V : World, (Instr.slice 34 (.slice Av n cv) none (some (.int .i64 (k : Int))) none).run Tryd.prog V = .ok (.slice Av k cv) V := by
  intro V
  obtain ⟨i, hi⟩ : ∃ i, Tryd.prog.info? 4 = some i := by
    have h := info4
    cases h2 : Tryd.prog.info? 4 with
    | none => rw [h2] at h; cases h
    | some i => exact ⟨i, rfl⟩
  rw [cut_to 34 4 .i64 Tryd.underlying34 hi Av n cv (k : Int) (by omega) (by omega) hc V, Int.toNat_natCast]
set_option maxRecDepth 100000 in
set_option maxHeartbeats 4000000 in
theorem law_agrees (l : List S41) (A : Option Addr) (c : Nat) (vs : List Bool) (Av : Option Addr) (cv : Nat) (W : World) (hc : l.length ≤ c) (hcv : vs.length ≤ cv) (hC : k41.C W A l.length l) (hVC : kB.C W Av vs.length vs) (hN : Needs W) :
    Calls Tryd.prog 6 #[.slice A l.length c, .slice Av vs.length cv] W fun e w' => e = .returned (.bool true) ∧ Below W.heap.size W w' := by
  have hvl : vs.length ≤ 9223372036854775807 := hVC.2.1
  have HC := Aside0.mk hC
  have HVC := Aside0.mk hVC
  have HN := Aside0.mk hN
  have HF := Aside0.mk (law_few l A c 200 W (by omega) (by omega) hc hC)
  have e200 : Int.toNat 200 = 200 := rfl
  rw [e200] at HF
  clear hC hVC hN e200
  cases hf : fewOf l 200 with
  | false =>
    rw [hf] at HF
    go_enter Tryd.func6, Tryd.ntmps6
    go_wp2_with (first
      | (go_at_call 9; refine HF.out.mono ?_; rintro e w1 ⟨rfl, hb⟩; have HB1 := Aside0.mk hb; clear hb)
      | (go_at_call 10; refine (law_alive _ (HN.out.below HB1.out)).mono ?_; rintro e w2 ⟨rfl, hb⟩; have HB2 := Aside0.mk (below_step HB1.out hb); clear hb))
    go_ret
    exact ⟨rfl, HB2.out⟩
  | true =>
    obtain ⟨hs, hsum⟩ := few_facts hf (by omega)
    rw [hf] at HF
    have HS : Aside0 (∀ x ∈ l, csize x ≤ 4096) := ⟨fun x hx => Nat.le_trans (hs x hx) (by omega)⟩
    clear hs hf
    by_cases hv : 3000 < vs.length
    · have hv1 : decide ((3000 : Int) < (vs.length : Int)) = true := decide_eq_true (by omega)
      have hv2 : decide (3000 < vs.length) = true := decide_eq_true hv
      go_enter Tryd.func6, Tryd.ntmps6
      go_wp2_with (first
        | (go_at_call 9; refine HF.out.mono ?_; rintro e w1 ⟨rfl, hb⟩; have HB1 := Aside0.mk hb; clear hb)
        | (go_at_call 10; refine (law_alive _ (HN.out.below HB1.out)).mono ?_; rintro e w2 ⟨rfl, hb⟩; have HB2 := Aside0.mk (below_step HB1.out hb); clear hb))
      go_ret
      exact ⟨rfl, HB2.out⟩
    · have hv1 : decide ((3000 : Int) < (vs.length : Int)) = false := decide_eq_false (by omega)
      have hv2 : decide (3000 < vs.length) = false := decide_eq_false hv
      have HOF := Aside0.mk (fun V (hb : Below W.heap.size W V) => prog_Of W l A c V hb HC.out (HN.out.below hb) HS.out (by omega))
      have HAG := Aside0.mk (fun h => @agrees_law l h)
      have HCL := Aside0.mk (fun h => @ofR_cl l h)
      generalize hr : ofR l = r at *
      by_cases he : r.e = 0
      · have heb : (r.e != 0) = false := by simpa using he
        by_cases hlen : vs.length < r.at_.length
        · have hl1 : decide ((vs.length : Int) < (r.at_.length : Int)) = true := decide_eq_true (by omega)
          have hl2 : decide (vs.length < r.at_.length) = true := decide_eq_true hlen
          clear he hlen hr
          go_enter Tryd.func6, Tryd.ntmps6
          go_upto_region 4 with (first
            | (go_at_call 9; refine HF.out.mono ?_; rintro e w1 ⟨rfl, hb⟩; have HB1 := Aside0.mk hb; clear hb)
            | (go_at_call 11; refine (HOF.out _ HB1.out).mono ?_; rintro e w2 ⟨A1, c1, A2, c2, rfl, hle, hC2, hat, hb⟩; have HB2 := Aside0.mk (below_step HB1.out hb); clear hle hC2 hat hb))
          have hB3 : Below w2.heap.size w2 (w2.alloc (.cells #[.int .i64 r.n, .slice A1 r.l.length c1] 27)) := below_alloc (Below.refl _ _) _
          have HB3 := Aside0.mk (below_step HB2.out hB3)
          clear hB3
          generalize hW : w2.alloc (.cells #[.int .i64 r.n, .slice A1 r.l.length c1] 27) = W3 at *
          clear hW
          go_wp2_with (first
            | (go_at_call 10; refine (law_alive _ (HN.out.below HB3.out)).mono ?_; rintro e w4 ⟨rfl, hb⟩; have HB4 := Aside0.mk (below_step HB3.out hb); clear hb))
          go_ret
          exact ⟨rfl, HB4.out⟩
        · have hl1 : decide ((vs.length : Int) < (r.at_.length : Int)) = false := decide_eq_false (by omega)
          have hl2 : decide (vs.length < r.at_.length) = false := decide_eq_false hlen
          have hle1 : r.at_.length ≤ vs.length := by omega
          have hcut := bools_cut Av vs.length cv r.at_.length hle1 hcv
          have hwl : (vs.take r.at_.length).length = r.at_.length := by rw [List.length_take]; omega
          obtain ⟨g1, g2, g3, g4⟩ := HAG.out he (vs.take r.at_.length) hwl.symm
          have hal : r.at_.length ≤ 1024 := by have := HCL.out he; omega
          have HWC : Aside0 (kB.C W Av (vs.take r.at_.length).length (vs.take r.at_.length)) := ⟨Kd.C_take HVC.out hle1⟩
          have HQ2 := Aside0.mk (fun V (hb : Below W.heap.size W V) => ts_Values W l A c (vs.take r.at_.length) Av cv V hb HC.out HWC.out (by omega) (HN.out.below hb) HS.out (by omega))
          have HQ3 := Aside0.mk (fun V t A' c' B' d' (hP : P41 W t A' c' B' d') (hb : Below W.heap.size W V) (hsz : csize t ≤ 4096) (A2 : Option Addr) (c2 : Nat) (hRA : RA W V A2 r.at_) => ts_Holds W r.at_ (vs.take r.at_.length) t A' c' B' d' A2 c2 Av cv V hP hb (HN.out.below hb) hsz hRA (by omega) (Kd.C_below HWC.out hb))
          rw [hwl] at HQ2 HQ3
          have HCX := Aside0.mk (HCL.out he)
          clear HWC HAG HCL
          generalize valsB l (vs.take r.at_.length) = V at *
          have hnlen : ((V.1.length : Int) != (r.n : Int)) = false := by rw [g2]; simp
          have HG3 := Aside0.mk g3
          have HG4 := Aside0.mk g4
          have HG2 := Aside0.mk g2
          generalize hws : holdsB r.at_ (vs.take r.at_.length) = hB at *
          generalize tv (lv r.at_ (vs.take r.at_.length)) = g at *
          clear he hr g3 g4 g2 hws
          go_enter Tryd.func6, Tryd.ntmps6
          go_upto_region 4 with (first
            | (go_at_call 9; refine HF.out.mono ?_; rintro e w1 ⟨rfl, hb⟩; have HB1 := Aside0.mk hb; clear hb)
            | (go_at_call 11; refine (HOF.out _ HB1.out).mono ?_; rintro e w2 ⟨A1, c1, A2, c2, rfl, hle, hC2, hat, hb⟩; have HL2 := Aside0.mk hC2; have HAT2 := Aside0.mk hat; have HB2 := Aside0.mk (below_step HB1.out hb); clear hle hC2 hat hb))
          have hB3 : Below w2.heap.size w2 (w2.alloc (.cells #[.int .i64 r.n, .slice A1 r.l.length c1] 27)) := below_alloc (Below.refl _ _) _
          have X3 : (w2.alloc (.cells #[.int .i64 r.n, .slice A1 r.l.length c1] 27)).heap[w2.heap.size]? = some (.cells #[.int .i64 r.n, .slice A1 r.l.length c1] 27 (0, 0)) := blk_new _ _
          have HX3 := Aside0.mk X3
          have HL3 := Aside0.mk (Kd.C_below HL2.out hB3)
          have HRA3 := Aside0.mk ((HAT2.out.RA).2.2.below hB3)
          have HB3 := Aside0.mk (below_step HB2.out hB3)
          clear hB3 X3
          generalize hW : w2.alloc (.cells #[.int .i64 r.n, .slice A1 r.l.length c1] 27) = W3 at *
          clear hW
          generalize w2.heap.size = b3 at *
          go_upto_region 8 with (first
            | (go_at_call 15; refine (HQ2.out _ HB3.out).mono ?_; rintro e w4 ⟨A4, c4, rfl, hl4, hc4, hb⟩; have HC4 := Aside0.mk hc4; have HB4 := Aside0.mk hb; clear hb hc4))
          have X4 := blk_below HX3.out HB4.out
          have HX4 := Aside0.mk X4
          have HB04 := Aside0.mk (below_step HB3.out HB4.out)
          have HL4 := Aside0.mk (Kd.C_below HL3.out HB4.out)
          have HRA4 := Aside0.mk (HRA3.out.below HB4.out)
          have p0 := blk_cell X4 0
          have p1 := blk_cell X4 1
          have pl := blk_lt X4
          clear X4
          have hla : l.length ≤ 9223372036854775807 := HC.out.2.1
          go_wp2_with fail
          go_loopw [10, 63] (fun v i wr => ∃ k : Nat, k ≤ l.length ∧ i = .int .i64 k ∧ v = .bool ((l.take k).all g) ∧ Aside0 (Below w4.heap.size w4 wr)) (fun _ i _ => l.length - (intOf i).toNat)
          case atStart => exact ⟨0, Nat.zero_le _, rfl, rfl, ⟨Below.refl _ _⟩⟩
          case round =>
            obtain ⟨k, hk, rfl, rfl, HBr⟩ := hrel
            have HB0r := Aside0.mk (HB04.out.trans (HBr.out.mono HB04.out.size))
            by_cases hlt : k < l.length
            · have hltb : decide (k < l.length) = true := decide_eq_true hlt
              obtain ⟨x, ad, A3, c3, B3, d3, hx, rfl, Z0⟩ := at41 HC.out k hlt
              have Z := Z0.below HB0r.out
              obtain ⟨z0, z1, z2, z3, z4, zl0, zln⟩ := Z.cells
              have hWB : Below wr.heap.size wr (wr.alloc (.cells #[.int .i64 x.f0, .string x.f1, .string x.f2, .slice A3 x.f3.length c3, .slice B3 x.f4.length d3] 41)) := below_alloc (Below.refl _ _) _
              have HWB := Aside0.mk (below_step HBr.out hWB)
              have HE : Aside0 ((l.take (k + 1)).all g = ((l.take k).all g && g x)) := ⟨by rw [take_snoc hx, List.all_append]; simp⟩
              have h4x := HG4.out x (List.mem_of_getElem? hx)
              have HC1 := Aside0.mk (HQ3.out _ x A3 c3 B3 d3 Z0.P (HB04.out.trans (HWB.out.mono HB04.out.size)) (HS.out x (List.mem_of_getElem? hx)) A2 c2 (HRA4.out.below HWB.out))
              rw [h4x] at HC1
              clear hx Z0 hWB h4x
              generalize (l.take k).all g = b1 at *
              generalize g x = b2 at *
              cases b1 <;> (
                go_wp2_with (first
                  | (go_at_call 19; refine HC1.out.mono ?_; rintro e w5 ⟨rfl, hb⟩; have HB5 := Aside0.mk (below_step HWB.out hb); clear hb))
                refine ⟨?_, by simp [intOf]; omega⟩
                exact ⟨k + 1, by omega, by go_num, by rw [HE.out]; rfl, HB5⟩)
            · have hltb : decide (k < l.length) = false := decide_eq_false hlt
              have htk : l.take k = l := List.take_of_length_le (by omega)
              rw [htk]
              have HLr := Aside0.mk (Kd.C_below HL4.out HBr.out)
              have HVr := Aside0.mk (Kd.C_below HC4.out HBr.out)
              have X5 := blk_below HX4.out HBr.out
              have q0 := blk_cell X5 0
              have q1 := blk_cell X5 1
              have ql := blk_lt X5
              have HCH := Aside0.mk (cnf_holds r.n r.l V.1 A1 c1 A4 c4 wr (fun cl hcl x hx => by have h9 := (HCX.out.1 cl hcl).2 x hx; have := HCX.out.2.2; unfold LitOK; omega) HLr.out HVr.out)
              rw [HG3.out] at HCH
              clear X5 p0 p1 pl
              generalize l.all g = b1 at *
              have hbb : (b1 == b1) = true := by simp
              go_wp2_with (first
                | (go_at_call 23; refine HCH.out.mono ?_; rintro e w5 ⟨⟨i5, rfl⟩, hb⟩; have HB5 := Aside0.mk (HB0r.out.trans (hb.mono HB0r.out.size)); clear hb)
                | (go_at_call 10; refine (law_alive _ (HN.out.below HB5.out)).mono ?_; rintro e w6 ⟨rfl, hb⟩; have HB6 := Aside0.mk (below_step HB5.out hb); clear hb))
              go_ret
              exact ⟨rfl, HB6.out⟩
      · have heb : (r.e != 0) = true := by simpa using he
        clear he hr
        go_enter Tryd.func6, Tryd.ntmps6
        go_upto_region 4 with (first
          | (go_at_call 9; refine HF.out.mono ?_; rintro e w1 ⟨rfl, hb⟩; have HB1 := Aside0.mk hb; clear hb)
          | (go_at_call 11; refine (HOF.out _ HB1.out).mono ?_; rintro e w2 ⟨A1, c1, A2, c2, rfl, hle, hC2, hat, hb⟩; have HB2 := Aside0.mk (below_step HB1.out hb); clear hle hC2 hat hb))
        have hB3 : Below w2.heap.size w2 (w2.alloc (.cells #[.int .i64 r.n, .slice A1 r.l.length c1] 27)) := below_alloc (Below.refl _ _) _
        have HB3 := Aside0.mk (below_step HB2.out hB3)
        clear hB3
        generalize hW : w2.alloc (.cells #[.int .i64 r.n, .slice A1 r.l.length c1] 27) = W3 at *
        clear hW
        go_wp2_with (first
          | (go_at_call 10; refine (law_alive _ (HN.out.below HB3.out)).mono ?_; rintro e w4 ⟨rfl, hb⟩; have HB4 := Aside0.mk (below_step HB3.out hb); clear hb))
        go_ret
        exact ⟨rfl, HB4.out⟩
end Go.Proofs.YtbfgoopomfenjaaDoor
