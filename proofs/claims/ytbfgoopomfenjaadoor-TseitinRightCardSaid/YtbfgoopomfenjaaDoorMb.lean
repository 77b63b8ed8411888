import Derived.Test.YtbfgoopomfenjaaDoorMa
import Derived.RangeFuncNested
import Derived.RangeFuncBound
import Derived.RangeFuncCalls
import Derived.RangeFuncLeaves
import Derived.Shelf.Abstract
import Derived.Shelf.RegionOpen
import Derived.OwnWalkIn
import Derived.TacticsInMore
import Derived.LoopNIn
import Derived.LoopIn
namespace Go.Proofs.YtbfgoopomfenjaaDoor
open Go.RowKit Go.Shelf Go.Proofs.YtbfgoopomfenjaaDoorW.PrintWords Go.Proofs.YtbfgoopomfenjaaDoor.PTseitinValues
set_option linter.unusedVariables false
set_option linter.unusedSimpArgs false
attribute [local go_sem] Oper.semAt_some
attribute [local go_sem] World.cell?_alloc_lt

mutual
/-- All parts, each ahead of its Args. -/
def tpre : S82 → List S82
  | ⟨o, n, k, l⟩ => ⟨o, n, k, l⟩ :: tpreL l
def tpreL : List S82 → List S82
  | [] => []
  | a :: l => tpre a ++ tpreL l
end
theorem tpre_eq (t : S82) : tpre t = t :: tpreL t.f3 := by cases t; rw [tpre]
theorem tpreL_append (l m : List S82) : tpreL (l ++ m) = tpreL l ++ tpreL m := by
  induction l with
  | nil => rfl
  | cons a l ih => rw [List.cons_append, tpreL, tpreL, ih, List.append_assoc]
theorem tpreL_take {l : List S82} {k : Nat} {x : S82} (h : l[k]? = some x) : tpreL (l.take (k + 1)) = tpreL (l.take k) ++ tpre x := by
  obtain ⟨h1, rfl⟩ := List.getElem?_eq_some_iff.1 h
  rw [List.take_succ_eq_append_getElem h1, tpreL_append, tpreL, tpreL, List.append_nil]
theorem tpre_length (n : Nat) : ∀ t : S82, tsize t ≤ n → (tpre t).length = tsize t := by
  induction n with
  | zero => intro a h; rw [tsize_eq] at h; omega
  | succ n ih =>
    intro t h
    rw [tsize_eq] at h
    have hl : ∀ l : List S82, sizeL l ≤ n → (tpreL l).length = sizeL l := by
      intro l
      induction l with
      | nil => intro _; rfl
      | cons a l ih2 => intro hs; rw [sizeL] at hs; rw [tpreL, sizeL, List.length_append, ih a (by omega), ih2 (by omega)]
    rw [tpre_eq, tsize_eq, List.length_cons, hl _ (by omega)]; omega

theorem room_of_none {F : Fence} (hd : F.depth = none) (k : Nat) : F.room k := fun d h => by rw [hd] at h; cases h
theorem RoundIn.anyDepth {F : Fence} (hd : F.depth = none) {m m' : Nat} {P : Program} {l : Nat} {f : FuncId} {tmps : Array Value} {assign body : Code} {w : World} {R : Ending → World → Prop}
    (h : RoundIn F m P l f tmps assign body w R) : RoundIn F m' P l f tmps assign body w R := ⟨h.1, fun c cs _ => h.2 c cs (room_of_none hd _)⟩
theorem YieldAt.anyDepth {F : Fence} (hd : F.depth = none) {m : Nat} (m' : Nat) {P : Program} {l : Nat} {args : Array Value} {W : World} {R : Ending → World → Prop} (h : YieldAt F m P l args W R) : YieldAt F m' P l args W R := by
  obtain ⟨fn, tmps, assign, body, hy, hR⟩ := h
  exact ⟨fn, tmps, assign, body, hy, RoundIn.anyDepth hd hR⟩

/-- What a round leaves alone: all cells but those of E's blocks; all below n₀. -/
structure KeepE (E : Nat → Prop) (n₀ : Nat) (W W' : World) : Prop where
  cells : ∀ (i : Nat) (o : Obj), W.heap[i]? = some o → o.isCells = true → ¬ E i → W'.heap[i]? = some o
  below : Below n₀ W W'
theorem KeepE.refl (E : Nat → Prop) (n₀ : Nat) (W : World) : KeepE E n₀ W W := ⟨fun _ _ h _ _ => h, Below.refl _ _⟩
theorem KeepE.trans {E : Nat → Prop} {n₀ : Nat} {A B C : World} (h : KeepE E n₀ A B) (k : KeepE E n₀ B C) : KeepE E n₀ A C :=
  ⟨fun i o hi ho he => k.cells i o (h.cells i o hi ho he) ho he, h.below.trans k.below⟩
theorem KeepE.alloc {E : Nat → Prop} {n₀ : Nat} {A W : World} (h : KeepE E n₀ A W) (hn : n₀ ≤ W.heap.size) (o : Obj) : KeepE E n₀ A (W.alloc o) :=
  ⟨fun i o' hi ho he => (Below.heap_alloc W o i (Array.getElem?_eq_some_iff.1 (h.cells i o' hi ho he)).1).trans (h.cells i o' hi ho he), h.below.alloc hn o⟩
theorem KeepE.drew {E : Nat → Prop} {n₀ : Nat} {A W : World} (h : KeepE E n₀ A W) : KeepE E n₀ A W.drew := ⟨h.cells, h.below.drew⟩
theorem KeepE.setCell {E : Nat → Prop} {n₀ : Nat} {A W : World} (h : KeepE E n₀ A W) {p : Addr} (hp : E p.block) (hn : n₀ ≤ p.block) (u : Value) : KeepE E n₀ A (W.setCell p u) :=
  ⟨fun i o' hi ho he => (Below.heap_setCell W p u i (fun e => he (e ▸ hp))).trans (h.cells i o' hi ho he), h.below.setCell hn u⟩
theorem KeepE.of_below {E : Nat → Prop} {n₀ : Nat} {A W : World} (h : Below A.heap.size A W) (hn : n₀ ≤ A.heap.size) : KeepE E n₀ A W :=
  ⟨fun i o hi _ _ => (h.block i (Array.getElem?_eq_some_iff.1 hi).1).trans hi, h.mono hn⟩
theorem KeepE.put {E : Nat → Prop} {n₀ : Nat} {w : World} (hn : n₀ ≤ w.heap.size) (W : World) (l : Nat) (o o' : Obj) (hl : w.heap.size ≤ l) (h : W.heap[l]? = some o) (ho : o.isCells = false) (hw : o.isWalk = false) : KeepE E n₀ W (W.putObj l o') :=
  ⟨fun i o1 hi ho1 _ => by
    by_cases e : i = l
    · subst e; rw [h] at hi; cases hi; rw [ho] at ho1; cases ho1
    · exact (World.putObj_heap_other e).trans hi, belowK_b hn W l o o' hl h ho hw⟩

/-- A term with what its value refers to in w0. -/
abbrev TV (w0 : World) := {x : S82 × Option Addr × Nat // x.1.f3.length ≤ x.2.2 ∧ k82.C w0 x.2.1 x.1.f3.length x.1.f3}
def TV.enc {w0 : World} (x : TV w0) : Value := v82 x.1.1 x.1.2.1 x.1.2.2

def WalkPost (w0 : World) (E : Nat → Prop) (J Jx : List (TV w0) → World → Prop) (pre : List (TV w0)) (ts : List S82) (W : World) (e : Ending) (W' : World) : Prop :=
  (e = .returned (.bool true) ∧ ∃ ys : List (TV w0), ys.map (·.1.1) = ts ∧ J (pre ++ ys) W' ∧ KeepE E w0.heap.size W W') ∨
  (e = .returned (.bool false) ∧ ∃ ys : List (TV w0), ys.map (·.1.1) <+: ts ∧ Jx (pre ++ ys) W')

set_option maxRecDepth 100000 in
set_option maxHeartbeats 2000000 in
theorem walk98_in (F : Fence) (hd : F.depth = none) (hF : F.fn 98) (hro : F.round = none) (w0 : World) (l N m0 : Nat) (E : Nat → Prop) (hE : ∀ i, E i → i < m0) (J Jx : List (TV w0) → World → Prop)
    (hJ : ∀ pre W o, J pre W → J pre (W.alloc o))
    (hY : ∀ m pre (x : TV w0) W, J pre W → pre.length < N → YieldAt F m Tryd.prog l #[x.enc] W fun e W' =>
      (e = .returned (.bool true) ∧ J (pre ++ [x]) W' ∧ KeepE E w0.heap.size W W') ∨ (e = .returned (.bool false) ∧ Jx (pre ++ [x]) W')) (k : Nat) :
    ∀ (t : S82), tsize t ≤ k → ∀ (n : Nat) (A : Option Addr) (c : Nat) (pre : List (TV w0)) (W : World), t.f3.length ≤ c → k82.C w0 A t.f3.length t.f3 → Below w0.heap.size w0 W → m0 ≤ W.heap.size → J pre W → pre.length + (tpre t).length ≤ N →
      CallsIn F n Tryd.prog 98 #[v82 t A c, .func (.yield l) #[] #[]] W (WalkPost w0 E J Jx pre (tpre t) W) := by
  induction k with
  | zero => intro t h; rw [tsize_eq] at h; omega
  | succ k ih =>
    intro t ht n A c pre W hc hC hB hm hJ0 hN
    have hdd : ∀ k : Nat, (F.depth.isSome = true → 1 ≤ k) := fun k h => by rw [hd] at h; cases h
    have HIH := Aside0.mk ih
    have HC := Aside0.mk hC
    have HJ := Aside0.mk hJ
    have hla := hC.2.1
    have HB := Aside0.mk hB
    have hB1 : Below W.heap.size W (W.alloc (.cells #[.int .i64 t.f0, .string t.f1, .int .i64 t.f2, .slice A t.f3.length c] 82)) := (Below.refl _ _).alloc (Nat.le_refl _) _
    have hJ1 := hJ pre W (.cells #[.int .i64 t.f0, .string t.f1, .int .i64 t.f2, .slice A t.f3.length c] 82) hJ0
    have hpl : pre.length < N := by rw [tpre_eq] at hN; simp at hN; omega
    obtain ⟨x, hx1, hxe⟩ : ∃ x : TV w0, x.1.1 = t ∧ x.enc = .agg #[.int .i64 t.f0, .string t.f1, .int .i64 t.f2, .slice A t.f3.length c] := ⟨⟨(t, A, c), hc, hC⟩, rfl, rfl⟩
    obtain ⟨fn, tmps, assign, body, hy, hR⟩ := hY (n - 1) pre x _ hJ1 hpl
    rw [hxe] at hy
    have HX1 := Aside0.mk hx1
    clear ih hC hJ hB hxe hx1
    refine callsIn_of_wp Tryd.func98 rfl hF ?_ hro
    simp only [Tryd.ntmps98, List.size_toArray, List.length_cons, List.length_nil, Nat.reduceAdd, Nat.reduceSub, Array.replicate_succ, Array.replicate_zero, List.push_toArray, List.append_toArray, List.nil_append, List.cons_append]
    gi_wp2
    refine hR.mono ?_
    rintro e W1 (⟨rfl, hJ2, hk2⟩ | ⟨rfl, hx2⟩)
    · have hbox : W1.heap[W.heap.size]? = some (.cells #[.int .i64 t.f0, .string t.f1, .int .i64 t.f2, .slice A t.f3.length c] 82 (0, 0)) :=
        hk2.cells _ _ (blk_new W _) rfl (fun h => by have := hE _ h; omega)
      have HK2 := Aside0.mk (((KeepE.refl E w0.heap.size W).alloc HB.out.size _).trans hk2)
      have HREL : Aside0 (∃ ys : List (TV w0), ys.map (·.1.1) = t :: tpreL (t.f3.take 0) ∧ J (pre ++ ys) W1 ∧ KeepE E w0.heap.size W W1 ∧ W.heap.size < W1.heap.size) := ⟨[x], by simp [HX1.out, tpreL], hJ2, HK2.out, blk_lt hbox⟩
      clear hJ2 hk2 HK2 hy hR hJ1 hB1
      have hc3 : W1.cell? ⟨W.heap.size, 3, none⟩ = some (.slice A t.f3.length c) := blk_cell hbox 3
      clear hbox
      gi_wp2
      gi_loopw [6, 14] (fun _ i wr => ∃ k' : Nat, k' ≤ t.f3.length ∧ i = .int .i64 k' ∧ Aside0 (∃ ys : List (TV w0), ys.map (·.1.1) = t :: tpreL (t.f3.take k') ∧ J (pre ++ ys) wr ∧ KeepE E w0.heap.size W wr ∧ W.heap.size < wr.heap.size)) (fun _ i _ => t.f3.length - (intOf i).toNat)
      case atStart => exact ⟨0, Nat.zero_le _, rfl, HREL⟩
      case round =>
        obtain ⟨k', hk', rfl, HR⟩ := hrel
        obtain ⟨ys, hys, hJs, hKs, hsz⟩ := HR.out
        have HYS := Aside0.mk hys
        have HKS := Aside0.mk hKs
        clear hys hKs HR
        by_cases hlt : k' < t.f3.length
        · obtain ⟨y, ad, A3, c3, hy, rfl, Z0⟩ := at82 HC.out k' hlt
          have hBw := HB.out.trans HKS.out.below
          have Z := Z0.below hBw
          obtain ⟨z0, z1, z2, z3, zl0, zln⟩ := Z.cells
          have hlen : (pre ++ ys).length + (tpre y).length ≤ N := by
            have h1 : ys.length = 1 + (tpreL (t.f3.take k')).length := by
              have := congrArg List.length HYS.out
              simpa [Nat.add_comm] using this
            have h2 := tpreL_take hy
            have h3 : (tpreL t.f3).length = (tpreL (t.f3.take (k'+1))).length + (tpreL (t.f3.drop (k'+1))).length := by
              rw [← List.length_append, ← tpreL_append, List.take_append_drop]
            rw [h2, List.length_append] at h3
            rw [tpre_eq, List.length_cons] at hN
            rw [List.length_append, h1]; omega
          have hcall := fun W2 hb hm2 hj => HIH.out y (by have := tsize_arg hy; omega) (n - 1) A3 c3 (pre ++ ys) W2 Z0.le Z0.C hb hm2 hj hlen
          have HCALL := Aside0.mk hcall
          have HYT := Aside0.mk (tpreL_take hy)
          clear hcall hy Z0
          have HW2 : Aside0 (Below w0.heap.size w0 (wr.alloc (.cells #[.int .i64 y.f0, .string y.f1, .int .i64 y.f2, .slice A3 y.f3.length c3] 82)) ∧ m0 ≤ (wr.alloc (.cells #[.int .i64 y.f0, .string y.f1, .int .i64 y.f2, .slice A3 y.f3.length c3] 82)).heap.size ∧ J (pre ++ ys) (wr.alloc (.cells #[.int .i64 y.f0, .string y.f1, .int .i64 y.f2, .slice A3 y.f3.length c3] 82))) := ⟨hBw.alloc hBw.size _, by rw [World.size_alloc]; omega, HJ.out _ _ _ hJs⟩
          clear hJs
          gi_wp2_with ((try refine ⟨hdd _, ?_⟩); gi_at_call 98; refine (HCALL.out _ HW2.out.1 HW2.out.2.1 HW2.out.2.2).mono ?_; rintro e W3 (⟨rfl, zs, hz, hJ3, hk3⟩ | ⟨rfl, zs, hz, hx3⟩))
          · have hsz3 : W.heap.size < W3.heap.size := by have := hk3.below.size; rw [World.size_alloc] at this; omega
            have HN : Aside0 (∃ ys : List (TV w0), ys.map (·.1.1) = t :: tpreL (t.f3.take (k' + 1)) ∧ J (pre ++ ys) W3 ∧ KeepE E w0.heap.size W W3 ∧ W.heap.size < W3.heap.size) :=
              ⟨ys ++ zs, by rw [List.map_append, HYS.out, hz, HYT.out, List.cons_append], by rw [← List.append_assoc]; exact hJ3, (HKS.out.alloc hBw.size _).trans hk3, hsz3⟩
            refine ⟨?_, ?_⟩
            · exact ⟨k' + 1, by omega, by go_num, HN⟩
            · simp [intOf]; omega
          · have HN : Aside0 (∃ q : List (TV w0), q.map (·.1.1) <+: tpre t ∧ Jx (pre ++ q) W3) :=
              ⟨ys ++ zs, by
                rw [List.map_append, HYS.out, tpre_eq, List.cons_append]
                obtain ⟨r, hr⟩ := hz
                have h3 : tpreL t.f3 = tpreL (t.f3.take (k'+1)) ++ tpreL (t.f3.drop (k'+1)) := by rw [← tpreL_append, List.take_append_drop]
                rw [h3, HYT.out, ← hr]
                exact ⟨r ++ tpreL (t.f3.drop (k'+1)), by simp⟩, by rw [← List.append_assoc]; exact hx3⟩
            clear hz hx3
            go_ret
            exact .inr ⟨rfl, HN.out⟩
        · obtain rfl : k' = t.f3.length := by omega
          gi_wp2
          go_ret
          exact .inl ⟨rfl, ys, by rw [HYS.out, List.take_length, tpre_eq], hJs, HKS.out⟩
    · gi_wp2
      go_ret
      exact .inr ⟨rfl, [x], by rw [tpre_eq]; exact ⟨tpreL t.f3, by simp [HX1.out]⟩, hx2⟩

set_option maxHeartbeats 1000000 in
/-- 'func(yield func(api.Term) bool) { walk(t, yield) }' -/
theorem all1_in (F : Fence) (hd : F.depth = none) (hF : ∀ f, F.fn f) (hro : F.round = none) (w0 : World) (n Bt m0 : Nat) (t : S82) (A : Option Addr) (c : Nat) (hc : t.f3.length ≤ c) (hC : k82.C w0 A t.f3.length t.f3) (E : Nat → Prop) (hE : ∀ i, E i → i < m0)
    (w : World) (hB0 : Below w0.heap.size w0 w) (hm0 : m0 ≤ w.heap.size) (hX : T82 w ⟨Bt, 0, none⟩ t A c) :
    SeqStopsK F n Tryd.prog 97 #[.pointer (some ⟨Bt, 0, none⟩)] (fun x : TV w0 => #[x.enc]) (KeepE E w0.heap.size) (fun ys => ys.map (·.1.1) = tpre t) (fun pre => pre.map (·.1.1) <+: tpre t) (tpre t).length w := by
  intro l J Jx W hW hJ hJx hY h0
  have hdd : ∀ k : Nat, (F.depth.isSome = true → 1 ≤ k) := fun k h => by rw [hd] at h; cases h
  have hp := walk98_in F hd (hF 98) hro w0 l (tpre t).length m0 E hE J Jx (fun pre W o h => hJ pre W _ none h (World.grownBy_alloc W o none) (fun r e => by cases e)) (fun m pre x W hj hl => YieldAt.anyDepth hd m (hY pre x W hj hl)) _ t (Nat.le_refl _) (n - 1) A c [] W hc hC (hB0.trans (hW.mono hB0.size)) (by have := hW.size; omega) h0 (by simp)
  have HP := Aside0.mk hp
  obtain ⟨h0, h1, h2, h3, hl0, hln⟩ := (hX.below hW).box
  clear hp hY hJ hJx
  refine callsIn_of_wp Tryd.func97 rfl (hF 97) ?_ hro
  simp only [Tryd.ntmps97, List.size_toArray, List.length_cons, List.length_nil, Nat.reduceAdd, Nat.reduceSub, Array.replicate_succ, Array.replicate_zero, List.push_toArray, List.append_toArray, List.nil_append, List.cons_append]
  gi_wp2_with ((try refine ⟨hdd _, ?_⟩); gi_at_call 98; refine HP.out.mono ?_; rintro e W3 (⟨rfl, zs, hz, hJ3, hk3⟩ | ⟨rfl, zs, hz, hx3⟩))
  · go_end0
    exact ⟨⟨_, rfl⟩, .inl ⟨zs, hz, by simpa using hJ3⟩⟩
  · go_end0
    exact ⟨⟨_, rfl⟩, .inr ⟨zs, hz, by simpa using hx3⟩⟩

end Go.Proofs.YtbfgoopomfenjaaDoor
namespace Go.Proofs.YtbfgoopomfenjaaDoor
open Go.RowKit Go.Shelf Go.Proofs.YtbfgoopomfenjaaDoorW.PrintWords Go.Proofs.YtbfgoopomfenjaaDoor.PTseitinValues
set_option linter.unusedVariables false
set_option linter.unusedSimpArgs false
attribute [local go_sem] Oper.semAt_some
attribute [local go_sem] World.cell?_alloc_lt

set_option maxHeartbeats 400000 in
theorem term_all (t : S82) (A : Option Addr) (c : Nat) (w : World) :
    Calls Tryd.prog 86 #[v82 t A c] w fun e w' => e = .returned (.func (.func 97) #[] #[.pointer (some ⟨w.heap.size, 0, none⟩)]) ∧ w' = w.alloc (.cells #[.int .i64 t.f0, .string t.f1, .int .i64 t.f2, .slice A t.f3.length c] 82) := by
  have hmf : ∀ (fn : Fn) (first cap : Array Value) (w : World), (Instr.makeFunc fn first cap).run Tryd.prog w = .ok (.func fn first cap) w := fun _ _ _ _ => rfl
  go_enter Tryd.func86, Tryd.ntmps86
  go_wp2
  go_ret
  exact ⟨rfl, rfl⟩

set_option maxRecDepth 100000 in
set_option maxHeartbeats 2000000 in
theorem term_size (t : S82) (A : Option Addr) (c : Nat) (w : World) (hs : tsize t ≤ 4096) (hc : t.f3.length ≤ c) (hC : k82.C w A t.f3.length t.f3) :
    Calls Tryd.prog 75 #[v82 t A c] w fun e w' => e = .returned (.int .i64 (tsize t)) ∧ Below w.heap.size w w' := by
  refine (callsIn_wide (n := 10)).1 ?_
  have HC := Aside0.mk hC
  clear hC
  refine callsIn_of_wp_marks Tryd.func75 rfl trivial ?_ rfl
  simp only [Tryd.ntmps75, List.size_toArray, List.length_cons, List.length_nil, Nat.reduceAdd, Nat.reduceSub, Array.replicate_succ, Array.replicate_zero, List.push_toArray, List.append_toArray, List.nil_append, List.cons_append]
  gi_wp2_with (refine ⟨trivial, ?_⟩; gi_at_call 86; refine ((callsIn_wide (n := 9)).2 (term_all t A c _)).mono ?_; rintro e w' ⟨rfl, rfl⟩)
  generalize hW : ((w.alloc (.cells #[.int .i64 t.f0, .string t.f1, .int .i64 t.f2, .slice A t.f3.length c] 82)).alloc (.cells #[.int .i64 0] 3)).alloc (.cells #[.int .i64 t.f0, .string t.f1, .int .i64 t.f2, .slice A t.f3.length c] 82) = W0
  have hBW : Below w.heap.size w W0 := by rw [← hW]; exact (((Below.refl _ _).alloc (Nat.le_refl _) _).alloc (by simp) _).alloc (by simp; omega) _
  have hS : W0.heap.size = w.heap.size + 3 := by rw [← hW]; simp
  have hn : W0.heap[w.heap.size + 1]? = some (.cells #[.int .i64 0] 3 (0, 0)) := by
    rw [← hW, Below.heap_alloc _ _ _ (by simp), ← World.size_alloc w (.cells #[.int .i64 t.f0, .string t.f1, .int .i64 t.f2, .slice A t.f3.length c] 82)]; exact blk_new _ _
  have hX : T82 W0 ⟨w.heap.size + 1 + 1, 0, none⟩ t A c := T82.mk_box (w := w) (by
    rw [← hW, show w.heap.size + 1 + 1 = ((w.alloc (.cells #[.int .i64 t.f0, .string t.f1, .int .i64 t.f2, .slice A t.f3.length c] 82)).alloc (.cells #[.int .i64 0] 3)).heap.size by simp]; exact blk_new _ _) hc HC.out hBW
  clear hW
  refine wpIn_rangeFunc_ownF (F := Fence.wide) rfl (by omega) (gf := 97) (lb := #[.pointer (some ⟨w.heap.size + 1 + 1, 0, none⟩)]) rfl trivial (enters_of Tryd.func97 (by kernel_rfl) rfl)
    (all1_in Fence.wide rfl (fun _ => trivial) rfl w 9 (w.heap.size + 1 + 1) (w.heap.size + 1 + 1) t A c hc HC.out (fun i => i = w.heap.size + 1) (fun i h => by omega) W0 hBW (by omega) hX)
    (fun h k => h.trans k) (KeepE.put (by omega)) (Below.refl _ _) (fun _ => rfl)
    (fun pre W => (W.cell? ⟨w.heap.size + 1, 0, none⟩ = some (.int .i64 pre.length) ∧ W.frozen? ⟨w.heap.size + 1, 0, none⟩ = false) ∧ Below w.heap.size w W)
    (fun _ _ _ => False)
    (OwnFrom.and (Own.from (fun s A B row hs hg hr => ⟨cell_kept hs.1 hg hr, (frozen_kept hs.1 hg hr).trans hs.2⟩) _) (ownFrom_below (Nat.le_refl _) (by omega)))
    (fun _ _ _ _ _ hs _ _ => hs)
    ⟨⟨blk_cell hn 0, blk_frozen hn 0⟩, hBW⟩
    (fun x => { tmps := #[v82 t A c, .pointer (some ⟨w.heap.size, 0, none⟩), .int .i64 0, .pointer (some ⟨w.heap.size + 1, 0, none⟩), .agg #[.int .i64 t.f0, .string t.f1, .int .i64 t.f2, .slice A t.f3.length c], .func (.func 97) #[] #[.pointer (some ⟨w.heap.size + 1 + 1, 0, none⟩)], x.enc, undef, undef, undef, undef, undef], defers := [] }) ?assign ?body ?done ?stop
  case assign =>
    intro l x W K hK
    gi_wp2
    have hz : (#[6] : Array Nat).zip #[x.enc] = #[(6, x.enc)] := by apply Array.toList_inj.1; simp
    rw [hz]
    exact hK
  case body =>
    rintro l pre x W ⟨⟨hc, hf⟩, hb⟩ hlen
    have hle : pre.length + 1 ≤ 4096 := by rw [tpre_length _ t (Nat.le_refl _)] at hlen; omega
    gi_wp2
    exact ⟨KeepsOthers.setCell _ _ _, (KeepE.refl (fun i => i = w.heap.size + 1) _ _).setCell (p := ⟨w.heap.size + 1, 0, none⟩) rfl (Nat.le_succ _) _, ⟨by
      rw [List.length_append, List.length_singleton]
      exact World.cell?_setCell_same' _ _ _ (by rw [hc]; rfl), by rw [World.frozen?_setCell]; exact hf⟩, hb.setCell (p := ⟨w.heap.size + 1, 0, none⟩) (by simp) _⟩
  case done =>
    rintro D ys W hD hys ⟨⟨hc, hf⟩, hb⟩ hK
    have HL : Aside0 (ys.length = tsize t) := ⟨by rw [← tpre_length _ t (Nat.le_refl _), ← hys, List.length_map]⟩
    clear hys
    gi_wp2
    refine ⟨by simp, .inl ⟨_, _, rfl, run_takeDeferred hK, ?_⟩⟩
    exact ⟨_, results_tmp rfl _ _ _, by rw [← HL.out]; rfl, hb.trans (belowK_b (w := w) (Nat.le_refl _) W D _ _ (by omega) hK rfl rfl)⟩
  case stop =>
    rintro D c pre W _ _ h _
    exact h.elim

end Go.Proofs.YtbfgoopomfenjaaDoor
namespace Go.Proofs.YtbfgoopomfenjaaDoor
open Go.RowKit Go.Shelf Go.Proofs.YtbfgoopomfenjaaDoorW.PrintWords Go.Proofs.YtbfgoopomfenjaaDoor.PTseitinValues
set_option linter.unusedVariables false
set_option linter.unusedSimpArgs false
attribute [local go_sem] World.cell?_alloc_lt

def needOf (j : Nat) : Int := [0, 0, 0, 8, 0, 2, 2, 1, 1].getD j 0
/-- The table that term.part reads. -/
def Needs (w : World) : Prop := ∀ j, j < 9 → w.cell? ⟨0, j, none⟩ = some (.int .i64 (needOf j))
theorem Needs.below {w w1 : World} (h : Needs w) (hb : Below w.heap.size w w1) : Needs w1 := fun j hj => (hb.cell (World.block_lt_of_cell? w _ (h j hj))).trans (h j hj)
theorem Needs.lt {w : World} (h : Needs w) : 0 < w.heap.size := World.block_lt_of_cell? w _ (h 0 (by omega))
/-- The error of one part. -/
def tpart (t : S82) : Int :=
  if t.f0 < 1 ∨ 8 < t.f0 then 7
  else if (t.f1.toList.isEmpty = false ∧ t.f0 ≠ 1 ∧ t.f0 ≠ 3) ∨ (t.f2 ≠ 0 ∧ t.f0 ≠ 2 ∧ t.f0 ≠ 4 ∧ t.f0 ≠ 8) ∨ (t.f0 = 2 ∧ t.f2 < 0) then 7
  else if needOf t.f0.toNat < t.f3.length ∨ (t.f0 ≠ 3 ∧ (t.f3.length : Int) ≠ needOf t.f0.toNat) then 12 else 0

theorem tpart_ok {op : Int} {nm : ByteArray} {num : Int} {args : List S82} {nd : Int} {e : Bool} (hn : needOf op.toNat = nd) (he : nm.toList.isEmpty = e) (ho : 1 ≤ op ∧ op ≤ 8) (h1 : e = true ∨ op = 1 ∨ op = 3) (h2 : num = 0 ∨ op = 2 ∨ op = 4 ∨ op = 8) (h3 : op = 2 → 0 ≤ num)
    (h4 : (args.length : Int) ≤ nd ∧ (op = 3 ∨ (args.length : Int) = nd)) : tpart ⟨op, nm, num, args⟩ = 0 := by
  unfold tpart
  dsimp only
  rw [hn, he, if_neg (by omega), if_neg, if_neg (by omega)]
  rintro (⟨g1, g2, g3⟩ | ⟨g1, g2, g3, g4⟩ | ⟨g1, g2⟩)
  · rcases h1 with h1 | h1
    · rw [h1] at g1; cases g1
    · omega
  · omega
  · have := h3 g1; omega
theorem tpart_ar {op : Int} {nm : ByteArray} {num : Int} {args : List S82} {nd : Int} {e : Bool} (hn : needOf op.toNat = nd) (he : nm.toList.isEmpty = e) (ho : 1 ≤ op ∧ op ≤ 8) (h1 : e = true ∨ op = 1 ∨ op = 3) (h2 : num = 0 ∨ op = 2 ∨ op = 4 ∨ op = 8) (h3 : op = 2 → 0 ≤ num)
    (h4 : nd < (args.length : Int) ∨ (op ≠ 3 ∧ (args.length : Int) ≠ nd)) : tpart ⟨op, nm, num, args⟩ = 12 := by
  unfold tpart
  dsimp only
  rw [hn, he, if_neg (by omega), if_neg, if_pos (by omega)]
  rintro (⟨g1, g2, g3⟩ | ⟨g1, g2, g3, g4⟩ | ⟨g1, g2⟩)
  · rcases h1 with h1 | h1
    · rw [h1] at g1; cases g1
    · omega
  · omega
  · have := h3 g1; omega
theorem tpart_fm {op : Int} {nm : ByteArray} {num : Int} {args : List S82} {e : Bool} (he : nm.toList.isEmpty = e) (ho : 1 ≤ op ∧ op ≤ 8)
    (h : (num ≠ 0 ∧ op ≠ 2 ∧ op ≠ 4 ∧ op ≠ 8) ∨ (op = 2 ∧ num < 0)) : tpart ⟨op, nm, num, args⟩ = 7 := by
  unfold tpart
  dsimp only
  rw [if_neg (by omega), if_pos]
  rcases h with h | h
  · exact .inr (.inl h)
  · exact .inr (.inr h)
theorem tpart_nm {op : Int} {nm : ByteArray} {num : Int} {args : List S82} (he : nm.toList.isEmpty = false) (ho : 1 ≤ op ∧ op ≤ 8) (h1 : op ≠ 1) (h3 : op ≠ 3) : tpart ⟨op, nm, num, args⟩ = 7 := by
  unfold tpart
  dsimp only
  rw [if_neg (by omega), if_pos (.inl ⟨he, h1, h3⟩)]


set_option maxRecDepth 100000 in
set_option maxHeartbeats 2000000 in
theorem part1 (nm : ByteArray) (num : Int) (args : List S82) (A : Option Addr) (c : Nat) (w : World) (hN : Needs w) (hl : args.length ≤ 9223372036854775807) :
    Calls Tryd.prog 88 #[.agg #[.int .i64 1, .string nm, .int .i64 num, .slice A args.length c]] w fun e w' => e = .returned (.int .i64 (tpart ⟨1, nm, num, args⟩)) ∧ Below w.heap.size w w' := by
  have g1 : w.cell? ⟨0, 1, none⟩ = some (.int .i64 0) := hN 1 (by omega)
  have gl := hN.lt
  have gln : ∀ n, 0 < w.heap.size + n := fun n => by omega
  have HB : Aside0 (Below w.heap.size w (w.alloc (.cells #[.int .i64 1, .string nm, .int .i64 num, .slice A args.length c] 82))) := ⟨below_alloc (Below.refl _ _) _⟩
  clear hN
  by_cases h1 : nm.toList = []
  · skip
    by_cases h2 : num = 0
    · skip
      by_cases h4 : args.length = 0
      · skip
        have HR : Aside0 (tpart ⟨1, nm, num, args⟩ = 0) := ⟨tpart_ok (nd := 0) (e := true) rfl (show nm.toList.isEmpty = true from by simpa using h1) (by omega) (.inl rfl) (by omega) (by omega) (by omega)⟩
        subst h2
        have k1 : decide ((0 : Int) < (args.length : Int)) = false := decide_eq_false (by omega)
        have k3 : decide (0 < args.length) = false := decide_eq_false (by omega)
        have k2 : ((args.length : Int) != 0) = false := bne_eq_false_iff_eq.2 (by omega)
        have k4 : (args.length != 0) = false := bne_eq_false_iff_eq.2 (by omega)
        try clear h3
        try clear h4
        try clear h5
        go_enter Tryd.func88, Tryd.ntmps88
        go_wp2
        go_quiet (fail)
        go_wp2
        go_ret
        exact ⟨by rw [HR.out]; rfl, pw_below_drewN HB.out _⟩
      · skip
        have HR : Aside0 (tpart ⟨1, nm, num, args⟩ = 12) := ⟨tpart_ar (nd := 0) (e := true) rfl (show nm.toList.isEmpty = true from by simpa using h1) (by omega) (.inl rfl) (by omega) (by omega) (by omega)⟩
        subst h2
        have k1 : decide ((0 : Int) < (args.length : Int)) = true := decide_eq_true (by omega)
        have k3 : decide (0 < args.length) = true := decide_eq_true (by omega)
        try clear h3
        try clear h4
        try clear h5
        go_enter Tryd.func88, Tryd.ntmps88
        go_wp2
        go_quiet (fail)
        go_wp2
        go_ret
        exact ⟨by rw [HR.out]; rfl, pw_below_drewN HB.out _⟩
    · skip
      have HR : Aside0 (tpart ⟨1, nm, num, args⟩ = 7) := ⟨tpart_fm (e := true) (show nm.toList.isEmpty = true from by simpa using h1) (by omega) (by omega)⟩
      have j2 : (num != 0) = true := by simpa using h2
      try clear h3
      try clear h4
      try clear h5
      go_enter Tryd.func88, Tryd.ntmps88
      go_wp2
      go_ret
      exact ⟨by rw [HR.out]; rfl, HB.out⟩
  · skip
    by_cases h2 : num = 0
    · skip
      by_cases h4 : args.length = 0
      · skip
        have HR : Aside0 (tpart ⟨1, nm, num, args⟩ = 0) := ⟨tpart_ok (nd := 0) (e := false) rfl (show nm.toList.isEmpty = false from by simpa using h1) (by omega) (.inr (by omega)) (by omega) (by omega) (by omega)⟩
        have j1 : nm.toList.isEmpty = false := by simpa using h1
        subst h2
        have k1 : decide ((0 : Int) < (args.length : Int)) = false := decide_eq_false (by omega)
        have k3 : decide (0 < args.length) = false := decide_eq_false (by omega)
        have k2 : ((args.length : Int) != 0) = false := bne_eq_false_iff_eq.2 (by omega)
        have k4 : (args.length != 0) = false := bne_eq_false_iff_eq.2 (by omega)
        try clear h3
        try clear h4
        try clear h5
        go_enter Tryd.func88, Tryd.ntmps88
        go_wp2
        go_quiet (fail)
        go_wp2
        go_ret
        exact ⟨by rw [HR.out]; rfl, pw_below_drewN HB.out _⟩
      · skip
        have HR : Aside0 (tpart ⟨1, nm, num, args⟩ = 12) := ⟨tpart_ar (nd := 0) (e := false) rfl (show nm.toList.isEmpty = false from by simpa using h1) (by omega) (.inr (by omega)) (by omega) (by omega) (by omega)⟩
        have j1 : nm.toList.isEmpty = false := by simpa using h1
        subst h2
        have k1 : decide ((0 : Int) < (args.length : Int)) = true := decide_eq_true (by omega)
        have k3 : decide (0 < args.length) = true := decide_eq_true (by omega)
        try clear h3
        try clear h4
        try clear h5
        go_enter Tryd.func88, Tryd.ntmps88
        go_wp2
        go_quiet (fail)
        go_wp2
        go_ret
        exact ⟨by rw [HR.out]; rfl, pw_below_drewN HB.out _⟩
    · skip
      have HR : Aside0 (tpart ⟨1, nm, num, args⟩ = 7) := ⟨tpart_fm (e := false) (show nm.toList.isEmpty = false from by simpa using h1) (by omega) (by omega)⟩
      have j1 : nm.toList.isEmpty = false := by simpa using h1
      have j2 : (num != 0) = true := by simpa using h2
      try clear h3
      try clear h4
      try clear h5
      go_enter Tryd.func88, Tryd.ntmps88
      go_wp2
      go_ret
      exact ⟨by rw [HR.out]; rfl, HB.out⟩

set_option maxRecDepth 100000 in
set_option maxHeartbeats 2000000 in
theorem part2 (nm : ByteArray) (num : Int) (args : List S82) (A : Option Addr) (c : Nat) (w : World) (hN : Needs w) (hl : args.length ≤ 9223372036854775807) :
    Calls Tryd.prog 88 #[.agg #[.int .i64 2, .string nm, .int .i64 num, .slice A args.length c]] w fun e w' => e = .returned (.int .i64 (tpart ⟨2, nm, num, args⟩)) ∧ Below w.heap.size w w' := by
  have g1 : w.cell? ⟨0, 2, none⟩ = some (.int .i64 0) := hN 2 (by omega)
  have gl := hN.lt
  have gln : ∀ n, 0 < w.heap.size + n := fun n => by omega
  have HB : Aside0 (Below w.heap.size w (w.alloc (.cells #[.int .i64 2, .string nm, .int .i64 num, .slice A args.length c] 82))) := ⟨below_alloc (Below.refl _ _) _⟩
  clear hN
  by_cases h1 : nm.toList = []
  · skip
    by_cases h2 : num = 0
    · skip
      by_cases h4 : args.length = 0
      · skip
        have HR : Aside0 (tpart ⟨2, nm, num, args⟩ = 0) := ⟨tpart_ok (nd := 0) (e := true) rfl (show nm.toList.isEmpty = true from by simpa using h1) (by omega) (.inl rfl) (by omega) (by omega) (by omega)⟩
        subst h2
        have k1 : decide ((0 : Int) < (args.length : Int)) = false := decide_eq_false (by omega)
        have k3 : decide (0 < args.length) = false := decide_eq_false (by omega)
        have k2 : ((args.length : Int) != 0) = false := bne_eq_false_iff_eq.2 (by omega)
        have k4 : (args.length != 0) = false := bne_eq_false_iff_eq.2 (by omega)
        try clear h3
        try clear h4
        try clear h5
        go_enter Tryd.func88, Tryd.ntmps88
        go_wp2
        go_quiet (fail)
        go_wp2
        go_ret
        exact ⟨by rw [HR.out]; rfl, pw_below_drewN HB.out _⟩
      · skip
        have HR : Aside0 (tpart ⟨2, nm, num, args⟩ = 12) := ⟨tpart_ar (nd := 0) (e := true) rfl (show nm.toList.isEmpty = true from by simpa using h1) (by omega) (.inl rfl) (by omega) (by omega) (by omega)⟩
        subst h2
        have k1 : decide ((0 : Int) < (args.length : Int)) = true := decide_eq_true (by omega)
        have k3 : decide (0 < args.length) = true := decide_eq_true (by omega)
        try clear h3
        try clear h4
        try clear h5
        go_enter Tryd.func88, Tryd.ntmps88
        go_wp2
        go_quiet (fail)
        go_wp2
        go_ret
        exact ⟨by rw [HR.out]; rfl, pw_below_drewN HB.out _⟩
    · skip
      by_cases h5 : num < 0
      · skip
        have HR : Aside0 (tpart ⟨2, nm, num, args⟩ = 7) := ⟨tpart_fm (e := true) (show nm.toList.isEmpty = true from by simpa using h1) (by omega) (by omega)⟩
        have j2 : (num != 0) = true := by simpa using h2
        have j5 : decide (num < 0) = true := by simpa using h5
        try clear h3
        try clear h4
        try clear h5
        go_enter Tryd.func88, Tryd.ntmps88
        go_wp2
        go_ret
        exact ⟨by rw [HR.out]; rfl, HB.out⟩
      · skip
        by_cases h4 : args.length = 0
        · skip
          have HR : Aside0 (tpart ⟨2, nm, num, args⟩ = 0) := ⟨tpart_ok (nd := 0) (e := true) rfl (show nm.toList.isEmpty = true from by simpa using h1) (by omega) (.inl rfl) (by omega) (by omega) (by omega)⟩
          have j2 : (num != 0) = true := by simpa using h2
          have j5 : decide (num < 0) = false := by simp; omega
          have k1 : decide ((0 : Int) < (args.length : Int)) = false := decide_eq_false (by omega)
          have k3 : decide (0 < args.length) = false := decide_eq_false (by omega)
          have k2 : ((args.length : Int) != 0) = false := bne_eq_false_iff_eq.2 (by omega)
          have k4 : (args.length != 0) = false := bne_eq_false_iff_eq.2 (by omega)
          try clear h3
          try clear h4
          try clear h5
          go_enter Tryd.func88, Tryd.ntmps88
          go_wp2
          go_quiet (fail)
          go_wp2
          go_ret
          exact ⟨by rw [HR.out]; rfl, pw_below_drewN HB.out _⟩
        · skip
          have HR : Aside0 (tpart ⟨2, nm, num, args⟩ = 12) := ⟨tpart_ar (nd := 0) (e := true) rfl (show nm.toList.isEmpty = true from by simpa using h1) (by omega) (.inl rfl) (by omega) (by omega) (by omega)⟩
          have j2 : (num != 0) = true := by simpa using h2
          have j5 : decide (num < 0) = false := by simp; omega
          have k1 : decide ((0 : Int) < (args.length : Int)) = true := decide_eq_true (by omega)
          have k3 : decide (0 < args.length) = true := decide_eq_true (by omega)
          try clear h3
          try clear h4
          try clear h5
          go_enter Tryd.func88, Tryd.ntmps88
          go_wp2
          go_quiet (fail)
          go_wp2
          go_ret
          exact ⟨by rw [HR.out]; rfl, pw_below_drewN HB.out _⟩
  · skip
    have HR : Aside0 (tpart ⟨2, nm, num, args⟩ = 7) := ⟨tpart_nm (by simpa using h1) (by omega) (by omega) (by omega)⟩
    have j1 : nm.toList.isEmpty = false := by simpa using h1
    go_enter Tryd.func88, Tryd.ntmps88
    go_wp2
    go_ret
    exact ⟨by rw [HR.out]; rfl, HB.out⟩

set_option maxRecDepth 100000 in
set_option maxHeartbeats 2000000 in
theorem part3 (nm : ByteArray) (num : Int) (args : List S82) (A : Option Addr) (c : Nat) (w : World) (hN : Needs w) (hl : args.length ≤ 9223372036854775807) :
    Calls Tryd.prog 88 #[.agg #[.int .i64 3, .string nm, .int .i64 num, .slice A args.length c]] w fun e w' => e = .returned (.int .i64 (tpart ⟨3, nm, num, args⟩)) ∧ Below w.heap.size w w' := by
  have g1 : w.cell? ⟨0, 3, none⟩ = some (.int .i64 8) := hN 3 (by omega)
  have gl := hN.lt
  have gln : ∀ n, 0 < w.heap.size + n := fun n => by omega
  have HB : Aside0 (Below w.heap.size w (w.alloc (.cells #[.int .i64 3, .string nm, .int .i64 num, .slice A args.length c] 82))) := ⟨below_alloc (Below.refl _ _) _⟩
  clear hN
  by_cases h1 : nm.toList = []
  · skip
    by_cases h2 : num = 0
    · skip
      by_cases h3 : args.length < 8
      · skip
        have HR : Aside0 (tpart ⟨3, nm, num, args⟩ = 0) := ⟨tpart_ok (nd := 8) (e := true) rfl (show nm.toList.isEmpty = true from by simpa using h1) (by omega) (.inl rfl) (by omega) (by omega) (by omega)⟩
        subst h2
        have k1 : decide ((8 : Int) < (args.length : Int)) = false := decide_eq_false (by omega)
        have k3 : decide (8 < args.length) = false := decide_eq_false (by omega)
        try clear h3
        try clear h4
        try clear h5
        go_enter Tryd.func88, Tryd.ntmps88
        go_wp2
        go_quiet (fail)
        go_wp2
        go_ret
        exact ⟨by rw [HR.out]; rfl, pw_below_drewN HB.out _⟩
      · by_cases h4 : args.length = 8
        · skip
          have HR : Aside0 (tpart ⟨3, nm, num, args⟩ = 0) := ⟨tpart_ok (nd := 8) (e := true) rfl (show nm.toList.isEmpty = true from by simpa using h1) (by omega) (.inl rfl) (by omega) (by omega) (by omega)⟩
          subst h2
          have k1 : decide ((8 : Int) < (args.length : Int)) = false := decide_eq_false (by omega)
          have k3 : decide (8 < args.length) = false := decide_eq_false (by omega)
          have k2 : ((args.length : Int) != 8) = false := bne_eq_false_iff_eq.2 (by omega)
          have k4 : (args.length != 8) = false := bne_eq_false_iff_eq.2 (by omega)
          try clear h3
          try clear h4
          try clear h5
          go_enter Tryd.func88, Tryd.ntmps88
          go_wp2
          go_quiet (fail)
          go_wp2
          go_ret
          exact ⟨by rw [HR.out]; rfl, pw_below_drewN HB.out _⟩
        · skip
          have HR : Aside0 (tpart ⟨3, nm, num, args⟩ = 12) := ⟨tpart_ar (nd := 8) (e := true) rfl (show nm.toList.isEmpty = true from by simpa using h1) (by omega) (.inl rfl) (by omega) (by omega) (by omega)⟩
          subst h2
          have k1 : decide ((8 : Int) < (args.length : Int)) = true := decide_eq_true (by omega)
          have k3 : decide (8 < args.length) = true := decide_eq_true (by omega)
          try clear h3
          try clear h4
          try clear h5
          go_enter Tryd.func88, Tryd.ntmps88
          go_wp2
          go_quiet (fail)
          go_wp2
          go_ret
          exact ⟨by rw [HR.out]; rfl, pw_below_drewN HB.out _⟩
    · skip
      have HR : Aside0 (tpart ⟨3, nm, num, args⟩ = 7) := ⟨tpart_fm (e := true) (show nm.toList.isEmpty = true from by simpa using h1) (by omega) (by omega)⟩
      have j2 : (num != 0) = true := by simpa using h2
      try clear h3
      try clear h4
      try clear h5
      go_enter Tryd.func88, Tryd.ntmps88
      go_wp2
      go_ret
      exact ⟨by rw [HR.out]; rfl, HB.out⟩
  · skip
    by_cases h2 : num = 0
    · skip
      by_cases h3 : args.length < 8
      · skip
        have HR : Aside0 (tpart ⟨3, nm, num, args⟩ = 0) := ⟨tpart_ok (nd := 8) (e := false) rfl (show nm.toList.isEmpty = false from by simpa using h1) (by omega) (.inr (by omega)) (by omega) (by omega) (by omega)⟩
        have j1 : nm.toList.isEmpty = false := by simpa using h1
        subst h2
        have k1 : decide ((8 : Int) < (args.length : Int)) = false := decide_eq_false (by omega)
        have k3 : decide (8 < args.length) = false := decide_eq_false (by omega)
        try clear h3
        try clear h4
        try clear h5
        go_enter Tryd.func88, Tryd.ntmps88
        go_wp2
        go_quiet (fail)
        go_wp2
        go_ret
        exact ⟨by rw [HR.out]; rfl, pw_below_drewN HB.out _⟩
      · by_cases h4 : args.length = 8
        · skip
          have HR : Aside0 (tpart ⟨3, nm, num, args⟩ = 0) := ⟨tpart_ok (nd := 8) (e := false) rfl (show nm.toList.isEmpty = false from by simpa using h1) (by omega) (.inr (by omega)) (by omega) (by omega) (by omega)⟩
          have j1 : nm.toList.isEmpty = false := by simpa using h1
          subst h2
          have k1 : decide ((8 : Int) < (args.length : Int)) = false := decide_eq_false (by omega)
          have k3 : decide (8 < args.length) = false := decide_eq_false (by omega)
          have k2 : ((args.length : Int) != 8) = false := bne_eq_false_iff_eq.2 (by omega)
          have k4 : (args.length != 8) = false := bne_eq_false_iff_eq.2 (by omega)
          try clear h3
          try clear h4
          try clear h5
          go_enter Tryd.func88, Tryd.ntmps88
          go_wp2
          go_quiet (fail)
          go_wp2
          go_ret
          exact ⟨by rw [HR.out]; rfl, pw_below_drewN HB.out _⟩
        · skip
          have HR : Aside0 (tpart ⟨3, nm, num, args⟩ = 12) := ⟨tpart_ar (nd := 8) (e := false) rfl (show nm.toList.isEmpty = false from by simpa using h1) (by omega) (.inr (by omega)) (by omega) (by omega) (by omega)⟩
          have j1 : nm.toList.isEmpty = false := by simpa using h1
          subst h2
          have k1 : decide ((8 : Int) < (args.length : Int)) = true := decide_eq_true (by omega)
          have k3 : decide (8 < args.length) = true := decide_eq_true (by omega)
          try clear h3
          try clear h4
          try clear h5
          go_enter Tryd.func88, Tryd.ntmps88
          go_wp2
          go_quiet (fail)
          go_wp2
          go_ret
          exact ⟨by rw [HR.out]; rfl, pw_below_drewN HB.out _⟩
    · skip
      have HR : Aside0 (tpart ⟨3, nm, num, args⟩ = 7) := ⟨tpart_fm (e := false) (show nm.toList.isEmpty = false from by simpa using h1) (by omega) (by omega)⟩
      have j1 : nm.toList.isEmpty = false := by simpa using h1
      have j2 : (num != 0) = true := by simpa using h2
      try clear h3
      try clear h4
      try clear h5
      go_enter Tryd.func88, Tryd.ntmps88
      go_wp2
      go_ret
      exact ⟨by rw [HR.out]; rfl, HB.out⟩

set_option maxRecDepth 100000 in
set_option maxHeartbeats 2000000 in
theorem part4 (nm : ByteArray) (num : Int) (args : List S82) (A : Option Addr) (c : Nat) (w : World) (hN : Needs w) (hl : args.length ≤ 9223372036854775807) :
    Calls Tryd.prog 88 #[.agg #[.int .i64 4, .string nm, .int .i64 num, .slice A args.length c]] w fun e w' => e = .returned (.int .i64 (tpart ⟨4, nm, num, args⟩)) ∧ Below w.heap.size w w' := by
  have g1 : w.cell? ⟨0, 4, none⟩ = some (.int .i64 0) := hN 4 (by omega)
  have gl := hN.lt
  have gln : ∀ n, 0 < w.heap.size + n := fun n => by omega
  have HB : Aside0 (Below w.heap.size w (w.alloc (.cells #[.int .i64 4, .string nm, .int .i64 num, .slice A args.length c] 82))) := ⟨below_alloc (Below.refl _ _) _⟩
  clear hN
  by_cases h1 : nm.toList = []
  · skip
    by_cases h2 : num = 0
    · skip
      by_cases h4 : args.length = 0
      · skip
        have HR : Aside0 (tpart ⟨4, nm, num, args⟩ = 0) := ⟨tpart_ok (nd := 0) (e := true) rfl (show nm.toList.isEmpty = true from by simpa using h1) (by omega) (.inl rfl) (by omega) (by omega) (by omega)⟩
        subst h2
        have k1 : decide ((0 : Int) < (args.length : Int)) = false := decide_eq_false (by omega)
        have k3 : decide (0 < args.length) = false := decide_eq_false (by omega)
        have k2 : ((args.length : Int) != 0) = false := bne_eq_false_iff_eq.2 (by omega)
        have k4 : (args.length != 0) = false := bne_eq_false_iff_eq.2 (by omega)
        try clear h3
        try clear h4
        try clear h5
        go_enter Tryd.func88, Tryd.ntmps88
        go_wp2
        go_quiet (fail)
        go_wp2
        go_ret
        exact ⟨by rw [HR.out]; rfl, pw_below_drewN HB.out _⟩
      · skip
        have HR : Aside0 (tpart ⟨4, nm, num, args⟩ = 12) := ⟨tpart_ar (nd := 0) (e := true) rfl (show nm.toList.isEmpty = true from by simpa using h1) (by omega) (.inl rfl) (by omega) (by omega) (by omega)⟩
        subst h2
        have k1 : decide ((0 : Int) < (args.length : Int)) = true := decide_eq_true (by omega)
        have k3 : decide (0 < args.length) = true := decide_eq_true (by omega)
        try clear h3
        try clear h4
        try clear h5
        go_enter Tryd.func88, Tryd.ntmps88
        go_wp2
        go_quiet (fail)
        go_wp2
        go_ret
        exact ⟨by rw [HR.out]; rfl, pw_below_drewN HB.out _⟩
    · skip
      by_cases h4 : args.length = 0
      · skip
        have HR : Aside0 (tpart ⟨4, nm, num, args⟩ = 0) := ⟨tpart_ok (nd := 0) (e := true) rfl (show nm.toList.isEmpty = true from by simpa using h1) (by omega) (.inl rfl) (by omega) (by omega) (by omega)⟩
        have j2 : (num != 0) = true := by simpa using h2
        have k1 : decide ((0 : Int) < (args.length : Int)) = false := decide_eq_false (by omega)
        have k3 : decide (0 < args.length) = false := decide_eq_false (by omega)
        have k2 : ((args.length : Int) != 0) = false := bne_eq_false_iff_eq.2 (by omega)
        have k4 : (args.length != 0) = false := bne_eq_false_iff_eq.2 (by omega)
        try clear h3
        try clear h4
        try clear h5
        go_enter Tryd.func88, Tryd.ntmps88
        go_wp2
        go_quiet (fail)
        go_wp2
        go_ret
        exact ⟨by rw [HR.out]; rfl, pw_below_drewN HB.out _⟩
      · skip
        have HR : Aside0 (tpart ⟨4, nm, num, args⟩ = 12) := ⟨tpart_ar (nd := 0) (e := true) rfl (show nm.toList.isEmpty = true from by simpa using h1) (by omega) (.inl rfl) (by omega) (by omega) (by omega)⟩
        have j2 : (num != 0) = true := by simpa using h2
        have k1 : decide ((0 : Int) < (args.length : Int)) = true := decide_eq_true (by omega)
        have k3 : decide (0 < args.length) = true := decide_eq_true (by omega)
        try clear h3
        try clear h4
        try clear h5
        go_enter Tryd.func88, Tryd.ntmps88
        go_wp2
        go_quiet (fail)
        go_wp2
        go_ret
        exact ⟨by rw [HR.out]; rfl, pw_below_drewN HB.out _⟩
  · skip
    have HR : Aside0 (tpart ⟨4, nm, num, args⟩ = 7) := ⟨tpart_nm (by simpa using h1) (by omega) (by omega) (by omega)⟩
    have j1 : nm.toList.isEmpty = false := by simpa using h1
    go_enter Tryd.func88, Tryd.ntmps88
    go_wp2
    go_ret
    exact ⟨by rw [HR.out]; rfl, HB.out⟩

set_option maxRecDepth 100000 in
set_option maxHeartbeats 2000000 in
theorem part5 (nm : ByteArray) (num : Int) (args : List S82) (A : Option Addr) (c : Nat) (w : World) (hN : Needs w) (hl : args.length ≤ 9223372036854775807) :
    Calls Tryd.prog 88 #[.agg #[.int .i64 5, .string nm, .int .i64 num, .slice A args.length c]] w fun e w' => e = .returned (.int .i64 (tpart ⟨5, nm, num, args⟩)) ∧ Below w.heap.size w w' := by
  have g1 : w.cell? ⟨0, 5, none⟩ = some (.int .i64 2) := hN 5 (by omega)
  have gl := hN.lt
  have gln : ∀ n, 0 < w.heap.size + n := fun n => by omega
  have HB : Aside0 (Below w.heap.size w (w.alloc (.cells #[.int .i64 5, .string nm, .int .i64 num, .slice A args.length c] 82))) := ⟨below_alloc (Below.refl _ _) _⟩
  clear hN
  by_cases h1 : nm.toList = []
  · skip
    by_cases h2 : num = 0
    · skip
      by_cases h3 : args.length < 2
      · skip
        have HR : Aside0 (tpart ⟨5, nm, num, args⟩ = 12) := ⟨tpart_ar (nd := 2) (e := true) rfl (show nm.toList.isEmpty = true from by simpa using h1) (by omega) (.inl rfl) (by omega) (by omega) (by omega)⟩
        subst h2
        have k1 : decide ((2 : Int) < (args.length : Int)) = false := decide_eq_false (by omega)
        have k3 : decide (2 < args.length) = false := decide_eq_false (by omega)
        have k2 : ((args.length : Int) != 2) = true := bne_iff_ne.2 (by omega)
        have k4 : (args.length != 2) = true := bne_iff_ne.2 (by omega)
        try clear h3
        try clear h4
        try clear h5
        go_enter Tryd.func88, Tryd.ntmps88
        go_wp2
        go_quiet (fail)
        go_wp2
        go_ret
        exact ⟨by rw [HR.out]; rfl, pw_below_drewN HB.out _⟩
      · by_cases h4 : args.length = 2
        · skip
          have HR : Aside0 (tpart ⟨5, nm, num, args⟩ = 0) := ⟨tpart_ok (nd := 2) (e := true) rfl (show nm.toList.isEmpty = true from by simpa using h1) (by omega) (.inl rfl) (by omega) (by omega) (by omega)⟩
          subst h2
          have k1 : decide ((2 : Int) < (args.length : Int)) = false := decide_eq_false (by omega)
          have k3 : decide (2 < args.length) = false := decide_eq_false (by omega)
          have k2 : ((args.length : Int) != 2) = false := bne_eq_false_iff_eq.2 (by omega)
          have k4 : (args.length != 2) = false := bne_eq_false_iff_eq.2 (by omega)
          try clear h3
          try clear h4
          try clear h5
          go_enter Tryd.func88, Tryd.ntmps88
          go_wp2
          go_quiet (fail)
          go_wp2
          go_ret
          exact ⟨by rw [HR.out]; rfl, pw_below_drewN HB.out _⟩
        · skip
          have HR : Aside0 (tpart ⟨5, nm, num, args⟩ = 12) := ⟨tpart_ar (nd := 2) (e := true) rfl (show nm.toList.isEmpty = true from by simpa using h1) (by omega) (.inl rfl) (by omega) (by omega) (by omega)⟩
          subst h2
          have k1 : decide ((2 : Int) < (args.length : Int)) = true := decide_eq_true (by omega)
          have k3 : decide (2 < args.length) = true := decide_eq_true (by omega)
          try clear h3
          try clear h4
          try clear h5
          go_enter Tryd.func88, Tryd.ntmps88
          go_wp2
          go_quiet (fail)
          go_wp2
          go_ret
          exact ⟨by rw [HR.out]; rfl, pw_below_drewN HB.out _⟩
    · skip
      have HR : Aside0 (tpart ⟨5, nm, num, args⟩ = 7) := ⟨tpart_fm (e := true) (show nm.toList.isEmpty = true from by simpa using h1) (by omega) (by omega)⟩
      have j2 : (num != 0) = true := by simpa using h2
      try clear h3
      try clear h4
      try clear h5
      go_enter Tryd.func88, Tryd.ntmps88
      go_wp2
      go_ret
      exact ⟨by rw [HR.out]; rfl, HB.out⟩
  · skip
    have HR : Aside0 (tpart ⟨5, nm, num, args⟩ = 7) := ⟨tpart_nm (by simpa using h1) (by omega) (by omega) (by omega)⟩
    have j1 : nm.toList.isEmpty = false := by simpa using h1
    go_enter Tryd.func88, Tryd.ntmps88
    go_wp2
    go_ret
    exact ⟨by rw [HR.out]; rfl, HB.out⟩

set_option maxRecDepth 100000 in
set_option maxHeartbeats 2000000 in
theorem part6 (nm : ByteArray) (num : Int) (args : List S82) (A : Option Addr) (c : Nat) (w : World) (hN : Needs w) (hl : args.length ≤ 9223372036854775807) :
    Calls Tryd.prog 88 #[.agg #[.int .i64 6, .string nm, .int .i64 num, .slice A args.length c]] w fun e w' => e = .returned (.int .i64 (tpart ⟨6, nm, num, args⟩)) ∧ Below w.heap.size w w' := by
  have g1 : w.cell? ⟨0, 6, none⟩ = some (.int .i64 2) := hN 6 (by omega)
  have gl := hN.lt
  have gln : ∀ n, 0 < w.heap.size + n := fun n => by omega
  have HB : Aside0 (Below w.heap.size w (w.alloc (.cells #[.int .i64 6, .string nm, .int .i64 num, .slice A args.length c] 82))) := ⟨below_alloc (Below.refl _ _) _⟩
  clear hN
  by_cases h1 : nm.toList = []
  · skip
    by_cases h2 : num = 0
    · skip
      by_cases h3 : args.length < 2
      · skip
        have HR : Aside0 (tpart ⟨6, nm, num, args⟩ = 12) := ⟨tpart_ar (nd := 2) (e := true) rfl (show nm.toList.isEmpty = true from by simpa using h1) (by omega) (.inl rfl) (by omega) (by omega) (by omega)⟩
        subst h2
        have k1 : decide ((2 : Int) < (args.length : Int)) = false := decide_eq_false (by omega)
        have k3 : decide (2 < args.length) = false := decide_eq_false (by omega)
        have k2 : ((args.length : Int) != 2) = true := bne_iff_ne.2 (by omega)
        have k4 : (args.length != 2) = true := bne_iff_ne.2 (by omega)
        try clear h3
        try clear h4
        try clear h5
        go_enter Tryd.func88, Tryd.ntmps88
        go_wp2
        go_quiet (fail)
        go_wp2
        go_ret
        exact ⟨by rw [HR.out]; rfl, pw_below_drewN HB.out _⟩
      · by_cases h4 : args.length = 2
        · skip
          have HR : Aside0 (tpart ⟨6, nm, num, args⟩ = 0) := ⟨tpart_ok (nd := 2) (e := true) rfl (show nm.toList.isEmpty = true from by simpa using h1) (by omega) (.inl rfl) (by omega) (by omega) (by omega)⟩
          subst h2
          have k1 : decide ((2 : Int) < (args.length : Int)) = false := decide_eq_false (by omega)
          have k3 : decide (2 < args.length) = false := decide_eq_false (by omega)
          have k2 : ((args.length : Int) != 2) = false := bne_eq_false_iff_eq.2 (by omega)
          have k4 : (args.length != 2) = false := bne_eq_false_iff_eq.2 (by omega)
          try clear h3
          try clear h4
          try clear h5
          go_enter Tryd.func88, Tryd.ntmps88
          go_wp2
          go_quiet (fail)
          go_wp2
          go_ret
          exact ⟨by rw [HR.out]; rfl, pw_below_drewN HB.out _⟩
        · skip
          have HR : Aside0 (tpart ⟨6, nm, num, args⟩ = 12) := ⟨tpart_ar (nd := 2) (e := true) rfl (show nm.toList.isEmpty = true from by simpa using h1) (by omega) (.inl rfl) (by omega) (by omega) (by omega)⟩
          subst h2
          have k1 : decide ((2 : Int) < (args.length : Int)) = true := decide_eq_true (by omega)
          have k3 : decide (2 < args.length) = true := decide_eq_true (by omega)
          try clear h3
          try clear h4
          try clear h5
          go_enter Tryd.func88, Tryd.ntmps88
          go_wp2
          go_quiet (fail)
          go_wp2
          go_ret
          exact ⟨by rw [HR.out]; rfl, pw_below_drewN HB.out _⟩
    · skip
      have HR : Aside0 (tpart ⟨6, nm, num, args⟩ = 7) := ⟨tpart_fm (e := true) (show nm.toList.isEmpty = true from by simpa using h1) (by omega) (by omega)⟩
      have j2 : (num != 0) = true := by simpa using h2
      try clear h3
      try clear h4
      try clear h5
      go_enter Tryd.func88, Tryd.ntmps88
      go_wp2
      go_ret
      exact ⟨by rw [HR.out]; rfl, HB.out⟩
  · skip
    have HR : Aside0 (tpart ⟨6, nm, num, args⟩ = 7) := ⟨tpart_nm (by simpa using h1) (by omega) (by omega) (by omega)⟩
    have j1 : nm.toList.isEmpty = false := by simpa using h1
    go_enter Tryd.func88, Tryd.ntmps88
    go_wp2
    go_ret
    exact ⟨by rw [HR.out]; rfl, HB.out⟩

set_option maxRecDepth 100000 in
set_option maxHeartbeats 2000000 in
theorem part7 (nm : ByteArray) (num : Int) (args : List S82) (A : Option Addr) (c : Nat) (w : World) (hN : Needs w) (hl : args.length ≤ 9223372036854775807) :
    Calls Tryd.prog 88 #[.agg #[.int .i64 7, .string nm, .int .i64 num, .slice A args.length c]] w fun e w' => e = .returned (.int .i64 (tpart ⟨7, nm, num, args⟩)) ∧ Below w.heap.size w w' := by
  have g1 : w.cell? ⟨0, 7, none⟩ = some (.int .i64 1) := hN 7 (by omega)
  have gl := hN.lt
  have gln : ∀ n, 0 < w.heap.size + n := fun n => by omega
  have HB : Aside0 (Below w.heap.size w (w.alloc (.cells #[.int .i64 7, .string nm, .int .i64 num, .slice A args.length c] 82))) := ⟨below_alloc (Below.refl _ _) _⟩
  clear hN
  by_cases h1 : nm.toList = []
  · skip
    by_cases h2 : num = 0
    · skip
      by_cases h3 : args.length < 1
      · skip
        have HR : Aside0 (tpart ⟨7, nm, num, args⟩ = 12) := ⟨tpart_ar (nd := 1) (e := true) rfl (show nm.toList.isEmpty = true from by simpa using h1) (by omega) (.inl rfl) (by omega) (by omega) (by omega)⟩
        subst h2
        have k1 : decide ((1 : Int) < (args.length : Int)) = false := decide_eq_false (by omega)
        have k3 : decide (1 < args.length) = false := decide_eq_false (by omega)
        have k2 : ((args.length : Int) != 1) = true := bne_iff_ne.2 (by omega)
        have k4 : (args.length != 1) = true := bne_iff_ne.2 (by omega)
        try clear h3
        try clear h4
        try clear h5
        go_enter Tryd.func88, Tryd.ntmps88
        go_wp2
        go_quiet (fail)
        go_wp2
        go_ret
        exact ⟨by rw [HR.out]; rfl, pw_below_drewN HB.out _⟩
      · by_cases h4 : args.length = 1
        · skip
          have HR : Aside0 (tpart ⟨7, nm, num, args⟩ = 0) := ⟨tpart_ok (nd := 1) (e := true) rfl (show nm.toList.isEmpty = true from by simpa using h1) (by omega) (.inl rfl) (by omega) (by omega) (by omega)⟩
          subst h2
          have k1 : decide ((1 : Int) < (args.length : Int)) = false := decide_eq_false (by omega)
          have k3 : decide (1 < args.length) = false := decide_eq_false (by omega)
          have k2 : ((args.length : Int) != 1) = false := bne_eq_false_iff_eq.2 (by omega)
          have k4 : (args.length != 1) = false := bne_eq_false_iff_eq.2 (by omega)
          try clear h3
          try clear h4
          try clear h5
          go_enter Tryd.func88, Tryd.ntmps88
          go_wp2
          go_quiet (fail)
          go_wp2
          go_ret
          exact ⟨by rw [HR.out]; rfl, pw_below_drewN HB.out _⟩
        · skip
          have HR : Aside0 (tpart ⟨7, nm, num, args⟩ = 12) := ⟨tpart_ar (nd := 1) (e := true) rfl (show nm.toList.isEmpty = true from by simpa using h1) (by omega) (.inl rfl) (by omega) (by omega) (by omega)⟩
          subst h2
          have k1 : decide ((1 : Int) < (args.length : Int)) = true := decide_eq_true (by omega)
          have k3 : decide (1 < args.length) = true := decide_eq_true (by omega)
          try clear h3
          try clear h4
          try clear h5
          go_enter Tryd.func88, Tryd.ntmps88
          go_wp2
          go_quiet (fail)
          go_wp2
          go_ret
          exact ⟨by rw [HR.out]; rfl, pw_below_drewN HB.out _⟩
    · skip
      have HR : Aside0 (tpart ⟨7, nm, num, args⟩ = 7) := ⟨tpart_fm (e := true) (show nm.toList.isEmpty = true from by simpa using h1) (by omega) (by omega)⟩
      have j2 : (num != 0) = true := by simpa using h2
      try clear h3
      try clear h4
      try clear h5
      go_enter Tryd.func88, Tryd.ntmps88
      go_wp2
      go_ret
      exact ⟨by rw [HR.out]; rfl, HB.out⟩
  · skip
    have HR : Aside0 (tpart ⟨7, nm, num, args⟩ = 7) := ⟨tpart_nm (by simpa using h1) (by omega) (by omega) (by omega)⟩
    have j1 : nm.toList.isEmpty = false := by simpa using h1
    go_enter Tryd.func88, Tryd.ntmps88
    go_wp2
    go_ret
    exact ⟨by rw [HR.out]; rfl, HB.out⟩

set_option maxRecDepth 100000 in
set_option maxHeartbeats 2000000 in
theorem part8 (nm : ByteArray) (num : Int) (args : List S82) (A : Option Addr) (c : Nat) (w : World) (hN : Needs w) (hl : args.length ≤ 9223372036854775807) :
    Calls Tryd.prog 88 #[.agg #[.int .i64 8, .string nm, .int .i64 num, .slice A args.length c]] w fun e w' => e = .returned (.int .i64 (tpart ⟨8, nm, num, args⟩)) ∧ Below w.heap.size w w' := by
  have g1 : w.cell? ⟨0, 8, none⟩ = some (.int .i64 1) := hN 8 (by omega)
  have gl := hN.lt
  have gln : ∀ n, 0 < w.heap.size + n := fun n => by omega
  have HB : Aside0 (Below w.heap.size w (w.alloc (.cells #[.int .i64 8, .string nm, .int .i64 num, .slice A args.length c] 82))) := ⟨below_alloc (Below.refl _ _) _⟩
  clear hN
  by_cases h1 : nm.toList = []
  · skip
    by_cases h2 : num = 0
    · skip
      by_cases h3 : args.length < 1
      · skip
        have HR : Aside0 (tpart ⟨8, nm, num, args⟩ = 12) := ⟨tpart_ar (nd := 1) (e := true) rfl (show nm.toList.isEmpty = true from by simpa using h1) (by omega) (.inl rfl) (by omega) (by omega) (by omega)⟩
        subst h2
        have k1 : decide ((1 : Int) < (args.length : Int)) = false := decide_eq_false (by omega)
        have k3 : decide (1 < args.length) = false := decide_eq_false (by omega)
        have k2 : ((args.length : Int) != 1) = true := bne_iff_ne.2 (by omega)
        have k4 : (args.length != 1) = true := bne_iff_ne.2 (by omega)
        try clear h3
        try clear h4
        try clear h5
        go_enter Tryd.func88, Tryd.ntmps88
        go_wp2
        go_quiet (fail)
        go_wp2
        go_ret
        exact ⟨by rw [HR.out]; rfl, pw_below_drewN HB.out _⟩
      · by_cases h4 : args.length = 1
        · skip
          have HR : Aside0 (tpart ⟨8, nm, num, args⟩ = 0) := ⟨tpart_ok (nd := 1) (e := true) rfl (show nm.toList.isEmpty = true from by simpa using h1) (by omega) (.inl rfl) (by omega) (by omega) (by omega)⟩
          subst h2
          have k1 : decide ((1 : Int) < (args.length : Int)) = false := decide_eq_false (by omega)
          have k3 : decide (1 < args.length) = false := decide_eq_false (by omega)
          have k2 : ((args.length : Int) != 1) = false := bne_eq_false_iff_eq.2 (by omega)
          have k4 : (args.length != 1) = false := bne_eq_false_iff_eq.2 (by omega)
          try clear h3
          try clear h4
          try clear h5
          go_enter Tryd.func88, Tryd.ntmps88
          go_wp2
          go_quiet (fail)
          go_wp2
          go_ret
          exact ⟨by rw [HR.out]; rfl, pw_below_drewN HB.out _⟩
        · skip
          have HR : Aside0 (tpart ⟨8, nm, num, args⟩ = 12) := ⟨tpart_ar (nd := 1) (e := true) rfl (show nm.toList.isEmpty = true from by simpa using h1) (by omega) (.inl rfl) (by omega) (by omega) (by omega)⟩
          subst h2
          have k1 : decide ((1 : Int) < (args.length : Int)) = true := decide_eq_true (by omega)
          have k3 : decide (1 < args.length) = true := decide_eq_true (by omega)
          try clear h3
          try clear h4
          try clear h5
          go_enter Tryd.func88, Tryd.ntmps88
          go_wp2
          go_quiet (fail)
          go_wp2
          go_ret
          exact ⟨by rw [HR.out]; rfl, pw_below_drewN HB.out _⟩
    · skip
      by_cases h3 : args.length < 1
      · skip
        have HR : Aside0 (tpart ⟨8, nm, num, args⟩ = 12) := ⟨tpart_ar (nd := 1) (e := true) rfl (show nm.toList.isEmpty = true from by simpa using h1) (by omega) (.inl rfl) (by omega) (by omega) (by omega)⟩
        have j2 : (num != 0) = true := by simpa using h2
        have k1 : decide ((1 : Int) < (args.length : Int)) = false := decide_eq_false (by omega)
        have k3 : decide (1 < args.length) = false := decide_eq_false (by omega)
        have k2 : ((args.length : Int) != 1) = true := bne_iff_ne.2 (by omega)
        have k4 : (args.length != 1) = true := bne_iff_ne.2 (by omega)
        try clear h3
        try clear h4
        try clear h5
        go_enter Tryd.func88, Tryd.ntmps88
        go_wp2
        go_quiet (fail)
        go_wp2
        go_ret
        exact ⟨by rw [HR.out]; rfl, pw_below_drewN HB.out _⟩
      · by_cases h4 : args.length = 1
        · skip
          have HR : Aside0 (tpart ⟨8, nm, num, args⟩ = 0) := ⟨tpart_ok (nd := 1) (e := true) rfl (show nm.toList.isEmpty = true from by simpa using h1) (by omega) (.inl rfl) (by omega) (by omega) (by omega)⟩
          have j2 : (num != 0) = true := by simpa using h2
          have k1 : decide ((1 : Int) < (args.length : Int)) = false := decide_eq_false (by omega)
          have k3 : decide (1 < args.length) = false := decide_eq_false (by omega)
          have k2 : ((args.length : Int) != 1) = false := bne_eq_false_iff_eq.2 (by omega)
          have k4 : (args.length != 1) = false := bne_eq_false_iff_eq.2 (by omega)
          try clear h3
          try clear h4
          try clear h5
          go_enter Tryd.func88, Tryd.ntmps88
          go_wp2
          go_quiet (fail)
          go_wp2
          go_ret
          exact ⟨by rw [HR.out]; rfl, pw_below_drewN HB.out _⟩
        · skip
          have HR : Aside0 (tpart ⟨8, nm, num, args⟩ = 12) := ⟨tpart_ar (nd := 1) (e := true) rfl (show nm.toList.isEmpty = true from by simpa using h1) (by omega) (.inl rfl) (by omega) (by omega) (by omega)⟩
          have j2 : (num != 0) = true := by simpa using h2
          have k1 : decide ((1 : Int) < (args.length : Int)) = true := decide_eq_true (by omega)
          have k3 : decide (1 < args.length) = true := decide_eq_true (by omega)
          try clear h3
          try clear h4
          try clear h5
          go_enter Tryd.func88, Tryd.ntmps88
          go_wp2
          go_quiet (fail)
          go_wp2
          go_ret
          exact ⟨by rw [HR.out]; rfl, pw_below_drewN HB.out _⟩
  · skip
    have HR : Aside0 (tpart ⟨8, nm, num, args⟩ = 7) := ⟨tpart_nm (by simpa using h1) (by omega) (by omega) (by omega)⟩
    have j1 : nm.toList.isEmpty = false := by simpa using h1
    go_enter Tryd.func88, Tryd.ntmps88
    go_wp2
    go_ret
    exact ⟨by rw [HR.out]; rfl, HB.out⟩

set_option maxRecDepth 100000 in
set_option maxHeartbeats 1000000 in
theorem part_out (op : Int) (nm : ByteArray) (num : Int) (args : List S82) (A : Option Addr) (c : Nat) (w : World) (ho : op < 1 ∨ 8 < op) (hl : args.length ≤ 9223372036854775807) :
    Calls Tryd.prog 88 #[.agg #[.int .i64 op, .string nm, .int .i64 num, .slice A args.length c]] w fun e w' => e = .returned (.int .i64 (tpart ⟨op, nm, num, args⟩)) ∧ Below w.heap.size w w' := by
  have HB : Aside0 (Below w.heap.size w (w.alloc (.cells #[.int .i64 op, .string nm, .int .i64 num, .slice A args.length c] 82))) := ⟨below_alloc (Below.refl _ _) _⟩
  have HR : Aside0 (tpart ⟨op, nm, num, args⟩ = 7) := ⟨by unfold tpart; rw [if_pos ho]⟩
  have e1 : (op == 1) = false := by simp; omega
  have e2 : (op == 2) = false := by simp; omega
  have e3 : (op == 3) = false := by simp; omega
  have e4 : (op == 4) = false := by simp; omega
  have e8 : (op == 8) = false := by simp; omega
  rcases ho with ho | ho
  · go_enter Tryd.func88, Tryd.ntmps88
    go_wp2
    go_ret
    exact ⟨by rw [HR.out]; rfl, HB.out⟩
  · have hd : decide (op < 1) = false := by simp; omega
    go_enter Tryd.func88, Tryd.ntmps88
    go_wp2
    go_ret
    exact ⟨by rw [HR.out]; rfl, HB.out⟩

theorem term_part (t : S82) (A : Option Addr) (c : Nat) (w : World) (hN : Needs w) (hl : t.f3.length ≤ 9223372036854775807) :
    Calls Tryd.prog 88 #[v82 t A c] w fun e w' => e = .returned (.int .i64 (tpart t)) ∧ Below w.heap.size w w' := by
  obtain ⟨op, nm, num, args⟩ := t
  by_cases h : op < 1 ∨ 8 < op
  · exact part_out op nm num args A c w h hl
  · obtain h | h | h | h | h | h | h | h : op = 1 ∨ op = 2 ∨ op = 3 ∨ op = 4 ∨ op = 5 ∨ op = 6 ∨ op = 7 ∨ op = 8 := by omega
    · subst h; exact part1 nm num args A c w hN hl
    · subst h; exact part2 nm num args A c w hN hl
    · subst h; exact part3 nm num args A c w hN hl
    · subst h; exact part4 nm num args A c w hN hl
    · subst h; exact part5 nm num args A c w hN hl
    · subst h; exact part6 nm num args A c w hN hl
    · subst h; exact part7 nm num args A c w hN hl
    · subst h; exact part8 nm num args A c w hN hl

end Go.Proofs.YtbfgoopomfenjaaDoor
namespace Go.Proofs.YtbfgoopomfenjaaDoor
open Go.RowKit Go.Shelf Go.Proofs.YtbfgoopomfenjaaDoorW.PrintWords Go.Proofs.YtbfgoopomfenjaaDoor.PTseitinValues
set_option linter.unusedVariables false
set_option linter.unusedSimpArgs false
attribute [local go_sem] Oper.semAt_some
attribute [local go_sem] World.cell?_alloc_lt

/-- The first error of a term's parts. -/
def tparts (t : S82) : Int := firstNZ ((tpre t).map tpart)
def tright (t : S82) : Int := if 64 < tdep 65 t then 6 else if 4096 < tsize t then 2 else tparts t
theorem firstNZ_append_zero {l m : List Int} (h : firstNZ l = 0) : firstNZ (l ++ m) = firstNZ m := by
  induction l with
  | nil => rfl
  | cons a l ih =>
    rw [firstNZ] at h
    rw [List.cons_append, firstNZ]
    split at h
    · rename_i h1; rw [if_pos h1, ih h]
    · rename_i h1; exact absurd h h1
theorem firstNZ_append_ne {l m : List Int} (h : firstNZ l ≠ 0) : firstNZ (l ++ m) = firstNZ l := by
  induction l with
  | nil => exact absurd rfl h
  | cons a l ih =>
    rw [firstNZ] at h
    rw [List.cons_append, firstNZ, firstNZ]
    split at h
    · rename_i h1; rw [if_pos h1, if_pos h1, ih h]
    · rename_i h1; rw [if_neg h1, if_neg h1]

/-- The first error of the first parts, told by values. -/
def errOf {w : World} (pre : List (TV w)) : Int := firstNZ ((pre.map (·.1.1)).map tpart)
theorem errOf_snoc {w : World} {pre : List (TV w)} (h : errOf pre = 0) (x : TV w) : errOf (pre ++ [x]) = tpart x.1.1 := by
  unfold errOf at h ⊢
  rw [List.map_append, List.map_append, firstNZ_append_zero h]
  simp only [List.map_cons, List.map_nil, firstNZ]
  split
  · rename_i h1; exact h1.symm
  · rfl

theorem row_blk {W W' : World} {row : Option Nat} {b : Nat} {cs : Array Value} {t : TypeId} (h : W.heap[b]? = some (.cells cs t (0, 0))) (hg : W.grownBy W' row) (hr : ∀ r, row = some r → ∃ o : Obj, W.heap[r]? = some o ∧ o.isCells = false) : W'.heap[b]? = some (.cells cs t (0, 0)) := by
  refine (hg.block b (Array.getElem?_eq_some_iff.1 h).1 ?_).trans h
  intro e
  obtain ⟨o, ho, hc⟩ := hr b e.symm
  rw [h] at ho; cases ho; cases hc

set_option maxRecDepth 100000 in
set_option maxHeartbeats 2000000 in
theorem right_walk (t : S82) (A : Option Addr) (c : Nat) (w : World) (hs : tsize t ≤ 4096) (hd : tdep 65 t ≤ 64) (hc : t.f3.length ≤ c) (hC : k82.C w A t.f3.length t.f3) (hN : Needs w) :
    Calls Tryd.prog 78 #[v82 t A c] w fun e w' => e = .returned (.int .i64 (tparts t)) ∧ Below w.heap.size w w' := by
  refine (callsIn_wide (n := 10)).1 ?_
  have HC := Aside0.mk hC
  have HN := Aside0.mk hN
  have HBB : Aside0 (Below w.heap.size w ((w.alloc (.cells #[.int .i64 t.f0, .string t.f1, .int .i64 t.f2, .slice A t.f3.length c] 82)).alloc (.cells #[.int .i64 0] 28))) := ⟨((Below.refl _ _).alloc (Nat.le_refl _) _).alloc (by simp) _⟩
  have X : T82 ((w.alloc (.cells #[.int .i64 t.f0, .string t.f1, .int .i64 t.f2, .slice A t.f3.length c] 82)).alloc (.cells #[.int .i64 0] 28)) ⟨w.heap.size, 0, none⟩ t A c := T82.mk_box (w := w) (by rw [Below.heap_alloc _ _ _ (by simp)]; exact blk_new _ _) hc hC HBB.out
  have Bx : Boxed ((w.alloc (.cells #[.int .i64 t.f0, .string t.f1, .int .i64 t.f2, .slice A t.f3.length c] 82)).alloc (.cells #[.int .i64 0] 28)) (w.heap.size + 1) 28 (.int .i64 0) := by
    rw [← World.size_alloc w (.cells #[.int .i64 t.f0, .string t.f1, .int .i64 t.f2, .slice A t.f3.length c] 82)]; exact Boxed.new _ _ _
  clear hC hN
  refine callsIn_of_wp_marks Tryd.func78 rfl trivial ?_ rfl
  simp only [Tryd.ntmps78, List.size_toArray, List.length_cons, List.length_nil, Nat.reduceAdd, Nat.reduceSub, Array.replicate_succ, Array.replicate_zero, List.push_toArray, List.append_toArray, List.nil_append, List.cons_append]
  gi_wp2_with (first
    | (refine ⟨trivial, ?_⟩; gi_at_call 87; refine ((callsIn_wide (n := 9)).2 (term_Depth t A c _ hc (Kd.C_below HC.out HBB.out))).mono ?_; rintro e w1 ⟨rfl, hb1⟩; have X1 := X.below hb1; have B1 := Bx.kept (grown_of_below hb1 none) (by simp); have HB1 := Aside0.mk (below_step HBB.out hb1); clear hb1; obtain ⟨x0, x1, x2, x3, xl0, xln⟩ := X1.box)
    | (refine ⟨trivial, ?_⟩; gi_at_call 75; refine ((callsIn_wide (n := 9)).2 (term_size t A c _ hs X1.le X1.C)).mono ?_; rintro e w2 ⟨rfl, hb2⟩; have X2 := X1.below hb2; have B2 := B1.kept (grown_of_below hb2 none) (by simp); have HB2 := Aside0.mk (below_step HB1.out hb2); clear hb2; obtain ⟨y0, y1, y2, y3, yl0, yln⟩ := X2.box)
    | (refine ⟨trivial, ?_⟩; gi_at_call 86; refine ((callsIn_wide (n := 9)).2 (term_all t A c _)).mono ?_; rintro e w' ⟨rfl, rfl⟩))
  have X3 : T82 (w2.alloc (.cells #[.int .i64 t.f0, .string t.f1, .int .i64 t.f2, .slice A t.f3.length c] 82)) ⟨w2.heap.size, 0, none⟩ t A c := T82.mk_box (w := w2) (blk_new _ _) X2.le X2.C (below_alloc (Below.refl _ _) _)
  have B3 := B2.alloc (.cells #[.int .i64 t.f0, .string t.f1, .int .i64 t.f2, .slice A t.f3.length c] 82)
  have hB3 := below_alloc HB2.out (.cells #[.int .i64 t.f0, .string t.f1, .int .i64 t.f2, .slice A t.f3.length c] 82)
  have hlt : w2.heap.size < (w2.alloc (.cells #[.int .i64 t.f0, .string t.f1, .int .i64 t.f2, .slice A t.f3.length c] 82)).heap.size := by simp
  have hlt2 : w.heap.size + 1 < w2.heap.size := B2.lt
  generalize w2.alloc (.cells #[.int .i64 t.f0, .string t.f1, .int .i64 t.f2, .slice A t.f3.length c] 82) = W3 at *
  clear X X1 X2 Bx B1 B2 HB1 HB2 x0 x1 x2 x3 xl0 xln y0 y1 y2 y3 yl0 yln
  refine wpIn_rangeFunc_ownH (F := Fence.wide) rfl (by omega) (gf := 97) (lb := #[.pointer (some ⟨w2.heap.size, 0, none⟩)]) rfl trivial (enters_of Tryd.func97 (by kernel_rfl) rfl)
    (all1_in Fence.wide rfl (fun _ => trivial) rfl w 9 w2.heap.size 0 t A c hc HC.out (fun _ => False) (fun _ h => h.elim) W3 hB3 (Nat.zero_le _) X3)
    (fun h k => h.trans k) (KeepE.put hB3.size) (Below.refl _ _) (fun _ => rfl)
    (fun pre W => (Boxed W (w.heap.size + 1) 28 (.int .i64 0) ∧ errOf pre = 0) ∧ Below w.heap.size w W)
    (fun cd pre W => (cd = .ret ∧ Boxed W (w.heap.size + 1) 28 (.int .i64 (errOf pre)) ∧ errOf pre ≠ 0) ∧ Below w.heap.size w W)
    (OwnFrom.and (fun s X Y row hs hg hr => ⟨row_blk hs.1 hg (fun r e => (hr r e).2), hs.2⟩) (ownFrom_below (Nat.le_refl _) hB3.size))
    (fun cd => OwnFrom.and (fun s X Y row hs hg hr => ⟨hs.1, row_blk hs.2.1 hg (fun r e => (hr r e).2), hs.2.2⟩) (ownFrom_below (Nat.le_refl _) hB3.size))
    ⟨⟨B3, rfl⟩, hB3⟩
    (fun x a' W => ∃ Bx, w.heap.size + 1 < Bx ∧ W.heap[Bx]? = some (.cells #[.int .i64 x.1.1.f0, .string x.1.1.f1, .int .i64 x.1.1.f2, .slice x.1.2.1 x.1.1.f3.length x.1.2.2] 82 (0, 0)) ∧
      a' = { tmps := #[v82 t A c, .pointer (some ⟨w.heap.size, 0, none⟩), .pointer (some ⟨w.heap.size + 1, 0, none⟩), .pointer (some ⟨Bx, 0, none⟩), undef, .bool (decide (64 < (tdep 65 t : Int))), .agg #[.int .i64 t.f0, .string t.f1, .int .i64 t.f2, .slice A t.f3.length c], .int .i64 (tdep 65 t), .bool (decide (64 < (tdep 65 t : Int))), .bool (decide (4096 < (tsize t : Int))), .agg #[.int .i64 t.f0, .string t.f1, .int .i64 t.f2, .slice A t.f3.length c], .int .i64 (tsize t), .bool (decide (4096 < (tsize t : Int))), .agg #[.int .i64 t.f0, .string t.f1, .int .i64 t.f2, .slice A t.f3.length c], .func (.func 97) #[] #[.pointer (some ⟨w2.heap.size, 0, none⟩)], x.enc, undef, undef, undef, undef, undef], defers := [] })
    (fun x a' _ X Y row hs hg hr => by obtain ⟨Bx, h1, h2, h3⟩ := hs; exact ⟨Bx, h1, row_blk h2 hg (fun r e => (hr r e).2), h3⟩)
    ?assign ?body ?done ?stop
  case assign =>
    rintro l pre x W K ⟨⟨hb, he⟩, hB⟩ hK
    have hz : (#[15] : Array Nat).zip #[x.enc] = #[(15, x.enc)] := by apply Array.toList_inj.1; simp
    rw [hz]
    have hex : x.enc = .agg #[.int .i64 x.1.1.f0, .string x.1.1.f1, .int .i64 x.1.1.f2, .slice x.1.2.1 x.1.1.f3.length x.1.2.2] := rfl
    rw [hex] at hK ⊢
    gi_wp2
    exact hK _ _ ((KeepsOthers.alloc _ _).from _) ((KeepE.refl _ _ W).alloc hB.size _) ⟨⟨hb.alloc _, he⟩, hB.alloc hB.size _⟩ ⟨W.heap.size, hb.lt, blk_new _ _, rfl⟩
  case body =>
    rintro l pre x a' W hl ⟨r, hr⟩ ⟨⟨hb, he⟩, hB⟩ ⟨Bx, hBx, bX, rfl⟩ hlen
    have h1 : 1 ≤ 10 - 1 - 1 := by omega
    have hx0 : W.cell? ⟨Bx, 0, none⟩ = some (.int .i64 x.1.1.f0) := blk_cell bX 0
    have hx1 : W.cell? ⟨Bx, 1, none⟩ = some (.string x.1.1.f1) := blk_cell bX 1
    have hx2 : W.cell? ⟨Bx, 2, none⟩ = some (.int .i64 x.1.1.f2) := blk_cell bX 2
    have hx3 : W.cell? ⟨Bx, 3, none⟩ = some (.slice x.1.2.1 x.1.1.f3.length x.1.2.2) := blk_cell bX 3
    have hE := Aside0.mk (errOf_snoc he x)
    have HE := Aside0.mk he
    clear he
    by_cases hz : tpart x.1.1 = 0
    · have hzb : (tpart x.1.1 != 0) = false := by simpa using hz
      have hE2 := Aside0.mk (hE.out.trans hz)
      clear hz
      gi_wp2_with (refine ⟨trivial, ?_⟩; gi_at_call 88; refine (CallsIn.inRound l ((callsIn_wide (n := 10 - 1 - 1 - 1)).2 (term_part x.1.1 x.1.2.1 x.1.2.2 W (HN.out.below hB) x.2.2.2.1))).mono ?_; rintro e W4 ⟨rfl, hb4⟩)
      exact ⟨KeepsFrom.of_grownBy (grown_of_below hb4 none) (fun j e => by cases e), KeepE.of_below hb4 hB.size, ⟨hb.kept (grown_of_below hb4 none) (by simp), hE2.out⟩, below_step hB hb4⟩
    · have hzb : (tpart x.1.1 != 0) = true := by simpa using hz
      have hE2 := Aside0.mk hz
      clear hz
      gi_wp2_with (refine ⟨trivial, ?_⟩; gi_at_call 88; refine (CallsIn.inRound l ((callsIn_wide (n := 10 - 1 - 1 - 1)).2 (term_part x.1.1 x.1.2.1 x.1.2.2 W (HN.out.below hB) x.2.2.2.1))).mono ?_; rintro e W4 ⟨rfl, hb4⟩; have B4 := hb.kept (grown_of_below hb4 none) (by simp); have c4 := B4.cell; have f4 := B4.frozen)
      exact ⟨(KeepsFrom.of_grownBy (grown_of_below hb4 none) (fun j e => by cases e)).trans ((KeepsOthers.setCell _ _ _).from _), ⟨rfl, by rw [hE.out]; exact B4.set _, by rw [hE.out]; exact hE2.out⟩, (below_step hB hb4).setCell (p := ⟨w.heap.size + 1, 0, none⟩) (Nat.le_succ _) _⟩
  case done =>
    rintro D ys W hD hys ⟨⟨hb, he⟩, hB⟩ hK
    have HR : Aside0 (tparts t = 0) := ⟨by unfold tparts; rw [← hys]; exact he⟩
    have c4 := hb.cell
    have f4 := hb.frozen
    clear hys he
    gi_wp2
    have hK' : (W.setCell ⟨w.heap.size + 1, 0, none⟩ (.int .i64 0)).heap[D]? = some (.deferred (some [])) := (Below.heap_setCell _ _ _ _ (by show D ≠ w.heap.size + 1; omega)).trans hK
    refine ⟨by simp, .inl ⟨_, _, rfl, run_takeDeferred hK', ?_⟩⟩
    have hcs : (W.setCell ⟨w.heap.size + 1, 0, none⟩ (.int .i64 0)).cell? ⟨w.heap.size + 1, 0, none⟩ = some (.int .i64 0) := World.cell?_setCell_same' _ _ _ (by rw [c4]; rfl)
    have cD : ((W.setCell ⟨w.heap.size + 1, 0, none⟩ (.int .i64 0)).putObj D (.deferred none)).cell? ⟨w.heap.size + 1, 0, none⟩ = some (.int .i64 0) := cell_kept hcs (grownBy_putObj' _ D (.deferred none)) (fun r e => by cases e; exact ⟨_, hK', rfl⟩)
    have HBF := Aside0.mk ((hB.setCell (p := ⟨w.heap.size + 1, 0, none⟩) (Nat.le_succ _) (.int .i64 0)).trans (belowK_b (w := w) (Nat.le_refl _) _ D _ (.deferred none) (by have := hB.size; omega) hK' rfl rfl))
    generalize (W.setCell ⟨w.heap.size + 1, 0, none⟩ (.int .i64 0)).putObj D (.deferred none) = W5 at *
    clear hcs hK' hK hB
    exact ⟨.int .i64 0, by simp [results, Tryd.results78, go_sem, cD], by rw [HR.out], HBF.out⟩
  case stop =>
    rintro D cd pre W hD hp ⟨⟨rfl, hb, he⟩, hB⟩ hK
    have HR : Aside0 (tparts t = errOf pre) := ⟨by
      unfold tparts
      obtain ⟨q, hq⟩ := hp
      rw [← hq, List.map_append]
      exact firstNZ_append_ne he⟩
    have c4 := hb.cell
    clear hp he
    gi_wp2
    refine ⟨by simp, .inl ⟨_, _, rfl, run_takeDeferred hK, ?_⟩⟩
    have cD : (W.putObj D (.deferred none)).cell? ⟨w.heap.size + 1, 0, none⟩ = some (.int .i64 (errOf pre)) := cell_kept c4 (grownBy_putObj' _ D (.deferred none)) (fun r e => by cases e; exact ⟨_, hK, rfl⟩)
    have HBF := Aside0.mk (hB.trans (belowK_b (w := w) (Nat.le_refl _) _ D _ (.deferred none) (by have := hB.size; omega) hK rfl rfl))
    generalize W.putObj D (.deferred none) = W5 at *
    exact ⟨.int .i64 (errOf pre), by simp [results, Tryd.results78, go_sem, cD], by rw [HR.out], HBF.out⟩

set_option maxRecDepth 100000 in
set_option maxHeartbeats 1000000 in
theorem right_deep (t : S82) (A : Option Addr) (c : Nat) (w : World) (hd : 64 < tdep 65 t) (hc : t.f3.length ≤ c) (hC : k82.C w A t.f3.length t.f3) :
    Calls Tryd.prog 78 #[v82 t A c] w fun e w' => e = .returned (.int .i64 6) ∧ Below w.heap.size w w' := by
  have HC := Aside0.mk hC
  have HBB : Aside0 (Below w.heap.size w ((w.alloc (.cells #[.int .i64 t.f0, .string t.f1, .int .i64 t.f2, .slice A t.f3.length c] 82)).alloc (.cells #[.int .i64 0] 28))) := ⟨((Below.refl _ _).alloc (Nat.le_refl _) _).alloc (by simp) _⟩
  have Bx : Boxed ((w.alloc (.cells #[.int .i64 t.f0, .string t.f1, .int .i64 t.f2, .slice A t.f3.length c] 82)).alloc (.cells #[.int .i64 0] 28)) (w.heap.size + 1) 28 (.int .i64 0) := by
    rw [← World.size_alloc w (.cells #[.int .i64 t.f0, .string t.f1, .int .i64 t.f2, .slice A t.f3.length c] 82)]; exact Boxed.new _ _ _
  clear hC
  go_enter Tryd.func78, Tryd.ntmps78
  go_wp2_with (first | (go_at_call 87; refine (term_Depth t A c _ hc (Kd.C_below HC.out HBB.out)).mono ?_; rintro e w1 ⟨rfl, hb1⟩; have B1 := Bx.kept (grown_of_below hb1 none) (by simp); have HB1 := Aside0.mk (below_step HBB.out hb1); clear hb1; have c1 := B1.cell; have f1 := B1.frozen))
  have hcs : (w1.setCell ⟨w.heap.size + 1, 0, none⟩ (.int .i64 6)).cell? ⟨w.heap.size + 1, 0, none⟩ = some (.int .i64 6) := World.cell?_setCell_same' _ _ _ (by rw [c1]; rfl)
  have HBF := Aside0.mk (HB1.out.setCell (p := ⟨w.heap.size + 1, 0, none⟩) (Nat.le_succ _) (.int .i64 6))
  generalize w1.setCell ⟨w.heap.size + 1, 0, none⟩ (.int .i64 6) = W5 at *
  exact bodyPost_ret (v := .int .i64 6) (by simp [results, Tryd.results78, go_sem, hcs]) rfl ⟨rfl, HBF.out⟩

/-- term.Right's contract, at terms that are not too long. -/
theorem term_right (t : S82) (A : Option Addr) (c : Nat) (w : World) (hs : tsize t ≤ 4096) (hc : t.f3.length ≤ c) (hC : k82.C w A t.f3.length t.f3) (hN : Needs w) :
    Calls Tryd.prog 78 #[v82 t A c] w fun e w' => e = .returned (.int .i64 (tright t)) ∧ Below w.heap.size w w' := by
  by_cases hd : 64 < tdep 65 t
  · have hr : tright t = 6 := by unfold tright; rw [if_pos hd]
    rw [hr]
    exact right_deep t A c w hd hc hC
  · have hr : tright t = tparts t := by unfold tright; rw [if_neg hd, if_neg (by omega)]
    rw [hr]
    exact right_walk t A c w hs (by omega) hc hC hN

end Go.Proofs.YtbfgoopomfenjaaDoor
