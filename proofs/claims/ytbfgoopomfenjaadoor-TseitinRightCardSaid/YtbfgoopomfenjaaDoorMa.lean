import Derived.Test.YtbfgoopomfenjaaDoorX
import Derived.WalkSpells
import Derived.WalkLawsBesides
import Derived.Outline
import Derived.Deep.RegionHeld3
import Derived.Deep.DeepCutAuto
namespace Go.Proofs.YtbfgoopomfenjaaDoor
open Go.RowKit Go.Proofs.YtbfgoopomfenjaaDoorW.PrintWords Go.Proofs.YtbfgoopomfenjaaDoor.PTseitinValues

set_option maxHeartbeats 400000 in
theorem isNaN_int (a : Int) (w : World) : Calls Tryd.prog 100 #[.int .i64 a] w fun e w' => e = .returned (.bool false) ∧ w = w' := by
  go_enter Tryd.func100, Tryd.ntmps100
  go_wp2
  go_ret
  exact ⟨by simp, rfl⟩
set_option maxHeartbeats 400000 in
theorem isNaN_int64 (a : Int) (w : World) : Calls Tryd.prog 104 #[.int .i64 a] w fun e w' => e = .returned (.bool false) ∧ w = w' := by
  go_enter Tryd.func104, Tryd.ntmps104
  go_wp2
  go_ret
  exact ⟨by simp, rfl⟩
set_option maxHeartbeats 400000 in
theorem isNaN_string (a : ByteArray) (w : World) : Calls Tryd.prog 101 #[.string a] w fun e w' => e = .returned (.bool false) ∧ w = w' := by
  go_enter Tryd.func101, Tryd.ntmps101
  go_wp2
  go_ret
  exact ⟨by simp, rfl⟩

def icmp (a b : Int) : Int := if a < b then -1 else if b < a then 1 else 0
def scmp (a b : ByteArray) : Int := if Op.bytesLess a.toList b.toList = true then -1 else if (a.toList == b.toList) = true then 0 else 1
set_option maxHeartbeats 400000 in
theorem cmp_int (a b : Int) (w : World) : Calls Tryd.prog 89 #[.int .i64 a, .int .i64 b] w fun e w' => e = .returned (.int .i64 (icmp a b)) ∧ w = w' := by
  unfold icmp
  go_enter Tryd.func89, Tryd.ntmps89
  go_wp2_with (go_at_call 100; refine (isNaN_int _ _).mono ?_; rintro e w' ⟨rfl, rfl⟩)
  all_goals go_ret
  all_goals exact ⟨rfl, rfl⟩
set_option maxHeartbeats 400000 in
theorem cmp_int64 (a b : Int) (w : World) : Calls Tryd.prog 102 #[.int .i64 a, .int .i64 b] w fun e w' => e = .returned (.int .i64 (icmp a b)) ∧ w = w' := by
  unfold icmp
  go_enter Tryd.func102, Tryd.ntmps102
  go_wp2_with (go_at_call 104; refine (isNaN_int64 _ _).mono ?_; rintro e w' ⟨rfl, rfl⟩)
  all_goals go_ret
  all_goals exact ⟨rfl, rfl⟩
set_option maxHeartbeats 400000 in
theorem cmp_string (a b : ByteArray) (w : World) : Calls Tryd.prog 90 #[.string a, .string b] w fun e w' => e = .returned (.int .i64 (scmp a b)) ∧ w = w' := by
  by_cases h1 : Op.bytesLess a.toList b.toList = true
  · have hr : scmp a b = -1 := by simp [scmp, h1]
    have HR := Aside0.mk hr
    clear hr
    go_enter Tryd.func90, Tryd.ntmps90
    go_wp2_with (go_at_call 101; refine (isNaN_string _ _).mono ?_; rintro e w' ⟨rfl, rfl⟩)
    go_ret
    exact ⟨by rw [HR.out]; rfl, rfl⟩
  · have h1 : Op.bytesLess a.toList b.toList = false := by simpa using h1
    by_cases h2 : (a.toList == b.toList) = true
    · have hr : scmp a b = 0 := by simp only [scmp, h1, h2]; rfl
      have HR := Aside0.mk hr
      clear hr
      go_enter Tryd.func90, Tryd.ntmps90
      go_wp2_with (go_at_call 101; refine (isNaN_string _ _).mono ?_; rintro e w' ⟨rfl, rfl⟩)
      go_ret
      exact ⟨by rw [HR.out]; rfl, rfl⟩
    · have h2 : (a.toList == b.toList) = false := by simpa using h2
      have hr : scmp a b = 1 := by simp only [scmp, h1, h2]; rfl
      have HR := Aside0.mk hr
      clear hr
      go_enter Tryd.func90, Tryd.ntmps90
      go_wp2_with (go_at_call 101; refine (isNaN_string _ _).mono ?_; rintro e w' ⟨rfl, rfl⟩)
      go_ret
      exact ⟨by rw [HR.out]; rfl, rfl⟩

def firstNZ : List Int → Int
  | [] => 0
  | a :: l => if a = 0 then firstNZ l else a

set_option maxHeartbeats 400000 in
theorem cmp_or (b : Nat) (xs : List Int) (w : World) (hl : xs.length ≤ 100) (hc : ∀ j, j < xs.length → w.cell? ⟨b, j, none⟩ = some (.int .i64 (xs.getD j 0))) :
    Calls Tryd.prog 91 #[.slice (some ⟨b, 0, none⟩) xs.length xs.length] w fun e w' => e = .returned (.int .i64 (firstNZ xs)) ∧ w = w' := by
  have HC := Aside0.mk hc
  clear hc
  generalize hn : xs.length = n at *
  have HN := Aside0.mk hn
  clear hn
  go_enter Tryd.func91, Tryd.ntmps91
  go_wp2
  go_loop [5, 8] (fun v i => ∃ k : Nat, k ≤ n ∧ i = .int .i64 k ∧ Aside0 (firstNZ xs = firstNZ (xs.drop k))) (fun _ i => n - (intOf i).toNat)
  case atStart => exact ⟨0, Nat.zero_le _, rfl, ⟨rfl⟩⟩
  case round =>
    obtain ⟨k, hk, rfl, HF⟩ := hrel
    by_cases hlt : k < n
    · have hcell := HC.out k hlt
      generalize hx : xs.getD k 0 = x at *
      have hd : xs.drop k = x :: xs.drop (k+1) := by
        have h' : k < xs.length := by rw [HN.out]; exact hlt
        rw [List.drop_eq_getElem_cons h', ← hx, List.getD_eq_getElem?_getD, List.getElem?_eq_getElem h']; rfl
      have HD := Aside0.mk hd
      clear hx hd
      by_cases h0 : x = 0
      · subst h0
        go_wp2
        go_round
        case rel => exact ⟨k+1, by omega, by go_num, ⟨by rw [HF.out, HD.out]; rfl⟩⟩
        case measure => simp [intOf]; omega
      · have h0b : (x != 0) = true := by simpa using h0
        have hr : firstNZ xs = x := by rw [HF.out, HD.out, firstNZ, if_neg h0]
        have HR := Aside0.mk hr
        clear hr
        go_wp2
        go_ret
        exact ⟨by rw [HR.out]; rfl, rfl⟩
    · have hr : firstNZ xs = 0 := by rw [HF.out, List.drop_of_length_le (by rw [HN.out]; omega)]; rfl
      have HR := Aside0.mk hr
      clear hr
      go_wp2
      go_ret
      exact ⟨by rw [HR.out]; rfl, rfl⟩

end Go.Proofs.YtbfgoopomfenjaaDoor
namespace Go.Proofs.YtbfgoopomfenjaaDoor
open Go.RowKit Go.Proofs.YtbfgoopomfenjaaDoorW.PrintWords Go.Proofs.YtbfgoopomfenjaaDoor.PTseitinValues
set_option linter.unusedVariables false
set_option linter.unusedSimpArgs false
attribute [local go_sem] World.cell?_alloc_lt

mutual
def tcmp : S82 → S82 → Int
  | ⟨o1, n1, k1, l1⟩, ⟨o2, n2, k2, l2⟩ => firstNZ [icmp o1 o2, icmp k1 k2, scmp n1 n2, icmp l1.length l2.length, tcmpL l1 l2]
def tcmpL : List S82 → List S82 → Int
  | [], [] => 0
  | [], _ :: _ => -1
  | _ :: _, [] => 1
  | a :: ts, b :: us => if tcmp a b = 0 then tcmpL ts us else tcmp a b
end

mutual
def tsize : S82 → Nat
  | ⟨_, _, _, l⟩ => 1 + sizeL l
def sizeL : List S82 → Nat
  | [] => 0
  | a :: l => tsize a + sizeL l
end

/-- A term's value. -/
abbrev v82 (t : S82) (A : Option Addr) (c : Nat) : Value := .agg #[.int .i64 t.f0, .string t.f1, .int .i64 t.f2, .slice A t.f3.length c]
/-- A term lies at an address. -/
structure T82 (w : World) (a : Addr) (t : S82) (A : Option Addr) (c : Nat) : Prop where
  c0 : w.cell? a = some (.int .i64 t.f0)
  c1 : w.cell? ⟨a.block, a.off + 1, none⟩ = some (.string t.f1)
  c2 : w.cell? ⟨a.block, a.off + 2, none⟩ = some (.int .i64 t.f2)
  c3 : w.cell? ⟨a.block, a.off + 3, none⟩ = some (.slice A t.f3.length c)
  le : t.f3.length ≤ c
  C : k82.C w A t.f3.length t.f3
theorem T82.lt {w : World} {a : Addr} {t : S82} {A : Option Addr} {c : Nat} (h : T82 w a t A c) : a.block < w.heap.size := World.block_lt_of_cell? w _ h.c0
theorem T82.below {w w1 : World} {a : Addr} {t : S82} {A : Option Addr} {c : Nat} (h : T82 w a t A c) (hb : Below w.heap.size w w1) : T82 w1 a t A c :=
  ⟨(hb.cell h.lt).trans h.c0, (hb.cell (p := ⟨a.block, a.off + 1, none⟩) h.lt).trans h.c1, (hb.cell (p := ⟨a.block, a.off + 2, none⟩) h.lt).trans h.c2, (hb.cell (p := ⟨a.block, a.off + 3, none⟩) h.lt).trans h.c3, h.le, Kd.C_below h.C hb⟩
theorem T82.cells {w : World} {a : Addr} {t : S82} {A : Option Addr} {c : Nat} (h : T82 w a t A c) :
    w.cell? a = some (.int .i64 t.f0) ∧ w.cell? ⟨a.block, a.off + 1, none⟩ = some (.string t.f1) ∧ w.cell? ⟨a.block, a.off + 2, none⟩ = some (.int .i64 t.f2) ∧ w.cell? ⟨a.block, a.off + 3, none⟩ = some (.slice A t.f3.length c) ∧
    a.block < w.heap.size ∧ ∀ n, a.block < w.heap.size + n := ⟨h.c0, h.c1, h.c2, h.c3, h.lt, fun n => Nat.lt_of_lt_of_le h.lt (Nat.le_add_right _ _)⟩
/-- A box of a term. -/
theorem T82.box {w : World} {b : Nat} {t : S82} {A : Option Addr} {c : Nat} (h : T82 w ⟨b, 0, none⟩ t A c) :
    w.cell? ⟨b, 0, none⟩ = some (.int .i64 t.f0) ∧ w.cell? ⟨b, 1, none⟩ = some (.string t.f1) ∧ w.cell? ⟨b, 2, none⟩ = some (.int .i64 t.f2) ∧ w.cell? ⟨b, 3, none⟩ = some (.slice A t.f3.length c) ∧
    b < w.heap.size ∧ ∀ n, b < w.heap.size + n := ⟨h.c0, h.c1, h.c2, h.c3, h.lt, fun n => Nat.lt_of_lt_of_le h.lt (Nat.le_add_right _ _)⟩
theorem T82.mk_box {w w1 : World} {b : Nat} {t : S82} {A : Option Addr} {c : Nat} (hw : w1.heap[b]? = some (.cells #[.int .i64 t.f0, .string t.f1, .int .i64 t.f2, .slice A t.f3.length c] 82 (0, 0))) (hl : t.f3.length ≤ c) (hC : k82.C w A t.f3.length t.f3) (hb : Below w.heap.size w w1) : T82 w1 ⟨b, 0, none⟩ t A c :=
  ⟨blk_cell hw 0, blk_cell hw 1, blk_cell hw 2, blk_cell hw 3, hl, Kd.C_below hC hb⟩

theorem at82 {w : World} {A : Option Addr} {n : Nat} {xs : List S82} (h : k82.C w A n xs) (k : Nat) (hk : k < n) :
    ∃ t ad A3 c3, xs[k]? = some t ∧ A = some ad ∧ T82 w (ad.add (k * 4)) t A3 c3 := by
  obtain ⟨ad, A3, c3, e, h0, h1, h2, h3, hl, hC⟩ := at_T82 h (k : Int) (by omega) (by omega)
  simp only [Int.toNat_natCast] at h0 h1 h2 h3
  have hkl : k < xs.length := by rw [h.1]; exact hk
  refine ⟨rd_T82 xs (k : Int), ad, A3, c3, ?_, e, h0, h1, h2, h3, hl, hC⟩
  simp [rd_T82, List.getElem?_eq_getElem hkl]

theorem tcmpL_drop {ts us : List S82} {k : Nat} {a b : S82} (ha : ts[k]? = some a) (hb : us[k]? = some b) :
    tcmpL (ts.drop k) (us.drop k) = if tcmp a b = 0 then tcmpL (ts.drop (k+1)) (us.drop (k+1)) else tcmp a b := by
  obtain ⟨h1, rfl⟩ := List.getElem?_eq_some_iff.1 ha
  obtain ⟨h2, rfl⟩ := List.getElem?_eq_some_iff.1 hb
  rw [List.drop_eq_getElem_cons h1, List.drop_eq_getElem_cons h2, tcmpL]
theorem tcmpL_left {ts us : List S82} {k : Nat} {a : S82} (ha : ts[k]? = some a) (hb : us.length ≤ k) : tcmpL (ts.drop k) (us.drop k) = 1 := by
  obtain ⟨h1, rfl⟩ := List.getElem?_eq_some_iff.1 ha
  rw [List.drop_eq_getElem_cons h1, List.drop_of_length_le hb, tcmpL]
theorem tcmpL_end {ts us : List S82} {k : Nat} (ha : ts.length ≤ k) (hk : k ≤ us.length) : tcmpL (ts.drop k) (us.drop k) = if k < us.length then -1 else 0 := by
  rw [List.drop_of_length_le ha]
  split
  · rename_i h
    rw [List.drop_eq_getElem_cons h, tcmpL]
  · rw [List.drop_of_length_le (by omega), tcmpL]

/-- What a contract of term.Compare says at two terms. -/
def TC (a b : S82) : Prop := ∀ (A : Option Addr) (c : Nat) (B : Option Addr) (d : Nat) (w : World), a.f3.length ≤ c → b.f3.length ≤ d → k82.C w A a.f3.length a.f3 → k82.C w B b.f3.length b.f3 →
  Calls Tryd.prog 92 #[v82 a A c, v82 b B d] w fun e w' => e = .returned (.int .i64 (tcmp a b)) ∧ Below w.heap.size w w'

set_option maxHeartbeats 1000000 in
theorem compareFunc (ts us : List S82) (A : Option Addr) (c : Nat) (B : Option Addr) (d : Nat) (w : World) (hc : ts.length ≤ c) (hd : us.length ≤ d) (ha : k82.C w A ts.length ts) (hb : k82.C w B us.length us)
    (hT : ∀ (k : Nat) (a b : S82), ts[k]? = some a → us[k]? = some b → TC a b) :
    Calls Tryd.prog 103 #[.slice A ts.length c, .slice B us.length d, .func (.func 92) #[] #[]] w fun e w' => e = .returned (.int .i64 (tcmpL ts us)) ∧ Below w.heap.size w w' := by
  have HA := Aside0.mk ha
  have HB := Aside0.mk hb
  have HT := Aside0.mk hT
  have hla := ha.2.1
  have hlb := hb.2.1
  clear ha hb hT
  generalize hn : ts.length = n at *
  generalize hm : us.length = m at *
  have HN := Aside0.mk hn
  have HM := Aside0.mk hm
  clear hn hm
  go_enter Tryd.func103, Tryd.ntmps103
  go_wp2
  go_loopw [7, 8, 9, 10, 13] (fun _ _ _ _ i wr => ∃ k : Nat, k ≤ n ∧ k ≤ m ∧ i = .int .i64 k ∧ Aside0 (tcmpL ts us = tcmpL (ts.drop k) (us.drop k)) ∧ Aside0 (Below w.heap.size w wr)) (fun _ _ _ _ i _ => n - (intOf i).toNat)
  case atStart => exact ⟨0, Nat.zero_le _, Nat.zero_le _, rfl, ⟨rfl⟩, ⟨Below.refl _ _⟩⟩
  case round =>
    obtain ⟨k, hk, hkm, rfl, HF, HBW⟩ := hrel
    by_cases hlt : k < n
    · obtain ⟨t, ad, A3, c3, ht, rfl, X0⟩ := at82 HA.out k hlt
      have X := X0.below HBW.out
      have HTT := Aside0.mk ht
      clear ht X0
      obtain ⟨h0, h1, h2, h3, hl0, hln⟩ := X.cells
      by_cases hltm : k < m
      · obtain ⟨u, bd, B3, d3, hu, rfl, Y0⟩ := at82 HB.out k hltm
        have Y := Y0.below HBW.out
        obtain ⟨g0, g1, g2, g3, gl0, gln⟩ := Y.cells
        have hTC := Aside0.mk (HT.out k t u HTT.out hu)
        have HF1 := Aside0.mk (HF.out.trans (tcmpL_drop HTT.out hu))
        clear hu Y0 HT
        go_wp2_with fail
        have hBB : Below wr.heap.size wr ((wr.alloc (.cells #[.int .i64 t.f0, .string t.f1, .int .i64 t.f2, .slice A3 t.f3.length c3] 82)).alloc (.cells #[.int .i64 u.f0, .string u.f1, .int .i64 u.f2, .slice B3 u.f3.length d3] 82)) := (((Below.refl _ _).alloc (Nat.le_refl _) _).alloc (by simp) _)
        refine (hTC.out A3 c3 B3 d3 _ X.le Y.le (Kd.C_below X.C hBB) (Kd.C_below Y.C hBB)).mono ?_
        rintro e w1 ⟨rfl, hb1⟩
        have HBW1 := Aside0.mk (below_step HBW.out (below_step hBB hb1))
        clear hBB hb1 h0 h1 h2 h3 hl0 hln g0 g1 g2 g3 gl0 gln
        by_cases hz : tcmp t u = 0
        · have hzb : (tcmp t u != 0) = false := by simpa using hz
          have HF2 := Aside0.mk (HF1.out.trans (if_pos hz))
          clear hz
          go_wp2
          go_roundw
          case rel => exact ⟨k+1, by omega, by omega, by go_num, HF2, HBW1⟩
          case measure => simp [intOf]; omega
        · have hzb : (tcmp t u != 0) = true := by simpa using hz
          have HF2 := Aside0.mk (HF1.out.trans (if_neg hz))
          clear hz
          go_wp2
          go_ret
          exact ⟨by rw [HF2.out]; rfl, HBW1.out⟩
      · have HF1 := Aside0.mk (HF.out.trans (tcmpL_left HTT.out (by rw [HM.out]; omega)))
        go_wp2_with fail
        go_ret
        exact ⟨by rw [HF1.out]; rfl, below_alloc HBW.out _⟩
    · obtain rfl : k = n := by omega
      have HF1 := Aside0.mk (HF.out.trans (tcmpL_end (by rw [HN.out]; omega) (by rw [HM.out]; omega)))
      rw [HM.out] at HF1
      by_cases hlm : k < m
      · rw [if_pos hlm] at HF1
        go_wp2_with fail
        go_ret
        exact ⟨by rw [HF1.out]; rfl, HBW.out⟩
      · rw [if_neg hlm] at HF1
        go_wp2_with fail
        go_ret
        exact ⟨by rw [HF1.out]; rfl, HBW.out⟩


theorem tcmp_eq (a b : S82) : tcmp a b = firstNZ [icmp a.f0 b.f0, icmp a.f2 b.f2, scmp a.f1 b.f1, icmp a.f3.length b.f3.length, tcmpL a.f3 b.f3] := by
  cases a; cases b; rw [tcmp]

theorem cmp_or5 (x0 x1 x2 x3 x4 : Int) (w : World) : Calls Tryd.prog 91 #[.slice (some ⟨w.heap.size, 0, none⟩) 5 5] (w.alloc (.cells #[.int .i64 x0, .int .i64 x1, .int .i64 x2, .int .i64 x3, .int .i64 x4] 3)) fun e w' =>
    e = .returned (.int .i64 (firstNZ [x0, x1, x2, x3, x4])) ∧ w.alloc (.cells #[.int .i64 x0, .int .i64 x1, .int .i64 x2, .int .i64 x3, .int .i64 x4] 3) = w' := by
  refine cmp_or w.heap.size [x0, x1, x2, x3, x4] _ (by simp) ?_
  intro j hj
  rw [World.cell?_alloc_new]
  match j, hj with
  | 0, _ => rfl
  | 1, _ => rfl
  | 2, _ => rfl
  | 3, _ => rfl
  | 4, _ => rfl
  | j + 5, h => simp at h; omega
theorem cmp_or3 (b : Nat) (x0 x1 x2 : Int) (w : World) (h : w.cell? ⟨b, 0, none⟩ = some (.int .i64 x0) ∧ w.cell? ⟨b, 1, none⟩ = some (.int .i64 x1) ∧ w.cell? ⟨b, 2, none⟩ = some (.int .i64 x2)) :
    Calls Tryd.prog 91 #[.slice (some ⟨b, 0, none⟩) 3 3] w fun e w' => e = .returned (.int .i64 (firstNZ [x0, x1, x2])) ∧ w = w' := by
  refine cmp_or b [x0, x1, x2] _ (by simp) ?_
  intro j hj
  match j, hj with
  | 0, _ => exact h.1
  | 1, _ => exact h.2.1
  | 2, _ => exact h.2.2
  | j + 3, h => simp at h; omega

set_option maxHeartbeats 1000000 in
theorem compare_step (a b : S82) (hT : ∀ (k : Nat) (x y : S82), a.f3[k]? = some x → b.f3[k]? = some y → TC x y) : TC a b := by
  intro A c B d w hc hd hA hB
  have HT := Aside0.mk hT
  have HR := Aside0.mk (tcmp_eq a b)
  have hla := hA.2.1
  have hlb := hB.2.1
  go_enter Tryd.func92, Tryd.ntmps92
  go_wp2_with fail
  generalize hW : (w.alloc (.cells #[.int .i64 a.f0, .string a.f1, .int .i64 a.f2, .slice A a.f3.length c] 82)).alloc (.cells #[.int .i64 b.f0, .string b.f1, .int .i64 b.f2, .slice B b.f3.length d] 82) = W0
  generalize hN : w.heap.size = N
  have hBW : Below w.heap.size w W0 := by rw [← hW]; exact ((Below.refl _ _).alloc (Nat.le_refl _) _).alloc (by simp) _
  have X : T82 W0 ⟨N, 0, none⟩ a A c := T82.mk_box (w := w) (by rw [← hW, ← hN, Below.heap_alloc _ _ _ (by simp)]; exact blk_new _ _) hc hA hBW
  have Y : T82 W0 ⟨N + 1, 0, none⟩ b B d := T82.mk_box (w := w) (by rw [← hW, ← hN, ← World.size_alloc w (.cells #[.int .i64 a.f0, .string a.f1, .int .i64 a.f2, .slice A a.f3.length c] 82)]; exact blk_new _ _) hd hB hBW
  have hBW' := Aside0.mk hBW
  clear hBW hW hN hA hB
  obtain ⟨h0, h1, h2, h3, hl0, hln⟩ := X.box
  obtain ⟨g0, g1, g2, g3, gl0, gln⟩ := Y.box
  go_region_held3 (fun W => W.cell? ⟨N, 0, none⟩ = some (.int .i64 a.f0) ∧ W.cell? ⟨N, 1, none⟩ = some (.string a.f1) ∧ W.cell? ⟨N, 2, none⟩ = some (.int .i64 a.f2) ∧ W.cell? ⟨N, 3, none⟩ = some (.slice A a.f3.length c) ∧ W.cell? ⟨N + 1, 0, none⟩ = some (.int .i64 b.f0) ∧ W.cell? ⟨N + 1, 1, none⟩ = some (.string b.f1) ∧ W.cell? ⟨N + 1, 2, none⟩ = some (.int .i64 b.f2) ∧ W.cell? ⟨N + 1, 3, none⟩ = some (.slice B b.f3.length d)) (go_keep) (first | (go_at_call 89; refine (cmp_int _ _ _).mono ?_; rintro e w' ⟨rfl, rfl⟩) | (go_at_call 102; refine (cmp_int64 _ _ _).mono ?_; rintro e w' ⟨rfl, rfl⟩) | (go_at_call 90; refine (cmp_string _ _ _).mono ?_; rintro e w' ⟨rfl, rfl⟩) | (go_at_call 103; refine (compareFunc a.f3 b.f3 A c B d _ hc hd (Kd.C_drew X.C) (Kd.C_drew Y.C) HT.out).mono ?_; rintro e w1 ⟨rfl, hb⟩; have X1 := (X.below (Below.refl _ _).drew).below hb; have Y1 := (Y.below (Below.refl _ _).drew).below hb; obtain ⟨k0, k1, k2, k3, kl0, kln⟩ := X1.box; obtain ⟨m0, m1, m2, m3, ml0, mln⟩ := Y1.box) | (go_at_call 91; refine (cmp_or5 _ _ _ _ _ _).mono ?_; rintro e w' ⟨rfl, rfl⟩))
  go_wp2
  go_ret
  exact ⟨by rw [HR.out]; rfl, below_alloc (below_step hBW'.out (below_step (Below.refl _ _).drew hb)) _⟩

theorem tsize_eq (a : S82) : tsize a = 1 + sizeL a.f3 := by cases a; rw [tsize]
theorem sizeL_mem {l : List S82} {x : S82} (h : x ∈ l) : tsize x ≤ sizeL l := by
  induction l with
  | nil => cases h
  | cons a l ih =>
    rw [sizeL]
    rcases List.mem_cons.1 h with rfl | h
    · omega
    · have := ih h; omega
theorem tsize_arg {a x : S82} {k : Nat} (h : a.f3[k]? = some x) : tsize x < tsize a := by
  have := sizeL_mem (List.mem_of_getElem? h)
  rw [tsize_eq a]; omega

/-- term.Compare's contract, at all terms. -/
theorem term_compare (n : Nat) : ∀ a b : S82, tsize a ≤ n → TC a b := by
  induction n with
  | zero => intro a b h; rw [tsize_eq] at h; omega
  | succ n ih => exact fun a b h => compare_step a b fun k x y hx _ => ih x y (by have := tsize_arg hx; omega)

end Go.Proofs.YtbfgoopomfenjaaDoor
namespace Go.Proofs.YtbfgoopomfenjaaDoor
open Go.RowKit Go.Proofs.YtbfgoopomfenjaaDoorW.PrintWords Go.Proofs.YtbfgoopomfenjaaDoor.PTseitinValues
set_option linter.unusedVariables false
set_option linter.unusedSimpArgs false

/-! The plain part: comparing gives 0 just for what is the same. -/
theorem toList_data (a : ByteArray) : a.toList = a.data.toList := by
  have key : ∀ (n i : Nat) (r : List UInt8), a.size - i = n → ByteArray.toList.loop a i r = r.reverse ++ a.data.toList.drop i := by
    intro n
    induction n with
    | zero =>
      intro i r h
      rw [ByteArray.toList.loop.eq_1, if_neg (by omega), List.drop_of_length_le (by rw [Array.length_toList]; show a.size ≤ i; omega), List.append_nil]
    | succ n ih =>
      intro i r h
      have hi : i < a.data.toList.length := by rw [Array.length_toList]; show i < a.size; omega
      rw [ByteArray.toList.loop.eq_1, if_pos (by omega), ih (i + 1) _ (by omega), List.drop_eq_getElem_cons hi, List.reverse_cons, List.append_assoc]
      congr 1
      have hg : a.get! i = a.data.toList[i] := by
        have hi' : i < a.data.size := by simpa using hi
        show a.data[i]! = _
        rw [getElem!_pos a.data i hi']
        rfl
      rw [hg]; rfl
  have := key a.size 0 [] (by omega)
  simpa [ByteArray.toList] using this
theorem toList_inj {a b : ByteArray} (h : a.toList = b.toList) : a = b := by
  rw [toList_data, toList_data] at h
  cases a with
  | mk x =>
    cases b with
    | mk y =>
      have : x = y := Array.toList_inj.1 h
      rw [this]
theorem scmp_zero {a b : ByteArray} : scmp a b = 0 ↔ a = b := by
  unfold scmp
  constructor
  · intro h
    split at h
    · omega
    · split at h
      · rename_i h2; exact toList_inj (beq_iff_eq.1 h2)
      · omega
  · rintro rfl
    have h1 : Op.bytesLess a.toList a.toList = false := by
      generalize a.toList = l
      induction l with
      | nil => rfl
      | cons x l ih => simp [Op.bytesLess, ih]
    simp [h1]
theorem icmp_zero {a b : Int} : icmp a b = 0 ↔ a = b := by
  unfold icmp; constructor
  · intro h; split at h
    · omega
    · split at h <;> omega
  · rintro rfl; simp
theorem firstNZ_zero {l : List Int} : firstNZ l = 0 ↔ ∀ x ∈ l, x = 0 := by
  induction l with
  | nil => simp [firstNZ]
  | cons a l ih =>
    rw [firstNZ]
    split
    · rename_i h; subst h; simp [ih]
    · rename_i h; simp [h]
theorem tcmp_zero_both (n : Nat) : (∀ a b : S82, tsize a ≤ n → (tcmp a b = 0 ↔ a = b)) := by
  induction n with
  | zero => intro a b h; rw [tsize_eq] at h; omega
  | succ n ih =>
    have hl : ∀ l m : List S82, sizeL l ≤ n → (tcmpL l m = 0 ↔ l = m) := by
      intro l
      induction l with
      | nil => intro m _; cases m with
        | nil => simp [tcmpL]
        | cons b m => simp [tcmpL]
      | cons a l ih2 =>
        intro m hs
        rw [sizeL] at hs
        cases m with
        | nil => simp [tcmpL]
        | cons b m =>
          have h1 := ih a b (by omega)
          have h2 := ih2 m (by omega)
          rw [tcmpL]
          split
          · rename_i h; rw [h2, h1.1 h]; simp
          · rename_i h
            constructor
            · intro h'; exact absurd h' h
            · intro h'; injection h' with h3 h4; exact absurd (h1.2 h3) h
    intro a b h
    rw [tsize_eq] at h
    rw [tcmp_eq, firstNZ_zero]
    have h5 := hl a.f3 b.f3 (by omega)
    cases a; cases b
    simp only [List.mem_cons, List.not_mem_nil, or_false, forall_eq_or_imp, forall_eq, icmp_zero, scmp_zero] at *
    simp only [S82.mk.injEq]
    rw [h5]
    constructor
    · rintro ⟨rfl, rfl, rfl, _, rfl⟩; exact ⟨rfl, rfl, rfl, rfl⟩
    · rintro ⟨rfl, rfl, rfl, rfl⟩; exact ⟨rfl, rfl, rfl, rfl, rfl⟩
theorem tcmp_zero {a b : S82} : tcmp a b = 0 ↔ a = b := tcmp_zero_both _ a b (Nat.le_refl _)

/-- Are two claims the same, but for what binders are called? -/
def bind (o : Int) : Bool := o == 11 || o == 12
mutual
def same : S41 → S41 → Bool
  | ⟨o1, n1, s1, t1, u1⟩, ⟨o2, n2, s2, t2, u2⟩ => o1 == o2 && (bind o1 || decide (n1 = n2)) && decide (s1 = s2) && decide (tcmpL t1 t2 = 0) && sameL u1 u2
def sameL : List S41 → List S41 → Bool
  | [], [] => true
  | [], _ :: _ => false
  | _ :: _, [] => false
  | a :: ts, b :: us => same a b && sameL ts us
end
mutual
def csize : S41 → Nat
  | ⟨_, _, _, l, m⟩ => 1 + sizeL l + csizeL m
def csizeL : List S41 → Nat
  | [] => 0
  | a :: l => csize a + csizeL l
end
theorem csize_eq (a : S41) : csize a = 1 + sizeL a.f3 + csizeL a.f4 := by cases a; rw [csize]
theorem csizeL_mem {l : List S41} {x : S41} (h : x ∈ l) : csize x ≤ csizeL l := by
  induction l with
  | nil => cases h
  | cons a l ih =>
    rw [csizeL]
    rcases List.mem_cons.1 h with rfl | h
    · omega
    · have := ih h; omega
theorem csize_sub {a x : S41} {k : Nat} (h : a.f4[k]? = some x) : csize x < csize a := by
  have := csizeL_mem (List.mem_of_getElem? h)
  rw [csize_eq a]; omega
theorem same_eq (a b : S41) : same a b = (a.f0 == b.f0 && (bind a.f0 || decide (a.f1 = b.f1)) && decide (a.f2 = b.f2) && decide (tcmpL a.f3 b.f3 = 0) && sameL a.f4 b.f4) := by
  cases a; cases b; rw [same]
theorem tcmpL_len {l m : List S82} (h : tcmpL l m = 0) : l.length = m.length := by
  induction l generalizing m with
  | nil => cases m with
    | nil => rfl
    | cons b m => simp [tcmpL] at h
  | cons a l ih => cases m with
    | nil => simp [tcmpL] at h
    | cons b m =>
      rw [tcmpL] at h
      split at h
      · simp [ih h]
      · rename_i h'; exact absurd h h'
theorem sameL_len {l m : List S41} (h : sameL l m = true) : l.length = m.length := by
  induction l generalizing m with
  | nil => cases m with
    | nil => rfl
    | cons b m => simp [sameL] at h
  | cons a l ih => cases m with
    | nil => simp [sameL] at h
    | cons b m =>
      rw [sameL, Bool.and_eq_true] at h
      simp [ih h.2]
theorem sameL_drop {ts us : List S41} {k : Nat} {a b : S41} (ha : ts[k]? = some a) (hb : us[k]? = some b) :
    sameL (ts.drop k) (us.drop k) = (same a b && sameL (ts.drop (k+1)) (us.drop (k+1))) := by
  obtain ⟨h1, rfl⟩ := List.getElem?_eq_some_iff.1 ha
  obtain ⟨h2, rfl⟩ := List.getElem?_eq_some_iff.1 hb
  rw [List.drop_eq_getElem_cons h1, List.drop_eq_getElem_cons h2, sameL]

end Go.Proofs.YtbfgoopomfenjaaDoor
namespace Go.Proofs.YtbfgoopomfenjaaDoor
open Go.RowKit Go.Proofs.YtbfgoopomfenjaaDoorW.PrintWords Go.Proofs.YtbfgoopomfenjaaDoor.PTseitinValues
set_option linter.unusedVariables false
set_option linter.unusedSimpArgs false
attribute [local go_sem] World.cell?_alloc_lt

abbrev v41 (t : S41) (A : Option Addr) (c : Nat) (B : Option Addr) (d : Nat) : Value := .agg #[.int .i64 t.f0, .string t.f1, .string t.f2, .slice A t.f3.length c, .slice B t.f4.length d]
abbrev c41 (t : S41) (A : Option Addr) (c : Nat) (B : Option Addr) (d : Nat) : Array Value := #[.int .i64 t.f0, .string t.f1, .string t.f2, .slice A t.f3.length c, .slice B t.f4.length d]
/-- What a claim's value refers to lies in memory. -/
structure P41 (w : World) (t : S41) (A : Option Addr) (c : Nat) (B : Option Addr) (d : Nat) : Prop where
  le1 : t.f3.length ≤ c
  C1 : k82.C w A t.f3.length t.f3
  le2 : t.f4.length ≤ d
  C2 : k41.C w B t.f4.length t.f4
theorem P41.below {w w1 : World} {t : S41} {A : Option Addr} {c : Nat} {B : Option Addr} {d : Nat} (h : P41 w t A c B d) (hb : Below w.heap.size w w1) : P41 w1 t A c B d :=
  ⟨h.le1, Kd.C_below h.C1 hb, h.le2, Kd.C_below h.C2 hb⟩
/-- A claim lies at an address. -/
structure T41 (w : World) (a : Addr) (t : S41) (A : Option Addr) (c : Nat) (B : Option Addr) (d : Nat) : Prop where
  c0 : w.cell? a = some (.int .i64 t.f0)
  c1 : w.cell? ⟨a.block, a.off + 1, none⟩ = some (.string t.f1)
  c2 : w.cell? ⟨a.block, a.off + 2, none⟩ = some (.string t.f2)
  c3 : w.cell? ⟨a.block, a.off + 3, none⟩ = some (.slice A t.f3.length c)
  c4 : w.cell? ⟨a.block, a.off + 4, none⟩ = some (.slice B t.f4.length d)
  P : P41 w t A c B d
theorem T41.lt {w : World} {a : Addr} {t : S41} {A : Option Addr} {c : Nat} {B : Option Addr} {d : Nat} (h : T41 w a t A c B d) : a.block < w.heap.size := World.block_lt_of_cell? w _ h.c0
theorem T41.below {w w1 : World} {a : Addr} {t : S41} {A : Option Addr} {c : Nat} {B : Option Addr} {d : Nat} (h : T41 w a t A c B d) (hb : Below w.heap.size w w1) : T41 w1 a t A c B d :=
  ⟨(hb.cell h.lt).trans h.c0, (hb.cell (p := ⟨a.block, a.off + 1, none⟩) h.lt).trans h.c1, (hb.cell (p := ⟨a.block, a.off + 2, none⟩) h.lt).trans h.c2, (hb.cell (p := ⟨a.block, a.off + 3, none⟩) h.lt).trans h.c3, (hb.cell (p := ⟨a.block, a.off + 4, none⟩) h.lt).trans h.c4, h.P.below hb⟩
theorem T41.cells {w : World} {a : Addr} {t : S41} {A : Option Addr} {c : Nat} {B : Option Addr} {d : Nat} (h : T41 w a t A c B d) :
    w.cell? a = some (.int .i64 t.f0) ∧ w.cell? ⟨a.block, a.off + 1, none⟩ = some (.string t.f1) ∧ w.cell? ⟨a.block, a.off + 2, none⟩ = some (.string t.f2) ∧ w.cell? ⟨a.block, a.off + 3, none⟩ = some (.slice A t.f3.length c) ∧ w.cell? ⟨a.block, a.off + 4, none⟩ = some (.slice B t.f4.length d) ∧
    a.block < w.heap.size ∧ ∀ n, a.block < w.heap.size + n := ⟨h.c0, h.c1, h.c2, h.c3, h.c4, h.lt, fun n => Nat.lt_of_lt_of_le h.lt (Nat.le_add_right _ _)⟩
theorem T41.box {w : World} {b : Nat} {t : S41} {A : Option Addr} {c : Nat} {B : Option Addr} {d : Nat} (h : T41 w ⟨b, 0, none⟩ t A c B d) :
    w.cell? ⟨b, 0, none⟩ = some (.int .i64 t.f0) ∧ w.cell? ⟨b, 1, none⟩ = some (.string t.f1) ∧ w.cell? ⟨b, 2, none⟩ = some (.string t.f2) ∧ w.cell? ⟨b, 3, none⟩ = some (.slice A t.f3.length c) ∧ w.cell? ⟨b, 4, none⟩ = some (.slice B t.f4.length d) ∧
    b < w.heap.size ∧ ∀ n, b < w.heap.size + n := ⟨h.c0, h.c1, h.c2, h.c3, h.c4, h.lt, fun n => Nat.lt_of_lt_of_le h.lt (Nat.le_add_right _ _)⟩
theorem T41.mk_box {w w1 : World} {b : Nat} {t : S41} {A : Option Addr} {c : Nat} {B : Option Addr} {d : Nat} (hw : w1.heap[b]? = some (.cells (c41 t A c B d) 41 (0, 0))) (hP : P41 w t A c B d) (hb : Below w.heap.size w w1) : T41 w1 ⟨b, 0, none⟩ t A c B d :=
  ⟨blk_cell hw 0, blk_cell hw 1, blk_cell hw 2, blk_cell hw 3, blk_cell hw 4, hP.below hb⟩
theorem at41 {w : World} {A : Option Addr} {n : Nat} {xs : List S41} (h : k41.C w A n xs) (k : Nat) (hk : k < n) :
    ∃ t ad A3 c3 A4 c4, xs[k]? = some t ∧ A = some ad ∧ T41 w (ad.add (k * 5)) t A3 c3 A4 c4 := by
  obtain ⟨ad, A3, c3, A4, c4, e, h0, h1, h2, h3, h4, hl3, hC3, hl4, hC4⟩ := at_T41 h (k : Int) (by omega) (by omega)
  simp only [Int.toNat_natCast] at h0 h1 h2 h3 h4
  have hkl : k < xs.length := by rw [h.1]; exact hk
  refine ⟨rd_T41 xs (k : Int), ad, A3, c3, A4, c4, ?_, e, h0, h1, h2, h3, h4, hl3, hC3, hl4, hC4⟩
  simp [rd_T41, List.getElem?_eq_getElem hkl]

set_option maxHeartbeats 400000 in
theorem binder_any (t : S41) (A : Option Addr) (c : Nat) (B : Option Addr) (d : Nat) (w : World) : Calls Tryd.prog 76 #[v41 t A c B d] w fun e w' => e = .returned (.bool (bind t.f0)) ∧ Below w.heap.size w w' := by
  by_cases h1 : t.f0 = 11
  · have hb1 : (t.f0 == 11) = true := by simpa using h1
    have hr := Aside0.mk (show bind t.f0 = true by simp [bind, h1])
    clear h1
    go_enter Tryd.func76, Tryd.ntmps76
    go_wp2
    go_ret
    exact ⟨by rw [hr.out]; rfl, below_alloc (Below.refl _ _) _⟩
  · have hb1 : (t.f0 == 11) = false := by simpa using h1
    have hr := Aside0.mk (show bind t.f0 = (t.f0 == 12) by simp [bind, h1])
    clear h1
    go_enter Tryd.func76, Tryd.ntmps76
    go_wp2
    go_ret
    exact ⟨by rw [hr.out]; rfl, below_alloc (Below.refl _ _) _⟩

/-- What claim.Compare's contract says at two claims. -/
def Cmp0 (p : Bool) (w : World) (e : Ending) (w' : World) : Prop := ∃ r : Int, e = .returned (.int .i64 r) ∧ (r = 0 ↔ p = true) ∧ Below w.heap.size w w'
def CC (a b : S41) : Prop := ∀ (A : Option Addr) (c : Nat) (B : Option Addr) (d : Nat) (A' : Option Addr) (c' : Nat) (B' : Option Addr) (d' : Nat) (w : World), P41 w a A c B d → P41 w b A' c' B' d' →
  Calls Tryd.prog 79 #[v41 a A c B d, v41 b A' c' B' d'] w (Cmp0 (same a b) w)

set_option maxRecDepth 100000 in
set_option maxHeartbeats 1000000 in
theorem ccompare_step (a b : S41) (hT : ∀ (k : Nat) (x y : S41), a.f4[k]? = some x → b.f4[k]? = some y → CC x y) : CC a b := by
  intro A c B d A' c' B' d' w hP hQ
  have HT := Aside0.mk hT
  have HR := Aside0.mk (same_eq a b)
  have hla := hP.C1.2.1
  have hlb := hQ.C1.2.1
  have hla' := hP.C2.2.1
  have hlb' := hQ.C2.2.1
  go_enter Tryd.func79, Tryd.ntmps79
  go_upto_region 1 with fail
  generalize hW : (w.alloc (.cells (c41 a A c B d) 41)).alloc (.cells (c41 b A' c' B' d') 41) = W0
  generalize hN : w.heap.size = N
  have hBW : Below w.heap.size w W0 := by rw [← hW]; exact ((Below.refl _ _).alloc (Nat.le_refl _) _).alloc (by simp) _
  have X : T41 W0 ⟨N, 0, none⟩ a A c B d := T41.mk_box (w := w) (by rw [← hW, ← hN, Below.heap_alloc _ _ _ (by simp)]; exact blk_new _ _) hP hBW
  have Y : T41 W0 ⟨N + 1, 0, none⟩ b A' c' B' d' := T41.mk_box (w := w) (by rw [← hW, ← hN, ← World.size_alloc w (.cells (c41 a A c B d) 41)]; exact blk_new _ _) hQ hBW
  have hBW' := Aside0.mk hBW
  clear hBW hW hN hP hQ
  obtain ⟨h0, h1, h2, h3, h4, hl0, hln⟩ := X.box
  obtain ⟨g0, g1, g2, g3, g4, gl0, gln⟩ := Y.box
  rename_i K0 hK0
  have HK0 := Aside0.mk hK0
  clear hK0
  go_wp2_with (go_at_call 89; refine (cmp_int _ _ _).mono ?_; rintro e w' ⟨rfl, rfl⟩)
  refine HK0.out _ _ ?_
  clear HK0
  apply wp_seq_k
  intro K1 hK1
  go_cut [5] (fun v wx => ∃ m : Int, v = .int .i64 m ∧ Aside0 (m = 0 ↔ (a.f0 == b.f0 && (bind a.f0 || decide (a.f1 = b.f1))) = true) ∧ Aside0 (Below W0.heap.size W0 wx))
  case first =>
    by_cases hz : icmp a.f0 b.f0 = 0
    · have he := icmp_zero.1 hz
      have hz2 : (icmp a.f0 b.f0 == 0) = true := by rw [hz]; rfl
      have HE := Aside0.mk (show (a.f0 == b.f0) = true by rw [he]; simp)
      clear he
      by_cases hbi : bind a.f0 = true
      · have HM : Aside0 (icmp a.f0 b.f0 = 0 ↔ (a.f0 == b.f0 && (bind a.f0 || decide (a.f1 = b.f1))) = true) := ⟨by rw [HE.out, hbi, hz]; simp⟩
        clear hz
        go_wp2_with (first | (go_at_call 76; refine (binder_any a A c B d _).mono ?_; rintro e w1 ⟨rfl, hb⟩; have hb' := Aside0.mk hb; clear hb))
        go_meet
        case rel => exact ⟨_, rfl, HM, hb'⟩
      · have hbi : bind a.f0 = false := by simpa using hbi
        have HM : Aside0 (scmp a.f1 b.f1 = 0 ↔ (a.f0 == b.f0 && (bind a.f0 || decide (a.f1 = b.f1))) = true) := ⟨by rw [HE.out, hbi, scmp_zero]; simp⟩
        clear hz
        go_wp2_with (first | (go_at_call 76; refine (binder_any a A c B d _).mono ?_; rintro e w1 ⟨rfl, hb⟩; have X1 := X.below hb; have Y1 := Y.below hb; obtain ⟨k0, k1, k2, k3, k4, kl0, kln⟩ := X1.box; obtain ⟨m0, m1, m2, m3, m4, ml0, mln⟩ := Y1.box; have hb' := Aside0.mk hb; clear hb) | (go_at_call 90; refine (cmp_string _ _ _).mono ?_; rintro e w' ⟨rfl, rfl⟩))
        go_meet
        case rel => exact ⟨_, rfl, HM, hb'⟩
    · have hz2 : (icmp a.f0 b.f0 == 0) = false := by simpa using hz
      have HM : Aside0 (icmp a.f0 b.f0 = 0 ↔ (a.f0 == b.f0 && (bind a.f0 || decide (a.f1 = b.f1))) = true) := ⟨⟨fun h => absurd h hz, fun h => by
        rw [Bool.and_eq_true, beq_iff_eq] at h; exact icmp_zero.2 h.1⟩⟩
      clear hz
      go_wp2_with fail
      go_meet
      case rel => exact ⟨_, rfl, HM, ⟨Below.refl _ _⟩⟩
  case rest =>
    obtain ⟨m, rfl, HM, HB1⟩ := hcut
    have X1 := X.below HB1.out
    have Y1 := Y.below HB1.out
    have HB2 := Aside0.mk (below_step hBW'.out HB1.out)
    clear X Y HB1 hBW' h0 h1 h2 h3 h4 hl0 hln g0 g1 g2 g3 g4 gl0 gln
    obtain ⟨h0, h1, h2, h3, h4, hl0, hln⟩ := X1.box
    obtain ⟨g0, g1, g2, g3, g4, gl0, gln⟩ := Y1.box
    go_wp2_with fail
    go_region_held3 (fun W => W.cell? ⟨N, 2, none⟩ = some (.string a.f2) ∧ W.cell? ⟨N, 3, none⟩ = some (.slice A a.f3.length c) ∧ W.cell? ⟨N + 1, 2, none⟩ = some (.string b.f2) ∧ W.cell? ⟨N + 1, 3, none⟩ = some (.slice A' b.f3.length c')) (go_keep) (first | (go_at_call 89; refine (cmp_int _ _ _).mono ?_; rintro e w' ⟨rfl, rfl⟩) | (go_at_call 90; refine (cmp_string _ _ _).mono ?_; rintro e w' ⟨rfl, rfl⟩) | (go_at_call 91; refine (cmp_or3 _ m (scmp a.f2 b.f2) (icmp a.f3.length b.f3.length) _ (by simp)).mono ?_; rintro e w' ⟨rfl, rfl⟩))
    have HM2 : Aside0 (firstNZ [m, scmp a.f2 b.f2, icmp a.f3.length b.f3.length] = 0 ↔ (a.f0 == b.f0 && (bind a.f0 || decide (a.f1 = b.f1)) && decide (a.f2 = b.f2) && decide (a.f3.length = b.f3.length)) = true) := ⟨by
      rw [firstNZ_zero]
      simp only [List.mem_cons, List.not_mem_nil, or_false, forall_eq_or_imp, forall_eq, HM.out, scmp_zero, icmp_zero, Bool.and_eq_true, decide_eq_true_eq]
      constructor
      · rintro ⟨h1, h2, h3⟩; exact ⟨⟨h1, h2⟩, by omega⟩
      · rintro ⟨⟨h1, h2⟩, h3⟩; exact ⟨h1, h2, by omega⟩⟩
    generalize firstNZ [m, scmp a.f2 b.f2, icmp a.f3.length b.f3.length] = m2 at *
    by_cases hz : m2 = 0
    · have hzb : (m2 != 0) = false := by simpa using hz
      have HALL := Aside0.mk (HM2.out.1 hz)
      simp only [Bool.and_eq_true, decide_eq_true_eq] at HALL
      have hle1 : a.f3.length ≤ b.f3.length := Nat.le_of_eq HALL.out.2
      clear hz
      go_wp2_with fail
      have HBX := Aside0.mk (show Below wc.heap.size wc (wc.alloc (.cells #[.int .i64 m, .int .i64 (scmp a.f2 b.f2), .int .i64 (icmp a.f3.length b.f3.length)] 3)).drew from (below_alloc (Below.refl _ _) _).drew)
      clear h0 h1 h2 h3 h4 hl0 hln g0 g1 g2 g3 g4 gl0 gln
      go_loopw [6, 7, 49] (fun _ _ i wr => ∃ k : Nat, k ≤ a.f3.length ∧ i = .int .i64 k ∧ Aside0 (tcmpL a.f3 b.f3 = tcmpL (a.f3.drop k) (b.f3.drop k)) ∧ Aside0 (Below wc.heap.size wc wr)) (fun _ _ i _ => a.f3.length - (intOf i).toNat)
      case atStart => exact ⟨0, Nat.zero_le _, rfl, ⟨rfl⟩, HBX⟩
      case round =>
        obtain ⟨k, hk, rfl, HF, HBW⟩ := hrel
        have X2 := X1.below HBW.out
        have Y2 := Y1.below HBW.out
        obtain ⟨h0, h1, h2, h3, h4, hl0, hln⟩ := X2.box
        obtain ⟨g0, g1, g2, g3, g4, gl0, gln⟩ := Y2.box
        by_cases hlt : k < a.f3.length
        · have hlt2 : k < b.f3.length := by omega
          obtain ⟨x, ad, A3, c3, hx, rfl, Z⟩ := at82 X2.P.C1 k hlt
          obtain ⟨y, bd, B3, d3, hy, rfl, V⟩ := at82 Y2.P.C1 k hlt2
          have HF1 := Aside0.mk (HF.out.trans (tcmpL_drop hx hy))
          clear hx hy
          obtain ⟨z0, z1, z2, z3, zl0, zln⟩ := Z.cells
          obtain ⟨v0, v1, v2, v3, vl0, vln⟩ := V.cells
          go_wp2_with fail
          go_region_held3 (fun W => W.cell? ⟨N, 3, none⟩ = some (.slice (some ad) a.f3.length c) ∧ W.cell? ⟨N + 1, 3, none⟩ = some (.slice (some bd) b.f3.length c') ∧ W.cell? (ad.add (k * 4)) = some (.int .i64 x.f0) ∧ W.cell? ⟨(ad.add (k * 4)).block, (ad.add (k * 4)).off + 1, none⟩ = some (.string x.f1) ∧ W.cell? ⟨(ad.add (k * 4)).block, (ad.add (k * 4)).off + 2, none⟩ = some (.int .i64 x.f2) ∧ W.cell? ⟨(ad.add (k * 4)).block, (ad.add (k * 4)).off + 3, none⟩ = some (.slice A3 x.f3.length c3) ∧ W.cell? (bd.add (k * 4)) = some (.int .i64 y.f0) ∧ W.cell? ⟨(bd.add (k * 4)).block, (bd.add (k * 4)).off + 1, none⟩ = some (.string y.f1) ∧ W.cell? ⟨(bd.add (k * 4)).block, (bd.add (k * 4)).off + 2, none⟩ = some (.int .i64 y.f2) ∧ W.cell? ⟨(bd.add (k * 4)).block, (bd.add (k * 4)).off + 3, none⟩ = some (.slice B3 y.f3.length d3)) (go_keep) (first | (go_at_call 92; refine (term_compare _ x y (Nat.le_refl _) A3 c3 B3 d3 _ Z.le V.le (Kd.C_drew Z.C) (Kd.C_drew V.C)).mono ?_; rintro e w1 ⟨rfl, hb⟩; have X1 := (X2.below (Below.refl _ _).drew).below hb; have Y1 := (Y2.below (Below.refl _ _).drew).below hb; obtain ⟨k0, k1, k2, k3, k4, kl0, kln⟩ := X1.box; obtain ⟨m0, m1, m2, m3, m4, ml0, mln⟩ := Y1.box; have Z1 := (Z.below (Below.refl _ _).drew).below hb; have V1 := (V.below (Below.refl _ _).drew).below hb; obtain ⟨z0, z1, z2, z3, zl0, zln⟩ := Z1.cells; obtain ⟨v0, v1, v2, v3, vl0, vln⟩ := V1.cells))
          have HBN := Aside0.mk (below_step HBW.out (below_step (Below.refl _ _).drew hb))
          by_cases hz : tcmp x y = 0
          · have hzb : (tcmp x y != 0) = false := by simpa using hz
            have HF2 := Aside0.mk (HF1.out.trans (if_pos hz))
            clear hz
            go_wp2_with fail
            go_roundw
            case rel => exact ⟨k+1, by omega, by go_num, HF2, HBN⟩
            case measure => simp [intOf]; omega
          · have hzb : (tcmp x y != 0) = true := by simpa using hz
            have HF2 := Aside0.mk (HF1.out.trans (if_neg hz))
            have HZ : Aside0 (tcmp x y = 0 ↔ same a b = true) := ⟨⟨fun h => absurd h hz, fun h => by
              rw [HR.out] at h
              simp only [Bool.and_eq_true, decide_eq_true_eq] at h
              rw [← HF2.out]; exact h.1.2⟩⟩
            clear hz
            go_wp2_with fail
            go_ret
            exact ⟨_, rfl, HZ.out, below_step HB2.out HBN.out⟩
        · obtain rfl : k = a.f3.length := by omega
          have HF1 := Aside0.mk (HF.out.trans (tcmpL_end (Nat.le_refl _) hle1))
          rw [if_neg (by have := HALL.out.2; omega)] at HF1
          by_cases hl4 : icmp (a.f4.length : Int) (b.f4.length : Int) = 0
          · have hl4b : (icmp (a.f4.length : Int) (b.f4.length : Int) != 0) = false := by simpa using hl4
            have hle4 : a.f4.length ≤ b.f4.length := by have := icmp_zero.1 hl4; omega
            have hge4 : Aside0 (b.f4.length ≤ a.f4.length) := ⟨by have := icmp_zero.1 hl4; omega⟩
            clear hl4
            go_wp2_with (first | (go_at_call 89; refine (cmp_int _ _ _).mono ?_; rintro e w' ⟨rfl, rfl⟩))
            clear h0 h1 h2 h3 h4 hl0 hln g0 g1 g2 g3 g4 gl0 gln
            obtain ⟨wo, rfl⟩ : ∃ wo : World, wo = wr := ⟨_, rfl⟩
            go_loopw [9, 10, 80] (fun _ _ i wr => ∃ k : Nat, k ≤ a.f4.length ∧ i = .int .i64 k ∧ Aside0 (sameL a.f4 b.f4 = sameL (a.f4.drop k) (b.f4.drop k)) ∧ Aside0 (Below wo.heap.size wo wr)) (fun _ _ i _ => a.f4.length - (intOf i).toNat)
            case atStart => exact ⟨0, Nat.zero_le _, rfl, ⟨rfl⟩, ⟨Below.refl _ _⟩⟩
            case round =>
              obtain ⟨k, hk, rfl, HG, HBV⟩ := hrel
              have X3 := X2.below HBV.out
              have Y3 := Y2.below HBV.out
              obtain ⟨h0, h1, h2, h3, h4, hl0, hln⟩ := X3.box
              obtain ⟨g0, g1, g2, g3, g4, gl0, gln⟩ := Y3.box
              by_cases hlt : k < a.f4.length
              · have hlt2 : k < b.f4.length := by omega
                obtain ⟨x, ad, A3, c3, A4, c4, hx, rfl, Z⟩ := at41 X3.P.C2 k hlt
                obtain ⟨y, bd, B3, d3, B4, d4, hy, rfl, V⟩ := at41 Y3.P.C2 k hlt2
                have HG1 := Aside0.mk (HG.out.trans (sameL_drop hx hy))
                have HCC := Aside0.mk (HT.out k x y hx hy)
                clear hx hy
                obtain ⟨z0, z1, z2, z3, z4, zl0, zln⟩ := Z.cells
                obtain ⟨v0, v1, v2, v3, v4, vl0, vln⟩ := V.cells
                go_wp2_with fail
                go_region_held3 (fun W => W.cell? ⟨N, 4, none⟩ = some (.slice (some ad) a.f4.length d) ∧ W.cell? ⟨N + 1, 4, none⟩ = some (.slice (some bd) b.f4.length d') ∧ W.cell? (ad.add (k * 5)) = some (.int .i64 x.f0) ∧ W.cell? ⟨(ad.add (k * 5)).block, (ad.add (k * 5)).off + 1, none⟩ = some (.string x.f1) ∧ W.cell? ⟨(ad.add (k * 5)).block, (ad.add (k * 5)).off + 2, none⟩ = some (.string x.f2) ∧ W.cell? ⟨(ad.add (k * 5)).block, (ad.add (k * 5)).off + 3, none⟩ = some (.slice A3 x.f3.length c3) ∧ W.cell? ⟨(ad.add (k * 5)).block, (ad.add (k * 5)).off + 4, none⟩ = some (.slice A4 x.f4.length c4) ∧ W.cell? (bd.add (k * 5)) = some (.int .i64 y.f0) ∧ W.cell? ⟨(bd.add (k * 5)).block, (bd.add (k * 5)).off + 1, none⟩ = some (.string y.f1) ∧ W.cell? ⟨(bd.add (k * 5)).block, (bd.add (k * 5)).off + 2, none⟩ = some (.string y.f2) ∧ W.cell? ⟨(bd.add (k * 5)).block, (bd.add (k * 5)).off + 3, none⟩ = some (.slice B3 y.f3.length d3) ∧ W.cell? ⟨(bd.add (k * 5)).block, (bd.add (k * 5)).off + 4, none⟩ = some (.slice B4 y.f4.length d4)) (go_keep) (first | (go_at_call 79; refine (HCC.out A3 c3 A4 c4 B3 d3 B4 d4 _ (Z.P.below (Below.refl _ _).drew) (V.P.below (Below.refl _ _).drew)).mono ?_; rintro e w1 ⟨r, rfl, hr, hb⟩; have X1 := (X3.below (Below.refl _ _).drew).below hb; have Y1 := (Y3.below (Below.refl _ _).drew).below hb; obtain ⟨k0, k1, k2, k3, k4, kl0, kln⟩ := X1.box; obtain ⟨m0, m1, m2, m3, m4, ml0, mln⟩ := Y1.box; have Z1 := (Z.below (Below.refl _ _).drew).below hb; have V1 := (V.below (Below.refl _ _).drew).below hb; obtain ⟨z0, z1, z2, z3, z4, zl0, zln⟩ := Z1.cells; obtain ⟨v0, v1, v2, v3, v4, vl0, vln⟩ := V1.cells; have HRR := Aside0.mk hr; clear hr))
                have HBN := Aside0.mk (below_step HBV.out (below_step (Below.refl _ _).drew hb))
                by_cases hz : r = 0
                · have hzb : (r != 0) = false := by simpa using hz
                  have HG2 := Aside0.mk (HG1.out.trans (by rw [HRR.out.1 hz, Bool.true_and]))
                  clear hz
                  go_wp2_with fail
                  go_roundw
                  case rel => exact ⟨k+1, by omega, by go_num, HG2, HBN⟩
                  case measure => simp [intOf]; omega
                · have hzb : (r != 0) = true := by simpa using hz
                  have HZ : Aside0 (r = 0 ↔ same a b = true) := ⟨⟨fun h => absurd h hz, fun h => by
                    rw [HR.out] at h
                    simp only [Bool.and_eq_true, decide_eq_true_eq] at h
                    have h2 := h.2
                    rw [HG1.out, Bool.and_eq_true] at h2
                    exact HRR.out.2 h2.1⟩⟩
                  clear hz
                  go_wp2_with fail
                  go_ret
                  exact ⟨_, rfl, HZ.out, below_step HB2.out (below_step HBW.out HBN.out)⟩
              · have hkk : Aside0 (k = a.f4.length) := ⟨by omega⟩
                have HZ : Aside0 (same a b = true) := ⟨by
                  rw [HR.out]
                  have h2 := HG.out
                  rw [hkk.out, List.drop_of_length_le (Nat.le_refl _), List.drop_of_length_le hge4.out] at h2
                  simp only [Bool.and_eq_true, decide_eq_true_eq]
                  exact ⟨⟨HALL.out.1, HF1.out⟩, h2.trans (by rw [sameL])⟩⟩
                go_wp2_with fail
                go_ret
                exact ⟨_, rfl, ⟨fun _ => HZ.out, fun _ => rfl⟩, below_step HB2.out (below_step HBW.out HBV.out)⟩
          · have hl4b : (icmp (a.f4.length : Int) (b.f4.length : Int) != 0) = true := by simpa using hl4
            have HZ : Aside0 (icmp (a.f4.length : Int) (b.f4.length : Int) = 0 ↔ same a b = true) := ⟨⟨fun h => absurd h hl4, fun h => by
              rw [HR.out] at h
              simp only [Bool.and_eq_true, decide_eq_true_eq] at h
              rw [icmp_zero, sameL_len h.2]⟩⟩
            clear hl4
            go_wp2_with (first | (go_at_call 89; refine (cmp_int _ _ _).mono ?_; rintro e w' ⟨rfl, rfl⟩))
            go_ret
            exact ⟨_, rfl, HZ.out, below_step HB2.out HBW.out⟩
    · have hzb : (m2 != 0) = true := by simpa using hz
      have HZ : Aside0 (m2 = 0 ↔ same a b = true) := ⟨⟨fun h => absurd h hz, fun h => by
        rw [HR.out] at h
        simp only [Bool.and_eq_true, decide_eq_true_eq] at h
        rw [HM2.out]
        simp only [Bool.and_eq_true, decide_eq_true_eq]
        exact ⟨h.1.1, tcmpL_len h.1.2⟩⟩⟩
      clear hz
      go_wp2_with fail
      go_ret
      exact ⟨m2, rfl, HZ.out, below_alloc HB2.out.drew _⟩

/-- claim.Compare's contract, at all claims. -/
theorem claim_compare (n : Nat) : ∀ a b : S41, csize a ≤ n → CC a b := by
  induction n with
  | zero => intro a b h; rw [csize_eq] at h; omega
  | succ n ih => exact fun a b h => ccompare_step a b fun k x y hx _ => ih x y (by have := csize_sub hx; omega)

set_option maxHeartbeats 400000 in
theorem claim_same (a b : S41) (A : Option Addr) (c : Nat) (B : Option Addr) (d : Nat) (A' : Option Addr) (c' : Nat) (B' : Option Addr) (d' : Nat) (w : World) (hP : P41 w a A c B d) (hQ : P41 w b A' c' B' d') :
    Calls Tryd.prog 57 #[v41 a A c B d, v41 b A' c' B' d'] w fun e w' => e = .returned (.bool (same a b)) ∧ Below w.heap.size w w' := by
  have hBB : Below w.heap.size w ((w.alloc (.cells (c41 a A c B d) 41)).alloc (.cells (c41 b A' c' B' d') 41)) := (((Below.refl _ _).alloc (Nat.le_refl _) _).alloc (by simp) _)
  have HBB := Aside0.mk hBB
  clear hBB
  go_enter Tryd.func57, Tryd.ntmps57
  go_wp2_with fail
  refine (claim_compare _ a b (Nat.le_refl _) A c B d A' c' B' d' _ (hP.below HBB.out) (hQ.below HBB.out)).mono ?_
  rintro e w1 ⟨r, rfl, hr, hb⟩
  have HB := Aside0.mk (below_step HBB.out hb)
  have HR : Aside0 (same a b = (r == 0)) := ⟨by
    by_cases hz : r = 0
    · rw [hr.1 hz, hz]; rfl
    · have h1 : same a b = false := by
        cases h : same a b with
        | false => rfl
        | true => exact absurd (hr.2 h) hz
      rw [h1]; exact (beq_eq_false_iff_ne.2 hz).symm⟩
  clear hr hb
  go_wp2_with fail
  go_ret
  exact ⟨by rw [HR.out]; rfl, HB.out⟩

end Go.Proofs.YtbfgoopomfenjaaDoor
namespace Go.Proofs.YtbfgoopomfenjaaDoor
open Go.RowKit Go.Proofs.YtbfgoopomfenjaaDoorW.PrintWords Go.Proofs.YtbfgoopomfenjaaDoor.PTseitinValues
set_option linter.unusedVariables false
set_option linter.unusedSimpArgs false
attribute [local go_sem] World.cell?_alloc_lt

theorem toList_beq (a b : ByteArray) : (a.toList == b.toList) = decide (a = b) := by
  rw [Bool.eq_iff_iff, beq_iff_eq, decide_eq_true_eq]
  exact ⟨toList_inj, fun h => by rw [h]⟩
def teq (a b : S82) : Bool := decide (tcmp a b = 0)
def teqL (a b : List S82) : Bool := decide (tcmpL a b = 0)
theorem teq_eq (a b : S82) : teq a b = (a.f0 == b.f0 && (a.f1.toList == b.f1.toList) && (a.f2 == b.f2) && teqL a.f3 b.f3) := by
  unfold teq teqL
  rw [toList_beq, Bool.eq_iff_iff, decide_eq_true_eq, tcmp_eq, firstNZ_zero]
  simp only [List.mem_cons, List.not_mem_nil, or_false, forall_eq_or_imp, forall_eq, icmp_zero, scmp_zero, decide_eq_true_eq, Bool.and_eq_true, beq_iff_eq]
  constructor
  · rintro ⟨h1, h2, h3, _, h4⟩; exact ⟨⟨⟨h1, h3⟩, h2⟩, h4⟩
  · rintro ⟨⟨⟨h1, h3⟩, h2⟩, h4⟩; exact ⟨h1, h2, h3, by rw [tcmpL_len h4], h4⟩
theorem teqL_len {a b : List S82} (h : teqL a b = true) : a.length = b.length := tcmpL_len (by simpa [teqL] using h)
theorem teqL_drop {ts us : List S82} {k : Nat} {a b : S82} (ha : ts[k]? = some a) (hb : us[k]? = some b) : teqL (ts.drop k) (us.drop k) = (teq a b && teqL (ts.drop (k+1)) (us.drop (k+1))) := by
  unfold teqL teq
  rw [tcmpL_drop ha hb, Bool.eq_iff_iff]
  simp only [decide_eq_true_eq, Bool.and_eq_true]
  split
  · rename_i h; simp [h]
  · rename_i h; simp [h]
theorem teqL_end {ts us : List S82} {k : Nat} (h : ts.length ≤ k) (h' : us.length ≤ k) : teqL (ts.drop k) (us.drop k) = true := by
  rw [List.drop_of_length_le h, List.drop_of_length_le h']; simp [teqL, tcmpL]

def TE (a b : S82) : Prop := ∀ (A : Option Addr) (c : Nat) (B : Option Addr) (d : Nat) (w : World), a.f3.length ≤ c → b.f3.length ≤ d → k82.C w A a.f3.length a.f3 → k82.C w B b.f3.length b.f3 →
  Calls Tryd.prog 84 #[v82 a A c, v82 b B d] w fun e w' => e = .returned (.bool (teq a b)) ∧ Below w.heap.size w w'

set_option maxHeartbeats 1000000 in
theorem terms_step (ts us : List S82) (A : Option Addr) (c : Nat) (B : Option Addr) (d : Nat) (w : World) (hc : ts.length ≤ c) (hd : us.length ≤ d) (ha : k82.C w A ts.length ts) (hb : k82.C w B us.length us)
    (hT : ∀ (k : Nat) (a b : S82), ts[k]? = some a → us[k]? = some b → TE a b) :
    Calls Tryd.prog 65 #[.slice A ts.length c, .slice B us.length d] w fun e w' => e = .returned (.bool (teqL ts us)) ∧ Below w.heap.size w w' := by
  have HA := Aside0.mk ha
  have HB := Aside0.mk hb
  have HT := Aside0.mk hT
  have hla := ha.2.1
  have hlb := hb.2.1
  clear ha hb hT
  by_cases hne : ts.length = us.length
  · have hnb : ((ts.length : Int) != (us.length : Int)) = false := by rw [hne]; simp
    have hle : ts.length ≤ us.length := by omega
    have HGE : Aside0 (us.length ≤ ts.length) := ⟨by omega⟩
    clear hne
    go_enter Tryd.func65, Tryd.ntmps65
    go_wp2
    go_loopw [5] (fun i wr => ∃ k : Nat, k ≤ ts.length ∧ i = .int .i64 k ∧ Aside0 (teqL ts us = teqL (ts.drop k) (us.drop k)) ∧ Aside0 (Below w.heap.size w wr)) (fun i _ => ts.length - (intOf i).toNat)
    case atStart => exact ⟨0, Nat.zero_le _, rfl, ⟨rfl⟩, ⟨Below.refl _ _⟩⟩
    case round =>
      obtain ⟨k, hk, rfl, HF, HBW⟩ := hrel
      by_cases hlt : k < ts.length
      · have hlt2 : k < us.length := by omega
        obtain ⟨x, ad, A3, c3, hx, rfl, Z0⟩ := at82 HA.out k hlt
        obtain ⟨y, bd, B3, d3, hy, rfl, V0⟩ := at82 HB.out k hlt2
        have Z := Z0.below HBW.out
        have V := V0.below HBW.out
        have HF1 := Aside0.mk (HF.out.trans (teqL_drop hx hy))
        have HTE := Aside0.mk (HT.out k x y hx hy)
        clear hx hy Z0 V0
        obtain ⟨z0, z1, z2, z3, zl0, zln⟩ := Z.cells
        obtain ⟨v0, v1, v2, v3, vl0, vln⟩ := V.cells
        go_wp2_with fail
        go_region_held3 (fun W => W.cell? (ad.add (k * 4)) = some (.int .i64 x.f0) ∧ W.cell? ⟨(ad.add (k * 4)).block, (ad.add (k * 4)).off + 1, none⟩ = some (.string x.f1) ∧ W.cell? ⟨(ad.add (k * 4)).block, (ad.add (k * 4)).off + 2, none⟩ = some (.int .i64 x.f2) ∧ W.cell? ⟨(ad.add (k * 4)).block, (ad.add (k * 4)).off + 3, none⟩ = some (.slice A3 x.f3.length c3) ∧ W.cell? (bd.add (k * 4)) = some (.int .i64 y.f0) ∧ W.cell? ⟨(bd.add (k * 4)).block, (bd.add (k * 4)).off + 1, none⟩ = some (.string y.f1) ∧ W.cell? ⟨(bd.add (k * 4)).block, (bd.add (k * 4)).off + 2, none⟩ = some (.int .i64 y.f2) ∧ W.cell? ⟨(bd.add (k * 4)).block, (bd.add (k * 4)).off + 3, none⟩ = some (.slice B3 y.f3.length d3)) (go_keep) (first | (go_at_call 84; refine (HTE.out A3 c3 B3 d3 _ Z.le V.le (Kd.C_drew Z.C) (Kd.C_drew V.C)).mono ?_; rintro e w1 ⟨rfl, hb⟩; have Z1 := (Z.below (Below.refl _ _).drew).below hb; have V1 := (V.below (Below.refl _ _).drew).below hb; obtain ⟨z0, z1, z2, z3, zl0, zln⟩ := Z1.cells; obtain ⟨v0, v1, v2, v3, vl0, vln⟩ := V1.cells))
        have HBN := Aside0.mk (below_step HBW.out (below_step (Below.refl _ _).drew hb))
        by_cases hz : teq x y = true
        · have HF2 := Aside0.mk (HF1.out.trans (by rw [hz, Bool.true_and]))
          simp only [hz, Bool.not_true]
          clear hz
          go_wp2_with fail
          refine ⟨?_, ?_⟩
          · first | exact ⟨k+1, by omega, by go_num, HF2, HBN⟩ | ((repeat apply Exists.intro); exact ⟨⟨k+1, by omega, by go_num, HF2, HBN⟩, rfl⟩)
          · simp [intOf]; omega
        · have hz : teq x y = false := by simpa using hz
          have HF2 := Aside0.mk (HF1.out.trans (by rw [hz, Bool.false_and]))
          simp only [hz, Bool.not_false]
          clear hz
          go_wp2_with fail
          go_ret
          exact ⟨by rw [HF2.out]; rfl, HBN.out⟩
      · have hkk : Aside0 (k = ts.length) := ⟨by omega⟩
        have HF1 := Aside0.mk (HF.out.trans (teqL_end (Nat.le_of_eq hkk.out.symm) (by rw [hkk.out]; exact HGE.out)))
        go_wp2_with fail
        go_ret
        exact ⟨by rw [HF1.out]; rfl, HBW.out⟩
  · have hnb : ((ts.length : Int) != (us.length : Int)) = true := by rw [bne_iff_ne]; omega
    have HF1 : Aside0 (teqL ts us = false) := ⟨by
      cases h : teqL ts us with
      | false => rfl
      | true => exact absurd (teqL_len h) hne⟩
    clear hne
    go_enter Tryd.func65, Tryd.ntmps65
    go_wp2
    go_ret
    exact ⟨by rw [HF1.out]; rfl, Below.refl _ _⟩

set_option maxHeartbeats 1000000 in
theorem bterm_step (a b : S82) (hT : ∀ (A : Option Addr) (c : Nat) (B : Option Addr) (d : Nat) (w : World), a.f3.length ≤ c → b.f3.length ≤ d → k82.C w A a.f3.length a.f3 → k82.C w B b.f3.length b.f3 →
    Calls Tryd.prog 65 #[.slice A a.f3.length c, .slice B b.f3.length d] w fun e w' => e = .returned (.bool (teqL a.f3 b.f3)) ∧ Below w.heap.size w w') : TE a b := by
  intro A c B d w hc hd hA hB
  have HT := Aside0.mk hT
  have HR := Aside0.mk (teq_eq a b)
  have HA := Aside0.mk hA
  have HB := Aside0.mk hB
  clear hT hA hB
  have HBB : Aside0 (Below w.heap.size w ((w.alloc (.cells #[.int .i64 a.f0, .string a.f1, .int .i64 a.f2, .slice A a.f3.length c] 82)).alloc (.cells #[.int .i64 b.f0, .string b.f1, .int .i64 b.f2, .slice B b.f3.length d] 82))) := ⟨((Below.refl _ _).alloc (Nat.le_refl _) _).alloc (by simp) _⟩
  by_cases h1 : (a.f0 == b.f0) = true
  · by_cases h2 : (a.f1.toList == b.f1.toList) = true
    · by_cases h3 : (a.f2 == b.f2) = true
      · have HF : Aside0 (teq a b = teqL a.f3 b.f3) := ⟨HR.out.trans (by rw [h1, h2, h3]; simp)⟩
        go_enter Tryd.func84, Tryd.ntmps84
        go_wp2_with (first | (go_at_call 65; refine (HT.out A c B d _ hc hd (Kd.C_below HA.out HBB.out) (Kd.C_below HB.out HBB.out)).mono ?_; rintro e w1 ⟨rfl, hb⟩))
        go_ret
        exact ⟨by rw [HF.out]; rfl, below_step HBB.out hb⟩
      · have h3 : (a.f2 == b.f2) = false := by simpa using h3
        have HF : Aside0 (teq a b = false) := ⟨HR.out.trans (by rw [h1, h2, h3]; simp)⟩
        go_enter Tryd.func84, Tryd.ntmps84
        go_wp2_with fail
        go_ret
        exact ⟨by rw [HF.out]; rfl, HBB.out⟩
    · have h2 : (a.f1.toList == b.f1.toList) = false := by simpa using h2
      have HF : Aside0 (teq a b = false) := ⟨HR.out.trans (by rw [h1, h2]; simp)⟩
      go_enter Tryd.func84, Tryd.ntmps84
      go_wp2_with fail
      go_ret
      exact ⟨by rw [HF.out]; rfl, HBB.out⟩
  · have h1 : (a.f0 == b.f0) = false := by simpa using h1
    have HF : Aside0 (teq a b = false) := ⟨HR.out.trans (by rw [h1]; simp)⟩
    go_enter Tryd.func84, Tryd.ntmps84
    go_wp2_with fail
    go_ret
    exact ⟨by rw [HF.out]; rfl, HBB.out⟩

theorem base_term (n : Nat) : ∀ a b : S82, tsize a ≤ n → TE a b := by
  induction n with
  | zero => intro a b h; rw [tsize_eq] at h; omega
  | succ n ih => exact fun a b h => bterm_step a b fun A c B d w hc hd hA hB => terms_step a.f3 b.f3 A c B d w hc hd hA hB fun k x y hx _ => ih x y (by have := tsize_arg hx; omega)
theorem base_terms (ts us : List S82) (A : Option Addr) (c : Nat) (B : Option Addr) (d : Nat) (w : World) (hc : ts.length ≤ c) (hd : us.length ≤ d) (ha : k82.C w A ts.length ts) (hb : k82.C w B us.length us) :
    Calls Tryd.prog 65 #[.slice A ts.length c, .slice B us.length d] w fun e w' => e = .returned (.bool (teqL ts us)) ∧ Below w.heap.size w w' :=
  terms_step ts us A c B d w hc hd ha hb fun k x y _ _ => base_term _ x y (Nat.le_refl _)

end Go.Proofs.YtbfgoopomfenjaaDoor
namespace Go.Proofs.YtbfgoopomfenjaaDoor
open Go.RowKit Go.Proofs.YtbfgoopomfenjaaDoorW.PrintWords Go.Proofs.YtbfgoopomfenjaaDoor.PTseitinValues
set_option linter.unusedVariables false
set_option linter.unusedSimpArgs false
attribute [local go_sem] World.cell?_alloc_lt

mutual
def exact1 : S41 → S41 → Bool
  | ⟨o1, n1, s1, t1, u1⟩, ⟨o2, n2, s2, t2, u2⟩ => o1 == o2 && (s1.toList == s2.toList) && (n1.toList == n2.toList) && teqL t1 t2 && exactL u1 u2
def exactL : List S41 → List S41 → Bool
  | [], [] => true
  | [], _ :: _ => false
  | _ :: _, [] => false
  | a :: ts, b :: us => exact1 a b && exactL ts us
end
theorem exact1_eq (a b : S41) : exact1 a b = (a.f0 == b.f0 && (a.f2.toList == b.f2.toList) && (a.f1.toList == b.f1.toList) && teqL a.f3 b.f3 && exactL a.f4 b.f4) := by
  cases a; cases b; rw [exact1]
theorem exactL_len {l m : List S41} (h : exactL l m = true) : l.length = m.length := by
  induction l generalizing m with
  | nil => cases m with
    | nil => rfl
    | cons b m => simp [exactL] at h
  | cons a l ih => cases m with
    | nil => simp [exactL] at h
    | cons b m =>
      rw [exactL, Bool.and_eq_true] at h
      simp [ih h.2]
theorem exactL_drop {ts us : List S41} {k : Nat} {a b : S41} (ha : ts[k]? = some a) (hb : us[k]? = some b) :
    exactL (ts.drop k) (us.drop k) = (exact1 a b && exactL (ts.drop (k+1)) (us.drop (k+1))) := by
  obtain ⟨h1, rfl⟩ := List.getElem?_eq_some_iff.1 ha
  obtain ⟨h2, rfl⟩ := List.getElem?_eq_some_iff.1 hb
  rw [List.drop_eq_getElem_cons h1, List.drop_eq_getElem_cons h2, exactL]
theorem exactL_end {ts us : List S41} {k : Nat} (h : ts.length ≤ k) (h' : us.length ≤ k) : exactL (ts.drop k) (us.drop k) = true := by
  rw [List.drop_of_length_le h, List.drop_of_length_le h', exactL]
theorem sameL_end {ts us : List S41} {k : Nat} (h : ts.length ≤ k) (h' : us.length ≤ k) : sameL (ts.drop k) (us.drop k) = true := by
  rw [List.drop_of_length_le h, List.drop_of_length_le h', sameL]
theorem same_eq' (a b : S41) : same a b = (a.f0 == b.f0 && (bind a.f0 || (a.f1.toList == b.f1.toList)) && (a.f2.toList == b.f2.toList) && teqL a.f3 b.f3 && sameL a.f4 b.f4) := by
  rw [same_eq, toList_beq, toList_beq]; rfl
def CL (a b : S41) : Prop := ∀ (A : Option Addr) (c : Nat) (B : Option Addr) (d : Nat) (A' : Option Addr) (c' : Nat) (B' : Option Addr) (d' : Nat) (w : World), P41 w a A c B d → P41 w b A' c' B' d' →
  Calls Tryd.prog 85 #[v41 a A c B d, v41 b A' c' B' d'] w fun e w' => e = .returned (.bool (same a b)) ∧ Below w.heap.size w w'
def CX (a b : S41) : Prop := ∀ (A : Option Addr) (c : Nat) (B : Option Addr) (d : Nat) (A' : Option Addr) (c' : Nat) (B' : Option Addr) (d' : Nat) (w : World), P41 w a A c B d → P41 w b A' c' B' d' →
  Calls Tryd.prog 36 #[v41 a A c B d, v41 b A' c' B' d'] w fun e w' => e = .returned (.bool (exact1 a b)) ∧ Below w.heap.size w w'

set_option maxHeartbeats 1000000 in
theorem claims_step (ts us : List S41) (A : Option Addr) (c : Nat) (B : Option Addr) (d : Nat) (w : World) (hc : ts.length ≤ c) (hd : us.length ≤ d) (ha : k41.C w A ts.length ts) (hb : k41.C w B us.length us)
    (hT : ∀ (k : Nat) (a b : S41), ts[k]? = some a → us[k]? = some b → CL a b) :
    Calls Tryd.prog 96 #[.slice A ts.length c, .slice B us.length d] w fun e w' => e = .returned (.bool (sameL ts us)) ∧ Below w.heap.size w w' := by
  have HA := Aside0.mk ha
  have HB := Aside0.mk hb
  have HT := Aside0.mk hT
  have hla := ha.2.1
  have hlb := hb.2.1
  clear ha hb hT
  by_cases hne : ts.length = us.length
  · have hnb : ((ts.length : Int) != (us.length : Int)) = false := by rw [hne]; simp
    have hle : ts.length ≤ us.length := by omega
    have HGE : Aside0 (us.length ≤ ts.length) := ⟨by omega⟩
    clear hne
    go_enter Tryd.func96, Tryd.ntmps96
    go_wp2
    go_loopw [5] (fun i wr => ∃ k : Nat, k ≤ ts.length ∧ i = .int .i64 k ∧ Aside0 (sameL ts us = sameL (ts.drop k) (us.drop k)) ∧ Aside0 (Below w.heap.size w wr)) (fun i _ => ts.length - (intOf i).toNat)
    case atStart => exact ⟨0, Nat.zero_le _, rfl, ⟨rfl⟩, ⟨Below.refl _ _⟩⟩
    case round =>
      obtain ⟨k, hk, rfl, HF, HBW⟩ := hrel
      by_cases hlt : k < ts.length
      · have hlt2 : k < us.length := by omega
        obtain ⟨x, ad, A3, c3, A4, c4, hx, rfl, Z0⟩ := at41 HA.out k hlt
        obtain ⟨y, bd, B3, d3, B4, d4, hy, rfl, V0⟩ := at41 HB.out k hlt2
        have Z := Z0.below HBW.out
        have V := V0.below HBW.out
        have HF1 := Aside0.mk (HF.out.trans (sameL_drop hx hy))
        have HTE := Aside0.mk (HT.out k x y hx hy)
        clear hx hy Z0 V0
        obtain ⟨z0, z1, z2, z3, z4, zl0, zln⟩ := Z.cells
        obtain ⟨v0, v1, v2, v3, v4, vl0, vln⟩ := V.cells
        go_wp2_with fail
        go_region_held3 (fun W => W.cell? (ad.add (k * 5)) = some (.int .i64 x.f0) ∧ W.cell? ⟨(ad.add (k * 5)).block, (ad.add (k * 5)).off + 1, none⟩ = some (.string x.f1) ∧ W.cell? ⟨(ad.add (k * 5)).block, (ad.add (k * 5)).off + 2, none⟩ = some (.string x.f2) ∧ W.cell? ⟨(ad.add (k * 5)).block, (ad.add (k * 5)).off + 3, none⟩ = some (.slice A3 x.f3.length c3) ∧ W.cell? ⟨(ad.add (k * 5)).block, (ad.add (k * 5)).off + 4, none⟩ = some (.slice A4 x.f4.length c4) ∧ W.cell? (bd.add (k * 5)) = some (.int .i64 y.f0) ∧ W.cell? ⟨(bd.add (k * 5)).block, (bd.add (k * 5)).off + 1, none⟩ = some (.string y.f1) ∧ W.cell? ⟨(bd.add (k * 5)).block, (bd.add (k * 5)).off + 2, none⟩ = some (.string y.f2) ∧ W.cell? ⟨(bd.add (k * 5)).block, (bd.add (k * 5)).off + 3, none⟩ = some (.slice B3 y.f3.length d3) ∧ W.cell? ⟨(bd.add (k * 5)).block, (bd.add (k * 5)).off + 4, none⟩ = some (.slice B4 y.f4.length d4)) (go_keep) (first | (go_at_call 85; refine (HTE.out A3 c3 A4 c4 B3 d3 B4 d4 _ (Z.P.below (Below.refl _ _).drew) (V.P.below (Below.refl _ _).drew)).mono ?_; rintro e w1 ⟨rfl, hb⟩; have Z1 := (Z.below (Below.refl _ _).drew).below hb; have V1 := (V.below (Below.refl _ _).drew).below hb; obtain ⟨z0, z1, z2, z3, z4, zl0, zln⟩ := Z1.cells; obtain ⟨v0, v1, v2, v3, v4, vl0, vln⟩ := V1.cells))
        have HBN := Aside0.mk (below_step HBW.out (below_step (Below.refl _ _).drew hb))
        by_cases hz : same x y = true
        · have HF2 := Aside0.mk (HF1.out.trans (by rw [hz, Bool.true_and]))
          simp only [hz, Bool.not_true]
          clear hz
          go_wp2_with fail
          refine ⟨?_, ?_⟩
          · first | exact ⟨k+1, by omega, by go_num, HF2, HBN⟩ | ((repeat apply Exists.intro); exact ⟨⟨k+1, by omega, by go_num, HF2, HBN⟩, rfl⟩)
          · simp [intOf]; omega
        · have hz : same x y = false := by simpa using hz
          have HF2 := Aside0.mk (HF1.out.trans (by rw [hz, Bool.false_and]))
          simp only [hz, Bool.not_false]
          clear hz
          go_wp2_with fail
          go_ret
          exact ⟨by rw [HF2.out]; rfl, HBN.out⟩
      · have hkk : Aside0 (k = ts.length) := ⟨by omega⟩
        have HF1 := Aside0.mk (HF.out.trans (sameL_end (Nat.le_of_eq hkk.out.symm) (by rw [hkk.out]; exact HGE.out)))
        go_wp2_with fail
        go_ret
        exact ⟨by rw [HF1.out]; rfl, HBW.out⟩
  · have hnb : ((ts.length : Int) != (us.length : Int)) = true := by rw [bne_iff_ne]; omega
    have HF1 : Aside0 (sameL ts us = false) := ⟨by
      cases h : sameL ts us with
      | false => rfl
      | true => exact absurd (sameL_len h) hne⟩
    clear hne
    go_enter Tryd.func96, Tryd.ntmps96
    go_wp2
    go_ret
    exact ⟨by rw [HF1.out]; rfl, Below.refl _ _⟩

set_option maxHeartbeats 1000000 in
theorem exacts_step (ts us : List S41) (A : Option Addr) (c : Nat) (B : Option Addr) (d : Nat) (w : World) (hc : ts.length ≤ c) (hd : us.length ≤ d) (ha : k41.C w A ts.length ts) (hb : k41.C w B us.length us)
    (hT : ∀ (k : Nat) (a b : S41), ts[k]? = some a → us[k]? = some b → CX a b) :
    Calls Tryd.prog 66 #[.slice A ts.length c, .slice B us.length d] w fun e w' => e = .returned (.bool (exactL ts us)) ∧ Below w.heap.size w w' := by
  have HA := Aside0.mk ha
  have HB := Aside0.mk hb
  have HT := Aside0.mk hT
  have hla := ha.2.1
  have hlb := hb.2.1
  clear ha hb hT
  by_cases hne : ts.length = us.length
  · have hnb : ((ts.length : Int) != (us.length : Int)) = false := by rw [hne]; simp
    have hle : ts.length ≤ us.length := by omega
    have HGE : Aside0 (us.length ≤ ts.length) := ⟨by omega⟩
    clear hne
    go_enter Tryd.func66, Tryd.ntmps66
    go_wp2
    go_loopw [5] (fun i wr => ∃ k : Nat, k ≤ ts.length ∧ i = .int .i64 k ∧ Aside0 (exactL ts us = exactL (ts.drop k) (us.drop k)) ∧ Aside0 (Below w.heap.size w wr)) (fun i _ => ts.length - (intOf i).toNat)
    case atStart => exact ⟨0, Nat.zero_le _, rfl, ⟨rfl⟩, ⟨Below.refl _ _⟩⟩
    case round =>
      obtain ⟨k, hk, rfl, HF, HBW⟩ := hrel
      by_cases hlt : k < ts.length
      · have hlt2 : k < us.length := by omega
        obtain ⟨x, ad, A3, c3, A4, c4, hx, rfl, Z0⟩ := at41 HA.out k hlt
        obtain ⟨y, bd, B3, d3, B4, d4, hy, rfl, V0⟩ := at41 HB.out k hlt2
        have Z := Z0.below HBW.out
        have V := V0.below HBW.out
        have HF1 := Aside0.mk (HF.out.trans (exactL_drop hx hy))
        have HTE := Aside0.mk (HT.out k x y hx hy)
        clear hx hy Z0 V0
        obtain ⟨z0, z1, z2, z3, z4, zl0, zln⟩ := Z.cells
        obtain ⟨v0, v1, v2, v3, v4, vl0, vln⟩ := V.cells
        go_wp2_with fail
        go_region_held3 (fun W => W.cell? (ad.add (k * 5)) = some (.int .i64 x.f0) ∧ W.cell? ⟨(ad.add (k * 5)).block, (ad.add (k * 5)).off + 1, none⟩ = some (.string x.f1) ∧ W.cell? ⟨(ad.add (k * 5)).block, (ad.add (k * 5)).off + 2, none⟩ = some (.string x.f2) ∧ W.cell? ⟨(ad.add (k * 5)).block, (ad.add (k * 5)).off + 3, none⟩ = some (.slice A3 x.f3.length c3) ∧ W.cell? ⟨(ad.add (k * 5)).block, (ad.add (k * 5)).off + 4, none⟩ = some (.slice A4 x.f4.length c4) ∧ W.cell? (bd.add (k * 5)) = some (.int .i64 y.f0) ∧ W.cell? ⟨(bd.add (k * 5)).block, (bd.add (k * 5)).off + 1, none⟩ = some (.string y.f1) ∧ W.cell? ⟨(bd.add (k * 5)).block, (bd.add (k * 5)).off + 2, none⟩ = some (.string y.f2) ∧ W.cell? ⟨(bd.add (k * 5)).block, (bd.add (k * 5)).off + 3, none⟩ = some (.slice B3 y.f3.length d3) ∧ W.cell? ⟨(bd.add (k * 5)).block, (bd.add (k * 5)).off + 4, none⟩ = some (.slice B4 y.f4.length d4)) (go_keep) (first | (go_at_call 36; refine (HTE.out A3 c3 A4 c4 B3 d3 B4 d4 _ (Z.P.below (Below.refl _ _).drew) (V.P.below (Below.refl _ _).drew)).mono ?_; rintro e w1 ⟨rfl, hb⟩; have Z1 := (Z.below (Below.refl _ _).drew).below hb; have V1 := (V.below (Below.refl _ _).drew).below hb; obtain ⟨z0, z1, z2, z3, z4, zl0, zln⟩ := Z1.cells; obtain ⟨v0, v1, v2, v3, v4, vl0, vln⟩ := V1.cells))
        have HBN := Aside0.mk (below_step HBW.out (below_step (Below.refl _ _).drew hb))
        by_cases hz : exact1 x y = true
        · have HF2 := Aside0.mk (HF1.out.trans (by rw [hz, Bool.true_and]))
          simp only [hz, Bool.not_true]
          clear hz
          go_wp2_with fail
          refine ⟨?_, ?_⟩
          · first | exact ⟨k+1, by omega, by go_num, HF2, HBN⟩ | ((repeat apply Exists.intro); exact ⟨⟨k+1, by omega, by go_num, HF2, HBN⟩, rfl⟩)
          · simp [intOf]; omega
        · have hz : exact1 x y = false := by simpa using hz
          have HF2 := Aside0.mk (HF1.out.trans (by rw [hz, Bool.false_and]))
          simp only [hz, Bool.not_false]
          clear hz
          go_wp2_with fail
          go_ret
          exact ⟨by rw [HF2.out]; rfl, HBN.out⟩
      · have hkk : Aside0 (k = ts.length) := ⟨by omega⟩
        have HF1 := Aside0.mk (HF.out.trans (exactL_end (Nat.le_of_eq hkk.out.symm) (by rw [hkk.out]; exact HGE.out)))
        go_wp2_with fail
        go_ret
        exact ⟨by rw [HF1.out]; rfl, HBW.out⟩
  · have hnb : ((ts.length : Int) != (us.length : Int)) = true := by rw [bne_iff_ne]; omega
    have HF1 : Aside0 (exactL ts us = false) := ⟨by
      cases h : exactL ts us with
      | false => rfl
      | true => exact absurd (exactL_len h) hne⟩
    clear hne
    go_enter Tryd.func66, Tryd.ntmps66
    go_wp2
    go_ret
    exact ⟨by rw [HF1.out]; rfl, Below.refl _ _⟩

set_option maxHeartbeats 1000000 in
theorem rexacts_step (ts us : List S41) (A : Option Addr) (c : Nat) (B : Option Addr) (d : Nat) (w : World) (hc : ts.length ≤ c) (hd : us.length ≤ d) (ha : k41.C w A ts.length ts) (hb : k41.C w B us.length us)
    (hT : ∀ (k : Nat) (a b : S41), ts[k]? = some a → us[k]? = some b → CX a b) :
    Calls Tryd.prog 14 #[.slice A ts.length c, .slice B us.length d] w fun e w' => e = .returned (.bool (exactL ts us)) ∧ Below w.heap.size w w' := by
  have HA := Aside0.mk ha
  have HB := Aside0.mk hb
  have HT := Aside0.mk hT
  have hla := ha.2.1
  have hlb := hb.2.1
  clear ha hb hT
  by_cases hne : ts.length = us.length
  · have hnb : ((ts.length : Int) != (us.length : Int)) = false := by rw [hne]; simp
    have hle : ts.length ≤ us.length := by omega
    have HGE : Aside0 (us.length ≤ ts.length) := ⟨by omega⟩
    clear hne
    go_enter Tryd.func14, Tryd.ntmps14
    go_wp2
    go_loopw [5] (fun i wr => ∃ k : Nat, k ≤ ts.length ∧ i = .int .i64 k ∧ Aside0 (exactL ts us = exactL (ts.drop k) (us.drop k)) ∧ Aside0 (Below w.heap.size w wr)) (fun i _ => ts.length - (intOf i).toNat)
    case atStart => exact ⟨0, Nat.zero_le _, rfl, ⟨rfl⟩, ⟨Below.refl _ _⟩⟩
    case round =>
      obtain ⟨k, hk, rfl, HF, HBW⟩ := hrel
      by_cases hlt : k < ts.length
      · have hlt2 : k < us.length := by omega
        obtain ⟨x, ad, A3, c3, A4, c4, hx, rfl, Z0⟩ := at41 HA.out k hlt
        obtain ⟨y, bd, B3, d3, B4, d4, hy, rfl, V0⟩ := at41 HB.out k hlt2
        have Z := Z0.below HBW.out
        have V := V0.below HBW.out
        have HF1 := Aside0.mk (HF.out.trans (exactL_drop hx hy))
        have HTE := Aside0.mk (HT.out k x y hx hy)
        clear hx hy Z0 V0
        obtain ⟨z0, z1, z2, z3, z4, zl0, zln⟩ := Z.cells
        obtain ⟨v0, v1, v2, v3, v4, vl0, vln⟩ := V.cells
        go_wp2_with fail
        go_region_held3 (fun W => W.cell? (ad.add (k * 5)) = some (.int .i64 x.f0) ∧ W.cell? ⟨(ad.add (k * 5)).block, (ad.add (k * 5)).off + 1, none⟩ = some (.string x.f1) ∧ W.cell? ⟨(ad.add (k * 5)).block, (ad.add (k * 5)).off + 2, none⟩ = some (.string x.f2) ∧ W.cell? ⟨(ad.add (k * 5)).block, (ad.add (k * 5)).off + 3, none⟩ = some (.slice A3 x.f3.length c3) ∧ W.cell? ⟨(ad.add (k * 5)).block, (ad.add (k * 5)).off + 4, none⟩ = some (.slice A4 x.f4.length c4) ∧ W.cell? (bd.add (k * 5)) = some (.int .i64 y.f0) ∧ W.cell? ⟨(bd.add (k * 5)).block, (bd.add (k * 5)).off + 1, none⟩ = some (.string y.f1) ∧ W.cell? ⟨(bd.add (k * 5)).block, (bd.add (k * 5)).off + 2, none⟩ = some (.string y.f2) ∧ W.cell? ⟨(bd.add (k * 5)).block, (bd.add (k * 5)).off + 3, none⟩ = some (.slice B3 y.f3.length d3) ∧ W.cell? ⟨(bd.add (k * 5)).block, (bd.add (k * 5)).off + 4, none⟩ = some (.slice B4 y.f4.length d4)) (go_keep) (first | (go_at_call 36; refine (HTE.out A3 c3 A4 c4 B3 d3 B4 d4 _ (Z.P.below (Below.refl _ _).drew) (V.P.below (Below.refl _ _).drew)).mono ?_; rintro e w1 ⟨rfl, hb⟩; have Z1 := (Z.below (Below.refl _ _).drew).below hb; have V1 := (V.below (Below.refl _ _).drew).below hb; obtain ⟨z0, z1, z2, z3, z4, zl0, zln⟩ := Z1.cells; obtain ⟨v0, v1, v2, v3, v4, vl0, vln⟩ := V1.cells))
        have HBN := Aside0.mk (below_step HBW.out (below_step (Below.refl _ _).drew hb))
        by_cases hz : exact1 x y = true
        · have HF2 := Aside0.mk (HF1.out.trans (by rw [hz, Bool.true_and]))
          simp only [hz, Bool.not_true]
          clear hz
          go_wp2_with fail
          refine ⟨?_, ?_⟩
          · first | exact ⟨k+1, by omega, by go_num, HF2, HBN⟩ | ((repeat apply Exists.intro); exact ⟨⟨k+1, by omega, by go_num, HF2, HBN⟩, rfl⟩)
          · simp [intOf]; omega
        · have hz : exact1 x y = false := by simpa using hz
          have HF2 := Aside0.mk (HF1.out.trans (by rw [hz, Bool.false_and]))
          simp only [hz, Bool.not_false]
          clear hz
          go_wp2_with fail
          go_ret
          exact ⟨by rw [HF2.out]; rfl, HBN.out⟩
      · have hkk : Aside0 (k = ts.length) := ⟨by omega⟩
        have HF1 := Aside0.mk (HF.out.trans (exactL_end (Nat.le_of_eq hkk.out.symm) (by rw [hkk.out]; exact HGE.out)))
        go_wp2_with fail
        go_ret
        exact ⟨by rw [HF1.out]; rfl, HBW.out⟩
  · have hnb : ((ts.length : Int) != (us.length : Int)) = true := by rw [bne_iff_ne]; omega
    have HF1 : Aside0 (exactL ts us = false) := ⟨by
      cases h : exactL ts us with
      | false => rfl
      | true => exact absurd (exactL_len h) hne⟩
    clear hne
    go_enter Tryd.func14, Tryd.ntmps14
    go_wp2
    go_ret
    exact ⟨by rw [HF1.out]; rfl, Below.refl _ _⟩

set_option maxRecDepth 100000 in
set_option maxHeartbeats 1000000 in
theorem exact_step (a b : S41) (hL : ∀ (A : Option Addr) (c : Nat) (B : Option Addr) (d : Nat) (w : World), a.f4.length ≤ c → b.f4.length ≤ d → k41.C w A a.f4.length a.f4 → k41.C w B b.f4.length b.f4 →
    Calls Tryd.prog 66 #[.slice A a.f4.length c, .slice B b.f4.length d] w fun e w' => e = .returned (.bool (exactL a.f4 b.f4)) ∧ Below w.heap.size w w') : CX a b := by
  intro A c B d A' c' B' d' w hP hQ
  have HL := Aside0.mk hL
  have HR := Aside0.mk (exact1_eq a b)
  have HBB : Aside0 (Below w.heap.size w ((w.alloc (.cells (c41 a A c B d) 41)).alloc (.cells (c41 b A' c' B' d') 41))) := ⟨((Below.refl _ _).alloc (Nat.le_refl _) _).alloc (by simp) _⟩
  have X : T41 ((w.alloc (.cells (c41 a A c B d) 41)).alloc (.cells (c41 b A' c' B' d') 41)) ⟨w.heap.size, 0, none⟩ a A c B d := T41.mk_box (w := w) (by rw [Below.heap_alloc _ _ _ (by simp)]; exact blk_new _ _) hP HBB.out
  have Y : T41 ((w.alloc (.cells (c41 a A c B d) 41)).alloc (.cells (c41 b A' c' B' d') 41)) ⟨w.heap.size + 1, 0, none⟩ b A' c' B' d' := T41.mk_box (w := w) (by rw [← World.size_alloc w (.cells (c41 a A c B d) 41)]; exact blk_new _ _) hQ HBB.out
  clear hL
  by_cases h1 : (a.f0 == b.f0) = true
  · by_cases h2 : (a.f2.toList == b.f2.toList) = true
    · by_cases h3 : (a.f1.toList == b.f1.toList) = true
      · by_cases ht : teqL a.f3 b.f3 = true
        · have HF : Aside0 (exact1 a b = exactL a.f4 b.f4) := ⟨HR.out.trans (by rw [h1, h2, h3, ht]; simp)⟩
          go_enter Tryd.func36, Tryd.ntmps36
          go_wp2_with (first | (go_at_call 65; refine (base_terms a.f3 b.f3 A c A' c' _ hP.le1 hQ.le1 X.P.C1 Y.P.C1).mono ?_; rw [ht]; rintro e w1 ⟨rfl, hb⟩; have X1 := X.below hb; have Y1 := Y.below hb; obtain ⟨k0, k1, k2, k3, k4, kl0, kln⟩ := X1.box; obtain ⟨m0, m1, m2, m3, m4, ml0, mln⟩ := Y1.box; have hb' := Aside0.mk hb; clear hb) | (go_at_call 66; refine (HL.out B d B' d' _ hP.le2 hQ.le2 X1.P.C2 Y1.P.C2).mono ?_; rintro e w2 ⟨rfl, hb2⟩))
          go_ret
          exact ⟨by rw [HF.out]; rfl, below_step HBB.out (below_step hb'.out hb2)⟩
        · have ht : teqL a.f3 b.f3 = false := by simpa using ht
          have HF : Aside0 (exact1 a b = false) := ⟨HR.out.trans (by rw [h1, h2, h3, ht]; simp)⟩
          go_enter Tryd.func36, Tryd.ntmps36
          go_wp2_with (first | (go_at_call 65; refine (base_terms a.f3 b.f3 A c A' c' _ hP.le1 hQ.le1 X.P.C1 Y.P.C1).mono ?_; rw [ht]; rintro e w1 ⟨rfl, hb⟩; have X1 := X.below hb; have Y1 := Y.below hb; obtain ⟨k0, k1, k2, k3, k4, kl0, kln⟩ := X1.box; obtain ⟨m0, m1, m2, m3, m4, ml0, mln⟩ := Y1.box; have hb' := Aside0.mk hb; clear hb))
          go_ret
          exact ⟨by rw [HF.out]; rfl, below_step HBB.out hb'.out⟩
      · have h3 : (a.f1.toList == b.f1.toList) = false := by simpa using h3
        have HF : Aside0 (exact1 a b = false) := ⟨HR.out.trans (by rw [h1, h2, h3]; simp)⟩
        clear X Y
        go_enter Tryd.func36, Tryd.ntmps36
        go_wp2_with fail
        go_ret
        exact ⟨by rw [HF.out]; rfl, HBB.out⟩
    · have h2 : (a.f2.toList == b.f2.toList) = false := by simpa using h2
      have HF : Aside0 (exact1 a b = false) := ⟨HR.out.trans (by rw [h1, h2]; simp)⟩
      clear X Y
      go_enter Tryd.func36, Tryd.ntmps36
      go_wp2_with fail
      go_ret
      exact ⟨by rw [HF.out]; rfl, HBB.out⟩
  · have h1 : (a.f0 == b.f0) = false := by simpa using h1
    have HF : Aside0 (exact1 a b = false) := ⟨HR.out.trans (by rw [h1]; simp)⟩
    clear X Y
    go_enter Tryd.func36, Tryd.ntmps36
    go_wp2_with fail
    go_ret
    exact ⟨by rw [HF.out]; rfl, HBB.out⟩

set_option maxRecDepth 100000 in
set_option maxHeartbeats 1000000 in
theorem claim_step (a b : S41) (hL : ∀ (A : Option Addr) (c : Nat) (B : Option Addr) (d : Nat) (w : World), a.f4.length ≤ c → b.f4.length ≤ d → k41.C w A a.f4.length a.f4 → k41.C w B b.f4.length b.f4 →
    Calls Tryd.prog 96 #[.slice A a.f4.length c, .slice B b.f4.length d] w fun e w' => e = .returned (.bool (sameL a.f4 b.f4)) ∧ Below w.heap.size w w') : CL a b := by
  intro A c B d A' c' B' d' w hP hQ
  have HL := Aside0.mk hL
  have HR := Aside0.mk (same_eq' a b)
  have HBB : Aside0 (Below w.heap.size w ((w.alloc (.cells (c41 a A c B d) 41)).alloc (.cells (c41 b A' c' B' d') 41))) := ⟨((Below.refl _ _).alloc (Nat.le_refl _) _).alloc (by simp) _⟩
  have X : T41 ((w.alloc (.cells (c41 a A c B d) 41)).alloc (.cells (c41 b A' c' B' d') 41)) ⟨w.heap.size, 0, none⟩ a A c B d := T41.mk_box (w := w) (by rw [Below.heap_alloc _ _ _ (by simp)]; exact blk_new _ _) hP HBB.out
  have Y : T41 ((w.alloc (.cells (c41 a A c B d) 41)).alloc (.cells (c41 b A' c' B' d') 41)) ⟨w.heap.size + 1, 0, none⟩ b A' c' B' d' := T41.mk_box (w := w) (by rw [← World.size_alloc w (.cells (c41 a A c B d) 41)]; exact blk_new _ _) hQ HBB.out
  clear hL
  by_cases h1 : (a.f0 == b.f0) = true
  · have g1 : (a.f0 != b.f0) = false := by simpa using h1
    by_cases h2 : (a.f2.toList == b.f2.toList) = true
    · by_cases h4 : (a.f0 == 11) = true
      · have h5 : bind a.f0 = true := by unfold bind; rw [h4]; simp
        have g4 : (a.f0 != 11) = false := by simpa using h4
        have H5 := Aside0.mk h5
        clear h5 h4
        by_cases ht : teqL a.f3 b.f3 = true
        · have HF : Aside0 (same a b = sameL a.f4 b.f4) := ⟨HR.out.trans (by rw [h1, h2, H5.out, ht]; simp)⟩
          go_enter Tryd.func85, Tryd.ntmps85
          go_wp2_with (first | (go_at_call 65; refine (base_terms a.f3 b.f3 A c A' c' _ hP.le1 hQ.le1 X.P.C1 Y.P.C1).mono ?_; rw [ht]; rintro e w1 ⟨rfl, hb⟩; have X1 := X.below hb; have Y1 := Y.below hb; obtain ⟨k0, k1, k2, k3, k4, kl0, kln⟩ := X1.box; obtain ⟨m0, m1, m2, m3, m4, ml0, mln⟩ := Y1.box; have hb' := Aside0.mk hb; clear hb) | (go_at_call 96; refine (HL.out B d B' d' _ hP.le2 hQ.le2 X1.P.C2 Y1.P.C2).mono ?_; rintro e w2 ⟨rfl, hb2⟩))
          go_ret
          exact ⟨by rw [HF.out]; rfl, below_step HBB.out (below_step hb'.out hb2)⟩
        · have ht : teqL a.f3 b.f3 = false := by simpa using ht
          have HF : Aside0 (same a b = false) := ⟨HR.out.trans (by rw [h1, h2, H5.out, ht]; simp)⟩
          go_enter Tryd.func85, Tryd.ntmps85
          go_wp2_with (first | (go_at_call 65; refine (base_terms a.f3 b.f3 A c A' c' _ hP.le1 hQ.le1 X.P.C1 Y.P.C1).mono ?_; rw [ht]; rintro e w1 ⟨rfl, hb⟩; have X1 := X.below hb; have Y1 := Y.below hb; obtain ⟨k0, k1, k2, k3, k4, kl0, kln⟩ := X1.box; obtain ⟨m0, m1, m2, m3, m4, ml0, mln⟩ := Y1.box; have hb' := Aside0.mk hb; clear hb))
          go_ret
          exact ⟨by rw [HF.out]; rfl, below_step HBB.out hb'.out⟩
      · by_cases h6 : (a.f0 == 12) = true
        · have h5 : bind a.f0 = true := by unfold bind; rw [h6]; simp
          have g4 : (a.f0 != 11) = true := by simpa using h4
          have g6 : (a.f0 != 12) = false := by simpa using h6
          have H5 := Aside0.mk h5
          clear h5 h4 h6
          by_cases ht : teqL a.f3 b.f3 = true
          · have HF : Aside0 (same a b = sameL a.f4 b.f4) := ⟨HR.out.trans (by rw [h1, h2, H5.out, ht]; simp)⟩
            go_enter Tryd.func85, Tryd.ntmps85
            go_wp2_with (first | (go_at_call 65; refine (base_terms a.f3 b.f3 A c A' c' _ hP.le1 hQ.le1 X.P.C1 Y.P.C1).mono ?_; rw [ht]; rintro e w1 ⟨rfl, hb⟩; have X1 := X.below hb; have Y1 := Y.below hb; obtain ⟨k0, k1, k2, k3, k4, kl0, kln⟩ := X1.box; obtain ⟨m0, m1, m2, m3, m4, ml0, mln⟩ := Y1.box; have hb' := Aside0.mk hb; clear hb) | (go_at_call 96; refine (HL.out B d B' d' _ hP.le2 hQ.le2 X1.P.C2 Y1.P.C2).mono ?_; rintro e w2 ⟨rfl, hb2⟩))
            go_ret
            exact ⟨by rw [HF.out]; rfl, below_step HBB.out (below_step hb'.out hb2)⟩
          · have ht : teqL a.f3 b.f3 = false := by simpa using ht
            have HF : Aside0 (same a b = false) := ⟨HR.out.trans (by rw [h1, h2, H5.out, ht]; simp)⟩
            go_enter Tryd.func85, Tryd.ntmps85
            go_wp2_with (first | (go_at_call 65; refine (base_terms a.f3 b.f3 A c A' c' _ hP.le1 hQ.le1 X.P.C1 Y.P.C1).mono ?_; rw [ht]; rintro e w1 ⟨rfl, hb⟩; have X1 := X.below hb; have Y1 := Y.below hb; obtain ⟨k0, k1, k2, k3, k4, kl0, kln⟩ := X1.box; obtain ⟨m0, m1, m2, m3, m4, ml0, mln⟩ := Y1.box; have hb' := Aside0.mk hb; clear hb))
            go_ret
            exact ⟨by rw [HF.out]; rfl, below_step HBB.out hb'.out⟩
        · have h5 : bind a.f0 = false := by unfold bind; simp at h4 h6 ⊢; exact ⟨h4, h6⟩
          have g4 : (a.f0 != 11) = true := by simpa using h4
          have g6 : (a.f0 != 12) = true := by simpa using h6
          have H5 := Aside0.mk h5
          clear h5 h4 h6
          by_cases h3 : (a.f1.toList == b.f1.toList) = true
          · by_cases ht : teqL a.f3 b.f3 = true
            · have HF : Aside0 (same a b = sameL a.f4 b.f4) := ⟨HR.out.trans (by rw [h1, h2, H5.out, h3, ht]; simp)⟩
              go_enter Tryd.func85, Tryd.ntmps85
              go_wp2_with (first | (go_at_call 65; refine (base_terms a.f3 b.f3 A c A' c' _ hP.le1 hQ.le1 X.P.C1 Y.P.C1).mono ?_; rw [ht]; rintro e w1 ⟨rfl, hb⟩; have X1 := X.below hb; have Y1 := Y.below hb; obtain ⟨k0, k1, k2, k3, k4, kl0, kln⟩ := X1.box; obtain ⟨m0, m1, m2, m3, m4, ml0, mln⟩ := Y1.box; have hb' := Aside0.mk hb; clear hb) | (go_at_call 96; refine (HL.out B d B' d' _ hP.le2 hQ.le2 X1.P.C2 Y1.P.C2).mono ?_; rintro e w2 ⟨rfl, hb2⟩))
              go_ret
              exact ⟨by rw [HF.out]; rfl, below_step HBB.out (below_step hb'.out hb2)⟩
            · have ht : teqL a.f3 b.f3 = false := by simpa using ht
              have HF : Aside0 (same a b = false) := ⟨HR.out.trans (by rw [h1, h2, H5.out, h3, ht]; simp)⟩
              go_enter Tryd.func85, Tryd.ntmps85
              go_wp2_with (first | (go_at_call 65; refine (base_terms a.f3 b.f3 A c A' c' _ hP.le1 hQ.le1 X.P.C1 Y.P.C1).mono ?_; rw [ht]; rintro e w1 ⟨rfl, hb⟩; have X1 := X.below hb; have Y1 := Y.below hb; obtain ⟨k0, k1, k2, k3, k4, kl0, kln⟩ := X1.box; obtain ⟨m0, m1, m2, m3, m4, ml0, mln⟩ := Y1.box; have hb' := Aside0.mk hb; clear hb))
              go_ret
              exact ⟨by rw [HF.out]; rfl, below_step HBB.out hb'.out⟩
          · have h3 : (a.f1.toList == b.f1.toList) = false := by simpa using h3
            have HF : Aside0 (same a b = false) := ⟨HR.out.trans (by rw [h1, h2, H5.out, h3]; simp)⟩
            clear X Y
            go_enter Tryd.func85, Tryd.ntmps85
            go_wp2_with fail
            go_ret
            exact ⟨by rw [HF.out]; rfl, HBB.out⟩
    · have h2 : (a.f2.toList == b.f2.toList) = false := by simpa using h2
      have HF : Aside0 (same a b = false) := ⟨HR.out.trans (by rw [h1, h2]; simp)⟩
      clear X Y
      go_enter Tryd.func85, Tryd.ntmps85
      go_wp2_with fail
      go_ret
      exact ⟨by rw [HF.out]; rfl, HBB.out⟩
  · have h1 : (a.f0 == b.f0) = false := by simpa using h1
    have g1 : (a.f0 != b.f0) = true := by simpa using h1
    have HF : Aside0 (same a b = false) := ⟨HR.out.trans (by rw [h1]; simp)⟩
    clear X Y
    go_enter Tryd.func85, Tryd.ntmps85
    go_wp2_with fail
    go_ret
    exact ⟨by rw [HF.out]; rfl, HBB.out⟩

theorem base_claim (n : Nat) : ∀ a b : S41, csize a ≤ n → CL a b := by
  induction n with
  | zero => intro a b h; rw [csize_eq] at h; omega
  | succ n ih => exact fun a b h => claim_step a b fun A c B d w hc hd hA hB => claims_step a.f4 b.f4 A c B d w hc hd hA hB fun k x y hx _ => ih x y (by have := csize_sub hx; omega)
theorem base_exact (n : Nat) : ∀ a b : S41, csize a ≤ n → CX a b := by
  induction n with
  | zero => intro a b h; rw [csize_eq] at h; omega
  | succ n ih => exact fun a b h => exact_step a b fun A c B d w hc hd hA hB => exacts_step a.f4 b.f4 A c B d w hc hd hA hB fun k x y hx _ => ih x y (by have := csize_sub hx; omega)
/-- ref08.Exacts. -/
theorem ref_exacts (ts us : List S41) (A : Option Addr) (c : Nat) (B : Option Addr) (d : Nat) (w : World) (hc : ts.length ≤ c) (hd : us.length ≤ d) (ha : k41.C w A ts.length ts) (hb : k41.C w B us.length us) :
    Calls Tryd.prog 14 #[.slice A ts.length c, .slice B us.length d] w fun e w' => e = .returned (.bool (exactL ts us)) ∧ Below w.heap.size w w' :=
  rexacts_step ts us A c B d w hc hd ha hb fun k x y _ _ => base_exact _ x y (Nat.le_refl _)
/-- ref08.Same. -/
theorem ref_same (a b : S41) (A : Option Addr) (c : Nat) (B : Option Addr) (d : Nat) (A' : Option Addr) (c' : Nat) (B' : Option Addr) (d' : Nat) (w : World) (hP : P41 w a A c B d) (hQ : P41 w b A' c' B' d') :
    Calls Tryd.prog 69 #[v41 a A c B d, v41 b A' c' B' d'] w fun e w' => e = .returned (.bool (same a b)) ∧ Below w.heap.size w w' := by
  have hBB : Below w.heap.size w ((w.alloc (.cells (c41 a A c B d) 41)).alloc (.cells (c41 b A' c' B' d') 41)) := (((Below.refl _ _).alloc (Nat.le_refl _) _).alloc (by simp) _)
  have HBB := Aside0.mk hBB
  clear hBB
  go_enter Tryd.func69, Tryd.ntmps69
  go_wp2_with fail
  refine (base_claim _ a b (Nat.le_refl _) A c B d A' c' B' d' _ (hP.below HBB.out) (hQ.below HBB.out)).mono ?_
  rintro e w1 ⟨rfl, hb⟩
  have HB := Aside0.mk (below_step HBB.out hb)
  clear hb
  go_wp2_with fail
  go_ret
  exact ⟨rfl, HB.out⟩

end Go.Proofs.YtbfgoopomfenjaaDoor
namespace Go.Proofs.YtbfgoopomfenjaaDoor
open Go.RowKit Go.Proofs.YtbfgoopomfenjaaDoorW.PrintWords Go.Proofs.YtbfgoopomfenjaaDoorW.PrintLast Go.Proofs.YtbfgoopomfenjaaDoorW.PrintMore Go.Proofs.YtbfgoopomfenjaaDoor.PTseitinValues
set_option linter.unusedVariables false
set_option linter.unusedSimpArgs false
attribute [local go_sem] World.cell?_alloc_lt
attribute [local go_sem] max2_int max_two

def most (l : List Nat) : Nat := l.foldl max 0
theorem most_snoc (l : List Nat) (x : Nat) : most (l ++ [x]) = max (most l) x := by simp [most]
theorem most_le {l : List Nat} {m : Nat} (h : ∀ x ∈ l, x ≤ m) : most l ≤ m := by
  have key : ∀ (l : List Nat) (a : Nat), a ≤ m → (∀ x ∈ l, x ≤ m) → l.foldl max a ≤ m := by
    intro l
    induction l with
    | nil => intro a ha _; exact ha
    | cons x l ih => intro a ha h; exact ih _ (Nat.max_le.2 ⟨ha, h x (by simp)⟩) (fun y hy => h y (by simp [hy]))
  exact key l 0 (Nat.zero_le _) h
/-- How deep a term is, up to m. -/
def tdep : Nat → S82 → Nat
  | 0, _ => 1
  | 1, _ => 1
  | m + 2, t => 1 + most (t.f3.map (tdep (m + 1)))
def cdep : Nat → S41 → Nat
  | 0, _ => 1
  | 1, _ => 1
  | m + 2, t => 1 + most (t.f4.map (cdep (m + 1)))
theorem tdep_le (m : Nat) : ∀ t, tdep m t ≤ m + 1 := by
  induction m with
  | zero => intro t; simp [tdep]
  | succ m ih =>
    intro t
    cases m with
    | zero => simp [tdep]
    | succ m =>
      rw [tdep]
      have := most_le (l := t.f3.map (tdep (m + 1))) (m := m + 2) (by intro x hx; obtain ⟨y, _, rfl⟩ := List.mem_map.1 hx; exact ih y)
      omega
theorem cdep_le (m : Nat) : ∀ t, cdep m t ≤ m + 1 := by
  induction m with
  | zero => intro t; simp [cdep]
  | succ m ih =>
    intro t
    cases m with
    | zero => simp [cdep]
    | succ m =>
      rw [cdep]
      have := most_le (l := t.f4.map (cdep (m + 1))) (m := m + 2) (by intro x hx; obtain ⟨y, _, rfl⟩ := List.mem_map.1 hx; exact ih y)
      omega
theorem take_snoc {α : Type} {l : List α} {k : Nat} {x : α} (h : l[k]? = some x) : l.take (k + 1) = l.take k ++ [x] := by
  obtain ⟨h1, rfl⟩ := List.getElem?_eq_some_iff.1 h
  exact List.take_succ_eq_append_getElem h1
/-- The most of the first k. -/
def MostTo {α : Type} (f : α → Nat) (l : List α) (k r : Nat) : Prop := r = most ((l.take k).map f)
theorem MostTo.zero {α : Type} (f : α → Nat) (l : List α) : MostTo f l 0 0 := rfl
theorem MostTo.step {α : Type} {f : α → Nat} {l : List α} {k r : Nat} {x : α} (h : MostTo f l k r) (hx : l[k]? = some x) : MostTo f l (k + 1) (max r (f x)) := by
  unfold MostTo at h ⊢
  rw [take_snoc hx, List.map_append, List.map_singleton, most_snoc, ← h]
theorem MostTo.last {α : Type} {f : α → Nat} {l : List α} {r : Nat} (h : MostTo f l l.length r) : r = most (l.map f) := by
  unfold MostTo at h
  rwa [List.take_length] at h
def DepRel {α : Type} (f : α → Nat) (l : List α) (e : Nat → Int) (w0 : World) (v i : Value) (wr : World) : Prop :=
  ∃ k r : Nat, k ≤ l.length ∧ r ≤ 200 ∧ i = .int .i64 k ∧ v = .int .i64 (e r) ∧ Aside0 (MostTo f l k r) ∧ Aside0 (Below w0.heap.size w0 wr)

set_option maxHeartbeats 1000000 in
theorem term_depth (m : Nat) : ∀ (t : S82) (A : Option Addr) (c : Nat) (w : World), m ≤ 100 → t.f3.length ≤ c → k82.C w A t.f3.length t.f3 →
    Calls Tryd.prog 99 #[v82 t A c, .int .i64 m] w fun e w' => e = .returned (.int .i64 (tdep m t)) ∧ Below w.heap.size w w' := by
  induction m with
  | zero =>
    intro t A c w _ _ _
    go_enter Tryd.func99, Tryd.ntmps99
    go_wp2
    go_ret
    exact ⟨rfl, below_alloc (Below.refl _ _) _⟩
  | succ m ih =>
    intro t A c w hm hc hC
    cases m with
    | zero =>
      go_enter Tryd.func99, Tryd.ntmps99
      go_wp2
      go_ret
      exact ⟨rfl, below_alloc (Below.refl _ _) _⟩
    | succ m =>
      have HC := Aside0.mk hC
      have hla := hC.2.1
      have HIH := Aside0.mk ih
      have hBW : Below w.heap.size w (w.alloc (.cells #[.int .i64 t.f0, .string t.f1, .int .i64 t.f2, .slice A t.f3.length c] 82)) := below_alloc (Below.refl _ _) _
      have HBW := Aside0.mk hBW
      have X : T82 (w.alloc (.cells #[.int .i64 t.f0, .string t.f1, .int .i64 t.f2, .slice A t.f3.length c] 82)) ⟨w.heap.size, 0, none⟩ t A c := T82.mk_box (w := w) (blk_new _ _) hc hC hBW
      have HR : Aside0 (tdep (m + 1 + 1) t = 1 + most (t.f3.map (tdep (m + 1)))) := ⟨rfl⟩
      clear hC ih hBW
      go_enter Tryd.func99, Tryd.ntmps99
      go_wp2
      go_loopw [5, 7, 13] (fun v _ i wr => DepRel (tdep (m + 1)) t.f3 (fun r => (r : Int)) (w.alloc (.cells #[.int .i64 t.f0, .string t.f1, .int .i64 t.f2, .slice A t.f3.length c] 82)) v i wr) (fun _ _ i _ => t.f3.length - (intOf i).toNat)
      case atStart => exact ⟨0, 0, Nat.zero_le _, Nat.zero_le _, rfl, rfl, ⟨MostTo.zero _ _⟩, ⟨Below.refl _ _⟩⟩
      case round =>
        obtain ⟨k, r, hk, hr, rfl, rfl, HM, HB⟩ := hrel
        have HB1 := Aside0.mk (below_step HBW.out HB.out)
        by_cases hlt : k < t.f3.length
        · obtain ⟨x, ad, A3, c3, hx, rfl, Z0⟩ := at82 HC.out k hlt
          have Z := Z0.below HB1.out
          obtain ⟨z0, z1, z2, z3, zl0, zln⟩ := Z.cells
          have HM1 := Aside0.mk (HM.out.step hx)
          have hle := tdep_le (m + 1) x
          clear hx Z0
          have HWB : Aside0 (Below wr.heap.size wr (wr.alloc (.cells #[.int .i64 x.f0, .string x.f1, .int .i64 x.f2, .slice A3 x.f3.length c3] 82))) := ⟨below_alloc (Below.refl _ _) _⟩
          go_wp2_with (first | (go_at_call 99; refine (HIH.out x A3 c3 _ (by omega) Z.le (Kd.C_below Z.C HWB.out)).mono ?_; rintro e w1 ⟨rfl, hb⟩; have hb' := Aside0.mk hb; clear hb))
          · have hmx : max r (tdep (m + 1) x) = tdep (m + 1) x := by omega
            rw [hmx] at HM1
            refine ⟨?_, ?_⟩
            · first | exact ⟨k + 1, tdep (m + 1) x, by omega, by omega, by go_num, by first | rfl | go_num | (dsimp only; go_num), HM1, ⟨below_step HB.out (below_step HWB.out hb'.out)⟩⟩ | ((repeat apply Exists.intro); refine ⟨?_, rfl⟩; exact ⟨k + 1, tdep (m + 1) x, by omega, by omega, by go_num, by first | rfl | go_num | (dsimp only; go_num), HM1, ⟨below_step HB.out (below_step HWB.out hb'.out)⟩⟩) | ((repeat apply Exists.intro); refine ⟨?_, rfl, rfl⟩; exact ⟨k + 1, tdep (m + 1) x, by omega, by omega, by go_num, by first | rfl | go_num | (dsimp only; go_num), HM1, ⟨below_step HB.out (below_step HWB.out hb'.out)⟩⟩) | ((repeat apply Exists.intro); refine ⟨?_, rfl, rfl, rfl⟩; exact ⟨k + 1, tdep (m + 1) x, by omega, by omega, by go_num, by first | rfl | go_num | (dsimp only; go_num), HM1, ⟨below_step HB.out (below_step HWB.out hb'.out)⟩⟩) | ((repeat apply Exists.intro); refine ⟨?_, rfl, rfl, rfl, rfl⟩; exact ⟨k + 1, tdep (m + 1) x, by omega, by omega, by go_num, by first | rfl | go_num | (dsimp only; go_num), HM1, ⟨below_step HB.out (below_step HWB.out hb'.out)⟩⟩)
            · simp [intOf]; omega
          · have hmx : max r (tdep (m + 1) x) = r := by omega
            rw [hmx] at HM1
            refine ⟨?_, ?_⟩
            · first | exact ⟨k + 1, r, by omega, by omega, by go_num, by first | rfl | go_num | (dsimp only; go_num), HM1, ⟨below_step HB.out (below_step HWB.out hb'.out)⟩⟩ | ((repeat apply Exists.intro); refine ⟨?_, rfl⟩; exact ⟨k + 1, r, by omega, by omega, by go_num, by first | rfl | go_num | (dsimp only; go_num), HM1, ⟨below_step HB.out (below_step HWB.out hb'.out)⟩⟩) | ((repeat apply Exists.intro); refine ⟨?_, rfl, rfl⟩; exact ⟨k + 1, r, by omega, by omega, by go_num, by first | rfl | go_num | (dsimp only; go_num), HM1, ⟨below_step HB.out (below_step HWB.out hb'.out)⟩⟩) | ((repeat apply Exists.intro); refine ⟨?_, rfl, rfl, rfl⟩; exact ⟨k + 1, r, by omega, by omega, by go_num, by first | rfl | go_num | (dsimp only; go_num), HM1, ⟨below_step HB.out (below_step HWB.out hb'.out)⟩⟩) | ((repeat apply Exists.intro); refine ⟨?_, rfl, rfl, rfl, rfl⟩; exact ⟨k + 1, r, by omega, by omega, by go_num, by first | rfl | go_num | (dsimp only; go_num), HM1, ⟨below_step HB.out (below_step HWB.out hb'.out)⟩⟩)
            · simp [intOf]; omega
        · obtain rfl : k = t.f3.length := by omega
          have HE : Aside0 (tdep (m + 1 + 1) t = 1 + r) := ⟨by rw [HR.out, ← HM.out.last]⟩
          clear HM
          go_wp2
          go_ret
          exact ⟨by rw [HE.out]; first | rfl | go_num | (simp; omega), HB1.out⟩

set_option maxHeartbeats 1000000 in
theorem claim_deep (m : Nat) : ∀ (t : S41) (A : Option Addr) (c : Nat) (B : Option Addr) (d : Nat) (w : World), m ≤ 100 → P41 w t A c B d →
    Calls Tryd.prog 73 #[v41 t A c B d, .int .i64 m] w fun e w' => e = .returned (.int .i64 (cdep m t)) ∧ Below w.heap.size w w' := by
  induction m with
  | zero =>
    intro t A c B d w _ _
    go_enter Tryd.func73, Tryd.ntmps73
    go_wp2
    go_ret
    exact ⟨rfl, below_alloc (Below.refl _ _) _⟩
  | succ m ih =>
    intro t A c B d w hm hP
    cases m with
    | zero =>
      go_enter Tryd.func73, Tryd.ntmps73
      go_wp2
      go_ret
      exact ⟨rfl, below_alloc (Below.refl _ _) _⟩
    | succ m =>
      have HC := Aside0.mk hP.C2
      have hla := hP.C2.2.1
      have HIH := Aside0.mk ih
      have hBW : Below w.heap.size w (w.alloc (.cells (c41 t A c B d) 41)) := below_alloc (Below.refl _ _) _
      have HBW := Aside0.mk hBW
      have X : T41 (w.alloc (.cells (c41 t A c B d) 41)) ⟨w.heap.size, 0, none⟩ t A c B d := T41.mk_box (w := w) (blk_new _ _) hP hBW
      have HR : Aside0 (cdep (m + 1 + 1) t = 1 + most (t.f4.map (cdep (m + 1)))) := ⟨rfl⟩
      clear hP ih hBW
      go_enter Tryd.func73, Tryd.ntmps73
      go_wp2
      go_loopw [5, 7, 13] (fun v _ i wr => DepRel (cdep (m + 1)) t.f4 (fun r => 1 + (r : Int)) (w.alloc (.cells (c41 t A c B d) 41)) v i wr) (fun _ _ i _ => t.f4.length - (intOf i).toNat)
      case atStart => exact ⟨0, 0, Nat.zero_le _, Nat.zero_le _, rfl, rfl, ⟨MostTo.zero _ _⟩, ⟨Below.refl _ _⟩⟩
      case round =>
        obtain ⟨k, r, hk, hr, rfl, rfl, HM, HB⟩ := hrel
        have HB1 := Aside0.mk (below_step HBW.out HB.out)
        by_cases hlt : k < t.f4.length
        · obtain ⟨x, ad, A3, c3, A4, c4, hx, rfl, Z0⟩ := at41 HC.out k hlt
          have Z := Z0.below HB1.out
          obtain ⟨z0, z1, z2, z3, z4, zl0, zln⟩ := Z.cells
          have HM1 := Aside0.mk (HM.out.step hx)
          have hle := cdep_le (m + 1) x
          clear hx Z0
          have HWB : Aside0 (Below wr.heap.size wr (wr.alloc (.cells (c41 x A3 c3 A4 c4) 41))) := ⟨below_alloc (Below.refl _ _) _⟩
          go_wp2_with (first | (go_at_call 73; refine (HIH.out x A3 c3 A4 c4 _ (by omega) (Z.P.below HWB.out)).mono ?_; rintro e w1 ⟨rfl, hb⟩; have hb' := Aside0.mk hb; clear hb))
          · have hmx : max r (cdep (m + 1) x) = cdep (m + 1) x := by omega
            rw [hmx] at HM1
            refine ⟨?_, ?_⟩
            · first | exact ⟨k + 1, cdep (m + 1) x, by omega, by omega, by go_num, by first | rfl | go_num | (dsimp only; go_num), HM1, ⟨below_step HB.out (below_step HWB.out hb'.out)⟩⟩ | ((repeat apply Exists.intro); refine ⟨?_, rfl⟩; exact ⟨k + 1, cdep (m + 1) x, by omega, by omega, by go_num, by first | rfl | go_num | (dsimp only; go_num), HM1, ⟨below_step HB.out (below_step HWB.out hb'.out)⟩⟩) | ((repeat apply Exists.intro); refine ⟨?_, rfl, rfl⟩; exact ⟨k + 1, cdep (m + 1) x, by omega, by omega, by go_num, by first | rfl | go_num | (dsimp only; go_num), HM1, ⟨below_step HB.out (below_step HWB.out hb'.out)⟩⟩) | ((repeat apply Exists.intro); refine ⟨?_, rfl, rfl, rfl⟩; exact ⟨k + 1, cdep (m + 1) x, by omega, by omega, by go_num, by first | rfl | go_num | (dsimp only; go_num), HM1, ⟨below_step HB.out (below_step HWB.out hb'.out)⟩⟩) | ((repeat apply Exists.intro); refine ⟨?_, rfl, rfl, rfl, rfl⟩; exact ⟨k + 1, cdep (m + 1) x, by omega, by omega, by go_num, by first | rfl | go_num | (dsimp only; go_num), HM1, ⟨below_step HB.out (below_step HWB.out hb'.out)⟩⟩)
            · simp [intOf]; omega
          · have hmx : max r (cdep (m + 1) x) = r := by omega
            rw [hmx] at HM1
            refine ⟨?_, ?_⟩
            · first | exact ⟨k + 1, r, by omega, by omega, by go_num, by first | rfl | go_num | (dsimp only; go_num), HM1, ⟨below_step HB.out (below_step HWB.out hb'.out)⟩⟩ | ((repeat apply Exists.intro); refine ⟨?_, rfl⟩; exact ⟨k + 1, r, by omega, by omega, by go_num, by first | rfl | go_num | (dsimp only; go_num), HM1, ⟨below_step HB.out (below_step HWB.out hb'.out)⟩⟩) | ((repeat apply Exists.intro); refine ⟨?_, rfl, rfl⟩; exact ⟨k + 1, r, by omega, by omega, by go_num, by first | rfl | go_num | (dsimp only; go_num), HM1, ⟨below_step HB.out (below_step HWB.out hb'.out)⟩⟩) | ((repeat apply Exists.intro); refine ⟨?_, rfl, rfl, rfl⟩; exact ⟨k + 1, r, by omega, by omega, by go_num, by first | rfl | go_num | (dsimp only; go_num), HM1, ⟨below_step HB.out (below_step HWB.out hb'.out)⟩⟩) | ((repeat apply Exists.intro); refine ⟨?_, rfl, rfl, rfl, rfl⟩; exact ⟨k + 1, r, by omega, by omega, by go_num, by first | rfl | go_num | (dsimp only; go_num), HM1, ⟨below_step HB.out (below_step HWB.out hb'.out)⟩⟩)
            · simp [intOf]; omega
        · obtain rfl : k = t.f4.length := by omega
          have HE : Aside0 (cdep (m + 1 + 1) t = 1 + r) := ⟨by rw [HR.out, ← HM.out.last]⟩
          clear HM
          go_wp2
          go_ret
          exact ⟨by rw [HE.out]; first | rfl | go_num | (simp; omega), HB1.out⟩

set_option maxHeartbeats 1000000 in
theorem ref_tall (m : Nat) : ∀ (t : S82) (A : Option Addr) (c : Nat) (w : World), m ≤ 100 → t.f3.length ≤ c → k82.C w A t.f3.length t.f3 →
    Calls Tryd.prog 94 #[v82 t A c, .int .i64 m] w fun e w' => e = .returned (.int .i64 (tdep m t)) ∧ Below w.heap.size w w' := by
  induction m with
  | zero =>
    intro t A c w _ _ _
    go_enter Tryd.func94, Tryd.ntmps94
    go_wp2
    go_ret
    exact ⟨rfl, below_alloc (Below.refl _ _) _⟩
  | succ m ih =>
    intro t A c w hm hc hC
    cases m with
    | zero =>
      go_enter Tryd.func94, Tryd.ntmps94
      go_wp2
      go_ret
      exact ⟨rfl, below_alloc (Below.refl _ _) _⟩
    | succ m =>
      have HC := Aside0.mk hC
      have hla := hC.2.1
      have HIH := Aside0.mk ih
      have hBW : Below w.heap.size w (w.alloc (.cells #[.int .i64 t.f0, .string t.f1, .int .i64 t.f2, .slice A t.f3.length c] 82)) := below_alloc (Below.refl _ _) _
      have HBW := Aside0.mk hBW
      have X : T82 (w.alloc (.cells #[.int .i64 t.f0, .string t.f1, .int .i64 t.f2, .slice A t.f3.length c] 82)) ⟨w.heap.size, 0, none⟩ t A c := T82.mk_box (w := w) (blk_new _ _) hc hC hBW
      have HR : Aside0 (tdep (m + 1 + 1) t = 1 + most (t.f3.map (tdep (m + 1)))) := ⟨rfl⟩
      clear hC ih hBW
      go_enter Tryd.func94, Tryd.ntmps94
      go_wp2
      go_loopw [5, 6, 7] (fun v i _ wr => DepRel (tdep (m + 1)) t.f3 (fun r => (r : Int)) (w.alloc (.cells #[.int .i64 t.f0, .string t.f1, .int .i64 t.f2, .slice A t.f3.length c] 82)) v i wr) (fun _ i _ _ => t.f3.length - (intOf i).toNat)
      case atStart => exact ⟨0, 0, Nat.zero_le _, Nat.zero_le _, rfl, rfl, ⟨MostTo.zero _ _⟩, ⟨Below.refl _ _⟩⟩
      case round =>
        obtain ⟨k, r, hk, hr, rfl, rfl, HM, HB⟩ := hrel
        have HB1 := Aside0.mk (below_step HBW.out HB.out)
        have X1 := X.below HB.out
        obtain ⟨x0, x1, x2, x3, xl0, xln⟩ := X1.box
        by_cases hlt : k < t.f3.length
        · obtain ⟨x, ad, A3, c3, hx, rfl, Z0⟩ := at82 HC.out k hlt
          have Z := Z0.below HB1.out
          obtain ⟨z0, z1, z2, z3, zl0, zln⟩ := Z.cells
          have HM1 := Aside0.mk (HM.out.step hx)
          have hle := tdep_le (m + 1) x
          clear hx Z0
          go_wp2_with (first | (go_at_call 94; refine (HIH.out x A3 c3 _ (by omega) Z.le Z.C).mono ?_; rintro e w1 ⟨rfl, hb⟩; have hb' := Aside0.mk hb; clear hb))
          · have hmx : max r (tdep (m + 1) x) = tdep (m + 1) x := by omega
            rw [hmx] at HM1
            refine ⟨?_, ?_⟩
            · first | exact ⟨k + 1, tdep (m + 1) x, by omega, by omega, by go_num, by first | rfl | go_num | (dsimp only; go_num), HM1, ⟨below_step HB.out hb'.out⟩⟩ | ((repeat apply Exists.intro); refine ⟨?_, rfl⟩; exact ⟨k + 1, tdep (m + 1) x, by omega, by omega, by go_num, by first | rfl | go_num | (dsimp only; go_num), HM1, ⟨below_step HB.out hb'.out⟩⟩) | ((repeat apply Exists.intro); refine ⟨?_, rfl, rfl⟩; exact ⟨k + 1, tdep (m + 1) x, by omega, by omega, by go_num, by first | rfl | go_num | (dsimp only; go_num), HM1, ⟨below_step HB.out hb'.out⟩⟩) | ((repeat apply Exists.intro); refine ⟨?_, rfl, rfl, rfl⟩; exact ⟨k + 1, tdep (m + 1) x, by omega, by omega, by go_num, by first | rfl | go_num | (dsimp only; go_num), HM1, ⟨below_step HB.out hb'.out⟩⟩) | ((repeat apply Exists.intro); refine ⟨?_, rfl, rfl, rfl, rfl⟩; exact ⟨k + 1, tdep (m + 1) x, by omega, by omega, by go_num, by first | rfl | go_num | (dsimp only; go_num), HM1, ⟨below_step HB.out hb'.out⟩⟩)
            · simp [intOf]; omega
          · have hmx : max r (tdep (m + 1) x) = r := by omega
            rw [hmx] at HM1
            refine ⟨?_, ?_⟩
            · first | exact ⟨k + 1, r, by omega, by omega, by go_num, by first | rfl | go_num | (dsimp only; go_num), HM1, ⟨below_step HB.out hb'.out⟩⟩ | ((repeat apply Exists.intro); refine ⟨?_, rfl⟩; exact ⟨k + 1, r, by omega, by omega, by go_num, by first | rfl | go_num | (dsimp only; go_num), HM1, ⟨below_step HB.out hb'.out⟩⟩) | ((repeat apply Exists.intro); refine ⟨?_, rfl, rfl⟩; exact ⟨k + 1, r, by omega, by omega, by go_num, by first | rfl | go_num | (dsimp only; go_num), HM1, ⟨below_step HB.out hb'.out⟩⟩) | ((repeat apply Exists.intro); refine ⟨?_, rfl, rfl, rfl⟩; exact ⟨k + 1, r, by omega, by omega, by go_num, by first | rfl | go_num | (dsimp only; go_num), HM1, ⟨below_step HB.out hb'.out⟩⟩) | ((repeat apply Exists.intro); refine ⟨?_, rfl, rfl, rfl, rfl⟩; exact ⟨k + 1, r, by omega, by omega, by go_num, by first | rfl | go_num | (dsimp only; go_num), HM1, ⟨below_step HB.out hb'.out⟩⟩)
            · simp [intOf]; omega
        · obtain rfl : k = t.f3.length := by omega
          have HE : Aside0 (tdep (m + 1 + 1) t = 1 + r) := ⟨by rw [HR.out, ← HM.out.last]⟩
          clear HM
          go_wp2
          go_ret
          exact ⟨by rw [HE.out]; first | rfl | go_num | (simp; omega), HB1.out⟩

set_option maxHeartbeats 1000000 in
theorem ref_deep (m : Nat) : ∀ (t : S41) (A : Option Addr) (c : Nat) (B : Option Addr) (d : Nat) (w : World), m ≤ 100 → P41 w t A c B d →
    Calls Tryd.prog 80 #[v41 t A c B d, .int .i64 m] w fun e w' => e = .returned (.int .i64 (cdep m t)) ∧ Below w.heap.size w w' := by
  induction m with
  | zero =>
    intro t A c B d w _ _
    go_enter Tryd.func80, Tryd.ntmps80
    go_wp2
    go_ret
    exact ⟨rfl, below_alloc (Below.refl _ _) _⟩
  | succ m ih =>
    intro t A c B d w hm hP
    cases m with
    | zero =>
      go_enter Tryd.func80, Tryd.ntmps80
      go_wp2
      go_ret
      exact ⟨rfl, below_alloc (Below.refl _ _) _⟩
    | succ m =>
      have HC := Aside0.mk hP.C2
      have hla := hP.C2.2.1
      have HIH := Aside0.mk ih
      have hBW : Below w.heap.size w (w.alloc (.cells (c41 t A c B d) 41)) := below_alloc (Below.refl _ _) _
      have HBW := Aside0.mk hBW
      have X : T41 (w.alloc (.cells (c41 t A c B d) 41)) ⟨w.heap.size, 0, none⟩ t A c B d := T41.mk_box (w := w) (blk_new _ _) hP hBW
      have HR : Aside0 (cdep (m + 1 + 1) t = 1 + most (t.f4.map (cdep (m + 1)))) := ⟨rfl⟩
      clear hP ih hBW
      go_enter Tryd.func80, Tryd.ntmps80
      go_wp2
      go_loopw [5, 6, 7] (fun v i _ wr => DepRel (cdep (m + 1)) t.f4 (fun r => (r : Int)) (w.alloc (.cells (c41 t A c B d) 41)) v i wr) (fun _ i _ _ => t.f4.length - (intOf i).toNat)
      case atStart => exact ⟨0, 0, Nat.zero_le _, Nat.zero_le _, rfl, rfl, ⟨MostTo.zero _ _⟩, ⟨Below.refl _ _⟩⟩
      case round =>
        obtain ⟨k, r, hk, hr, rfl, rfl, HM, HB⟩ := hrel
        have HB1 := Aside0.mk (below_step HBW.out HB.out)
        have X1 := X.below HB.out
        obtain ⟨x0, x1, x2, x3, x4, xl0, xln⟩ := X1.box
        by_cases hlt : k < t.f4.length
        · obtain ⟨x, ad, A3, c3, A4, c4, hx, rfl, Z0⟩ := at41 HC.out k hlt
          have Z := Z0.below HB1.out
          obtain ⟨z0, z1, z2, z3, z4, zl0, zln⟩ := Z.cells
          have HM1 := Aside0.mk (HM.out.step hx)
          have hle := cdep_le (m + 1) x
          clear hx Z0
          go_wp2_with (first | (go_at_call 80; refine (HIH.out x A3 c3 A4 c4 _ (by omega) Z.P).mono ?_; rintro e w1 ⟨rfl, hb⟩; have hb' := Aside0.mk hb; clear hb))
          · have hmx : max r (cdep (m + 1) x) = cdep (m + 1) x := by omega
            rw [hmx] at HM1
            refine ⟨?_, ?_⟩
            · first | exact ⟨k + 1, cdep (m + 1) x, by omega, by omega, by go_num, by first | rfl | go_num | (dsimp only; go_num), HM1, ⟨below_step HB.out hb'.out⟩⟩ | ((repeat apply Exists.intro); refine ⟨?_, rfl⟩; exact ⟨k + 1, cdep (m + 1) x, by omega, by omega, by go_num, by first | rfl | go_num | (dsimp only; go_num), HM1, ⟨below_step HB.out hb'.out⟩⟩) | ((repeat apply Exists.intro); refine ⟨?_, rfl, rfl⟩; exact ⟨k + 1, cdep (m + 1) x, by omega, by omega, by go_num, by first | rfl | go_num | (dsimp only; go_num), HM1, ⟨below_step HB.out hb'.out⟩⟩) | ((repeat apply Exists.intro); refine ⟨?_, rfl, rfl, rfl⟩; exact ⟨k + 1, cdep (m + 1) x, by omega, by omega, by go_num, by first | rfl | go_num | (dsimp only; go_num), HM1, ⟨below_step HB.out hb'.out⟩⟩) | ((repeat apply Exists.intro); refine ⟨?_, rfl, rfl, rfl, rfl⟩; exact ⟨k + 1, cdep (m + 1) x, by omega, by omega, by go_num, by first | rfl | go_num | (dsimp only; go_num), HM1, ⟨below_step HB.out hb'.out⟩⟩)
            · simp [intOf]; omega
          · have hmx : max r (cdep (m + 1) x) = r := by omega
            rw [hmx] at HM1
            refine ⟨?_, ?_⟩
            · first | exact ⟨k + 1, r, by omega, by omega, by go_num, by first | rfl | go_num | (dsimp only; go_num), HM1, ⟨below_step HB.out hb'.out⟩⟩ | ((repeat apply Exists.intro); refine ⟨?_, rfl⟩; exact ⟨k + 1, r, by omega, by omega, by go_num, by first | rfl | go_num | (dsimp only; go_num), HM1, ⟨below_step HB.out hb'.out⟩⟩) | ((repeat apply Exists.intro); refine ⟨?_, rfl, rfl⟩; exact ⟨k + 1, r, by omega, by omega, by go_num, by first | rfl | go_num | (dsimp only; go_num), HM1, ⟨below_step HB.out hb'.out⟩⟩) | ((repeat apply Exists.intro); refine ⟨?_, rfl, rfl, rfl⟩; exact ⟨k + 1, r, by omega, by omega, by go_num, by first | rfl | go_num | (dsimp only; go_num), HM1, ⟨below_step HB.out hb'.out⟩⟩) | ((repeat apply Exists.intro); refine ⟨?_, rfl, rfl, rfl, rfl⟩; exact ⟨k + 1, r, by omega, by omega, by go_num, by first | rfl | go_num | (dsimp only; go_num), HM1, ⟨below_step HB.out hb'.out⟩⟩)
            · simp [intOf]; omega
        · obtain rfl : k = t.f4.length := by omega
          have HE : Aside0 (cdep (m + 1 + 1) t = 1 + r) := ⟨by rw [HR.out, ← HM.out.last]⟩
          clear HM
          go_wp2
          go_ret
          exact ⟨by rw [HE.out]; first | rfl | go_num | (simp; omega), HB1.out⟩

set_option maxHeartbeats 400000 in
theorem term_Depth (t : S82) (A : Option Addr) (c : Nat) (w : World) (hc : t.f3.length ≤ c) (hC : k82.C w A t.f3.length t.f3) :
    Calls Tryd.prog 87 #[v82 t A c] w fun e w' => e = .returned (.int .i64 (tdep 65 t)) ∧ Below w.heap.size w w' := by
  go_enter Tryd.func87, Tryd.ntmps87
  go_wp2_with fail
  refine (term_depth 65 t A c _ (by omega) hc (Kd.C_below hC (below_alloc (Below.refl _ _) _))).mono ?_
  rintro e w1 ⟨rfl, hb⟩
  have HB := Aside0.mk (below_step (below_alloc (Below.refl w.heap.size w) _) hb)
  clear hb
  go_wp2_with fail
  go_ret
  exact ⟨rfl, HB.out⟩

set_option maxHeartbeats 400000 in
theorem claim_Depth (t : S41) (A : Option Addr) (c : Nat) (B : Option Addr) (d : Nat) (w : World) (hP : P41 w t A c B d) :
    Calls Tryd.prog 50 #[v41 t A c B d] w fun e w' => e = .returned (.int .i64 (cdep 65 t)) ∧ Below w.heap.size w w' := by
  go_enter Tryd.func50, Tryd.ntmps50
  go_wp2_with fail
  refine (claim_deep 65 t A c B d _ (by omega) (hP.below (below_alloc (Below.refl _ _) _))).mono ?_
  rintro e w1 ⟨rfl, hb⟩
  have HB := Aside0.mk (below_step (below_alloc (Below.refl w.heap.size w) _) hb)
  clear hb
  go_wp2_with fail
  go_ret
  exact ⟨rfl, HB.out⟩

set_option maxHeartbeats 400000 in
theorem ref_Depth (t : S41) (A : Option Addr) (c : Nat) (B : Option Addr) (d : Nat) (w : World) (hP : P41 w t A c B d) :
    Calls Tryd.prog 60 #[v41 t A c B d] w fun e w' => e = .returned (.int .i64 (cdep 65 t)) ∧ Below w.heap.size w w' := by
  go_enter Tryd.func60, Tryd.ntmps60
  go_wp2_with fail
  refine (ref_deep 65 t A c B d _ (by omega) (hP.below (below_alloc (Below.refl _ _) _))).mono ?_
  rintro e w1 ⟨rfl, hb⟩
  have HB := Aside0.mk (below_step (below_alloc (Below.refl w.heap.size w) _) hb)
  clear hb
  go_wp2_with fail
  go_ret
  exact ⟨rfl, HB.out⟩

end Go.Proofs.YtbfgoopomfenjaaDoor
namespace Go.Proofs.YtbfgoopomfenjaaDoor
open Go.RowKit Go.Proofs.YtbfgoopomfenjaaDoorW.PrintWords Go.Proofs.YtbfgoopomfenjaaDoor.PTseitinValues
set_option linter.unusedVariables false
set_option linter.unusedSimpArgs false
attribute [local go_sem] World.cell?_alloc_lt

/-- s, up to m and 1. -/
def cap (s m : Nat) : Nat := min s (m + 1)
theorem cap_eq (s m : Nat) : cap s m = min s (m + 1) := rfl
/-- What the first k weigh. -/
def sumTo {α : Type} (f : α → Nat) (l : List α) (k : Nat) : Nat := ((l.take k).map f).sum
theorem sumTo_step {α : Type} (f : α → Nat) {l : List α} {k : Nat} {x : α} (hx : l[k]? = some x) : sumTo f l (k + 1) = sumTo f l k + f x := by
  unfold sumTo; rw [take_snoc hx, List.map_append, List.sum_append]; simp
theorem sumTo_all {α : Type} (f : α → Nat) (l : List α) : sumTo f l l.length = (l.map f).sum := by unfold sumTo; rw [List.take_length]
theorem sumTo_le {α : Type} (f : α → Nat) (l : List α) (k : Nat) : sumTo f l k ≤ (l.map f).sum := by
  have h : (l.map f).sum = sumTo f l k + ((l.drop k).map f).sum := by
    unfold sumTo; rw [← List.sum_append, ← List.map_append, List.take_append_drop]
  omega
theorem sizeL_sum (l : List S82) : sizeL l = (l.map tsize).sum := by
  induction l with
  | nil => rfl
  | cons a l ih => rw [sizeL, ih]; simp
theorem csizeL_sum (l : List S41) : csizeL l = (l.map csize).sum := by
  induction l with
  | nil => rfl
  | cons a l ih => rw [csizeL, ih]; simp
/-- n is what base and the first k weigh, up to m and 1. -/
def SumRel {α : Type} (f : α → Nat) (l : List α) (base m : Nat) (w0 : World) (v i : Value) (wr : World) : Prop :=
  ∃ k n : Nat, k ≤ l.length ∧ n ≤ m + 1 ∧ i = .int .i64 k ∧ v = .int .i64 n ∧ Aside0 (n = min (base + sumTo f l k) (m + 1)) ∧ Aside0 (Below w0.heap.size w0 wr)
theorem SumRel.start {α : Type} (f : α → Nat) (l : List α) {base m n : Nat} {w0 wr : World} (hn : n = min base (m + 1)) (hb : Below w0.heap.size w0 wr) : SumRel f l base m w0 (.int .i64 n) (.int .i64 0) wr :=
  ⟨0, n, Nat.zero_le _, by omega, rfl, rfl, ⟨by simpa [sumTo] using hn⟩, ⟨hb⟩⟩

set_option maxHeartbeats 1000000 in
theorem base_size (q : Nat) : ∀ (t : S82) (A : Option Addr) (c : Nat) (M : Int) (w : World), tsize t ≤ q → 0 ≤ M → M ≤ 10000 → t.f3.length ≤ c → k82.C w A t.f3.length t.f3 →
    Calls Tryd.prog 68 #[v82 t A c, .int .i64 M] w fun e w' => e = .returned (.int .i64 (cap (tsize t) M.toNat)) ∧ Below w.heap.size w w' := by
  induction q with
  | zero => intro t A c M w h; rw [tsize_eq] at h; omega
  | succ q ih =>
    intro t A c M w hq h0 hM hc hC
    obtain ⟨m, rfl⟩ := Int.eq_ofNat_of_zero_le h0
    rw [Int.toNat_natCast]
    have HC := Aside0.mk hC
    have hla := hC.2.1
    have HIH := Aside0.mk ih
    have hBW : Below w.heap.size w (w.alloc (.cells #[.int .i64 t.f0, .string t.f1, .int .i64 t.f2, .slice A t.f3.length c] 82)) := below_alloc (Below.refl _ _) _
    have X : T82 (w.alloc (.cells #[.int .i64 t.f0, .string t.f1, .int .i64 t.f2, .slice A t.f3.length c] 82)) ⟨w.heap.size, 0, none⟩ t A c := T82.mk_box (w := w) (blk_new _ _) hc hC hBW
    have HBW := Aside0.mk hBW
    have HT : Aside0 (tsize t = 1 + (t.f3.map tsize).sum) := ⟨by rw [tsize_eq, sizeL_sum]⟩
    have hm : m ≤ 10000 := by omega
    clear hC ih hBW h0 hM
    go_enter Tryd.func68, Tryd.ntmps68
    go_wp2
    generalize hW : w.alloc (.cells #[.int .i64 t.f0, .string t.f1, .int .i64 t.f2, .slice A t.f3.length c] 82) = W0 at *
    clear hW
    go_loopw [5, 6] (fun v i wr => SumRel tsize t.f3 1 m W0 v i wr) (fun _ i _ => t.f3.length - (intOf i).toNat)
    case atStart => exact SumRel.start (n := 1) _ _ (by omega) (Below.refl _ _)
    case round =>
      obtain ⟨k, n, hk, hn, rfl, rfl, HN, HB⟩ := hrel
      have X1 := X.below HB.out
      obtain ⟨x0, x1, x2, x3, xl0, xln⟩ := X1.box
      by_cases hlt : k < t.f3.length
      · have hltb : decide (k < t.f3.length) = true := decide_eq_true hlt
        by_cases hle : n ≤ m
        · have hleb : decide (n ≤ m) = true := decide_eq_true hle
          obtain ⟨x, ad, A3, c3, hx, rfl, Z0⟩ := at82 X.C k hlt
          have Z := Z0.below HB.out
          obtain ⟨z0, z1, z2, z3, zl0, zln⟩ := Z.cells
          have HS := Aside0.mk (sumTo_step tsize hx)
          have HX := Aside0.mk (show tsize x ≤ q by have := tsize_arg hx; omega)
          clear hx Z0
          have hcb : cap (tsize x) (m - n) ≤ 10001 := by have := cap_eq (tsize x) (m - n); omega
          go_wp2_with (first | (go_at_call 68; refine (HIH.out x A3 c3 _ _ HX.out (by omega) (by omega) Z.le Z.C).mono ?_; rintro e w1 ⟨rfl, hb⟩; have hb' := Aside0.mk hb; clear hb))
          have hcp := cap_eq (tsize x) (m - n)
          generalize hr : cap (tsize x) (m - n) = r at *
          have HNN : Aside0 (n + r = min (1 + sumTo tsize t.f3 (k + 1)) (m + 1)) := ⟨by have h1 := HN.out; have h2 := HS.out; omega⟩
          have hrle : n + r ≤ m + 1 := by have := HNN.out; omega
          clear hr hcp
          refine ⟨?_, ?_⟩
          · first | exact ⟨k + 1, n + r, by omega, by omega, by go_num, by go_num, HNN, ⟨below_step HB.out hb'.out⟩⟩ | ((repeat apply Exists.intro); refine ⟨?_, rfl⟩; exact ⟨k + 1, n + r, by omega, by omega, by go_num, by go_num, HNN, ⟨below_step HB.out hb'.out⟩⟩) | ((repeat apply Exists.intro); refine ⟨?_, rfl, rfl⟩; exact ⟨k + 1, n + r, by omega, by omega, by go_num, by go_num, HNN, ⟨below_step HB.out hb'.out⟩⟩) | ((repeat apply Exists.intro); refine ⟨?_, rfl, rfl, rfl⟩; exact ⟨k + 1, n + r, by omega, by omega, by go_num, by go_num, HNN, ⟨below_step HB.out hb'.out⟩⟩) | ((repeat apply Exists.intro); refine ⟨?_, rfl, rfl, rfl, rfl⟩; exact ⟨k + 1, n + r, by omega, by omega, by go_num, by go_num, HNN, ⟨below_step HB.out hb'.out⟩⟩)
          · simp [intOf]; omega
        · have hleb : decide (n ≤ m) = false := decide_eq_false hle
          have HE : Aside0 (n = min (1 + (t.f3.map tsize).sum) (m + 1)) := ⟨by have := HN.out; have := sumTo_le tsize t.f3 k; omega⟩
          clear HN
          go_wp2
          go_ret
          exact ⟨by rw [cap_eq, HT.out, ← HE.out]; rfl, below_step HBW.out HB.out⟩
      · have hltb : decide (k < t.f3.length) = false := decide_eq_false hlt
        have HE : Aside0 (n = min (1 + (t.f3.map tsize).sum) (m + 1)) := ⟨by have h1 := HN.out; have h2 := sumTo_all tsize t.f3; rw [show k = t.f3.length by omega, h2] at h1; exact h1⟩
        clear HN
        go_wp2
        go_ret
        exact ⟨by rw [cap_eq, HT.out, ← HE.out]; rfl, below_step HBW.out HB.out⟩

set_option maxHeartbeats 1000000 in
theorem ref_size (q : Nat) : ∀ (t : S82) (A : Option Addr) (c : Nat) (M : Int) (w : World), tsize t ≤ q → 0 ≤ M → M ≤ 10000 → t.f3.length ≤ c → k82.C w A t.f3.length t.f3 →
    Calls Tryd.prog 93 #[v82 t A c, .int .i64 M] w fun e w' => e = .returned (.int .i64 (cap (tsize t) M.toNat)) ∧ Below w.heap.size w w' := by
  induction q with
  | zero => intro t A c M w h; rw [tsize_eq] at h; omega
  | succ q ih =>
    intro t A c M w hq h0 hM hc hC
    obtain ⟨m, rfl⟩ := Int.eq_ofNat_of_zero_le h0
    rw [Int.toNat_natCast]
    have HC := Aside0.mk hC
    have hla := hC.2.1
    have HIH := Aside0.mk ih
    have hBW : Below w.heap.size w (w.alloc (.cells #[.int .i64 t.f0, .string t.f1, .int .i64 t.f2, .slice A t.f3.length c] 82)) := below_alloc (Below.refl _ _) _
    have X : T82 (w.alloc (.cells #[.int .i64 t.f0, .string t.f1, .int .i64 t.f2, .slice A t.f3.length c] 82)) ⟨w.heap.size, 0, none⟩ t A c := T82.mk_box (w := w) (blk_new _ _) hc hC hBW
    have HBW := Aside0.mk hBW
    have HT : Aside0 (tsize t = 1 + (t.f3.map tsize).sum) := ⟨by rw [tsize_eq, sizeL_sum]⟩
    have hm : m ≤ 10000 := by omega
    clear hC ih hBW h0 hM
    go_enter Tryd.func93, Tryd.ntmps93
    go_wp2
    generalize hW : w.alloc (.cells #[.int .i64 t.f0, .string t.f1, .int .i64 t.f2, .slice A t.f3.length c] 82) = W0 at *
    clear hW
    go_loopw [5, 6] (fun v i wr => SumRel tsize t.f3 1 m W0 v i wr) (fun _ i _ => t.f3.length - (intOf i).toNat)
    case atStart => exact SumRel.start (n := 1) _ _ (by omega) (Below.refl _ _)
    case round =>
      obtain ⟨k, n, hk, hn, rfl, rfl, HN, HB⟩ := hrel
      have X1 := X.below HB.out
      obtain ⟨x0, x1, x2, x3, xl0, xln⟩ := X1.box
      by_cases hlt : k < t.f3.length
      · have hltb : decide (k < t.f3.length) = true := decide_eq_true hlt
        by_cases hle : n ≤ m
        · have hleb : decide (n ≤ m) = true := decide_eq_true hle
          obtain ⟨x, ad, A3, c3, hx, rfl, Z0⟩ := at82 X.C k hlt
          have Z := Z0.below HB.out
          obtain ⟨z0, z1, z2, z3, zl0, zln⟩ := Z.cells
          have HS := Aside0.mk (sumTo_step tsize hx)
          have HX := Aside0.mk (show tsize x ≤ q by have := tsize_arg hx; omega)
          clear hx Z0
          have hcb : cap (tsize x) (m - n) ≤ 10001 := by have := cap_eq (tsize x) (m - n); omega
          go_wp2_with (first | (go_at_call 93; refine (HIH.out x A3 c3 _ _ HX.out (by omega) (by omega) Z.le Z.C).mono ?_; rintro e w1 ⟨rfl, hb⟩; have hb' := Aside0.mk hb; clear hb))
          have hcp := cap_eq (tsize x) (m - n)
          generalize hr : cap (tsize x) (m - n) = r at *
          have HNN : Aside0 (n + r = min (1 + sumTo tsize t.f3 (k + 1)) (m + 1)) := ⟨by have h1 := HN.out; have h2 := HS.out; omega⟩
          have hrle : n + r ≤ m + 1 := by have := HNN.out; omega
          clear hr hcp
          refine ⟨?_, ?_⟩
          · first | exact ⟨k + 1, n + r, by omega, by omega, by go_num, by go_num, HNN, ⟨below_step HB.out hb'.out⟩⟩ | ((repeat apply Exists.intro); refine ⟨?_, rfl⟩; exact ⟨k + 1, n + r, by omega, by omega, by go_num, by go_num, HNN, ⟨below_step HB.out hb'.out⟩⟩) | ((repeat apply Exists.intro); refine ⟨?_, rfl, rfl⟩; exact ⟨k + 1, n + r, by omega, by omega, by go_num, by go_num, HNN, ⟨below_step HB.out hb'.out⟩⟩) | ((repeat apply Exists.intro); refine ⟨?_, rfl, rfl, rfl⟩; exact ⟨k + 1, n + r, by omega, by omega, by go_num, by go_num, HNN, ⟨below_step HB.out hb'.out⟩⟩) | ((repeat apply Exists.intro); refine ⟨?_, rfl, rfl, rfl, rfl⟩; exact ⟨k + 1, n + r, by omega, by omega, by go_num, by go_num, HNN, ⟨below_step HB.out hb'.out⟩⟩)
          · simp [intOf]; omega
        · have hleb : decide (n ≤ m) = false := decide_eq_false hle
          have HE : Aside0 (n = min (1 + (t.f3.map tsize).sum) (m + 1)) := ⟨by have := HN.out; have := sumTo_le tsize t.f3 k; omega⟩
          clear HN
          go_wp2
          go_ret
          exact ⟨by rw [cap_eq, HT.out, ← HE.out]; rfl, below_step HBW.out HB.out⟩
      · have hltb : decide (k < t.f3.length) = false := decide_eq_false hlt
        have HE : Aside0 (n = min (1 + (t.f3.map tsize).sum) (m + 1)) := ⟨by have h1 := HN.out; have h2 := sumTo_all tsize t.f3; rw [show k = t.f3.length by omega, h2] at h1; exact h1⟩
        clear HN
        go_wp2
        go_ret
        exact ⟨by rw [cap_eq, HT.out, ← HE.out]; rfl, below_step HBW.out HB.out⟩

set_option maxRecDepth 100000 in
set_option maxHeartbeats 2000000 in
theorem base_weight (q : Nat) : ∀ (t : S41) (A : Option Addr) (c : Nat) (B : Option Addr) (d : Nat) (M : Int) (w : World), csize t ≤ q → 0 ≤ M → M ≤ 10000 → P41 w t A c B d →
    Calls Tryd.prog 42 #[v41 t A c B d, .int .i64 M] w fun e w' => e = .returned (.int .i64 (cap (csize t) M.toNat)) ∧ Below w.heap.size w w' := by
  induction q with
  | zero => intro t A c B d M w h; rw [csize_eq] at h; omega
  | succ q ih =>
    intro t A c B d M w hq h0 hM hP
    obtain ⟨m, rfl⟩ := Int.eq_ofNat_of_zero_le h0
    rw [Int.toNat_natCast]
    have hla := hP.C1.2.1
    have hlb := hP.C2.2.1
    have HIH := Aside0.mk ih
    have hBW : Below w.heap.size w (w.alloc (.cells (c41 t A c B d) 41)) := below_alloc (Below.refl _ _) _
    have X : T41 (w.alloc (.cells (c41 t A c B d) 41)) ⟨w.heap.size, 0, none⟩ t A c B d := T41.mk_box (w := w) (blk_new _ _) hP hBW
    have HBW := Aside0.mk hBW
    have HT : Aside0 (csize t = 1 + (t.f3.map tsize).sum + (t.f4.map csize).sum) := ⟨by rw [csize_eq, sizeL_sum, csizeL_sum]⟩
    have hm : m ≤ 10000 := by omega
    clear ih hBW h0 hM hP
    go_enter Tryd.func42, Tryd.ntmps42
    go_wp2
    generalize hW : w.alloc (.cells (c41 t A c B d) 41) = W0 at *
    clear hW
    go_loopw [5, 6] (fun v i wr => SumRel tsize t.f3 1 m W0 v i wr) (fun _ i _ => t.f3.length - (intOf i).toNat)
    case atStart => exact SumRel.start (n := 1) _ _ (by omega) (Below.refl _ _)
    case round =>
      obtain ⟨k, n, hk, hn, rfl, rfl, HN, HB⟩ := hrel
      have X1 := X.below HB.out
      obtain ⟨x0, x1, x2, x3, x4, xl0, xln⟩ := X1.box
      by_cases hlt : k < t.f3.length
      · have hltb : decide (k < t.f3.length) = true := decide_eq_true hlt
        by_cases hle : n ≤ m
        · have hleb : decide (n ≤ m) = true := decide_eq_true hle
          obtain ⟨x, ad, A3, c3, hx, rfl, Z0⟩ := at82 X.P.C1 k hlt
          have Z := Z0.below HB.out
          obtain ⟨z0, z1, z2, z3, zl0, zln⟩ := Z.cells
          have HS := Aside0.mk (sumTo_step tsize hx)
          clear hx Z0
          have hcb : cap (tsize x) (m - n) ≤ 10001 := by have := cap_eq (tsize x) (m - n); omega
          go_wp2_with (first | (go_at_call 68; refine (base_size _ x A3 c3 _ _ (Nat.le_refl _) (by omega) (by omega) Z.le Z.C).mono ?_; rintro e w1 ⟨rfl, hb⟩; have hb' := Aside0.mk hb; clear hb))
          have hcp := cap_eq (tsize x) (m - n)
          generalize hr : cap (tsize x) (m - n) = r at *
          have HNN : Aside0 (n + r = min (1 + sumTo tsize t.f3 (k + 1)) (m + 1)) := ⟨by have h1 := HN.out; have h2 := HS.out; omega⟩
          have hrle : n + r ≤ m + 1 := by have := HNN.out; omega
          clear hr hcp
          refine ⟨?_, ?_⟩
          · first | exact ⟨k + 1, n + r, by omega, by omega, by go_num, by go_num, HNN, ⟨below_step HB.out hb'.out⟩⟩ | ((repeat apply Exists.intro); refine ⟨?_, rfl⟩; exact ⟨k + 1, n + r, by omega, by omega, by go_num, by go_num, HNN, ⟨below_step HB.out hb'.out⟩⟩) | ((repeat apply Exists.intro); refine ⟨?_, rfl, rfl⟩; exact ⟨k + 1, n + r, by omega, by omega, by go_num, by go_num, HNN, ⟨below_step HB.out hb'.out⟩⟩) | ((repeat apply Exists.intro); refine ⟨?_, rfl, rfl, rfl⟩; exact ⟨k + 1, n + r, by omega, by omega, by go_num, by go_num, HNN, ⟨below_step HB.out hb'.out⟩⟩) | ((repeat apply Exists.intro); refine ⟨?_, rfl, rfl, rfl, rfl⟩; exact ⟨k + 1, n + r, by omega, by omega, by go_num, by go_num, HNN, ⟨below_step HB.out hb'.out⟩⟩)
          · simp [intOf]; omega
        · have hleb : decide (n ≤ m) = false := decide_eq_false hle
          have HE : Aside0 (n = min (1 + (t.f3.map tsize).sum) (m + 1)) := ⟨by have := HN.out; have := sumTo_le tsize t.f3 k; omega⟩
          clear HN
          go_wp2
          have HE0 := HE
          have HB0 := HB
          have X0 := X
          clear X x0 x1 x2 x3 x4 xl0 xln
          rename T41 wr _ _ _ _ _ _ => X
          clear HE HB
          obtain ⟨wo, rfl⟩ : ∃ wo : World, wo = wr := ⟨_, rfl⟩
          clear X0
          go_loopw [5, 7] (fun v i wr => SumRel csize t.f4 (1 + (t.f3.map tsize).sum) m wo v i wr) (fun _ i _ => t.f4.length - (intOf i).toNat)
          case atStart => exact SumRel.start _ _ HE0.out (Below.refl _ _)
          case round =>
            obtain ⟨k, n, hk, hn, rfl, rfl, HN, HB⟩ := hrel
            have X1 := X.below HB.out
            obtain ⟨x0, x1, x2, x3, x4, xl0, xln⟩ := X1.box
            by_cases hlt : k < t.f4.length
            · have hltb : decide (k < t.f4.length) = true := decide_eq_true hlt
              by_cases hle : n ≤ m
              · have hleb : decide (n ≤ m) = true := decide_eq_true hle
                obtain ⟨x, ad, A3, c3, A4, c4, hx, rfl, Z0⟩ := at41 X.P.C2 k hlt
                have Z := Z0.below HB.out
                obtain ⟨z0, z1, z2, z3, z4, zl0, zln⟩ := Z.cells
                have HS := Aside0.mk (sumTo_step csize hx)
                have HX := Aside0.mk (show csize x ≤ q by have := csize_sub hx; omega)
                clear hx Z0
                have hcb : cap (csize x) (m - n) ≤ 10001 := by have := cap_eq (csize x) (m - n); omega
                go_wp2_with (first | (go_at_call 42; refine (HIH.out x A3 c3 A4 c4 _ _ HX.out (by omega) (by omega) Z.P).mono ?_; rintro e w1 ⟨rfl, hb⟩; have hb' := Aside0.mk hb; clear hb))
                have hcp := cap_eq (csize x) (m - n)
                generalize hr : cap (csize x) (m - n) = r at *
                have HNN : Aside0 (n + r = min ((1 + (t.f3.map tsize).sum) + sumTo csize t.f4 (k + 1)) (m + 1)) := ⟨by have h1 := HN.out; have h2 := HS.out; omega⟩
                have hrle : n + r ≤ m + 1 := by have := HNN.out; omega
                clear hr hcp
                refine ⟨?_, ?_⟩
                · first | exact ⟨k + 1, n + r, by omega, by omega, by go_num, by go_num, HNN, ⟨below_step HB.out hb'.out⟩⟩ | ((repeat apply Exists.intro); refine ⟨?_, rfl⟩; exact ⟨k + 1, n + r, by omega, by omega, by go_num, by go_num, HNN, ⟨below_step HB.out hb'.out⟩⟩) | ((repeat apply Exists.intro); refine ⟨?_, rfl, rfl⟩; exact ⟨k + 1, n + r, by omega, by omega, by go_num, by go_num, HNN, ⟨below_step HB.out hb'.out⟩⟩) | ((repeat apply Exists.intro); refine ⟨?_, rfl, rfl, rfl⟩; exact ⟨k + 1, n + r, by omega, by omega, by go_num, by go_num, HNN, ⟨below_step HB.out hb'.out⟩⟩) | ((repeat apply Exists.intro); refine ⟨?_, rfl, rfl, rfl, rfl⟩; exact ⟨k + 1, n + r, by omega, by omega, by go_num, by go_num, HNN, ⟨below_step HB.out hb'.out⟩⟩)
                · simp [intOf]; omega
              · have hleb : decide (n ≤ m) = false := decide_eq_false hle
                have HE : Aside0 (n = min ((1 + (t.f3.map tsize).sum) + (t.f4.map csize).sum) (m + 1)) := ⟨by have := HN.out; have := sumTo_le csize t.f4 k; omega⟩
                clear HN
                go_wp2
                go_ret
                exact ⟨by rw [cap_eq, HT.out, ← HE.out]; rfl, below_step HBW.out (below_step HB0.out HB.out)⟩
            · have hltb : decide (k < t.f4.length) = false := decide_eq_false hlt
              have HE : Aside0 (n = min ((1 + (t.f3.map tsize).sum) + (t.f4.map csize).sum) (m + 1)) := ⟨by have h1 := HN.out; have h2 := sumTo_all csize t.f4; rw [show k = t.f4.length by omega, h2] at h1; exact h1⟩
              clear HN
              go_wp2
              go_ret
              exact ⟨by rw [cap_eq, HT.out, ← HE.out]; rfl, below_step HBW.out (below_step HB0.out HB.out)⟩
      · have hltb : decide (k < t.f3.length) = false := decide_eq_false hlt
        have HE : Aside0 (n = min (1 + (t.f3.map tsize).sum) (m + 1)) := ⟨by have h1 := HN.out; have h2 := sumTo_all tsize t.f3; rw [show k = t.f3.length by omega, h2] at h1; exact h1⟩
        clear HN
        go_wp2
        have HE0 := HE
        have HB0 := HB
        have X0 := X
        clear X x0 x1 x2 x3 x4 xl0 xln
        rename T41 wr _ _ _ _ _ _ => X
        clear HE HB
        obtain ⟨wo, rfl⟩ : ∃ wo : World, wo = wr := ⟨_, rfl⟩
        clear X0
        go_loopw [5, 7] (fun v i wr => SumRel csize t.f4 (1 + (t.f3.map tsize).sum) m wo v i wr) (fun _ i _ => t.f4.length - (intOf i).toNat)
        case atStart => exact SumRel.start _ _ HE0.out (Below.refl _ _)
        case round =>
          obtain ⟨k, n, hk, hn, rfl, rfl, HN, HB⟩ := hrel
          have X1 := X.below HB.out
          obtain ⟨x0, x1, x2, x3, x4, xl0, xln⟩ := X1.box
          by_cases hlt : k < t.f4.length
          · have hltb : decide (k < t.f4.length) = true := decide_eq_true hlt
            by_cases hle : n ≤ m
            · have hleb : decide (n ≤ m) = true := decide_eq_true hle
              obtain ⟨x, ad, A3, c3, A4, c4, hx, rfl, Z0⟩ := at41 X.P.C2 k hlt
              have Z := Z0.below HB.out
              obtain ⟨z0, z1, z2, z3, z4, zl0, zln⟩ := Z.cells
              have HS := Aside0.mk (sumTo_step csize hx)
              have HX := Aside0.mk (show csize x ≤ q by have := csize_sub hx; omega)
              clear hx Z0
              have hcb : cap (csize x) (m - n) ≤ 10001 := by have := cap_eq (csize x) (m - n); omega
              go_wp2_with (first | (go_at_call 42; refine (HIH.out x A3 c3 A4 c4 _ _ HX.out (by omega) (by omega) Z.P).mono ?_; rintro e w1 ⟨rfl, hb⟩; have hb' := Aside0.mk hb; clear hb))
              have hcp := cap_eq (csize x) (m - n)
              generalize hr : cap (csize x) (m - n) = r at *
              have HNN : Aside0 (n + r = min ((1 + (t.f3.map tsize).sum) + sumTo csize t.f4 (k + 1)) (m + 1)) := ⟨by have h1 := HN.out; have h2 := HS.out; omega⟩
              have hrle : n + r ≤ m + 1 := by have := HNN.out; omega
              clear hr hcp
              refine ⟨?_, ?_⟩
              · first | exact ⟨k + 1, n + r, by omega, by omega, by go_num, by go_num, HNN, ⟨below_step HB.out hb'.out⟩⟩ | ((repeat apply Exists.intro); refine ⟨?_, rfl⟩; exact ⟨k + 1, n + r, by omega, by omega, by go_num, by go_num, HNN, ⟨below_step HB.out hb'.out⟩⟩) | ((repeat apply Exists.intro); refine ⟨?_, rfl, rfl⟩; exact ⟨k + 1, n + r, by omega, by omega, by go_num, by go_num, HNN, ⟨below_step HB.out hb'.out⟩⟩) | ((repeat apply Exists.intro); refine ⟨?_, rfl, rfl, rfl⟩; exact ⟨k + 1, n + r, by omega, by omega, by go_num, by go_num, HNN, ⟨below_step HB.out hb'.out⟩⟩) | ((repeat apply Exists.intro); refine ⟨?_, rfl, rfl, rfl, rfl⟩; exact ⟨k + 1, n + r, by omega, by omega, by go_num, by go_num, HNN, ⟨below_step HB.out hb'.out⟩⟩)
              · simp [intOf]; omega
            · have hleb : decide (n ≤ m) = false := decide_eq_false hle
              have HE : Aside0 (n = min ((1 + (t.f3.map tsize).sum) + (t.f4.map csize).sum) (m + 1)) := ⟨by have := HN.out; have := sumTo_le csize t.f4 k; omega⟩
              clear HN
              go_wp2
              go_ret
              exact ⟨by rw [cap_eq, HT.out, ← HE.out]; rfl, below_step HBW.out (below_step HB0.out HB.out)⟩
          · have hltb : decide (k < t.f4.length) = false := decide_eq_false hlt
            have HE : Aside0 (n = min ((1 + (t.f3.map tsize).sum) + (t.f4.map csize).sum) (m + 1)) := ⟨by have h1 := HN.out; have h2 := sumTo_all csize t.f4; rw [show k = t.f4.length by omega, h2] at h1; exact h1⟩
            clear HN
            go_wp2
            go_ret
            exact ⟨by rw [cap_eq, HT.out, ← HE.out]; rfl, below_step HBW.out (below_step HB0.out HB.out)⟩

set_option maxRecDepth 100000 in
set_option maxHeartbeats 2000000 in
theorem ref_weigh (q : Nat) : ∀ (t : S41) (A : Option Addr) (c : Nat) (B : Option Addr) (d : Nat) (M : Int) (w : World), csize t ≤ q → 0 ≤ M → M ≤ 10000 → P41 w t A c B d →
    Calls Tryd.prog 81 #[v41 t A c B d, .int .i64 M] w fun e w' => e = .returned (.int .i64 (cap (csize t) M.toNat)) ∧ Below w.heap.size w w' := by
  induction q with
  | zero => intro t A c B d M w h; rw [csize_eq] at h; omega
  | succ q ih =>
    intro t A c B d M w hq h0 hM hP
    obtain ⟨m, rfl⟩ := Int.eq_ofNat_of_zero_le h0
    rw [Int.toNat_natCast]
    have hla := hP.C1.2.1
    have hlb := hP.C2.2.1
    have HIH := Aside0.mk ih
    have hBW : Below w.heap.size w (w.alloc (.cells (c41 t A c B d) 41)) := below_alloc (Below.refl _ _) _
    have X : T41 (w.alloc (.cells (c41 t A c B d) 41)) ⟨w.heap.size, 0, none⟩ t A c B d := T41.mk_box (w := w) (blk_new _ _) hP hBW
    have HBW := Aside0.mk hBW
    have HT : Aside0 (csize t = 1 + (t.f3.map tsize).sum + (t.f4.map csize).sum) := ⟨by rw [csize_eq, sizeL_sum, csizeL_sum]⟩
    have hm : m ≤ 10000 := by omega
    clear ih hBW h0 hM hP
    go_enter Tryd.func81, Tryd.ntmps81
    go_wp2
    generalize hW : w.alloc (.cells (c41 t A c B d) 41) = W0 at *
    clear hW
    go_loopw [5, 6] (fun v i wr => SumRel tsize t.f3 1 m W0 v i wr) (fun _ i _ => t.f3.length - (intOf i).toNat)
    case atStart => exact SumRel.start (n := 1) _ _ (by omega) (Below.refl _ _)
    case round =>
      obtain ⟨k, n, hk, hn, rfl, rfl, HN, HB⟩ := hrel
      have X1 := X.below HB.out
      obtain ⟨x0, x1, x2, x3, x4, xl0, xln⟩ := X1.box
      by_cases hlt : k < t.f3.length
      · have hltb : decide (k < t.f3.length) = true := decide_eq_true hlt
        by_cases hle : n ≤ m
        · have hleb : decide (n ≤ m) = true := decide_eq_true hle
          obtain ⟨x, ad, A3, c3, hx, rfl, Z0⟩ := at82 X.P.C1 k hlt
          have Z := Z0.below HB.out
          obtain ⟨z0, z1, z2, z3, zl0, zln⟩ := Z.cells
          have HS := Aside0.mk (sumTo_step tsize hx)
          clear hx Z0
          have hcb : cap (tsize x) (m - n) ≤ 10001 := by have := cap_eq (tsize x) (m - n); omega
          go_wp2_with (first | (go_at_call 93; refine (ref_size _ x A3 c3 _ _ (Nat.le_refl _) (by omega) (by omega) Z.le Z.C).mono ?_; rintro e w1 ⟨rfl, hb⟩; have hb' := Aside0.mk hb; clear hb))
          have hcp := cap_eq (tsize x) (m - n)
          generalize hr : cap (tsize x) (m - n) = r at *
          have HNN : Aside0 (n + r = min (1 + sumTo tsize t.f3 (k + 1)) (m + 1)) := ⟨by have h1 := HN.out; have h2 := HS.out; omega⟩
          have hrle : n + r ≤ m + 1 := by have := HNN.out; omega
          clear hr hcp
          refine ⟨?_, ?_⟩
          · first | exact ⟨k + 1, n + r, by omega, by omega, by go_num, by go_num, HNN, ⟨below_step HB.out hb'.out⟩⟩ | ((repeat apply Exists.intro); refine ⟨?_, rfl⟩; exact ⟨k + 1, n + r, by omega, by omega, by go_num, by go_num, HNN, ⟨below_step HB.out hb'.out⟩⟩) | ((repeat apply Exists.intro); refine ⟨?_, rfl, rfl⟩; exact ⟨k + 1, n + r, by omega, by omega, by go_num, by go_num, HNN, ⟨below_step HB.out hb'.out⟩⟩) | ((repeat apply Exists.intro); refine ⟨?_, rfl, rfl, rfl⟩; exact ⟨k + 1, n + r, by omega, by omega, by go_num, by go_num, HNN, ⟨below_step HB.out hb'.out⟩⟩) | ((repeat apply Exists.intro); refine ⟨?_, rfl, rfl, rfl, rfl⟩; exact ⟨k + 1, n + r, by omega, by omega, by go_num, by go_num, HNN, ⟨below_step HB.out hb'.out⟩⟩)
          · simp [intOf]; omega
        · have hleb : decide (n ≤ m) = false := decide_eq_false hle
          have HE : Aside0 (n = min (1 + (t.f3.map tsize).sum) (m + 1)) := ⟨by have := HN.out; have := sumTo_le tsize t.f3 k; omega⟩
          clear HN
          go_wp2
          have HE0 := HE
          have HB0 := HB
          have X0 := X
          clear X x0 x1 x2 x3 x4 xl0 xln
          rename T41 wr _ _ _ _ _ _ => X
          clear HE HB
          obtain ⟨wo, rfl⟩ : ∃ wo : World, wo = wr := ⟨_, rfl⟩
          clear X0
          go_loopw [5, 7] (fun v i wr => SumRel csize t.f4 (1 + (t.f3.map tsize).sum) m wo v i wr) (fun _ i _ => t.f4.length - (intOf i).toNat)
          case atStart => exact SumRel.start _ _ HE0.out (Below.refl _ _)
          case round =>
            obtain ⟨k, n, hk, hn, rfl, rfl, HN, HB⟩ := hrel
            have X1 := X.below HB.out
            obtain ⟨x0, x1, x2, x3, x4, xl0, xln⟩ := X1.box
            by_cases hlt : k < t.f4.length
            · have hltb : decide (k < t.f4.length) = true := decide_eq_true hlt
              by_cases hle : n ≤ m
              · have hleb : decide (n ≤ m) = true := decide_eq_true hle
                obtain ⟨x, ad, A3, c3, A4, c4, hx, rfl, Z0⟩ := at41 X.P.C2 k hlt
                have Z := Z0.below HB.out
                obtain ⟨z0, z1, z2, z3, z4, zl0, zln⟩ := Z.cells
                have HS := Aside0.mk (sumTo_step csize hx)
                have HX := Aside0.mk (show csize x ≤ q by have := csize_sub hx; omega)
                clear hx Z0
                have hcb : cap (csize x) (m - n) ≤ 10001 := by have := cap_eq (csize x) (m - n); omega
                go_wp2_with (first | (go_at_call 81; refine (HIH.out x A3 c3 A4 c4 _ _ HX.out (by omega) (by omega) Z.P).mono ?_; rintro e w1 ⟨rfl, hb⟩; have hb' := Aside0.mk hb; clear hb))
                have hcp := cap_eq (csize x) (m - n)
                generalize hr : cap (csize x) (m - n) = r at *
                have HNN : Aside0 (n + r = min ((1 + (t.f3.map tsize).sum) + sumTo csize t.f4 (k + 1)) (m + 1)) := ⟨by have h1 := HN.out; have h2 := HS.out; omega⟩
                have hrle : n + r ≤ m + 1 := by have := HNN.out; omega
                clear hr hcp
                refine ⟨?_, ?_⟩
                · first | exact ⟨k + 1, n + r, by omega, by omega, by go_num, by go_num, HNN, ⟨below_step HB.out hb'.out⟩⟩ | ((repeat apply Exists.intro); refine ⟨?_, rfl⟩; exact ⟨k + 1, n + r, by omega, by omega, by go_num, by go_num, HNN, ⟨below_step HB.out hb'.out⟩⟩) | ((repeat apply Exists.intro); refine ⟨?_, rfl, rfl⟩; exact ⟨k + 1, n + r, by omega, by omega, by go_num, by go_num, HNN, ⟨below_step HB.out hb'.out⟩⟩) | ((repeat apply Exists.intro); refine ⟨?_, rfl, rfl, rfl⟩; exact ⟨k + 1, n + r, by omega, by omega, by go_num, by go_num, HNN, ⟨below_step HB.out hb'.out⟩⟩) | ((repeat apply Exists.intro); refine ⟨?_, rfl, rfl, rfl, rfl⟩; exact ⟨k + 1, n + r, by omega, by omega, by go_num, by go_num, HNN, ⟨below_step HB.out hb'.out⟩⟩)
                · simp [intOf]; omega
              · have hleb : decide (n ≤ m) = false := decide_eq_false hle
                have HE : Aside0 (n = min ((1 + (t.f3.map tsize).sum) + (t.f4.map csize).sum) (m + 1)) := ⟨by have := HN.out; have := sumTo_le csize t.f4 k; omega⟩
                clear HN
                go_wp2
                go_ret
                exact ⟨by rw [cap_eq, HT.out, ← HE.out]; rfl, below_step HBW.out (below_step HB0.out HB.out)⟩
            · have hltb : decide (k < t.f4.length) = false := decide_eq_false hlt
              have HE : Aside0 (n = min ((1 + (t.f3.map tsize).sum) + (t.f4.map csize).sum) (m + 1)) := ⟨by have h1 := HN.out; have h2 := sumTo_all csize t.f4; rw [show k = t.f4.length by omega, h2] at h1; exact h1⟩
              clear HN
              go_wp2
              go_ret
              exact ⟨by rw [cap_eq, HT.out, ← HE.out]; rfl, below_step HBW.out (below_step HB0.out HB.out)⟩
      · have hltb : decide (k < t.f3.length) = false := decide_eq_false hlt
        have HE : Aside0 (n = min (1 + (t.f3.map tsize).sum) (m + 1)) := ⟨by have h1 := HN.out; have h2 := sumTo_all tsize t.f3; rw [show k = t.f3.length by omega, h2] at h1; exact h1⟩
        clear HN
        go_wp2
        have HE0 := HE
        have HB0 := HB
        have X0 := X
        clear X x0 x1 x2 x3 x4 xl0 xln
        rename T41 wr _ _ _ _ _ _ => X
        clear HE HB
        obtain ⟨wo, rfl⟩ : ∃ wo : World, wo = wr := ⟨_, rfl⟩
        clear X0
        go_loopw [5, 7] (fun v i wr => SumRel csize t.f4 (1 + (t.f3.map tsize).sum) m wo v i wr) (fun _ i _ => t.f4.length - (intOf i).toNat)
        case atStart => exact SumRel.start _ _ HE0.out (Below.refl _ _)
        case round =>
          obtain ⟨k, n, hk, hn, rfl, rfl, HN, HB⟩ := hrel
          have X1 := X.below HB.out
          obtain ⟨x0, x1, x2, x3, x4, xl0, xln⟩ := X1.box
          by_cases hlt : k < t.f4.length
          · have hltb : decide (k < t.f4.length) = true := decide_eq_true hlt
            by_cases hle : n ≤ m
            · have hleb : decide (n ≤ m) = true := decide_eq_true hle
              obtain ⟨x, ad, A3, c3, A4, c4, hx, rfl, Z0⟩ := at41 X.P.C2 k hlt
              have Z := Z0.below HB.out
              obtain ⟨z0, z1, z2, z3, z4, zl0, zln⟩ := Z.cells
              have HS := Aside0.mk (sumTo_step csize hx)
              have HX := Aside0.mk (show csize x ≤ q by have := csize_sub hx; omega)
              clear hx Z0
              have hcb : cap (csize x) (m - n) ≤ 10001 := by have := cap_eq (csize x) (m - n); omega
              go_wp2_with (first | (go_at_call 81; refine (HIH.out x A3 c3 A4 c4 _ _ HX.out (by omega) (by omega) Z.P).mono ?_; rintro e w1 ⟨rfl, hb⟩; have hb' := Aside0.mk hb; clear hb))
              have hcp := cap_eq (csize x) (m - n)
              generalize hr : cap (csize x) (m - n) = r at *
              have HNN : Aside0 (n + r = min ((1 + (t.f3.map tsize).sum) + sumTo csize t.f4 (k + 1)) (m + 1)) := ⟨by have h1 := HN.out; have h2 := HS.out; omega⟩
              have hrle : n + r ≤ m + 1 := by have := HNN.out; omega
              clear hr hcp
              refine ⟨?_, ?_⟩
              · first | exact ⟨k + 1, n + r, by omega, by omega, by go_num, by go_num, HNN, ⟨below_step HB.out hb'.out⟩⟩ | ((repeat apply Exists.intro); refine ⟨?_, rfl⟩; exact ⟨k + 1, n + r, by omega, by omega, by go_num, by go_num, HNN, ⟨below_step HB.out hb'.out⟩⟩) | ((repeat apply Exists.intro); refine ⟨?_, rfl, rfl⟩; exact ⟨k + 1, n + r, by omega, by omega, by go_num, by go_num, HNN, ⟨below_step HB.out hb'.out⟩⟩) | ((repeat apply Exists.intro); refine ⟨?_, rfl, rfl, rfl⟩; exact ⟨k + 1, n + r, by omega, by omega, by go_num, by go_num, HNN, ⟨below_step HB.out hb'.out⟩⟩) | ((repeat apply Exists.intro); refine ⟨?_, rfl, rfl, rfl, rfl⟩; exact ⟨k + 1, n + r, by omega, by omega, by go_num, by go_num, HNN, ⟨below_step HB.out hb'.out⟩⟩)
              · simp [intOf]; omega
            · have hleb : decide (n ≤ m) = false := decide_eq_false hle
              have HE : Aside0 (n = min ((1 + (t.f3.map tsize).sum) + (t.f4.map csize).sum) (m + 1)) := ⟨by have := HN.out; have := sumTo_le csize t.f4 k; omega⟩
              clear HN
              go_wp2
              go_ret
              exact ⟨by rw [cap_eq, HT.out, ← HE.out]; rfl, below_step HBW.out (below_step HB0.out HB.out)⟩
          · have hltb : decide (k < t.f4.length) = false := decide_eq_false hlt
            have HE : Aside0 (n = min ((1 + (t.f3.map tsize).sum) + (t.f4.map csize).sum) (m + 1)) := ⟨by have h1 := HN.out; have h2 := sumTo_all csize t.f4; rw [show k = t.f4.length by omega, h2] at h1; exact h1⟩
            clear HN
            go_wp2
            go_ret
            exact ⟨by rw [cap_eq, HT.out, ← HE.out]; rfl, below_step HBW.out (below_step HB0.out HB.out)⟩

set_option maxHeartbeats 400000 in
theorem base_big (t : S41) (A : Option Addr) (c : Nat) (B : Option Addr) (d : Nat) (M : Int) (w : World) (h0 : 0 ≤ M) (hM : M ≤ 10000) (hP : P41 w t A c B d) :
    Calls Tryd.prog 18 #[v41 t A c B d, .int .i64 M] w fun e w' => e = .returned (.bool (decide (M.toNat < csize t))) ∧ Below w.heap.size w w' := by
  obtain ⟨m, rfl⟩ := Int.eq_ofNat_of_zero_le h0
  rw [Int.toNat_natCast]
  go_enter Tryd.func18, Tryd.ntmps18
  go_wp2_with fail
  refine (base_weight _ t A c B d _ _ (Nat.le_refl _) h0 hM (hP.below (below_alloc (Below.refl _ _) _))).mono ?_
  rintro e w1 ⟨rfl, hb⟩
  rw [Int.toNat_natCast]
  have HB := Aside0.mk (below_step (below_alloc (Below.refl w.heap.size w) _) hb)
  clear hb
  have hcp := cap_eq (csize t) m
  generalize hr : cap (csize t) m = r at *
  have HR : Aside0 (decide (m < csize t) = decide (m < r)) := ⟨by rw [decide_eq_decide]; omega⟩
  clear hr hcp
  go_wp2_with fail
  go_ret
  exact ⟨by rw [HR.out]; rfl, HB.out⟩

set_option maxHeartbeats 400000 in
theorem ref_Size (t : S41) (A : Option Addr) (c : Nat) (B : Option Addr) (d : Nat) (w : World) (hP : P41 w t A c B d) :
    Calls Tryd.prog 61 #[v41 t A c B d] w fun e w' => e = .returned (.int .i64 (cap (csize t) 4096)) ∧ Below w.heap.size w w' := by
  go_enter Tryd.func61, Tryd.ntmps61
  go_wp2_with fail
  refine (ref_weigh _ t A c B d _ _ (Nat.le_refl _) (by omega) (by omega) (hP.below (below_alloc (Below.refl _ _) _))).mono ?_
  rintro e w1 ⟨rfl, hb⟩
  have HB := Aside0.mk (below_step (below_alloc (Below.refl w.heap.size w) _) hb)
  clear hb
  rw [show Int.toNat 4096 = 4096 from rfl]
  have hcp := cap_eq (csize t) 4096
  generalize hr : cap (csize t) 4096 = r at *
  have hle : r ≤ 4097 := by omega
  have HR := Aside0.mk hr
  clear hr hcp
  go_wp2_with fail
  go_ret
  exact ⟨by rw [HR.out]; rfl, HB.out⟩

def fewOf (l : List S41) (m : Nat) : Bool := decide (l.length ≤ 20) && l.all (fun c => decide (csize c ≤ m))
theorem few_at {l : List S41} {m k : Nat} {x : S41} (hx : l[k]? = some x) : (l.drop k).all (fun c => decide (csize c ≤ m)) = (decide (csize x ≤ m) && (l.drop (k + 1)).all (fun c => decide (csize c ≤ m))) := by
  obtain ⟨h1, rfl⟩ := List.getElem?_eq_some_iff.1 hx
  rw [List.drop_eq_getElem_cons h1, List.all_cons]
set_option maxHeartbeats 1000000 in
theorem law_few (l : List S41) (A : Option Addr) (c : Nat) (M : Int) (w : World) (h0 : 0 ≤ M) (hM : M ≤ 10000) (hc : l.length ≤ c) (hC : k41.C w A l.length l) :
    Calls Tryd.prog 9 #[.slice A l.length c, .int .i64 M] w fun e w' => e = .returned (.bool (fewOf l M.toNat)) ∧ Below w.heap.size w w' := by
  obtain ⟨m, rfl⟩ := Int.eq_ofNat_of_zero_le h0
  rw [Int.toNat_natCast]
  have HC := Aside0.mk hC
  have hla := hC.2.1
  clear hC
  by_cases hl : l.length ≤ 20
  · have HF : Aside0 (fewOf l m = l.all (fun c => decide (csize c ≤ m))) := ⟨by simp [fewOf, hl]⟩
    go_enter Tryd.func9, Tryd.ntmps9
    go_wp2
    go_loopw [6, 12] (fun _ i wr => ∃ k : Nat, k ≤ l.length ∧ i = .int .i64 k ∧ Aside0 (fewOf l m = (l.drop k).all (fun c => decide (csize c ≤ m))) ∧ Aside0 (Below w.heap.size w wr)) (fun _ i _ => l.length - (intOf i).toNat)
    case atStart => exact ⟨0, Nat.zero_le _, rfl, HF, ⟨Below.refl _ _⟩⟩
    case round =>
      obtain ⟨k, hk, rfl, HK, HB⟩ := hrel
      by_cases hlt : k < l.length
      · obtain ⟨x, ad, A3, c3, A4, c4, hx, rfl, Z0⟩ := at41 HC.out k hlt
        have Z := Z0.below HB.out
        obtain ⟨z0, z1, z2, z3, z4, zl0, zln⟩ := Z.cells
        have HS := Aside0.mk (HK.out.trans (few_at hx))
        clear hx Z0
        have HWB : Aside0 (Below wr.heap.size wr (wr.alloc (.cells (c41 x A3 c3 A4 c4) 41))) := ⟨below_alloc (Below.refl _ _) _⟩
        by_cases hb : m < csize x
        · have hd : decide ((m : Int).toNat < csize x) = true := by rw [Int.toNat_natCast]; exact decide_eq_true hb
          have HS2 := Aside0.mk (HS.out.trans (by rw [decide_eq_false (by omega)]; rfl : _ = false))
          clear hb
          go_wp2_with (first | (go_at_call 18; refine (base_big x A3 c3 A4 c4 _ _ h0 hM (Z.P.below HWB.out)).mono ?_; rw [hd]; rintro e w1 ⟨rfl, hb⟩; have hb' := Aside0.mk hb; clear hb))
          go_ret
          exact ⟨by rw [HS2.out]; rfl, below_step HB.out (below_step HWB.out hb'.out)⟩
        · have hd : decide ((m : Int).toNat < csize x) = false := by rw [Int.toNat_natCast]; exact decide_eq_false hb
          have HS2 := Aside0.mk (HS.out.trans (by rw [decide_eq_true (show csize x ≤ m by omega), Bool.true_and]))
          clear hb
          go_wp2_with (first | (go_at_call 18; refine (base_big x A3 c3 A4 c4 _ _ h0 hM (Z.P.below HWB.out)).mono ?_; rw [hd]; rintro e w1 ⟨rfl, hb⟩; have hb' := Aside0.mk hb; clear hb))
          refine ⟨?_, ?_⟩
          · first | exact ⟨k + 1, by omega, by go_num, HS2, ⟨below_step HB.out (below_step HWB.out hb'.out)⟩⟩ | ((repeat apply Exists.intro); refine ⟨?_, rfl⟩; exact ⟨k + 1, by omega, by go_num, HS2, ⟨below_step HB.out (below_step HWB.out hb'.out)⟩⟩)
          · simp [intOf]; omega
      · have HE := Aside0.mk (HK.out.trans (by rw [List.drop_of_length_le (by omega)]; rfl : _ = true))
        go_wp2
        go_ret
        exact ⟨by rw [HE.out]; rfl, HB.out⟩
  · have HF : Aside0 (fewOf l m = false) := ⟨by simp [fewOf, hl]⟩
    go_enter Tryd.func9, Tryd.ntmps9
    go_wp2
    go_ret
    exact ⟨by rw [HF.out]; rfl, Below.refl _ _⟩

end Go.Proofs.YtbfgoopomfenjaaDoor
