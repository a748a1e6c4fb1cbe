/- The walks of place's point, pair, of, and of the closures that tell whether a place may be. Conditions: numbers of 64 bits. -/
import Derived.Test.YtfafpgboheaajaaProg
import Derived.WalkKit
import Derived.Below
import Derived.Lib.Hide
import Derived.Test.YtfafpgboheaajaaWords
import Derived.Test.YtfafpgboheaajaaPlaceP
namespace Go.Proofs.Ytfafpgboheaajaa
open Go.RowKit

theorem conv_fz (a : Int) (ha : a.natAbs < 9007199254740992) (W : World) : (convert 54 3 (.float .f64 (fz a))).run Try.prog W = .ok (.int .i64 a) W :=
  run_convert_float_int _ _ _ .f64 .i64 (fz a) a rfl rfl (int_fz a ha)

theorem below_boxed {w w1 : World} {o : Obj} (hb : Below (w.alloc o).heap.size (w.alloc o) w1) : Below w.heap.size w w1 :=
  ((Below.refl _ w).alloc (Nat.le_refl _) o).trans (hb.mono (by simp))

/-- The cells of places. -/
def pcells (xs : List (Int × Int)) : List Value := xs.flatMap fun p => [.int .i64 p.1, .int .i64 p.2]
theorem pcells_len (xs : List (Int × Int)) : (pcells xs).length = xs.length * 2 := by
  induction xs with
  | nil => rfl
  | cons x t ih => unfold pcells at ih ⊢; rw [List.flatMap_cons, List.length_append, ih, List.length_cons]; simp; omega
theorem pcells_at : ∀ (xs : List (Int × Int)) (k : Nat) (x : Int × Int), xs[k]? = some x → (pcells xs)[k * 2]? = some (.int .i64 x.1) ∧ (pcells xs)[k * 2 + 1]? = some (.int .i64 x.2)
  | [], k, x, h => by simp at h
  | y :: t, 0, x, h => by
    simp at h
    subst h
    exact ⟨rfl, rfl⟩
  | y :: t, k + 1, x, h => by
    simp at h
    have := pcells_at t k x h
    rw [show (k + 1) * 2 = k * 2 + 2 from by omega, show k * 2 + 2 + 1 = k * 2 + 1 + 2 from by omega]
    exact this
theorem pcells_app (xs ys : List (Int × Int)) : pcells (xs ++ ys) = pcells xs ++ pcells ys := by simp [pcells]
theorem add_zero_off (g k : Nat) : (⟨g, 0, none⟩ : Addr).add k = ⟨g, k, none⟩ := by
  unfold Addr.add
  by_cases h : k = 0 <;> simp [h]
/-- A slice of places, from a block's first cell on, that reads as a list. -/
def PReads (w : World) (B : Nat) (A : Option Addr) (n : Nat) (xs : List (Int × Int)) : Prop :=
  xs.length = n ∧ (0 < n → ∃ g, A = some ⟨g, 0, none⟩ ∧ g < B ∧ ∀ k u, (pcells xs)[k]? = some u → w.cell? ⟨g, k, none⟩ = some u)
theorem PReads.len {w : World} {B n : Nat} {A : Option Addr} {xs : List (Int × Int)} (h : PReads w B A n xs) : xs.length = n := h.1
theorem PReads.at_ {w : World} {B n k : Nat} {A : Option Addr} {xs : List (Int × Int)} (h : PReads w B A n xs) (hk : k < n) : ∃ (g : Nat) (a b : Int), A = some ⟨g, 0, none⟩ ∧ g < B ∧ xs[k]? = some (a, b) ∧ w.cell? ⟨g, k * 2, none⟩ = some (.int .i64 a) ∧ w.cell? ⟨g, k * 2 + 1, none⟩ = some (.int .i64 b) := by
  obtain ⟨g, e, hb, hc⟩ := h.2 (by omega)
  have hl := h.len
  have hx : xs[k]? = some (xs[k]'(by omega)) := List.getElem?_eq_getElem (by omega)
  have h2 := pcells_at xs k _ hx
  exact ⟨g, _, _, e, hb, hx, hc _ _ h2.1, hc _ _ h2.2⟩
theorem PReads.keep {w w' : World} {B n : Nat} {A : Option Addr} {xs : List (Int × Int)} (h : PReads w B A n xs) (hk : ∀ p : Addr, p.block < B → w'.cell? p = w.cell? p) : PReads w' B A n xs :=
  ⟨h.1, fun hn => by
    obtain ⟨g, e, hb, hc⟩ := h.2 hn
    exact ⟨g, e, hb, fun j u hu => (hk _ hb).trans (hc j u hu)⟩⟩
theorem PReads.more {w : World} {B B' n : Nat} {A : Option Addr} {xs : List (Int × Int)} (h : PReads w B A n xs) (hB : B ≤ B') : PReads w B' A n xs :=
  ⟨h.1, fun hn => by
    obtain ⟨g, e, hb, hc⟩ := h.2 hn
    exact ⟨g, e, by omega, hc⟩⟩
theorem PReads.below {w w' : World} {B n : Nat} {A : Option Addr} {xs : List (Int × Int)} (h : PReads w B A n xs) (hb : Below B w w') : PReads w' B A n xs := h.keep fun _ hp => hb.cell hp
theorem PReads.of_own {w : World} {base n c : Nat} {e : TypeId} {A : Option Addr} {xs : List (Int × Int)} (h : w.ownsRow base e 2 (.slice A n c) n (pcells xs)) : PReads w w.heap.size A n xs := by
  have h1 := h.1
  rw [pcells_len] at h1
  refine ⟨by omega, fun hn => ?_⟩
  obtain ⟨g, cap, hv, _, hlt⟩ := h.form hn
  have hA : A = some ⟨g, 0, none⟩ := by injection hv
  subst hA
  refine ⟨_, rfl, hlt, fun k u hu => ?_⟩
  rw [← add_zero_off g k]
  exact h.cells (g := g) rfl k u hu

set_option maxHeartbeats 400000 in
theorem pair_any (a b : Int) (w : World) :
    Calls Try.prog 31 #[.agg #[.int .i64 a, .int .i64 b]] w fun e w' => e = .returned (.agg #[.int .i64 a, .int .i64 b]) ∧ Below w.heap.size w w' := by
  go_enter Try.func31, Try.ntmps31
  go_wp2
  refine bodyPost_ret (v := .agg #[.int .i64 a, .int .i64 b]) (by simp [results, Try.results31, go_sem]) rfl ⟨rfl, ?_⟩
  exact ((Below.refl _ w).alloc (Nat.le_refl _) _).alloc (by simp) _

set_option maxHeartbeats 400000 in
theorem point_any (a b : Int) (w : World) :
    Calls Try.prog 26 #[.agg #[.int .i64 a, .int .i64 b]] w fun e w' => e = .returned (.complex .f64 (fz a) (fz b)) ∧ Below w.heap.size w w' := by
  go_enter Try.func26, Try.ntmps26
  go_wp2
  go_ret
  exact ⟨rfl, (Below.refl _ w).alloc (Nat.le_refl _) _⟩

set_option maxHeartbeats 400000 in
theorem of_point (a b : Int) (w : World) (ha : a.natAbs < 8192) (hb : b.natAbs < 8192) :
    Calls Try.prog 27 #[.complex .f64 (fz a) (fz b)] w fun e w' => e = .returned (.agg #[.int .i64 a, .int .i64 b]) ∧ Below w.heap.size w w' := by
  have ca := conv_fz a (by omega)
  have cb := conv_fz b (by omega)
  go_enter Try.func27, Try.ntmps27
  go_wp2
  refine bodyPost_ret (v := .agg #[.int .i64 a, .int .i64 b]) (by simp [results, Try.results27, go_sem]) rfl ⟨rfl, ?_⟩
  exact (Below.refl _ w).alloc (Nat.le_refl _) _

/-- May a place be? -/
def inPlace (a b : Int) : Bool := decide (0 ≤ a ∧ a < 1024 ∧ 0 ≤ b ∧ b < 8)

set_option maxHeartbeats 400000 in
theorem right1_any (a b : Int) (w : World) :
    Calls Try.prog 30 #[.agg #[.int .i64 a, .int .i64 b]] w fun e w' => e = .returned (.bool (inPlace a b)) ∧ Below w.heap.size w w' := by
  go_enter Try.func30, Try.ntmps30
  go_wp2_with fail
  refine (pair_any a b _).mono ?_
  rintro e w1 ⟨rfl, hb⟩
  have hb' := below_boxed hb
  go_wp2
  all_goals
    go_ret
    exact ⟨by simp [inPlace, *] <;> omega, hb'.alloc hb'.size _⟩

set_option maxHeartbeats 400000 in
theorem all1_any (a b : Int) (g : Nat) (w : World) (hg : Blk w g 29 #[.func (.func 30) #[] #[]]) :
    Calls Try.prog 34 #[.agg #[.int .i64 a, .int .i64 b], .pointer (some ⟨g, 0, none⟩)] w fun e w' => e = .returned (.bool !(inPlace a b)) ∧ Below w.heap.size w w' := by
  have c0 := hg.cell 0
  have hlt := hg.lt
  simp at c0
  go_enter Try.func34, Try.ntmps34
  go_wp2_with fail
  refine (right1_any a b _).mono ?_
  rintro e w1 ⟨rfl, hb⟩
  have hb' := below_boxed hb
  go_wp2
  go_ret
  exact ⟨rfl, hb'⟩

set_option maxHeartbeats 400000 in
theorem index_any (xs : List (Int × Int)) (A : Option Addr) (n c g : Nat) (w : World) (hr : PReads w w.heap.size A n xs) (hg : Blk w g 29 #[.func (.func 30) #[] #[]]) (hn : n ≤ 100) :
    Calls Try.prog 35 #[.slice A n c, .func (.func 34) #[] #[.pointer (some ⟨g, 0, none⟩)]] w fun e w' => (∃ k : Int, e = .returned (.int .i64 k) ∧ decide (0 ≤ k) = xs.any fun p => !(inPlace p.1 p.2)) ∧ Below w.heap.size w w' := by
  go_enter Try.func35, Try.ntmps35
  go_wp2
  go_loopw [8] (fun i wr => ∃ j : Nat, j ≤ n ∧ i = .int .i64 j ∧ ((xs.take j).all fun p => inPlace p.1 p.2) = true ∧ Below w.heap.size w wr) (fun i _ => n - (intOf i).toNat)
  case atStart => exact ⟨0, Nat.zero_le _, rfl, by simp, Below.refl _ _⟩
  case round =>
    obtain ⟨j, hj, rfl, hall, hb⟩ := hrel
    by_cases hlt : j < n
    · obtain ⟨ag, a, b, rfl, hbl, hx, hc1, hc2⟩ := PReads.at_ (PReads.below hr hb) hlt
      have hgr := hg.below hb hg.lt
      have hin : Hid (∀ k : Int, inPlace a b = false → 0 ≤ k → decide (0 ≤ k) = xs.any fun p => !(inPlace p.1 p.2)) := by
        intro k hab hk
        rw [decide_eq_true hk]
        refine (List.any_eq_true.2 ⟨(a, b), List.mem_of_getElem? hx, ?_⟩).symm
        simp [hab]
      have hnx : Hid (inPlace a b = true → ((xs.take (j + 1)).all fun p => inPlace p.1 p.2) = true) := by
        intro hab
        rw [List.take_add_one, hx, List.all_append, hall]
        simp [hab]
      have Hb := Lib.hid hb
      clear hb hall hx
      go_wp2_with fail
      refine (all1_any a b g _ hgr).mono ?_
      rintro e w1 ⟨rfl, hb1⟩
      have Hb1 := Lib.hid (Hb.out.trans (hb1.mono Hb.out.size))
      cases hab : inPlace a b
      · have hh := Lib.hid (hin.out (j : Int) hab (by omega))
        clear hab hb1
        go_wp2
        go_ret
        exact ⟨⟨_, rfl, hh.out⟩, Hb1.out⟩
      · have hh := Lib.hid (hnx.out hab)
        clear hab hb1
        go_wp2
        go_roundw
        case rel => exact ⟨j + 1, by omega, by go_num, hh.out, Hb1.out⟩
        case measure => simp [intOf]; omega
    · have hh : Hid (decide ((0 : Int) ≤ -1) = xs.any fun p => !(inPlace p.1 p.2)) := by
        have hl := hr.len
        rw [List.take_of_length_le (by omega)] at hall
        rw [show decide ((0 : Int) ≤ -1) = false from rfl, eq_comm, List.any_eq_false]
        intro x hx
        simp [List.all_eq_true.1 hall x hx]
      go_wp2
      go_ret
      exact ⟨⟨_, rfl, hh.out⟩, hb⟩

set_option maxHeartbeats 400000 in
theorem contains_any (xs : List (Int × Int)) (A : Option Addr) (n c g : Nat) (w : World) (hr : PReads w w.heap.size A n xs) (hg : Blk w g 29 #[.func (.func 30) #[] #[]]) (hn : n ≤ 100) :
    Calls Try.prog 33 #[.slice A n c, .func (.func 34) #[] #[.pointer (some ⟨g, 0, none⟩)]] w fun e w' => e = .returned (.bool (xs.any fun p => !(inPlace p.1 p.2))) ∧ Below w.heap.size w w' := by
  go_enter Try.func33, Try.ntmps33
  go_wp2_with fail
  refine (index_any xs A n c g _ hr hg hn).mono ?_
  rintro e w1 ⟨⟨k, rfl, hk⟩, hb⟩
  have Hk := Lib.hid hk
  clear hk
  go_wp2
  go_ret
  exact ⟨by rw [← Hk.out]; rfl, hb⟩

set_option maxHeartbeats 400000 in
theorem all_any (xs : List (Int × Int)) (A : Option Addr) (n c : Nat) (w : World) (hr : PReads w w.heap.size A n xs) (hn : n ≤ 100) :
    Calls Try.prog 29 #[.func (.func 30) #[] #[], .slice A n c] w fun e w' => e = .returned (.bool (xs.all fun p => inPlace p.1 p.2)) ∧ Below w.heap.size w w' := by
  have hx : (!(xs.any fun p => !(inPlace p.1 p.2))) = xs.all fun p => inPlace p.1 p.2 := by simp [List.not_any_eq_all_not]
  have Hx := Lib.hid hx
  clear hx
  go_enter Try.func29, Try.ntmps29
  go_wp2_with fail
  refine (contains_any xs A n c _ _ ((hr.below ((Below.refl _ w).alloc (Nat.le_refl _) _)).more (by simp)) (Blk.new w _ _) hn).mono ?_
  rintro e w1 ⟨rfl, hb⟩
  have hb' := below_boxed hb
  go_wp2
  go_ret
  exact ⟨by rw [← Hx.out]; rfl, hb'⟩

set_option maxHeartbeats 400000 in
theorem right_any (xs : List (Int × Int)) (A : Option Addr) (n c : Nat) (w : World) (hr : PReads w w.heap.size A n xs) (hn : n ≤ 100) :
    Calls Try.prog 25 #[.slice A n c] w fun e w' => e = .returned (.bool (xs.all fun p => inPlace p.1 p.2)) ∧ Below w.heap.size w w' := by
  go_enter Try.func25, Try.ntmps25
  go_wp2_with fail
  refine (all_any xs A n c _ hr hn).mono ?_
  rintro e w1 ⟨rfl, hb⟩
  go_wp2
  go_ret
  exact ⟨rfl, hb⟩
end Go.Proofs.Ytfafpgboheaajaa
