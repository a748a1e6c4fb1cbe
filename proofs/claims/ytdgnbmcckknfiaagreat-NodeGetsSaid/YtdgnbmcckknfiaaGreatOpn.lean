/- Arguments of this chapter's laws, opened: lines, super lines, inodes, maps, tables, entries. No conditions. -/
import Derived.WalkKit
import Derived.ProofKit
import Derived.OpenShut
import Derived.ChangeOld
import Derived.Below
import Derived.Lib.SmallJoins
import Derived.Deep.Strs
import Derived.ChangeSame
import Derived.Test.YtdgnbmcckknfiaaGreatNodJ
namespace Go.Proofs.YtdgnbmcckknfiaaGreat
open Go.ChangeShapes Go.WideShapes Go.ChangeAt Go.RowKit Go.Joins

section
variable {H : Type} {enc : TypeId × Value → H} {w : World} {base b0 : Nat} {spare : Nat → Bool} {held : Bool} {r : Reach} {v : Value} {d : DataW H} {p : List MemPlace}
theorem trod_ints {P : Program} {k : IntKind} {n fuel : Nat} {t e : TypeId} {cs : List Value} {x : DataW H × List MemPlace} (ht : P.underlying t = some (.array n e)) (he : P.underlying e = some (.int k)) (hc : P.cellsOf e = 1) (hct : P.cellsOf t = n)
    (h : DataW.trod enc P w base spare held fuel t cs = some x) : ∃ xs : List Int, cs = xs.map (Value.int k) ∧ xs.length = n ∧ ∀ z ∈ xs, (Lit.int k z).wf = true := by
  obtain ⟨ys, m, _, _, hl, hyl, hel⟩ := DataW.trod_array ht h
  have hat : ∀ i, ∃ z : Int, i < n → cs[i]? = some (.int k z) ∧ (Lit.int k z).wf = true := by
    intro i
    by_cases hi : i < n
    · have h1 := hel i hi
      rw [hc, Nat.mul_one, List.getElem?_eq_getElem (by omega)] at h1
      obtain ⟨z, ez, _, wz⟩ := DataW.trod_int he h1
      refine ⟨z, fun _ => ⟨?_, wz⟩⟩
      have h2 := congrArg List.head? ez
      simpa [List.head?_take, List.head?_drop] using h2
    · exact ⟨0, fun h => absurd h hi⟩
  obtain ⟨f, hf⟩ := Classical.axiomOfChoice hat
  refine ⟨(List.range n).map f, ?_, by simp, ?_⟩
  · apply List.ext_getElem?
    intro i
    by_cases hi : i < n
    · rw [(hf i hi).1]
      simp [hi]
    · rw [List.getElem?_eq_none (by omega)]
      simp [hi]
  · intro z hz
    obtain ⟨i, hi, rfl⟩ := List.mem_map.1 hz
    exact (hf i (List.mem_range.1 hi)).2
theorem wf_nat {a : Int} (h : (Lit.int .u64 a).wf = true) : ∃ x : Nat, a = x ∧ x < 18446744073709551616 := by
  have : 0 ≤ a ∧ a ≤ 18446744073709551615 := by simpa [Lit.wf, IntKind.min, IntKind.max, IntKind.signed, IntKind.bits] using h
  exact ⟨a.toNat, by omega, by omega⟩
set_option maxRecDepth 100000 in
theorem open_line (hv : Value.okWide Tryz.prog w r b0 23 v) (h : DataW.Trod enc Tryz.prog w base spare held 23 v d p) :
    ∃ a b c d e f g h : Nat, v = .agg (ln8 a b c d e f g h) ∧ a < 18446744073709551616 ∧ b < 18446744073709551616 ∧ c < 18446744073709551616 ∧ d < 18446744073709551616 ∧ e < 18446744073709551616 ∧ f < 18446744073709551616 ∧ g < 18446744073709551616 ∧ h < 18446744073709551616 := by
  unfold Value.okWide at hv
  rw [Tryz.underlying23] at hv
  obtain ⟨cs, rfl, _, _⟩ := hv
  obtain ⟨fuel, hf⟩ := h
  obtain ⟨xs, hxs, hl, hw⟩ := trod_ints Tryz.underlying23 Tryz.underlying22 (by kernel_rfl) (by kernel_rfl) hf
  match xs, hl with
  | [a, b, c, d, e, f, g, h], _ =>
    obtain ⟨a, rfl, ha⟩ := wf_nat (hw a (by simp))
    obtain ⟨b, rfl, hb⟩ := wf_nat (hw b (by simp))
    obtain ⟨c, rfl, hc⟩ := wf_nat (hw c (by simp))
    obtain ⟨d, rfl, hd⟩ := wf_nat (hw d (by simp))
    obtain ⟨e, rfl, he⟩ := wf_nat (hw e (by simp))
    obtain ⟨f, rfl, hf⟩ := wf_nat (hw f (by simp))
    obtain ⟨g, rfl, hg⟩ := wf_nat (hw g (by simp))
    obtain ⟨h, rfl, hh⟩ := wf_nat (hw h (by simp))
    refine ⟨a, b, c, d, e, f, g, h, ?_, ha, hb, hc, hd, he, hf, hg, hh⟩
    have : cs = ln8 a b c d e f g h := by
      apply Array.toList_inj.1
      simpa [Value.cells, ln8] using hxs
    rw [this]
set_option maxRecDepth 100000 in
theorem open_super (hv : Value.okWide Tryz.prog w r b0 25 v) (h : DataW.Trod enc Tryz.prog w base spare held 25 v d p) : ∃ a b : Int, v = .agg #[.int .i64 a, .int .i64 b] := by
  obtain ⟨x, z, y, u, m, rfl, _, _, hy, hu⟩ := open_agg2 Tryz.underlying25 (by kernel_rfl) (by kernel_rfl) hv h
  obtain ⟨a, ea, _, _⟩ := DataW.trod_int Tryz.underlying3 hy
  obtain ⟨b, eb, _, _⟩ := DataW.trod_int Tryz.underlying3 hu
  simp at ea eb
  subst ea eb
  exact ⟨a, b, rfl⟩
set_option maxRecDepth 100000 in
theorem open_inode (hv : Value.okWide Tryz.prog w r b0 31 v) (h : DataW.Trod enc Tryz.prog w base spare held 31 v d p) : ∃ a b c : Int, v = .agg #[.int .i64 a, .int .i64 b, .int .i64 c] := by
  obtain ⟨v0, v1, v2, y0, y1, y2, m, rfl, _, _, h0, h1, h2⟩ := open_agg3 Tryz.underlying31 (by kernel_rfl) (by kernel_rfl) hv h
  obtain ⟨a, ea, _, _⟩ := DataW.trod_int Tryz.underlying29 h0
  obtain ⟨b, eb, _, _⟩ := DataW.trod_int Tryz.underlying3 h1
  obtain ⟨c, ec, _, _⟩ := DataW.trod_int Tryz.underlying3 h2
  simp at ea eb ec
  subst ea eb ec
  exact ⟨a, b, c, rfl⟩
set_option maxRecDepth 100000 in
theorem open_entry (hv : Value.okWide Tryz.prog w r b0 44 v) (h : DataW.Trod enc Tryz.prog w base spare held 44 v d p) : ∃ (a b : Int) (s : ByteArray), v = .agg #[.int .i64 a, .int .i64 b, .string s] := by
  obtain ⟨v0, v1, v2, y0, y1, y2, m, rfl, _, _, h0, h1, h2⟩ := open_agg3 Tryz.underlying44 (by kernel_rfl) (by kernel_rfl) hv h
  obtain ⟨a, ea, _, _⟩ := DataW.trod_int Tryz.underlying3 h0
  obtain ⟨b, eb, _, _⟩ := DataW.trod_int Tryz.underlying3 h1
  obtain ⟨c, ec, _, _⟩ := DataW.trod_string Tryz.underlying9 h2
  simp at ea eb ec
  subst ea eb ec
  exact ⟨a, b, c, rfl⟩
set_option maxRecDepth 100000 in
theorem open_table (hv : Value.okWide Tryz.prog w r b0 40 v) (h : DataW.Trod enc Tryz.prog w base spare held 40 v d p) :
    ∃ a b c d e f g : Int, v = .agg #[.int .i64 a, .int .i64 b, .int .i64 c, .int .i64 d, .int .i64 e, .int .i64 f, .int .i64 g] := by
  unfold Value.okWide at hv
  rw [Tryz.underlying40] at hv
  obtain ⟨cs, rfl, hsz, _⟩ := hv
  obtain ⟨fuel, hf⟩ := h
  obtain ⟨y0, n, _, _, h0⟩ := trod_struct1 Tryz.underlying40 hf
  obtain ⟨xs, hxs, hl, _⟩ := trod_ints Tryz.underlying34 Tryz.underlying3 (by kernel_rfl) (by kernel_rfl) h0
  have c1 : Tryz.prog.cellsOf 40 = 7 := by kernel_rfl
  have c2 : Tryz.prog.cellsOf 34 = 7 := by kernel_rfl
  rw [c1] at hsz
  match xs, hl with
  | [a, b, c, d, e, f, g], _ =>
    refine ⟨a, b, c, d, e, f, g, ?_⟩
    have : cs = #[.int .i64 a, .int .i64 b, .int .i64 c, .int .i64 d, .int .i64 e, .int .i64 f, .int .i64 g] := by
      apply Array.toList_inj.1
      rw [c2] at hxs
      simp only [Value.cells, List.drop_zero] at hxs
      rw [List.take_of_length_le (by simp; omega)] at hxs
      simpa using hxs
    rw [this]
set_option maxRecDepth 100000 in
theorem open_map (hv : Value.okWide Tryz.prog w r b0 36 v) (h : DataW.Trod enc Tryz.prog w base spare held 36 v d p) :
    ∃ y a b c d e f g : Int, v = .agg #[.int .i64 y, .int .i64 a, .int .i64 b, .int .i64 c, .int .i64 d, .int .i64 e, .int .i64 f, .int .i64 g] := by
  unfold Value.okWide at hv
  rw [Tryz.underlying36] at hv
  obtain ⟨cs, rfl, hsz, _⟩ := hv
  obtain ⟨fuel, hf⟩ := h
  obtain ⟨y0, y1, n, _, _, h0, h1⟩ := trod_struct2 Tryz.underlying36 hf
  obtain ⟨y, ey, _, _⟩ := DataW.trod_int Tryz.underlying3 h0
  obtain ⟨xs, hxs, hl, _⟩ := trod_ints Tryz.underlying34 Tryz.underlying3 (by kernel_rfl) (by kernel_rfl) h1
  have c1 : Tryz.prog.cellsOf 36 = 8 := by kernel_rfl
  have c2 : Tryz.prog.cellsOf 34 = 7 := by kernel_rfl
  have c3 : Tryz.prog.cellsOf 3 = 1 := by kernel_rfl
  rw [c1] at hsz
  rw [c3] at ey
  match xs, hl with
  | [a, b, c, d, e, f, g], _ =>
    refine ⟨y, a, b, c, d, e, f, g, ?_⟩
    have : cs = #[.int .i64 y, .int .i64 a, .int .i64 b, .int .i64 c, .int .i64 d, .int .i64 e, .int .i64 f, .int .i64 g] := by
      apply Array.toList_inj.1
      rw [c2] at hxs
      simp only [Value.cells, List.drop_zero] at hxs ey
      rw [List.take_of_length_le (by simp; omega)] at hxs
      rw [← List.take_append_drop 1 cs.toList, ey, hxs]
      rfl
    rw [this]
end
end Go.Proofs.YtdgnbmcckknfiaaGreat
