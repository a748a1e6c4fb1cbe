/- Whole arrays and structs in blocks: read and written at once. No conditions. -/
import Derived.Laws.Tables
import Derived.Laws.CopyRow
import Derived.Laws.CopyOwn
import Derived.Test.YtdgnbmcckknfiaaDraw
namespace Go.Proofs.Ytdgnbmcckknfiaa
open Go.RowKit

theorem Blk.setRow {w : World} {g : Nat} {t : TypeId} {cs : Array Value} (h : Blk w g t cs) (cs' : Array Value) : Blk (w.setRow g cs') g t cs' := setRow_heap w g cs cs' t (0, 0) h
theorem Blk.farRow {w : World} {g g' : Nat} {t : TypeId} {cs : Array Value} (h : Blk w g t cs) (hne : g ≠ g') (cs' : Array Value) : Blk (w.setRow g' cs') g t cs := (setRow_other w g' g cs' hne).trans h

section
variable {P : Program} {ops : Array Oper} {rest : List Oper} {o : Oper} {a : Act} {w : World} {Q : Exit → Act → World → Prop}
theorem row_load (b : Nat) (t : TypeId) (cs : Array Value) (hB : Blk w b t cs) (ty : TypeId) (x : Operand) (ho : o.op = .load ty x) (hgd : o.guard = none) (hx : a.eval x = .pointer (some ⟨b, 0, none⟩)) (d : TypeDesc)
    (hu : P.underlying ty = some d) (hd : (match d with | .struct _ | .array _ _ => true | _ => false) = true) (hi : (P.info? ty).map (·.size) = some cs.size)
    (h : wpList P ops Q rest (a.put o.dst (.agg cs)) w) : wpList P ops Q (o :: rest) a w := wpList_load_row hgd ty x ho b hx t cs (0, 0) d hB hu hd hi h
/-- The same for an operation that is asked for. -/
theorem row_load_w (b : Nat) (t : TypeId) (cs : Array Value) (hB : Blk w b t cs) (ty : TypeId) (x : Operand) (ho : o.op = .load ty x) (hw : Region.wanted o (yielded ops a.tmps) = true) (hx : a.eval x = .pointer (some ⟨b, 0, none⟩)) (d : TypeDesc)
    (hu : P.underlying ty = some d) (hd : (match d with | .struct _ | .array _ _ => true | _ => false) = true) (hi : (P.info? ty).map (·.size) = some cs.size)
    (h : wpList P ops Q rest (a.put o.dst (.agg cs)) w) : wpList P ops Q (o :: rest) a w := by
  unfold wpList
  rw [if_pos hw]
  exact .inl (wp_load_row ty x ho b hx t cs (0, 0) d hB hu hd hi h)
theorem row_store (b : Nat) (t : TypeId) (old cs : Array Value) (hB : Blk w b t old) (ty : TypeId) (x y : Operand) (ho : o.op = .store ty x y) (hgd : o.guard = none) (hx : a.eval x = .pointer (some ⟨b, 0, none⟩)) (hy : a.eval y = .agg cs)
    (hi : (P.info? ty).map (·.size) = some cs.size) (hold : old.size = cs.size) (h1 : cs.all (·.oneCell') = true)
    (h : wpList P ops Q rest (a.put o.dst undef) (w.setRow b cs)) : wpList P ops Q (o :: rest) a w := wpList_store_row hgd ty x y ho b cs hx hy t old hB hi hold h1 h
theorem picks_list : ∀ (l : List Nat) (m : List Oper) (a : Act) (w : World), Picks ops l m → wpList P ops Q m a w → wpOps P ops Q l a w
  | [], m, _, _, e, h => by
    rw [show m = [] from e] at h
    exact h
  | i :: l, m, a, w, e, h => by
    obtain ⟨x, m', e1, rfl, e2⟩ := e
    rw [wpOps_cons]
    have hw : wpOp P ops Q i (wpList P ops Q m') a w := by unfold wpOp; simp only [e1]; exact h
    exact wpOp_mono (fun a' w' h' => picks_list l m' a' w' e2 h') hw
/-- A region that draws, order by order, outside a fence. -/
theorem draw_orders0 {id : Nat} (L : List (List Nat)) (hm : P.follows .mixedOrders = true)
    (hL : (allOrders .any ops ops.size (Array.replicate ops.size false)).all (fun o => L.contains o) = true)
    (h : ∀ o ∈ L, ∃ l, Picks ops o l ∧ wpList P ops Q l a w.drew) : (Code.region id ops true).wp P Q a w :=
  wp_region_draw fun t => by
    simp only [Region.schedule, hm, Bool.true_or, if_true]
    have := List.all_eq_true.1 hL _ (go_mem (md := .any) ops.size t (Array.replicate ops.size false))
    obtain ⟨l, h1, h2⟩ := h _ (List.contains_iff_mem.1 this)
    exact picks_list _ l a _ h1 h2
theorem results_cell1 {fn : Func} {p : Tmp} {ty : TypeId} (h : fn.results = #[.cell p ty]) (tmps : Array Value) (w : World) (g : Nat) (t : TypeId) (cs : Array Value) (d : TypeDesc)
    (hp : tmps.getD p undef = .pointer (some ⟨g, 0, none⟩)) (hB : Blk w g t cs)
    (hu : P.underlying ty = some d) (hd : (match d with | .struct _ | .array _ _ => true | _ => false) = true) (hi : (P.info? ty).map (·.size) = some cs.size) :
    (results fn tmps).run P w = .ok (.agg cs) w := results_cell_row h tmps w g t cs (0, 0) d hp hB hu hd hi
theorem results_cell_slot {fn : Func} {p q : Tmp} {ty : TypeId} (h : fn.results = #[.cell p ty, .tmp q]) (tmps : Array Value) (w : World) (g : Nat) (t : TypeId) (cs : Array Value) (d : TypeDesc)
    (hp : tmps.getD p undef = .pointer (some ⟨g, 0, none⟩)) (hB : Blk w g t cs)
    (hu : P.underlying ty = some d) (hd : (match d with | .struct _ | .array _ _ => true | _ => false) = true) (hi : (P.info? ty).map (·.size) = some cs.size) (v : Value) (hq : tmps.getD q undef = v) :
    (results fn tmps).run P w = .ok (.tuple #[.agg cs, v]) w := by
  have hp' : tmps[p]?.getD undef = .pointer (some ⟨g, 0, none⟩) := by simpa using hp
  have hq' : tmps[q]?.getD undef = v := by simpa using hq
  simp [results, h, hp', hq', asAddr, run_loadVar_row w g t ty cs (0, 0) d hB hu hd hi]
theorem results_cell_cell {fn : Func} {p q : Tmp} {ty ty2 : TypeId} (h : fn.results = #[.cell p ty, .cell q ty2]) (tmps : Array Value) (w : World) (g : Nat) (t : TypeId) (cs : Array Value) (d : TypeDesc)
    (hp : tmps.getD p undef = .pointer (some ⟨g, 0, none⟩)) (hB : Blk w g t cs)
    (hu : P.underlying ty = some d) (hd : (match d with | .struct _ | .array _ _ => true | _ => false) = true) (hi : (P.info? ty).map (·.size) = some cs.size)
    (b : Addr) (v : Value) (hq : tmps.getD q undef = .pointer (some b)) (hl : (loadVar ty2 b).run P w = .ok v w) :
    (results fn tmps).run P w = .ok (.tuple #[.agg cs, v]) w := by
  have hp' : tmps[p]?.getD undef = .pointer (some ⟨g, 0, none⟩) := by simpa using hp
  have hq' : tmps[q]?.getD undef = .pointer (some b) := by simpa using hq
  simp [results, h, hp', hq', hl, asAddr, run_loadVar_row w g t ty cs (0, 0) d hB hu hd hi]
end
end Go.Proofs.Ytdgnbmcckknfiaa
