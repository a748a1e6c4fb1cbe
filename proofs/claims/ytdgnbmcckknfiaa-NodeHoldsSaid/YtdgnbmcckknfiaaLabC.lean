/- The walk of label.Words. Conditions: none but that the text is a string. -/
import Derived.Laws.IdiomStrings
import Derived.Laws.CopyRow
import Derived.Laws.CopyOwn
import Derived.Test.YtdgnbmcckknfiaaLabB
import Derived.Test.YtdgnbmcckknfiaaRws
import Derived.Test.YtdgnbmcckknfiaaWordE
namespace Go.Proofs.Ytdgnbmcckknfiaa
open Go.RowKit
set_option linter.unusedSimpArgs false

/-- Five words, of which the last ones may be nought. -/
def pad5 (l : List Nat) : List Nat := l ++ List.replicate (5 - l.length) 0
/-- A name's words; of what is no name there are none. -/
def lw (s : ByteArray) : List Nat := if nameOk s then pad5 (wordsN (sb s)) else List.replicate 5 0
theorem nameOk_size {s : ByteArray} (h : nameOk s = true) : 1 ≤ s.size ∧ s.size ≤ 40 := by
  simp only [nameOk, formOk, Bool.and_eq_true, decide_eq_true_eq] at h
  exact ⟨h.1.1.1.1, h.1.1.1.2⟩
theorem lw_len (s : ByteArray) : (lw s).length = 5 := by
  unfold lw
  cases h : nameOk s
  · simp
  · have h1 := wordsN_len (sb s)
    rw [sb_len] at h1
    have := nameOk_size h
    simp [pad5]
    omega
theorem five {α : Type} (l : List α) (h : l.length = 5) : ∃ a b c d e, l = [a, b, c, d, e] := by
  match l, h with
  | [a, b, c, d, e], _ => exact ⟨a, b, c, d, e, rfl⟩
theorem leN_bound (l : List Nat) (h : ∀ x ∈ l, x < 256) (hl : l.length ≤ 8) : leN l < 18446744073709551616 :=
  Nat.lt_of_lt_of_le (leN_lt l h) (show 2 ^ (8 * l.length) ≤ 2 ^ 64 from Nat.pow_le_pow_right (by omega) (by omega))
theorem wordsN_lt (l : List Nat) (h : ∀ x ∈ l, x < 256) : ∀ x ∈ wordsN l, x < 18446744073709551616 := by
  intro x hx
  obtain ⟨k, _, rfl⟩ := List.mem_map.1 hx
  refine leN_bound _ (fun y hy => h y (List.mem_of_mem_drop (List.mem_of_mem_take hy))) ?_
  rw [List.length_take]
  omega
theorem lw_lt (s : ByteArray) : ∀ x ∈ lw s, x < 18446744073709551616 := by
  intro x hx
  unfold lw at hx
  split at hx
  · rcases List.mem_append.1 hx with h | h
    · exact wordsN_lt (sb s) (sb_lt s) x h
    · rw [List.eq_of_mem_replicate h]
      omega
  · rw [List.eq_of_mem_replicate hx]
    omega

/-- The bytes of a string that is turned to bytes, read. -/
theorem bytes_read (w : World) (s : ByteArray) (cap : Nat) (fr : Nat × Nat) : U8s (w.drew.alloc (.cells (bytesRow s cap) 5 fr)) (w.drew.alloc (.cells (bytesRow s cap) 5 fr)).heap.size (some ⟨w.heap.size, 0, none⟩) s.size ((sb s).map Int.ofNat) := by
  refine ⟨by simp [sb], fun _ => ⟨_, rfl, by rw [World.size_alloc]; exact Nat.lt_succ_self _, fun j u hu => ?_⟩⟩
  have hj : j < s.data.size := by
    have := (List.getElem?_eq_some_iff.1 hu).1
    simpa [sb] using this
  have h1 : (w.drew.alloc (.cells (bytesRow s cap) 5 fr)).cell? ((⟨w.heap.size, 0, none⟩ : Addr).add j) = (bytesRow s cap)[j]? := by
    have e : ((⟨w.heap.size, 0, none⟩ : Addr).add j) = ⟨w.heap.size, j, none⟩ := by unfold Addr.add; split <;> simp_all
    rw [e]
    have hh : (w.drew.alloc (.cells (bytesRow s cap) 5 fr)).heap[w.heap.size]? = some (.cells (bytesRow s cap) 5 fr) := heap_alloc_new w.drew _
    exact cell_of_row _ _ j _ _ _ hh
  rw [h1, bytesRow_at s cap j hj, ← hu]
  simp [sb]
  rw [Array.getElem?_eq_getElem hj]
  rfl

set_option maxRecDepth 100000 in
set_option maxHeartbeats 2000000 in
theorem lwords_any (s : ByteArray) (a b c d e : Nat) (hl : lw s = [a, b, c, d, e]) (w : World) :
    Calls Try.prog 55 #[.string s] w fun r w' => r = .returned (.tuple #[.agg #[.int .u64 a, .int .u64 b, .int .u64 c, .int .u64 d, .int .u64 e], .int .i64 (nameE s)]) ∧ Below w.heap.size w w' := by
  have B0 : Below w.heap.size w (w.alloc (.cells #[.int .u64 0, .int .u64 0, .int .u64 0, .int .u64 0, .int .u64 0] 94)) := (Below.refl _ w).alloc (Nat.le_refl _) _
  have hp := Blk.new w 94 #[.int .u64 0, .int .u64 0, .int .u64 0, .int .u64 0, .int .u64 0]
  have hck := Lib.hid (check_any s)
  cases hok : nameOk s
  · have hE : nameE s = 160 := by simp [nameE, hok]
    have hl2 : List.replicate 5 0 = [a, b, c, d, e] := by rw [← hl]; simp [lw, hok]
    simp [List.replicate] at hl2
    obtain ⟨rfl, rfl, rfl, rfl, rfl⟩ := hl2
    have HE := Lib.hid hE
    clear hl hok hE
    go_enter Try.func55, Try.ntmps55
    go_wp2_with fail
    refine wp_scope_goto 0 rfl fun J hJ => ?_
    go_wp2_with fail
    refine (hck.out _).mono ?_
    rintro r w1 ⟨rfl, hb⟩
    rw [HE.out]
    replace hp := hp.below hb hp.lt
    have B1 := B0.trans (hb.mono B0.size)
    clear hb
    go_wp2
    go_step3
    refine ⟨rfl, hJ _ _ ?_⟩
    go_wp2_with (first | (refine row_load w.heap.size 94 _ hp 94 _ rfl rfl rfl _ Try.underlying94 rfl (by kernel_rfl) ?_) | (refine row_store w.heap.size 94 _ _ hp 94 _ _ rfl rfl rfl rfl (by kernel_rfl) rfl (by kernel_rfl) ?_))
    first | rw [Exit.noGoto_ret] | rw [Exit.jump_ret] | skip
    refine bodyPost_ret (results_cell_slot rfl _ _ w.heap.size 94 _ _ rfl (hp.setRow _) Try.underlying94 rfl (by kernel_rfl) _ rfl) rfl ?_
    exact ⟨by rw [HE.out]; rfl, below_setRow B1 (Nat.le_refl _) _⟩
  · have hE : nameE s = 0 := by simp [nameE, hok]
    have HE := Lib.hid hE
    obtain ⟨n1, n2⟩ := nameOk_size hok
    have hw : wordsN (sb s) ++ List.replicate (5 - (wordsN (sb s)).length) 0 = [a, b, c, d, e] := by rw [← hl]; simp [lw, hok, pad5]
    have hwl := wordsN_len (sb s)
    rw [sb_len] at hwl
    have Hw := Lib.hid hw
    have hcv := fun W => run_bytes_of_string (P := Try.prog) W 9 136 5 s Try.underlying9 Try.underlying136 Try.underlying5
    have hbt : Hid (∀ x ∈ (sb s).map Int.ofNat, 0 ≤ x ∧ x < 256) := Lib.hid (by
      intro x hx
      obtain ⟨y, hy, rfl⟩ := List.mem_map.1 hx
      have := sb_lt s y hy
      exact ⟨Int.natCast_nonneg y, by show ((y : Nat) : Int) < 256; omega⟩)
    clear hl hok hE hw
    go_enter Try.func55, Try.ntmps55
    go_wp2_with fail
    refine wp_scope_goto 0 rfl fun J hJ => ?_
    go_wp2_with fail
    refine (hck.out _).mono ?_
    rintro r w1 ⟨rfl, hb⟩
    rw [HE.out]
    replace hp := hp.below hb hp.lt
    have B1 := B0.trans (hb.mono B0.size)
    clear hb B0
    go_wp2_with fail
    have hgc := grownCap_ge w1 s.size 0 5
    have hrd := bytes_read w1 s (grownCap w1 s.size 0 5) ((bytesRow s (grownCap w1 s.size 0 5)).size, (bytesRow s (grownCap w1 s.size 0 5)).size + 1)
    have hb2 : Below w1.heap.size w1 (w1.drew.alloc (.cells (bytesRow s (grownCap w1 s.size 0 5)) 5 ((bytesRow s (grownCap w1 s.size 0 5)).size, (bytesRow s (grownCap w1 s.size 0 5)).size + 1))) := (Below.refl _ w1).drew.alloc (Nat.le_refl _) _
    refine (words_any ((sb s).map Int.ofNat) _ _ _ _ hrd hbt.out hgc (by omega)).mono ?_
    rintro r w2 ⟨v, rfl, hown, hb⟩
    replace hp := hp.below hb2 hp.lt
    have B2 := B1.trans (hb2.mono B1.size)
    replace hp := hp.below hb hp.lt
    have B3 := B2.trans (hb.mono B2.size)
    rw [wordsOf_nat (sb s) (sb_lt s)] at hown
    obtain ⟨g, cap, rfl, _, _⟩ := hown.form (by omega)
    have hcell := hown.cells (g := g) rfl
    have hl3 : (cells64 (wordsN (sb s))).length = (s.size + 7) / 8 := by rw [cells64_len, hwl]
    have hcp := fun ty => run_copy_row (P := Try.prog) w2 119 119 ty 25 w.heap.size 0 5 5 ⟨g, 0, none⟩ ((s.size + 7) / 8) cap #[.int .u64 0, .int .u64 0, .int .u64 0, .int .u64 0, .int .u64 0] 94 (cells64 (wordsN (sb s))) Try.underlying119 (by kernel_rfl) hp (by rw [hl3]; simp [Nat.min_def]; omega) hcell (by rw [hl3]; simp; omega) (by intro v hv; obtain ⟨x, _, rfl⟩ := List.mem_map.1 hv; rfl)
    have harr : (List.take 0 (#[Value.int .u64 0, .int .u64 0, .int .u64 0, .int .u64 0, .int .u64 0] : Array Value).toList ++ cells64 (wordsN (sb s)) ++ List.drop (0 + (cells64 (wordsN (sb s))).length) (#[Value.int .u64 0, .int .u64 0, .int .u64 0, .int .u64 0, .int .u64 0] : Array Value).toList).toArray = #[.int .u64 a, .int .u64 b, .int .u64 c, .int .u64 d, .int .u64 e] := by
      rw [hl3, List.take_zero, List.nil_append, Nat.zero_add]
      have h1 := congrArg cells64 Hw.out
      simp only [cells64, List.map_append, List.map_replicate, List.map_cons, List.map_nil] at h1
      rw [hwl] at h1
      rw [show List.drop ((s.size + 7) / 8) (#[Value.int .u64 0, .int .u64 0, .int .u64 0, .int .u64 0, .int .u64 0] : Array Value).toList = List.replicate (5 - (s.size + 7) / 8) (Value.int .u64 ((0 : Nat) : Int)) from by show List.drop _ (List.replicate 5 (Value.int .u64 0)) = _; rw [List.drop_replicate]; rfl]
      exact congrArg List.toArray h1
    rw [harr] at hcp
    have hp4 := hp.setRow #[.int .u64 a, .int .u64 b, .int .u64 c, .int .u64 d, .int .u64 e]
    have B4 := below_setRow B3 (Nat.le_refl w.heap.size) #[.int .u64 a, .int .u64 b, .int .u64 c, .int .u64 d, .int .u64 e]
    clear hb hb2 hrd hcell hown B1 B2 B3 hwl harr hp
    go_wp2_with (first | (refine row_load w.heap.size 94 _ hp4 94 _ rfl rfl rfl _ Try.underlying94 rfl (by kernel_rfl) ?_) | (refine row_store w.heap.size 94 _ _ hp4 94 _ _ rfl rfl rfl rfl (by kernel_rfl) rfl (by kernel_rfl) ?_))
    refine wp_label ?_
    go_wp2_with (first | (refine row_load w.heap.size 94 _ hp4 94 _ rfl rfl rfl _ Try.underlying94 rfl (by kernel_rfl) ?_) | (refine row_store w.heap.size 94 _ _ hp4 94 _ _ rfl rfl rfl rfl (by kernel_rfl) rfl (by kernel_rfl) ?_))
    first | rw [Exit.noGoto_ret] | rw [Exit.jump_ret] | skip
    refine bodyPost_ret (results_cell_slot rfl _ _ w.heap.size 94 _ _ rfl (hp4.setRow _) Try.underlying94 rfl (by kernel_rfl) _ rfl) rfl ?_
    exact ⟨by rw [HE.out]; rfl, below_setRow B4 (Nat.le_refl _) _⟩
end Go.Proofs.Ytdgnbmcckknfiaa
