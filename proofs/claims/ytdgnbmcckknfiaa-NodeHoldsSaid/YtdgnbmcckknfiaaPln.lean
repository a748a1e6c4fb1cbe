/- Plain laws of this chapter: Get of Put is what was put, Put of Get are the words. No program's step in sight. No conditions. -/
import Derived.Test.YtdgnbmcckknfiaaEntB
import Derived.Test.YtdgnbmcckknfiaaMapB
import Derived.Test.YtdgnbmcckknfiaaNodG
import Derived.Test.YtdgnbmcckknfiaaSupB
import Derived.Test.YtdgnbmcckknfiaaTabB
import Derived.Test.YtdgnbmcckknfiaaBytQ
namespace Go.Proofs.Ytdgnbmcckknfiaa
open Go.RowKit
set_option linter.unusedSimpArgs false
theorem ino_put (a b c d e f g h : Nat) (h1 : inoIs a b c d e f g h = true) : inoL (inoK a) (inoLk a) (smallI b) = ln8 a b c d e f g h ∧ inoE (inoK a) (inoLk a) (smallI b) = 0 := by
  unfold inoIs at h1
  rw [Bool.and_eq_true] at h1
  obtain ⟨h2, h3⟩ := h1
  have h4 := of_decide_eq_true h3
  unfold inoL inoE
  rw [if_pos h2, if_pos h2]
  refine ⟨?_, rfl⟩
  have h5 := congrArg (fun l : List Int => (l.map (Value.int .u64)).toArray) h4
  exact h5
theorem ino_got (a b c d e f g h : Nat) (h1 : inoIs a b c d e f g h = true) : inoIsV a b c d e f g h = #[.int .i64 (inoK a), .int .i64 (inoLk a), .int .i64 (smallI b)] ∧ inoIsE a b c d e f g h = 0 := by
  unfold inoIsV inoIsE
  rw [h1]
  exact ⟨rfl, rfl⟩
theorem ino_not (a b c d e f g h : Nat) (h1 : inoIs a b c d e f g h = false) : inoIsE a b c d e f g h = 180 := by
  unfold inoIsE
  rw [h1]
  rfl
theorem sup_put (a b c d e f g h : Nat) (h1 : supIs a b c d e f g h = true) : supL (smallI b) (smallI c) = ln8 a b c d e f g h ∧ supE (smallI b) (smallI c) = 0 := by
  unfold supIs at h1
  rw [Bool.and_eq_true] at h1
  obtain ⟨h2, h3⟩ := h1
  have h4 := of_decide_eq_true h3
  unfold supL supE
  rw [if_pos h2, if_pos h2]
  refine ⟨?_, rfl⟩
  have h5 := congrArg (fun l : List Int => (l.map (Value.int .u64)).toArray) h4
  exact h5
theorem sup_got (a b c d e f g h : Nat) (h1 : supIs a b c d e f g h = true) : supIsV a b c d e f g h = #[.int .i64 (smallI b), .int .i64 (smallI c)] ∧ supIsE a b c d e f g h = 0 := by
  unfold supIsV supIsE
  rw [h1]
  exact ⟨rfl, rfl⟩
theorem sup_not (a b c d e f g h : Nat) (h1 : supIs a b c d e f g h = false) : supIsE a b c d e f g h = 180 := by
  unfold supIsE
  rw [h1]
  rfl
theorem tab_put (a b c d e f g h : Nat) (h1 : tabIs a b c d e f g h = true) : tabL (smallI a) (smallI b) (smallI c) (smallI d) (smallI e) (smallI f) (smallI g) = ln8 a b c d e f g h ∧ tabE (smallI a) (smallI b) (smallI c) (smallI d) (smallI e) (smallI f) (smallI g) = 0 := by
  unfold tabIs at h1
  rw [Bool.and_eq_true] at h1
  obtain ⟨h2, h3⟩ := h1
  have h4 := of_decide_eq_true h3
  unfold tabL tabE
  rw [if_pos h2, if_pos h2]
  refine ⟨?_, rfl⟩
  have h5 := congrArg (fun l : List Int => (l.map (Value.int .u64)).toArray) h4
  exact h5
theorem tab_got (a b c d e f g h : Nat) (h1 : tabIs a b c d e f g h = true) : tabIsV a b c d e f g h = #[.int .i64 (smallI a), .int .i64 (smallI b), .int .i64 (smallI c), .int .i64 (smallI d), .int .i64 (smallI e), .int .i64 (smallI f), .int .i64 (smallI g)] ∧ tabIsE a b c d e f g h = 0 := by
  unfold tabIsV tabIsE
  rw [h1]
  exact ⟨rfl, rfl⟩
theorem tab_not (a b c d e f g h : Nat) (h1 : tabIs a b c d e f g h = false) : tabIsE a b c d e f g h = 180 := by
  unfold tabIsE
  rw [h1]
  rfl
theorem map_put (a b c d e f g h : Nat) (h1 : mapIs a b c d e f g h = true) : mapL (smallI a) (smallI b) (smallI c) (smallI d) (smallI e) (smallI f) (smallI g) (smallI h) = ln8 a b c d e f g h ∧ mapE (smallI a) (smallI b) (smallI c) (smallI d) (smallI e) (smallI f) (smallI g) (smallI h) = 0 := by
  unfold mapIs at h1
  rw [Bool.and_eq_true] at h1
  obtain ⟨h2, h3⟩ := h1
  have h4 := of_decide_eq_true h3
  unfold mapL mapE
  rw [if_pos h2, if_pos h2]
  refine ⟨?_, rfl⟩
  have h5 := congrArg (fun l : List Int => (l.map (Value.int .u64)).toArray) h4
  exact h5
theorem map_got (a b c d e f g h : Nat) (h1 : mapIs a b c d e f g h = true) : mapIsV a b c d e f g h = #[.int .i64 (smallI a), .int .i64 (smallI b), .int .i64 (smallI c), .int .i64 (smallI d), .int .i64 (smallI e), .int .i64 (smallI f), .int .i64 (smallI g), .int .i64 (smallI h)] ∧ mapIsE a b c d e f g h = 0 := by
  unfold mapIsV mapIsE
  rw [h1]
  exact ⟨rfl, rfl⟩
theorem map_not (a b c d e f g h : Nat) (h1 : mapIs a b c d e f g h = false) : mapIsE a b c d e f g h = 180 := by
  unfold mapIsE
  rw [h1]
  rfl
theorem ent_put (a b c d e f g h : Nat) (h1 : entIs a b c d e f g h = true) : entL (smallI a) (smallI b) (rdS [d, e, f, g, h] (smallI c)) = ln8 a b c d e f g h ∧ entE (smallI a) (smallI b) (rdS [d, e, f, g, h] (smallI c)) = 0 := by
  unfold entIs at h1
  rw [Bool.and_eq_true] at h1
  obtain ⟨h2, h3⟩ := h1
  have h4 := of_decide_eq_true h3
  unfold entL entE
  rw [if_pos h2, if_pos h2]
  refine ⟨?_, rfl⟩
  have h5 := congrArg (fun l : List Int => (l.map (Value.int .u64)).toArray) h4
  exact h5
theorem ent_got (a b c d e f g h : Nat) (h1 : entIs a b c d e f g h = true) : entIsV a b c d e f g h = #[.int .i64 (smallI a), .int .i64 (smallI b), .string (rdS [d, e, f, g, h] (smallI c))] ∧ entIsE a b c d e f g h = 0 := by
  unfold entIsV entIsE
  rw [h1]
  exact ⟨rfl, rfl⟩
theorem ent_not (a b c d e f g h : Nat) (h1 : entIs a b c d e f g h = false) : entIsE a b c d e f g h = 180 := by
  unfold entIsE
  rw [h1]
  rfl

theorem small_of {x : Nat} (h : x < 1048576) : smallI x = (x : Int) := by unfold smallI; rw [if_pos h]
theorem ino_get {k l t : Int} (h : inoOk k l t = true) : ∃ a b : Nat, a < 18446744073709551616 ∧ b < 18446744073709551616 ∧ inoL k l t = ln8 a b 0 0 0 0 0 0 ∧ inoE k l t = 0 ∧
    inoIsV a b 0 0 0 0 0 0 = #[.int .i64 k, .int .i64 l, .int .i64 t] ∧ inoIsE a b 0 0 0 0 0 0 = 0 := by
  obtain ⟨K, L, T, rfl, rfl, rfl, hK, hL, hT⟩ := inoOk_nat h
  have h1 : inoK (K + 256 * L) = (K : Int) := by unfold inoK; omega
  have h2 : inoLk (K + 256 * L) = (L : Int) := by
    unfold inoLk
    rw [show (K + 256 * L) / 256 = L by omega]
    exact small_of hL
  have h3 := small_of hT
  have his : inoIs (K + 256 * L) T 0 0 0 0 0 0 = true := by
    unfold inoIs
    rw [h1, h2, h3, h, Bool.true_and]
    apply decide_eq_true
    unfold inoW
    simp
  obtain ⟨g1, g2⟩ := ino_got _ _ _ _ _ _ _ _ his
  rw [h1, h2, h3] at g1
  refine ⟨K + 256 * L, T, by omega, by omega, ?_, ?_, g1, g2⟩
  · unfold inoL
    rw [if_pos h]
    simp
  · unfold inoE
    rw [if_pos h]
theorem ptr_nat {least : Int} (h0 : 0 ≤ least) {xs : List Int} (h : ptrs least xs = true) : ∀ x ∈ xs, ∃ n : Nat, x = n ∧ n < 1024 := fun x hx => by
  unfold ptrs at h
  rw [Bool.not_eq_true', List.any_eq_false] at h
  have := h x hx
  simp [badP] at this
  exact ⟨x.toNat, by omega, by omega⟩
theorem map_get {y y0 y1 y2 y3 y4 y5 y6 : Int} (h0 : mapOk y y0 y1 y2 y3 y4 y5 y6 = true) : ∃ a b c d e f g h : Nat, a < 18446744073709551616 ∧ b < 18446744073709551616 ∧ c < 18446744073709551616 ∧ d < 18446744073709551616 ∧ e < 18446744073709551616 ∧ f < 18446744073709551616 ∧ g < 18446744073709551616 ∧ h < 18446744073709551616 ∧ mapL y y0 y1 y2 y3 y4 y5 y6 = ln8 a b c d e f g h ∧ mapE y y0 y1 y2 y3 y4 y5 y6 = 0 ∧
    mapIsV a b c d e f g h = #[.int .i64 y, .int .i64 y0, .int .i64 y1, .int .i64 y2, .int .i64 y3, .int .i64 y4, .int .i64 y5, .int .i64 y6] ∧ mapIsE a b c d e f g h = 0 := by
  have hok := h0
  simp only [mapOk, Bool.and_eq_true, chOk, decide_eq_true_eq] at hok
  obtain ⟨a, rfl, ha⟩ : ∃ a : Nat, y = a ∧ a < 1024 := ⟨y.toNat, by omega, by omega⟩
  have hp := ptr_nat (by omega) hok.1.2
  obtain ⟨b, rfl, hb⟩ := hp y0 (by simp)
  obtain ⟨c, rfl, hc⟩ := hp y1 (by simp)
  obtain ⟨d, rfl, hd⟩ := hp y2 (by simp)
  obtain ⟨e, rfl, he⟩ := hp y3 (by simp)
  obtain ⟨f, rfl, hf⟩ := hp y4 (by simp)
  obtain ⟨g, rfl, hg⟩ := hp y5 (by simp)
  obtain ⟨h, rfl, hh⟩ := hp y6 (by simp)
  have his : mapIs a b c d e f g h = true := by
    unfold mapIs
    rw [small_of (x := a) (by omega), small_of (x := b) (by omega), small_of (x := c) (by omega), small_of (x := d) (by omega), small_of (x := e) (by omega), small_of (x := f) (by omega), small_of (x := g) (by omega), small_of (x := h) (by omega), h0, Bool.true_and]
    apply decide_eq_true
    rfl
  obtain ⟨g1, g2⟩ := map_got _ _ _ _ _ _ _ _ his
  rw [small_of (x := a) (by omega), small_of (x := b) (by omega), small_of (x := c) (by omega), small_of (x := d) (by omega), small_of (x := e) (by omega), small_of (x := f) (by omega), small_of (x := g) (by omega), small_of (x := h) (by omega)] at g1
  refine ⟨a, b, c, d, e, f, g, h, by omega, by omega, by omega, by omega, by omega, by omega, by omega, by omega, ?_, ?_, g1, g2⟩
  · unfold mapL
    rw [if_pos h0]
  · unfold mapE
    rw [if_pos h0]
theorem bytesOf_app (l m : List Nat) : bytesOf (l ++ m) = bytesOf l ++ bytesOf m := by unfold bytesOf; rw [List.flatMap_append]
theorem name_back {s : ByteArray} (h : nameOk s = true) : rdStr (lw s) s.size = s := by
  apply sb_inj
  rw [sb_rdStr]
  unfold lw pad5
  rw [if_pos h, bytesOf_app, List.take_append_of_le_length (by rw [bytesOf_len, wordsN_len, sb_len]; omega)]
  have := words_take (sb s) (sb_lt s)
  rwa [sb_len] at this
theorem ent_get {n m : Int} {s : ByteArray} (h0 : entOk n m s = true) : ∃ a b c d e f g h : Nat, a < 18446744073709551616 ∧ b < 18446744073709551616 ∧ c < 18446744073709551616 ∧ d < 18446744073709551616 ∧ e < 18446744073709551616 ∧ f < 18446744073709551616 ∧ g < 18446744073709551616 ∧ h < 18446744073709551616 ∧ entL n m s = ln8 a b c d e f g h ∧ entE n m s = 0 ∧
    entIsV a b c d e f g h = #[.int .i64 n, .int .i64 m, .string s] ∧ entIsE a b c d e f g h = 0 := by
  have hok := h0
  simp only [entOk, Bool.and_eq_true] at hok
  obtain ⟨a, rfl, ha⟩ := ptr_nat (by omega) hok.1 n (by simp)
  obtain ⟨b, rfl, hb⟩ := ptr_nat (by omega) hok.2.1 m (by simp)
  have hnm := hok.2.2
  obtain ⟨n1, n2⟩ := nameOk_size hnm
  obtain ⟨d, e, f, g, h, hl⟩ := five (lw s) (lw_len s)
  have hlt := lw_lt s
  rw [hl] at hlt
  have hsz : smallI s.size = (s.size : Int) := small_of (by omega)
  have hrs : rdS [d, e, f, g, h] (smallI s.size) = s := by
    have hb := name_back hnm
    rw [hl] at hb
    have hr : rdOk [d, e, f, g, h] (s.size : Int) = true := by
      unfold rdOk
      rw [Int.toNat_natCast, hb, hnm, hl, decide_eq_true (by omega : (1 : Int) ≤ s.size), decide_eq_true (by omega : (s.size : Int) ≤ 40)]
      simp
    unfold rdS
    rw [hsz, if_pos hr, Int.toNat_natCast, hb]
  have his : entIs a b s.size d e f g h = true := by
    unfold entIs
    rw [hrs, small_of (x := a) (by omega), small_of (x := b) (by omega), h0, Bool.true_and]
    apply decide_eq_true
    unfold entW
    rw [hl]
    rfl
  obtain ⟨g1, g2⟩ := ent_got _ _ _ _ _ _ _ _ his
  rw [hrs, small_of (x := a) (by omega), small_of (x := b) (by omega)] at g1
  refine ⟨a, b, s.size, d, e, f, g, h, by omega, by omega, by omega, hlt d (by simp), hlt e (by simp), hlt f (by simp), hlt g (by simp), hlt h (by simp), ?_, ?_, g1, g2⟩
  · unfold entL
    rw [if_pos h0]
    exact entW_eq _ _ _ _ _ _ _ _ hl
  · unfold entE
    rw [if_pos h0]
end Go.Proofs.Ytdgnbmcckknfiaa
