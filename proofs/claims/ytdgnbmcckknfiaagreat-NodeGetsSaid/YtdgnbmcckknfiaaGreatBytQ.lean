/- Plain laws: the bytes of the words of bytes are the bytes; words of whole words, and of more behind, are those of both. No program in sight. -/
import Derived.Test.YtdgnbmcckknfiaaGreatBytP
namespace Go.Proofs.YtdgnbmcckknfiaaGreat

theorem wbyte_le : ∀ (l : List Nat) (i : Nat), (∀ x ∈ l, x < 256) → wbyte (leN l) i = l.getD i 0
  | [], i, _ => by simp [wbyte, leN]
  | b :: t, 0, h => by
    have := h b (List.mem_cons_self ..)
    unfold wbyte
    simp [leN]
    omega
  | b :: t, i + 1, h => by
    have h1 := wbyte_le t i (fun x hx => h x (List.mem_cons_of_mem _ hx))
    have h2 := h b (List.mem_cons_self ..)
    have e : wbyte (leN (b :: t)) (i + 1) = wbyte (leN t) i := by
      unfold wbyte
      rw [show 8 * (i + 1) = 8 + 8 * i by omega, Nat.pow_add, ← Nat.div_div_eq_div_mul]
      rw [show leN (b :: t) / 2 ^ 8 = leN t from by show (b + 256 * leN t) / 256 = _; omega]
    rw [e, h1]
    rfl
theorem bytesOf_at : ∀ (l : List Nat) (k i : Nat), i < 8 → (bytesOf l)[8 * k + i]? = l[k]?.map fun x => wbyte x i
  | [], k, i, _ => by simp [bytesOf]
  | x :: t, 0, i, hi => by
    have hl := wbytes_len x 8
    show (wbytes x 8 ++ bytesOf t)[8 * 0 + i]? = _
    rw [List.getElem?_append_left (by omega)]
    simp [wbytes, hi]
  | x :: t, k + 1, i, hi => by
    have hl := wbytes_len x 8
    show (wbytes x 8 ++ bytesOf t)[8 * (k + 1) + i]? = _
    rw [List.getElem?_append_right (by omega), hl, show 8 * (k + 1) + i - 8 = 8 * k + i by omega, bytesOf_at t k i hi]
    rfl
theorem words_back (bs : List Nat) (h : ∀ x ∈ bs, x < 256) (j : Nat) (hj : j < 8 * ((bs.length + 7) / 8)) : (bytesOf (wordsN bs))[j]? = some (bs.getD j 0) := by
  have e := bytesOf_at (wordsN bs) (j / 8) (j % 8) (by omega)
  rw [show 8 * (j / 8) + j % 8 = j by omega] at e
  rw [e]
  unfold wordsN
  rw [List.getElem?_map, List.getElem?_range (by omega)]
  simp only [Option.map_some]
  unfold wordN
  rw [wbyte_le _ _ (fun x hx => h x (List.mem_of_mem_drop (List.mem_of_mem_take hx)))]
  rw [List.getD_eq_getElem?_getD, List.getD_eq_getElem?_getD, List.getElem?_take_of_lt (by omega), List.getElem?_drop, show 8 * (j / 8) + j % 8 = j by omega]
theorem words_take (bs : List Nat) (h : ∀ x ∈ bs, x < 256) : (bytesOf (wordsN bs)).take bs.length = bs := by
  apply List.ext_getElem?
  intro j
  rcases Nat.lt_or_ge j bs.length with hj | hj
  · rw [List.getElem?_take_of_lt hj, words_back bs h j (by omega), List.getD_eq_getElem?_getD, List.getElem?_eq_getElem hj]
    rfl
  · rw [List.getElem?_eq_none hj, List.getElem?_eq_none (by rw [List.length_take]; omega)]
theorem words_drop (bs : List Nat) (h : ∀ x ∈ bs, x < 256) : anyNz ((bytesOf (wordsN bs)).drop bs.length) = false := by
  unfold anyNz
  rw [List.any_eq_false]
  intro x hx
  obtain ⟨i, hi, e⟩ := List.mem_iff_getElem.1 hx
  have h1 : ((bytesOf (wordsN bs)).drop bs.length)[i]? = some x := by rw [List.getElem?_eq_getElem hi, e]
  rw [List.getElem?_drop] at h1
  have h2 : bs.length + i < (bytesOf (wordsN bs)).length := (List.getElem?_eq_some_iff.1 h1).1
  rw [bytesOf_len, wordsN_len] at h2
  rw [words_back bs h _ h2, List.getD_eq_getElem?_getD, List.getElem?_eq_none (by omega)] at h1
  simp at h1
  rw [← h1]
  decide
theorem words_bytes (bs : List Nat) (h : ∀ x ∈ bs, x < 256) (hn : bs.length ≤ 4096) : bytesE (wordsN bs) (bs.length : Int) = 0 ∧ bytesL (wordsN bs) (bs.length : Int) = bs := by
  have e : bytesE (wordsN bs) (bs.length : Int) = 0 := by
    unfold bytesE
    rw [if_neg (by omega), wordsN_len, if_neg (by omega), if_neg (by omega), Int.toNat_natCast, if_neg (by omega), words_drop bs h, if_neg (by simp)]
  refine ⟨e, ?_⟩
  unfold bytesL
  rw [if_pos e, Int.toNat_natCast, words_take bs h]
theorem words_split (bs : List Nat) (k : Nat) (hk : 8 * k ≤ bs.length) : wordsN (bs.take (8 * k)) ++ wordsN (bs.drop (8 * k)) = wordsN bs := by
  have h1 : (bs.take (8 * k)).length = 8 * k := by rw [List.length_take]; omega
  have h2 : (bs.drop (8 * k)).length = bs.length - 8 * k := List.length_drop
  apply List.ext_getElem?
  intro j
  have hat : ∀ (l : List Nat) (i : Nat), (wordsN l)[i]? = if i < (l.length + 7) / 8 then some (wordN l i) else none := by
    intro l i
    unfold wordsN
    rw [List.getElem?_map]
    by_cases hi : i < (l.length + 7) / 8
    · rw [List.getElem?_range hi, if_pos hi]; rfl
    · rw [if_neg hi, List.getElem?_eq_none (by simpa using hi)]; rfl
  rcases Nat.lt_or_ge j k with hj | hj
  · rw [List.getElem?_append_left (by rw [wordsN_len, h1]; omega), hat, hat, h1, if_pos (by omega), if_pos (by omega)]
    congr 1
    unfold wordN
    rw [List.drop_take, List.take_take, show min 8 (8 * k - 8 * j) = 8 by omega]
  · rw [List.getElem?_append_right (by rw [wordsN_len, h1]; omega), wordsN_len, h1, show j - (8 * k + 7) / 8 = j - k by omega, hat, hat, h2]
    by_cases hl : j < (bs.length + 7) / 8
    · rw [if_pos (by omega), if_pos hl]
      congr 1
      unfold wordN
      rw [List.drop_drop, show 8 * k + 8 * (j - k) = 8 * j by omega]
    · rw [if_neg (by omega), if_neg hl]
end Go.Proofs.YtdgnbmcckknfiaaGreat
