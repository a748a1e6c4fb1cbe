/- Plain laws of names: the runes of a string of bytes, and which strings are names. No program in sight. -/
import Derived.Laws.RangeAny
import Derived.Test.YtdgnbmcckknfiaaGreatBytP
namespace Go.Proofs.YtdgnbmcckknfiaaGreat

/-- A string's bytes, as numbers. -/
def sb (s : ByteArray) : List Nat := s.data.toList.map UInt8.toNat
theorem sb_len (s : ByteArray) : (sb s).length = s.size := by simp [sb]
theorem sb_at (s : ByteArray) (p : Nat) (h : p < s.size) : (sb s)[p]? = some (s[p]'h).toNat := by
  unfold sb
  rw [List.getElem?_map, List.getElem?_eq_getElem (show p < s.data.toList.length from by simpa using h)]
  rfl
theorem sb_lt (s : ByteArray) : ∀ x ∈ sb s, x < 256 := by
  intro x hx
  obtain ⟨b, _, rfl⟩ := List.mem_map.1 hx
  exact b.toNat_lt
theorem sb_inj {s t : ByteArray} (h : sb s = sb t) : s = t := by
  have h1 : s.data.toList = t.data.toList := List.map_inj_right (fun a b hab => UInt8.toNat_inj.1 hab) |>.1 h
  obtain ⟨a⟩ := s
  obtain ⟨b⟩ := t
  congr 1
  exact Array.toList_inj.1 h1

/-- May a letter be one of a name's? -/
def okR (c : Nat) : Bool := decide (33 ≤ c) && decide (c ≤ 126) && decide (c ≠ 47)
/-- The runes from a place on. -/
def runesF (s : ByteArray) : Nat → Nat → List Nat
  | 0, _ => []
  | f + 1, p => if p < s.size then (Utf8.decode s p).1 :: runesF s f (p + (Utf8.decode s p).2) else []
def runes (s : ByteArray) : List Nat := runesF s s.size 0
theorem width_one (s : ByteArray) (p : Nat) (h : p < s.size) : 1 ≤ (Utf8.decode s p).2 := by
  by_cases ha : (s[p]'h).toNat < 128
  · rw [decode_ascii s p h ha]
    exact Nat.le_refl _
  · exact (decode_high s p h (by omega)).2
theorem runesF_end (s : ByteArray) (f p : Nat) (h : ¬ p < s.size) : runesF s f p = [] := by
  cases f with
  | zero => rfl
  | succ f => simp [runesF, h]
theorem runesF_step (s : ByteArray) (f p : Nat) (h : p < s.size) (hf : s.size ≤ p + f) : ∃ g, f = g + 1 ∧ runesF s f p = (Utf8.decode s p).1 :: runesF s g (p + (Utf8.decode s p).2) ∧ s.size ≤ p + (Utf8.decode s p).2 + g := by
  obtain ⟨g, rfl⟩ : ∃ g, f = g + 1 := ⟨f - 1, by omega⟩
  refine ⟨g, rfl, by simp [runesF, h], ?_⟩
  have := width_one s p h
  omega
theorem runesF_ok (s : ByteArray) : ∀ (f p : Nat), s.size ≤ p + f → ((runesF s f p).all okR = true ↔ ((sb s).drop p).all okR = true)
  | 0, p, h => by
    rw [List.drop_of_length_le (by rw [sb_len]; omega)]
    simp [runesF]
  | f + 1, p, h => by
    by_cases hp : p < s.size
    · have hl : p < (sb s).length := by rw [sb_len]; exact hp
      have hb : (sb s)[p] = (s[p]'hp).toNat := by
        have := sb_at s p hp
        rw [List.getElem?_eq_getElem hl] at this
        injection this
      rw [List.drop_eq_getElem_cons hl, hb]
      simp only [runesF, if_pos hp, List.all_cons, Bool.and_eq_true]
      by_cases ha : (s[p]'hp).toNat < 128
      · rw [decode_ascii s p hp ha]
        rw [runesF_ok s f (p + 1) (by omega)]
      · have h1 := decode_high s p hp (by omega)
        constructor
        · rintro ⟨h2, _⟩
          simp [okR] at h2
          omega
        · rintro ⟨h2, _⟩
          simp [okR] at h2
          omega
    · rw [runesF_end s _ p hp, List.drop_of_length_le (by rw [sb_len]; omega)]
theorem runes_ok (s : ByteArray) : (runes s).all okR = (sb s).all okR := by
  have := runesF_ok s s.size 0 (by omega)
  rw [List.drop_zero] at this
  exact Bool.eq_iff_iff.2 this
theorem runesF_bound (s : ByteArray) : ∀ (f p : Nat), ∀ c ∈ runesF s f p, c ≤ 2147483647
  | 0, _, c, h => by simp [runesF] at h
  | f + 1, p, c, h => by
    by_cases hp : p < s.size
    · simp only [runesF, if_pos hp, List.mem_cons] at h
      rcases h with rfl | h
      · exact decode_le s p
      · exact runesF_bound s f _ c h
    · rw [runesF_end s _ p hp] at h
      cases h
theorem runes_len (s : ByteArray) : (runes s).length ≤ s.size := by
  have : ∀ f p, (runesF s f p).length ≤ f := by
    intro f
    induction f with
    | zero => intro p; simp [runesF]
    | succ f ih =>
      intro p
      by_cases hp : p < s.size
      · simp only [runesF, if_pos hp, List.length_cons]
        have := ih (p + (Utf8.decode s p).2)
        omega
      · simp [runesF_end s _ p hp]
  exact this s.size 0

/-- The two strings that are no names: one dot, and two. -/
def dot1 (s : ByteArray) : Bool := s.toList == [46]
def dot2 (s : ByteArray) : Bool := s.toList == [46, 46]
/-- May a string be a name, its letters left aside? -/
def formOk (s : ByteArray) : Bool := decide (1 ≤ s.size) && decide (s.size ≤ 40) && !dot1 s && !dot2 s
/-- Is a string a name? -/
def nameOk (s : ByteArray) : Bool := formOk s && (sb s).all okR
end Go.Proofs.YtdgnbmcckknfiaaGreat
