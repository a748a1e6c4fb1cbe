/- The walks of a name's letters, of name.right and of label.Check. Conditions: none but that the text is a string. -/
import Derived.Lib.OthersKept
import Derived.Test.YtdgnbmcckknfiaaGreatDraw
import Derived.Test.YtdgnbmcckknfiaaGreatLabP
import Derived.Test.YtdgnbmcckknfiaaGreatFldA
namespace Go.Proofs.YtdgnbmcckknfiaaGreat
open Go.RowKit
set_option linter.unusedSimpArgs false
attribute [local go_sem] Oper.semAt_some wide_fn wide_depth

def markOf (D : Nat) : Deferred := { target := .collected D, args := #[] }

set_option maxHeartbeats 400000 in
theorem letters_any (s : ByteArray) (w : World) :
    Calls Tryz.prog 95 #[.string s] w fun e w' => e = .returned (.func (.func 105) #[] #[.pointer (some ⟨w.heap.size, 0, none⟩)]) ∧ w.alloc (.cells #[.string s] 152) = w' := by
  go_enter Tryz.func95, Tryz.ntmps95
  go_wp2
  go_ret
  exact ⟨rfl, rfl⟩

set_option maxRecDepth 100000 in
set_option maxHeartbeats 1000000 in
theorem letters_iter (b : Nat) (s : ByteArray) :
    IterC true Tryz.prog 105 #[.pointer (some ⟨b, 0, none⟩)] (runes s).length (fun k => #[.int .i32 ((runes s).getD k 0 : Nat)]) (fun W => W.cell? ⟨b, 0, none⟩ = some (.string s)) := by
  intro n l W J Jx hJ hJx hR hR2 hY h0
  refine callsIn_of_wp Tryz.func105 rfl trivial ?_ rfl
  simp only [Tryz.ntmps105, List.size_toArray, List.length_cons, List.length_nil, Nat.reduceAdd, Nat.reduceSub, Array.replicate_succ, Array.replicate_zero, List.push_toArray, List.append_toArray, List.nil_append, List.cons_append]
  have hJ4 : ∀ k X Y, J k X → W.heap.size ≤ X.heap.size → Below W.heap.size X Y → J k Y := fun k X Y h hle hb => hJ k X Y h hle hb
  have cx := (hR 0 W h0).1
  have h1 : J 0 (W.iter s 0) := hJ4 0 W _ h0 (Nat.le_refl _) ((Below.refl _ W).alloc (Nat.le_refl _) _)
  have hi := World.iter_heap W s 0
  gi_wp2
  gi_loopw [4] (fun _ wr => ∃ p f k : Nat, s.size ≤ p + f ∧ runesF s f p = (runes s).drop k ∧ k ≤ (runes s).length ∧ wr.heap[W.heap.size]? = some (.stringIter s p) ∧ J k wr) (fun _ wr => s.size - wr.iterPos W.heap.size)
  case atStart => exact ⟨0, s.size, 0, by omega, by simp [runes], Nat.zero_le _, hi, h1⟩
  case round =>
    obtain ⟨p, f, k, hpf, hdr, hk, hit, hj⟩ := hrel
    have hpos : wr.iterPos W.heap.size = p := by simp [World.iterPos, hit]
    by_cases hp : p < s.size
    · have hnx := fun ty => Lib.run_next_any_at (P := Tryz.prog) wr W.heap.size s p ty hit hp
      obtain ⟨g, rfl, hst, hg⟩ := runesF_step s f p hp hpf
      rw [hst] at hdr
      have hlt : k < (runes s).length := by
        rcases Nat.lt_or_ge k (runes s).length with h | h
        · exact h
        · rw [List.drop_of_length_le h] at hdr
          cases hdr
      rw [List.drop_eq_getElem_cons hlt] at hdr
      injection hdr with hd1 hd2
      have hgd : (runes s).getD k 0 = (Utf8.decode s p).1 := by rw [List.getD_eq_getElem?_getD, List.getElem?_eq_getElem hlt, hd1]; rfl
      have hsz : W.heap.size ≤ wr.heap.size := (hR k wr hj).2
      have hlw : W.heap.size < wr.heap.size := (Array.getElem?_eq_some_iff.1 hit).1
      have hbi : ∀ q, Below W.heap.size wr (wr.iterAt W.heap.size s q) := fun q => Lib.below_iterAt (Below.refl _ wr) (Nat.le_refl _) s q
      obtain ⟨q, hq⟩ : ∃ q, p + (Utf8.decode s p).2 = q := ⟨_, rfl⟩
      obtain ⟨c, hc⟩ : ∃ c, (Utf8.decode s p).1 = c := ⟨_, rfl⟩
      have hw1 := width_one s p hp
      have hpq : p < q := by omega
      simp only [hq, hc] at hnx
      rw [hc] at hgd
      rw [hq] at hd2 hg
      have hj2 : J k (wr.iterAt W.heap.size s q) := hJ4 k wr _ hj hsz (hbi q)
      have hit2 : (wr.iterAt W.heap.size s q).heap[W.heap.size]? = some (.stringIter s q) := Lib.iterAt_heap wr W.heap.size s p q hit
      have hs2 : (wr.iterAt W.heap.size s q).heap.size = wr.heap.size := Lib.iterAt_size wr W.heap.size s q
      obtain ⟨fn, tmps, assign, body, hy, hRd⟩ := hY k _ hlt hj2
      rw [hgd] at hy
      have Hgd := Lib.hid hgd
      have HY := Lib.hid hY
      have HJ := Lib.hid hJ
      have HJ4 := Lib.hid hJ4
      have HR := Lib.hid hR
      have Hd2 := Lib.hid hd2
      have Hpos := Lib.hid hpos
      have Hit2 := Lib.hid hit2
      have Hs2 := Lib.hid hs2
      clear hY hJ hJ4 hR hJx hR2 hgd hc hq hd1 hd2 hst hi h1 hpos hit hit2 hs2
      gi_wp2_with fail
      refine hRd.mono ?_
      rintro e W3 ⟨hkp, (⟨rfl, hJ3⟩ | ⟨rfl, hJx3⟩)⟩
      · have hit3 : W3.heap[W.heap.size]? = some (.stringIter s q) := ((hkp rfl).2 _ (Nat.le_refl _) (by have := Hs2.out; omega)).trans Hit2.out
        have Hit3 := Lib.hid hit3
        clear hy hit3 hkp
        gi_wp2
        go_roundw
        case rel => exact ⟨q, g, k + 1, hg, Hd2.out, by omega, Hit3.out, hJ3⟩
        case measure =>
          have e1 : W3.iterPos W.heap.size = q := by simp [World.iterPos, Hit3.out]
          rw [e1, Hpos.out]
          omega
      · clear hy
        gi_wp2
        refine bodyPost_ret (results_none rfl _ _ _) rfl ?_
        exact ⟨⟨_, rfl⟩, .inr ⟨k + 1, by omega, by omega, hJx3⟩⟩
    · have hnx := fun ty => Lib.run_next_end_at (P := Tryz.prog) wr W.heap.size s p ty hit hp
      have hke : k = (runes s).length := by
        rw [runesF_end s f p hp] at hdr
        have := List.drop_eq_nil_iff.1 hdr.symm
        omega
      subst hke
      clear hY hJ hJ4 hJx hR hR2 cx hi h1 hdr
      gi_wp2
      go_end0
      exact ⟨⟨_, rfl⟩, .inl hj⟩

end Go.Proofs.YtdgnbmcckknfiaaGreat
