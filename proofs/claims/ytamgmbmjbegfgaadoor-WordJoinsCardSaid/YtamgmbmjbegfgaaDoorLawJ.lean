/- The walk of the law WordJoins. Conditions: a slice of bytes that reads as a list; a number of 64 bits; the library's table reads as its text lays it. -/
import Derived.Test.YtamgmbmjbegfgaaDoorBytQ
import Derived.Test.YtamgmbmjbegfgaaDoorWrkB
namespace Go.Proofs.YtamgmbmjbegfgaaDoor
open Go.RowKit

theorem slice_head8 (A : Option Addr) (n c h : Nat) (hh : h ≤ c) (w : World) :
    (Instr.slice 36 (.slice A n c) none (some (.int .i64 (h : Int))) none).run Tryd.prog w = .ok (.slice A h c) w := by
  rw [run_slice_h w 36 A n c (by kernel_rfl) .i64 (h : Int) (by omega) (by omega), show (sizeOf (Tryd.prog.elem 36)).run Tryd.prog w = .ok 1 w from by kernel_rfl]
  have : A.map (·.add 0) = A := by cases A <;> simp [Addr.add]
  simp [sliced, this]
theorem cells64_one (l : List Nat) : ∀ u ∈ cells64 l, u.oneCell' = true := by
  intro u hu
  unfold cells64 at hu
  obtain ⟨x, _, rfl⟩ := List.mem_map.1 hu
  rfl
theorem cells64_app (l m : List Nat) : cells64 (l ++ m) = cells64 l ++ cells64 m := by simp [cells64]

theorem wpList_append_asked {P : Program} (w : World) {ops : Array Oper} {rest : List Oper} {o : Oper} {a : Act} {Q : Exit → Act → World → Prop} (hw : Region.wanted o (yielded ops a.tmps) = true) (s x : Operand) (t : TypeId)
    (ho : o.op = .call { callee := .builtin .append, args := #[s, x], argTypes := #[t, t] })
    (base : Nat) (e : TypeId) (i : TypeInfo) (z : Value) (size bytes : Nat) (ht : P.underlying t = some (.slice e)) (hi : P.info? e = some i) (hz : i.zero = some z)
    (hsize : i.size = size) (hby : i.bytes = bytes) (hzs : z.cells.size = size) (hsz : 0 < size)
    (v : Value) (n : Nat) (xs : List Value) (hs : a.eval s = v) (hown : w.ownsRow base e size v n xs)
    (B : Nat) (A : Option Addr) (m c : Nat) (news : List Value) (hx : a.eval x = .slice A m c) (hr : Reads w B size A m news) (h1 : ∀ u ∈ news, u.oneCell' = true)
    (h63 : n + m ≤ maxLen) (hbytes : (n + m) * bytes ≤ 140737488355328) (hbase : base ≤ w.heap.size)
    (h : ∀ v' w', w'.ownsRow base e size v' (n + m) (xs ++ news) → w.grownBy w' v.ownBlock → (v'.ownBlock = v.ownBlock ∨ v'.ownBlock = some w.heap.size) → wpList P ops Q rest (a.put o.dst v') w') : wpList P ops Q (o :: rest) a w :=
  wpList_step fun _ hK => by
    rw [if_pos hw]
    exact wp_append_any w s x t ho base e i z size bytes ht hi hz hsize hby hzs hsz v n xs hs hown B A m c news hx hr h1 h63 hbytes hbase fun v' w' h2 h3 h4 => hK _ _ (h v' w' h2 h3 h4)

set_option maxRecDepth 100000 in
set_option maxHeartbeats 4000000 in
theorem wordJoins_any (bs : List Nat) (k : Int) (A : Option Addr) (n c : Nat) (w : World) (hr : Reads w w.heap.size 1 A n (cells8 bs)) (hx : ∀ x ∈ bs, x < 256) (hc : n ≤ c) (hm : n ≤ maxLen) (hT : TabIn w) :
    Calls Tryd.prog 6 #[.slice A n c, .int .i64 k] w fun e w' => e = .returned (.bool true) ∧ Below w.heap.size w w' := by
  have hTl := hT.lt
  have HT := Lib.hid hT
  have hlen : bs.length = n := by have := hr.1; rw [cells8_len] at this; omega
  have Hlen := Lib.hid hlen
  have Hx := Lib.hid hx
  unfold maxLen at hm
  obtain ⟨d, hd⟩ : ∃ d, n / 8 = d := ⟨_, rfl⟩
  have td : (n : Int).tdiv 8 = (d : Int) := by rw [Int.tdiv_eq_ediv_of_nonneg (by omega)]; omega
  have dd : (n : Int) / 8 = (d : Int) := by omega
  have wd : IntKind.i64.wrap (d : Int) = (d : Int) := by rw [IntKind.wrap_i64]; omega
  clear hT hlen hx
  by_cases hout : 1000 < n ∨ k < 0 ∨ (d : Int) < k
  · have hor : 1000 < (n : Int) ∨ (¬ 1000 < (n : Int) ∧ (k < 0 ∨ (¬ k < 0 ∧ (d : Int) < k))) := by omega
    clear hout hd
    rcases hor with c1 | ⟨c1, c2 | ⟨c2, c3⟩⟩
    all_goals
      go_enter Tryd.func6, Tryd.ntmps6
      go_wp2_with fail
      refine (works_any _ HT.out).mono ?_
      rintro e w1 ⟨rfl, hb⟩
      go_wp2
      go_ret
      exact ⟨rfl, hb⟩
  · have c1 : ¬ 1000 < (n : Int) := by omega
    have c2 : ¬ k < 0 := by omega
    have c3 : ¬ (d : Int) < k := by omega
    obtain ⟨K, rfl⟩ : ∃ K : Nat, k = K := ⟨k.toNat, by omega⟩
    obtain ⟨p, hp⟩ : ∃ p, 8 * K = p := ⟨_, rfl⟩
    have hpn : p ≤ n := by omega
    have w8 : IntKind.i64.wrap (8 * (K : Int)) = (p : Int) := by rw [IntKind.wrap_i64]; omega
    have w9 : 8 * (K : Int) = (p : Int) := by omega
    obtain ⟨i0, hi0, hz0, hz1, hz2⟩ := info_parts info64
    have hspl := words_split bs K (by rw [Hlen.out]; omega)
    rw [hp] at hspl
    have Hspl := Lib.hid hspl
    obtain ⟨qa, hqa⟩ : ∃ q, (n + 7) / 8 = q := ⟨_, rfl⟩
    obtain ⟨qx, hqx⟩ : ∃ q, (p + 7) / 8 = q := ⟨_, rfl⟩
    obtain ⟨qy, hqy⟩ : ∃ q, (n - p + 7) / 8 = q := ⟨_, rfl⟩
    have hq1 : qa ≤ 200 := by omega
    have hq2 : qx ≤ 200 := by omega
    have hq3 : qy ≤ 200 := by omega
    have hqs : Hid (qx + qy = qa) := Lib.hid (by omega)
    have Hqa := Lib.hid hqa
    have Hqx := Lib.hid hqx
    have Hqy := Lib.hid hqy
    have s1 := fun W => slice_head8 A n c p (by omega) W
    obtain ⟨A', s2, hsr⟩ := slice_from (P := Tryd.prog) (t := 36) (by kernel_rfl) (fun w => by kernel_rfl) A n c p hpn hc
    have Hsr := Lib.hid hsr
    clear hout hd hp hspl hqa hqx hqy hsr
    go_enter Tryd.func6, Tryd.ntmps6
    go_wp2_with fail
    refine (words_n bs A n c _ hr Hx.out hc (by omega)).mono ?_
    rintro e w1 ⟨v1, rfl, hr1, hb⟩
    rw [Hqa.out] at hr1
    obtain ⟨A1, c1', rfl⟩ := own_form hr1
    have hL := Reads.of_own hr1
    replace hr := (hr.below hb).more hb.size
    have B1 := hb
    clear hb hr1
    go_wp2_with fail
    have hrx := Reads.front hr hpn
    rw [cells8_take] at hrx
    refine (words_n (bs.take p) A p c _ hrx (fun x h => Hx.out x (List.mem_of_mem_take h)) (by omega) (by omega)).mono ?_
    rintro e w2 ⟨v2, rfl, hr2, hb⟩
    rw [Hqx.out] at hr2
    obtain ⟨A2, c2', rfl⟩ := own_form hr2
    have hX := Reads.of_own hr2
    replace hr := (hr.below hb).more hb.size
    replace hL := hL.below hb
    have z1 : w1.heap.size ≤ w2.heap.size := hb.size
    have B2 := B1.trans (hb.mono B1.size)
    clear hb B1 hrx hr2
    go_wp2_with fail
    have hry := Hsr.out _ _ _ hr
    rw [cells8_drop] at hry
    refine (words_n (bs.drop p) A' (n - p) (c - p) _ hry (fun x h => Hx.out x (List.mem_of_mem_drop h)) (by omega) (by omega)).mono ?_
    rintro e w3 ⟨v3, rfl, hr3, hb⟩
    rw [Hqy.out] at hr3
    obtain ⟨A3, c3', rfl⟩ := own_form hr3
    have hY := Reads.of_own hr3
    replace hL := hL.below (hb.mono z1)
    replace hX := hX.below hb
    have z2 : w2.heap.size ≤ w3.heap.size := hb.size
    have B3 := B2.trans (hb.mono B2.size)
    clear hb B2 hry hr3 hr s1 s2
    have hbw : w.heap.size ≤ w3.heap.size := B3.size
    have hlit := World.ownsRow_lit (base := w3.heap.size) (e := 22) (size := 1) w3 #[] 0 (Nat.le_refl _) (by decide) rfl
    have hA := (Below.refl w3.heap.size w3).alloc (Nat.le_refl _) (.cells #[] 22)
    have hX3 := hX.below (hA.mono z2)
    have hY3 := hY.below hA
    have hL3 := hL.below (hA.mono (Nat.le_trans z1 z2))
    have hsz3 : (w3.alloc (.cells #[] 22)).heap.size = w3.heap.size + 1 := by simp
    have Hsz3 := Lib.hid hsz3
    clear hX hY hL hsz3
    go_wp2_with (first
      | (go_at_call 13; refine (num_any _ _).mono ?_; rintro e w' ⟨rfl, rfl⟩)
      | (at_builtin; have _t := hlit; refine wpList_append_asked _ rfl (.tmp 58) (.tmp 59) _ rfl w3.heap.size 22 i0 _ 1 8 Tryd.underlying37 hi0 hz0 hz1 hz2 rfl (by omega) (.slice (some ⟨w3.heap.size, 0, none⟩) 0 0) 0 [] rfl hlit w2.heap.size A2 qx c2' (cells64 (wordsN (bs.take p))) rfl hX3 (cells64_one _) (by simp only [maxLen]; omega) (by omega) (by simp) ?_; intro v4 w4 hown4 hg4 hat4; simp only [Nat.zero_add, List.nil_append] at hown4; have hY4 := Reads.grown hY3 hg4 (by rw [Hsz3.out]; omega) (by intro g hg; simp [Value.ownBlock] at hg; omega); have hL4 := Reads.grown hL3 hg4 (by rw [Hsz3.out]; omega) (by intro g hg; simp [Value.ownBlock] at hg; omega); have hA4 : Below w3.heap.size w3 w4 := hA.grown hg4 (by rw [Hsz3.out]; omega) (by intro g hg; simp [Value.ownBlock] at hg; omega); have hs4 : w3.heap.size ≤ w4.heap.size := hA4.size; obtain ⟨A4, c4, rfl⟩ := own_form hown4; clear hlit hX3 hY3 hL3 hg4 hA hat4 _t)
      | (at_builtin; go_must (refine wpList_append_asked _ rfl (.tmp 60) (.tmp 61) _ rfl w3.heap.size 22 i0 _ 1 8 Tryd.underlying37 hi0 hz0 hz1 hz2 rfl (by omega) (.slice A4 qx c4) qx _ rfl hown4 w3.heap.size A3 qy c3' (cells64 (wordsN (bs.drop p))) rfl hY4 (cells64_one _) (by simp only [maxLen]; omega) (by omega) hs4 ?_); intro v5 w5 hown5 hg5 hat5; have hL5 := Reads.grown hL4 hg5 (by omega) (by intro g hg; have := (hown4.lt g hg).1; omega); have hA5 : Below w3.heap.size w3 w5 := hA4.grown hg5 hs4 (by intro g hg; exact (hown4.lt g hg).1); have hs5 : w3.heap.size ≤ w5.heap.size := hA5.size; rw [← cells64_app, Hspl.out, hqs.out] at hown5; obtain ⟨A5, c5, rfl⟩ := own_form hown5; clear hown4 hY4 hL4 hg5 hA4 hat5))
    have hZ := Reads.of_own hown5
    refine (rsame_eq (wordsN bs) A1 A5 qa c1' c5 w1.heap.size w5.heap.size _ hL5 hZ (by omega) (Nat.le_refl _) (by omega)).mono ?_
    rintro e w6 ⟨rfl, hb⟩
    have B6 := B3.trans ((hA5.trans (hb.mono hs5)).mono hbw)
    clear hb B3 hA5 hZ hL5 hown5
    go_wp2_with fail
    refine (works_any _ (HT.out.below B6 hTl)).mono ?_
    rintro e w9 ⟨rfl, hb⟩
    go_wp2
    go_ret
    exact ⟨rfl, B6.trans (hb.mono B6.size)⟩
end Go.Proofs.YtamgmbmjbegfgaaDoor
