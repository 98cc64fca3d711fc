/- The cursor of the draws: what its functions hand back lies in a range, and they write the cursor's block alone. -/
import Derived.Test.YtnfgdgmmbddmgaaRowF
import Derived.Test.YtnfgdgmmbddmgaaOwn
namespace Go.Proofs.Ytnfgdgmmbddmgaa
open Go.RowKit
set_option linter.unusedVariables false
set_option linter.unusedSimpArgs false

/- Block g replaced. -/
def World.put (w : World) (g : Nat) (o : Obj) : World := { w with heap := w.heap.setIfInBounds g o }
/- the cursor: its code, the place in it, its number -/
def curO (A : Option Addr) (n cap : Nat) (i h : Int) : Obj := .cells #[.slice A n cap, .int .i64 i, .int .i64 h] 96 (0, 0)
structure Cu (w : World) (g : Nat) (A : Option Addr) (n cap : Nat) (i h : Int) : Prop where
  at_ : w.heap[g]? = some (curO A n cap i h)
  i0 : 0 ≤ i
  i1 : i ≤ (n : Int)
  hn : n ≤ 1000000000000
  code : ∃ xs : List Int, xs.length = n ∧ Rw false .u8 w (fun b => b < g) A xs ∧ ∀ x ∈ xs, 0 ≤ x ∧ x ≤ 255
theorem lt_of_heap {w : World} {g : Nat} {o : Obj} (h : w.heap[g]? = some o) : g < w.heap.size := by
  rcases Nat.lt_or_ge g w.heap.size with h1 | h1
  · exact h1
  · rw [Array.getElem?_eq_none h1] at h; cases h
@[simp, go_sem] theorem World.size_put (w : World) (g : Nat) (o : Obj) : (World.put w g o).heap.size = w.heap.size := by simp [World.put]
theorem World.heap_put (w : World) (g : Nat) (o : Obj) (h : g < w.heap.size) : (World.put w g o).heap[g]? = some o := by
  simp [World.put, h]
theorem World.heap_put_ne (w : World) (g k : Nat) (o : Obj) (h : k ≠ g) : (World.put w g o).heap[k]? = w.heap[k]? := by
  simp only [World.put]; rw [Array.getElem?_setIfInBounds_ne (fun e => h e.symm)]
@[go_sem] theorem World.put_put (w : World) (g : Nat) (o p : Obj) : World.put (World.put w g o) g p = World.put w g p := by
  simp [World.put]
@[go_sem] theorem World.put_ext {w : World} {g : Nat} [h : NeZero (w.heap.size - g)] (X : List Obj) (d : Nat) (o : Obj) : World.put (World.ext w X d) g o = World.ext (World.put w g o) X d := by
  have hg : g < w.heap.size := by have := h.out; omega
  simp only [World.put, World.ext, World.mk.injEq, and_true]
  apply Array.ext_getElem?
  intro k
  simp only [Array.getElem?_setIfInBounds, Array.getElem?_append, Array.size_append, Array.size_setIfInBounds]
  by_cases h1 : g = k
  · subst h1; simp only [hg, if_true]; rw [if_pos (by omega)]
  · simp only [h1, if_false]
@[go_sem] theorem World.put_alloc {w : World} {g : Nat} [h : NeZero (w.heap.size - g)] (b o : Obj) : World.put (World.alloc w b) g o = World.alloc (World.put w g o) b := by
  have hg : g < w.heap.size := by have := h.out; omega
  simp only [World.put, World.alloc, World.mk.injEq, and_true]
  apply Array.ext_getElem?
  intro k
  simp only [Array.getElem?_setIfInBounds, Array.getElem?_push, Array.size_push, Array.size_setIfInBounds]
  by_cases h1 : g = k
  · subst h1; simp [hg, Nat.ne_of_lt hg]; omega
  · simp [h1]
@[go_sem] theorem World.put_drew (w : World) (g : Nat) (o : Obj) : World.put w.drew g o = (World.put w g o).drew := rfl
@[go_sem] theorem World.put_drewN (w : World) (g n : Nat) (o : Obj) : World.put (w.drewN n) g o = (World.put w g o).drewN n := rfl
instance nz_alloc {w : World} {g : Nat} {o : Obj} [h : NeZero (w.heap.size - g)] : NeZero ((World.alloc w o).heap.size - g) := ⟨by have := h.out; simp; omega⟩
instance nz_ext {w : World} {g d : Nat} {X : List Obj} [h : NeZero (w.heap.size - g)] : NeZero ((World.ext w X d).heap.size - g) := ⟨by have := h.out; simp; omega⟩
instance nz_put {w : World} {g k : Nat} {o : Obj} [h : NeZero (w.heap.size - g)] : NeZero ((World.put w k o).heap.size - g) := ⟨by have := h.out; simp; omega⟩
@[go_sem] theorem cell?_ext_nz {w : World} {X : List Obj} {d b i : Nat} [h : NeZero (w.heap.size - b)] : (World.ext w X d).cell? ⟨b, i, none⟩ = w.cell? ⟨b, i, none⟩ :=
  World.cell?_ext _ _ _ _ _ (by have := h.out; omega)
@[go_sem] theorem cell?_alloc_nz {w : World} {o : Obj} {b i : Nat} [h : NeZero (w.heap.size - b)] : (World.alloc w o).cell? ⟨b, i, none⟩ = w.cell? ⟨b, i, none⟩ :=
  World.cell?_alloc_lt w o ⟨b, i, none⟩ (show b < w.heap.size by have := h.out; omega)
theorem nz_of {w : World} {g : Nat} (h : g < w.heap.size) : NeZero (w.heap.size - g) := ⟨by omega⟩
section
variable {w : World} {g n cap : Nat} {A : Option Addr} {i h i' h' : Int}
theorem Cu.lt (c : Cu w g A n cap i h) : g < w.heap.size := lt_of_heap c.at_
theorem Cu.nz (c : Cu w g A n cap i h) : NeZero (w.heap.size - g) := nz_of c.lt
theorem Cu.of_below {w' : World} (c : Cu w g A n cap i h) (hb : Below w.heap.size w w') : Cu w' g A n cap i h := by
  obtain ⟨xs, h1, h2, h3⟩ := c.code
  exact ⟨(hb.block g c.lt).trans c.at_, c.i0, c.i1, c.hn, xs, h1, h2.below hb, h3⟩
theorem Cu.ext (c : Cu w g A n cap i h) (X : List Obj) (d : Nat) : Cu (World.ext w X d) g A n cap i h := c.of_below (Below.ext (Below.refl _ _) (Nat.le_refl _) X d)
theorem Cu.alloc (c : Cu w g A n cap i h) (o : Obj) : Cu (World.alloc w o) g A n cap i h := c.of_below ((Below.refl _ _).alloc (Nat.le_refl _) o)
theorem Cu.drewN (c : Cu w g A n cap i h) (k : Nat) : Cu (w.drewN k) g A n cap i h := ⟨c.at_, c.i0, c.i1, c.hn, c.code⟩
theorem Cu.drew (c : Cu w g A n cap i h) : Cu w.drew g A n cap i h := ⟨c.at_, c.i0, c.i1, c.hn, c.code⟩
theorem put_chg (w : World) (g : Nat) (o : Obj) : Chg (fun b => b = g) w (World.put w g o) :=
  ⟨rfl, rfl, rfl, by simp, fun k _ hk => World.heap_put_ne w g k o hk⟩
theorem Cu.put (c : Cu w g A n cap i h) (h0 : 0 ≤ i') (h1 : i' ≤ (n : Int)) : Cu (World.put w g (curO A n cap i' h')) g A n cap i' h' := by
  obtain ⟨xs, q1, q2, q3⟩ := c.code
  exact ⟨World.heap_put _ _ _ c.lt, h0, h1, c.hn, xs, q1, q2.frame (put_chg _ _ _) (fun k hk e => by omega), q3⟩
theorem Cu.cell0 (c : Cu w g A n cap i h) : w.cell? ⟨g, 0, none⟩ = some (.slice A n cap) := by simp [World.cell?, c.at_, curO]
theorem Cu.cell1 (c : Cu w g A n cap i h) : w.cell? ⟨g, 1, none⟩ = some (.int .i64 i) := by simp [World.cell?, c.at_, curO]
theorem Cu.cell2 (c : Cu w g A n cap i h) : w.cell? ⟨g, 2, none⟩ = some (.int .i64 h) := by simp [World.cell?, c.at_, curO]
theorem Cu.free (c : Cu w g A n cap i h) (k : Nat) : w.frozen? ⟨g, k, none⟩ = false := by simp [World.frozen?, c.at_, curO]
theorem Cu.set2 (c : Cu w g A n cap i h) : w.setCell ⟨g, 2, none⟩ (.int .i64 h') = World.put w g (curO A n cap i h') := by
  simp only [World.setCell, World.put, World.mk.injEq, and_true]
  apply Array.ext_getElem?
  intro k
  simp only [Array.getElem?_modify, Array.getElem?_setIfInBounds]
  by_cases e : g = k
  · subst e; simp only [c.at_, c.lt, curO, if_true, Option.map_some]; rfl
  · simp [e]
theorem Cu.set1 (c : Cu w g A n cap i h) : w.setCell ⟨g, 1, none⟩ (.int .i64 i') = World.put w g (curO A n cap i' h) := by
  simp only [World.setCell, World.put, World.mk.injEq, and_true]
  apply Array.ext_getElem?
  intro k
  simp only [Array.getElem?_modify, Array.getElem?_setIfInBounds]
  by_cases e : g = k
  · subst e; simp only [c.at_, c.lt, curO, if_true, Option.map_some]; rfl
  · simp [e]
end
theorem and255 (a : Int) : 0 ≤ bits .and .i64 a 255 ∧ bits .and .i64 a 255 ≤ 255 := by
  have e : bits .and .i64 a 255 = IntKind.i64.wrap ((BitVec.ofInt 64 a &&& BitVec.ofInt 64 255).toNat : Int) := rfl
  rw [e, BitVec.toNat_and]
  have h1 : (BitVec.ofInt 64 a).toNat &&& (BitVec.ofInt 64 255).toNat ≤ 255 := Nat.le_trans Nat.and_le_right (by decide)
  rw [IntKind.wrap_i64]
  omega
/- What a draw leaves: block g is a cursor still, new blocks behind. -/
def Drew (w : World) (g : Nat) (A : Option Addr) (n cap : Nat) (w' : World) : Prop := ∃ i h X d, w' = World.ext (World.put w g (curO A n cap i h)) X d ∧ 0 ≤ i ∧ i ≤ (n : Int)

theorem Drew.of_put {w : World} {g n cap : Nat} {A : Option Addr} {o : Obj} {w' : World} (h : Drew (World.put w g o) g A n cap w') : Drew w g A n cap w' := by
  obtain ⟨i, h, X, d, rfl, h0, h1⟩ := h
  exact ⟨i, h, X, d, by rw [World.put_put], h0, h1⟩
theorem Cu.self {w : World} {g n cap : Nat} {A : Option Addr} {i h : Int} (c : Cu w g A n cap i h) : World.put w g (curO A n cap i h) = w := by
  have e : w.heap.setIfInBounds g (curO A n cap i h) = w.heap := by
    apply Array.ext_getElem?
    intro k
    simp only [Array.getElem?_setIfInBounds]
    by_cases e : g = k
    · subst e; simp only [c.at_, c.lt, if_true]
    · simp [e]
  simp only [World.put, e]
theorem Cu.drew_self {w w' : World} {g n cap : Nat} {A : Option Addr} {i h : Int} (c : Cu w g A n cap i h) (hw : ∃ k : Nat, w' = { w with drawn := k }) : Drew w g A n cap w' := by
  obtain ⟨k, rfl⟩ := hw
  exact ⟨i, h, [], k, by rw [c.self]; simp [World.ext], c.i0, c.i1⟩
theorem Cu.drew_next {w w' : World} {g n cap : Nat} {A : Option Addr} {i h : Int} (c : Cu w g A n cap i h) (hlt : i < (n : Int)) (hw : ∃ k : Nat, w' = { w with drawn := k }.setCell ⟨g, 1, none⟩ (.int .i64 (i + 1))) : Drew w g A n cap w' := by
  obtain ⟨k, rfl⟩ := hw
  have h0 := c.i0
  refine ⟨i + 1, h, [], k, ?_, by omega, by omega⟩
  have c2 : Cu { w with drawn := k } g A n cap i h := ⟨c.at_, c.i0, c.i1, c.hn, c.code⟩
  rw [c2.set1]
  simp [World.ext, World.put]
theorem byte_two (g : Nat) (A : Option Addr) (n cap : Nat) (i h : Int) (W : World) (hc : Cu W g A n cap i h) (hlt : i < (n : Int)) : ∃ (ad : Addr) (o : Nat) (y : Int), A = some ad ∧ ad = ⟨ad.block, o, none⟩ ∧ W.cell? ⟨ad.block, o + i.toNat, none⟩ = some (.int .u8 y) ∧ 0 ≤ y ∧ y ≤ 255 := by
  obtain ⟨xs, q1, q2, q3⟩ := hc.code
  have h0 := hc.i0
  have hk : i.toNat < xs.length := by omega
  obtain ⟨b, o, hA, _, _, hcell, _⟩ := q2 i.toNat hk
  have := q3 _ (List.getElem_mem hk)
  exact ⟨⟨b, o, none⟩, o, _, hA, rfl, hcell, this.1, this.2⟩

set_option maxHeartbeats 1000000 in
theorem byte_any (g : Nat) (A : Option Addr) (n cap : Nat) (i h : Int) (w : World) (hc : Cu w g A n cap i h) :
    Calls Try.prog 89 #[.pointer (some ⟨g, 0, none⟩)] w fun e w' => ∃ x : Int, e = .returned (.int .i64 x) ∧ 0 ≤ x ∧ x ≤ 255 ∧ Drew w g A n cap w' := by
  have c2 := hc.cell2
  have f2 := hc.free 2
  have HC := Lib.hid hc
  clear hc
  go_enter Try.func89, Try.ntmps89
  go_wp2
  rw [HC.out.set2]
  generalize wrap64 (wrap64 (h * 6364136223846793005) + 1442695040888963407) = h1
  have hc1 : Cu (World.put w g (curO A n cap i h1)) g A n cap i h1 := HC.out.put HC.out.i0 HC.out.i1
  have HP : ∀ w', Drew (World.put w g (curO A n cap i h1)) g A n cap w' → Drew w g A n cap w' := fun _ h => Drew.of_put h
  have HPH := Lib.hid HP
  clear HP
  generalize World.put w g (curO A n cap i h1) = W at *
  clear c2 f2
  have c0 := hc1.cell0
  have c1 := hc1.cell1
  have c2 := hc1.cell2
  have f1 := hc1.free 1
  have hi0 := hc1.i0
  have hi1 := hc1.i1
  have hn := hc1.hn
  have HC1 := Lib.hid hc1
  clear hc1
  by_cases hlt : i < (n : Int)
  · obtain ⟨ad, o, y, rfl, had, hcell, hy0, hy1⟩ := byte_two g A n cap i h1 W HC1.out hlt
    obtain ⟨b, o', s⟩ := ad
    injection had with e1 e2 e3
    subst e2 e3
    simp only at hcell
    obtain ⟨i, rfl⟩ := Int.eq_ofNat_of_zero_le hi0
    rw [Int.toNat_natCast] at hcell
    go_quiet (fail)
    go_wp2
    go_quiet (fail)
    go_wp2
    go_quiet (fail)
    go_wp2
    go_ret
    exact ⟨_, rfl, (and255 _).1, (and255 _).2, HPH.out _ (HC1.out.drew_next hlt ⟨_, rfl⟩)⟩
  · go_quiet (fail)
    go_wp2
    go_quiet (fail)
    go_wp2
    go_ret
    exact ⟨_, rfl, (and255 _).1, (and255 _).2, HPH.out _ (HC1.out.drew_self ⟨_, rfl⟩)⟩

/- one draw after another -/
theorem Drew.cu {w w' : World} {g n cap : Nat} {A : Option Addr} {i h : Int} (c : Cu w g A n cap i h) (hd : Drew w g A n cap w') : ∃ i' h', Cu w' g A n cap i' h' := by
  obtain ⟨i', h', X, d, rfl, h0, h1⟩ := hd
  exact ⟨i', h', (c.put h0 h1).ext X d⟩
theorem Drew.trans {w w1 w2 : World} {g n cap : Nat} {A : Option Addr} (hg : g < w.heap.size) (h1 : Drew w g A n cap w1) (h2 : Drew w1 g A n cap w2) : Drew w g A n cap w2 := by
  obtain ⟨i1, h1, X1, d1, rfl, a1, b1⟩ := h1
  obtain ⟨i2, h2, X2, d2, rfl, a2, b2⟩ := h2
  refine ⟨i2, h2, X1 ++ X2, d2, ?_, a2, b2⟩
  haveI := nz_of hg
  haveI : NeZero ((World.put w g (curO A n cap i1 h1)).heap.size - g) := inferInstance
  rw [World.put_ext, World.put_put, wext_ext]
theorem Drew.refl {w : World} {g n cap : Nat} {A : Option Addr} {i h : Int} (c : Cu w g A n cap i h) : Drew w g A n cap w := c.drew_self ⟨w.drawn, rfl⟩
theorem Drew.of_below {w w' : World} {g n cap : Nat} {A : Option Addr} {i h : Int} (c : Cu w g A n cap i h) (hb : Below w.heap.size w w') : Drew w g A n cap w' := by
  obtain ⟨X, d, rfl⟩ := Below.ext_ hb
  exact ⟨i, h, X, d, by rw [c.self], c.i0, c.i1⟩

set_option maxHeartbeats 1000000 in
theorem below_any (g : Nat) (A : Option Addr) (n cap : Nat) (i h : Int) (w : World) (m : Int) (hm : m ≤ 9223372036854775807) (hc : Cu w g A n cap i h) :
    Calls Try.prog 88 #[.pointer (some ⟨g, 0, none⟩), .int .i64 m] w fun e w' => ∃ x : Int, e = .returned (.int .i64 x) ∧ 0 ≤ x ∧ x ≤ 16777215 ∧ (0 < m → x < m) ∧ Drew w g A n cap w' := by
  have HC := Lib.hid hc
  clear hc
  by_cases h0 : m ≤ 0
  · go_enter Try.func88, Try.ntmps88
    go_wp2
    go_ret
    exact ⟨0, rfl, by omega, by omega, fun h => by omega, Drew.refl HC.out⟩
  · have hmp : 0 < m := by omega
    by_cases h1 : m ≤ 256
    · go_enter Try.func88, Try.ntmps88
      go_wp2_with fail
      refine (byte_any g A n cap i h _ HC.out).mono ?_
      rintro e w1 ⟨x, rfl, hx0, hx1, hd⟩
      go_wp2
      go_ret
      exact ⟨x % m, rfl, Int.emod_nonneg _ (by omega), by have := Int.emod_lt_of_pos x hmp; omega, fun _ => Int.emod_lt_of_pos x hmp, hd⟩
    · go_enter Try.func88, Try.ntmps88
      go_wp2_with fail
      refine (byte_any g A n cap i h _ HC.out).mono ?_
      rintro e w1 ⟨x, rfl, hx0, hx1, hd1⟩
      obtain ⟨i1, j1, hc1⟩ := hd1.cu HC.out
      have HD1 := Lib.hid hd1
      have HC1 := Lib.hid hc1
      clear hd1 hc1
      go_wp2_with fail
      refine (byte_any g A n cap i1 j1 _ HC1.out).mono ?_
      rintro e w2 ⟨y, rfl, hy0, hy1, hd2⟩
      obtain ⟨i2, j2, hc2⟩ := hd2.cu HC1.out
      have HD2 := Lib.hid hd2
      have HC2 := Lib.hid hc2
      clear hd2 hc2
      go_wp2_with fail
      refine (byte_any g A n cap i2 j2 _ HC2.out).mono ?_
      rintro e w3 ⟨z, rfl, hz0, hz1, hd3⟩
      go_wp2
      go_ret
      have hle : 0 ≤ x * 65536 + y * 256 + z ∧ x * 65536 + y * 256 + z ≤ 16777215 := by omega
      refine ⟨_, rfl, Int.emod_nonneg _ (by omega), ?_, fun _ => Int.emod_lt_of_pos _ hmp, Drew.trans HC.out.lt HD1.out (Drew.trans (Cu.lt HC1.out) HD2.out hd3)⟩
      rw [Int.emod_def]
      have := Int.mul_nonneg (show 0 ≤ m by omega) (Int.ediv_nonneg hle.1 (show 0 ≤ m by omega))
      omega

theorem int_any {u : Bool} {T : Nat → Prop} (g : Nat) (A : Option Addr) (n cap : Nat) (i h : Int) (w : World) (L : Option Addr) (lc : Nat) (ls : List Int) (hl : ls ≠ []) (hl2 : ls.length ≤ 1000) (hL : Rw u .i64 w T L ls) (hT : ∀ b, T b → b ≠ g) (hc : Cu w g A n cap i h) :
    Calls Try.prog 82 #[.pointer (some ⟨g, 0, none⟩), .slice L ls.length lc] w fun e w' => ∃ x : Int, e = .returned (.int .i64 x) ∧ x ∈ ls ∧ Drew w g A n cap w' := by
  have HC := Lib.hid hc
  have HL := Lib.hid hL
  clear hc hL
  have hpos : 0 < (ls.length : Int) := by
    cases ls with
    | nil => exact absurd rfl hl
    | cons => simp
  have HT := Lib.hid hT
  clear hT hl
  go_enter Try.func82, Try.ntmps82
  go_wp2_with fail
  refine (below_any g A n cap i h _ (ls.length : Int) (by omega) HC.out).mono ?_
  rintro e w1 ⟨x, rfl, hx0, hx1, hx2, hd⟩
  have hlt := hx2 hpos
  clear hx2
  obtain ⟨k, rfl⟩ := Int.eq_ofNat_of_zero_le hx0
  have hk : k < ls.length := by omega
  obtain ⟨b, o, rfl, hTb, hb, hcell, _⟩ := HL.out k hk
  have hmem : ls[k] ∈ ls := List.getElem_mem hk
  have hcell1 : w1.cell? ⟨b, o + k, none⟩ = some (.int .i64 ls[k]) := by
    obtain ⟨i', h', X, d, rfl, _, _⟩ := hd
    rw [World.cell?_ext _ _ _ _ _ (by simpa using hb), ← hcell]
    exact World.cell?_of_block (World.heap_put_ne _ _ _ _ (HT.out b hTb))
  have HM := Lib.hid hmem
  have HD := Lib.hid hd
  clear hcell hmem hd
  generalize ls[k] = y at *
  go_wp2
  go_ret
  exact ⟨_, rfl, HM.out, HD.out⟩

def MadeCu (w : World) (A : Option Addr) (n cap : Nat) (e : Ending) (w' : World) : Prop := ∃ h : Int, e = .returned (.pointer (some ⟨w.heap.size, 0, none⟩)) ∧ w' = w.alloc (curO A n cap 0 h)
set_option maxHeartbeats 1000000 in
theorem new_any {u : Bool} (A : Option Addr) (cap : Nat) (xs : List Int) (w : World) (hx : Rw u .u8 w (fun b => b < w.heap.size) A xs) (hm : xs.length ≤ 1000000000000) :
    Calls Try.prog 78 #[.slice A xs.length cap] w fun e w' => MadeCu w A xs.length cap e w' := by
  have HX := Lib.hid hx
  clear hx
  go_enter Try.func78, Try.ntmps78
  go_wp2
  go_loop [3, 4] (fun v p => ∃ (k : Nat) (h : Int), k ≤ xs.length ∧ p = .int .i64 (k : Int) ∧ v = .int .i64 h) (fun _ p => xs.length - (intOf p).toNat)
  case atStart => exact ⟨0, _, Nat.zero_le _, rfl, rfl⟩
  case round =>
    obtain ⟨k, h, hk, rfl, rfl⟩ := hrel
    by_cases hlt : k < xs.length
    · have hlt2 : (k : Int) < (xs.length : Int) := by omega
      obtain ⟨b, o, rfl, _, _, hcell, _⟩ := HX.out k hlt
      generalize xs[k] = y at hcell
      by_cases h4 : k < 4000
      · have h42 : (k : Int) < 4000 := by omega
        go_wp2
        go_round
        case rel => exact ⟨k + 1, _, by omega, by go_num, rfl⟩
        case measure => simp [intOf]; omega
      · have h42 : ¬ (k : Int) < 4000 := by omega
        go_wp2
        go_ret
        exact ⟨h, rfl, rfl⟩
    · obtain rfl : k = xs.length := by omega
      go_wp2
      go_ret
      exact ⟨h, rfl, rfl⟩
theorem cu_new {u : Bool} {A : Option Addr} {cap : Nat} {xs : List Int} {w : World} (h : Int) (hx : Rw u .u8 w (fun b => b < w.heap.size) A xs) (hm : xs.length ≤ 1000000000000) (hb : ∀ x ∈ xs, 0 ≤ x ∧ x ≤ 255) :
    Cu (w.alloc (curO A xs.length cap 0 h)) w.heap.size A xs.length cap 0 h := by
  refine ⟨World.heap_new _ _ _ rfl, by omega, by omega, hm, xs, rfl, ?_, hb⟩
  intro k hk
  obtain ⟨b, o, h1, h2, h3, h4, h5⟩ := hx k hk
  refine ⟨b, o, h1, h2, by simp; omega, ?_, fun h => by cases h⟩
  rw [World.cell?_alloc_lt _ _ _ h2]
  exact h4

/- the same, without the place and the number -/
def Cuu (w : World) (g : Nat) (A : Option Addr) (n cap : Nat) : Prop := ∃ i h, Cu w g A n cap i h
section
variable {w : World} {g n cap : Nat} {A : Option Addr} {i h : Int}
theorem Cu.cuu (c : Cu w g A n cap i h) : Cuu w g A n cap := ⟨i, h, c⟩
theorem Cuu.nz (c : Cuu w g A n cap) : NeZero (w.heap.size - g) := by obtain ⟨i, h, c⟩ := c; exact c.nz
theorem Cuu.lt (c : Cuu w g A n cap) : g < w.heap.size := by obtain ⟨i, h, c⟩ := c; exact c.lt
theorem Cuu.ext (c : Cuu w g A n cap) (X : List Obj) (d : Nat) : Cuu (World.ext w X d) g A n cap := by obtain ⟨i, h, c⟩ := c; exact ⟨i, h, c.ext X d⟩
theorem Cuu.alloc (c : Cuu w g A n cap) (o : Obj) : Cuu (World.alloc w o) g A n cap := by obtain ⟨i, h, c⟩ := c; exact ⟨i, h, c.alloc o⟩
theorem Cuu.drewN (c : Cuu w g A n cap) (k : Nat) : Cuu (w.drewN k) g A n cap := by obtain ⟨i, h, c⟩ := c; exact ⟨i, h, c.drewN k⟩
theorem Cuu.drew (c : Cuu w g A n cap) : Cuu w.drew g A n cap := by obtain ⟨i, h, c⟩ := c; exact ⟨i, h, c.drew⟩
theorem Cuu.put (c : Cuu w g A n cap) (h0 : 0 ≤ i) (h1 : i ≤ (n : Int)) : Cuu (World.put w g (curO A n cap i h)) g A n cap := by obtain ⟨i', h', c⟩ := c; exact ⟨_, _, c.put h0 h1⟩
theorem Cuu.of_below {w' : World} (c : Cuu w g A n cap) (hb : Below w.heap.size w w') : Cuu w' g A n cap := by obtain ⟨i, h, c⟩ := c; exact ⟨i, h, c.of_below hb⟩
theorem Cuu.next {w' : World} (c : Cuu w g A n cap) (hd : Drew w g A n cap w') : Cuu w' g A n cap := by obtain ⟨i, h, c⟩ := c; exact hd.cu c
theorem Cuu.drew_self {w' : World} (c : Cuu w g A n cap) (hw : ∃ k : Nat, w' = { w with drawn := k }) : Drew w g A n cap w' := by obtain ⟨i, h, c⟩ := c; exact c.drew_self hw
theorem Cuu.drew_below {w' : World} (c : Cuu w g A n cap) (hb : Below w.heap.size w w') : Drew w g A n cap w' := by obtain ⟨i, h, c⟩ := c; exact Drew.of_below c hb
end
/- what the walk leaves of the world, as a draw: the put is moved inward first -/
theorem Drew.mk_put {w : World} {g n cap : Nat} {A : Option Addr} {i h : Int} {w' : World} (hb : Below w.heap.size (World.put w g (curO A n cap i h)) w') (h0 : 0 ≤ i) (h1 : i ≤ (n : Int)) : Drew w g A n cap w' := by
  obtain ⟨X, d, rfl⟩ := Below.ext_ (w := World.put w g (curO A n cap i h)) (by simpa using hb)
  exact ⟨i, h, X, d, rfl, h0, h1⟩
theorem belowC (g : Nat) (A : Option Addr) (n cap : Nat) (w : World) (m : Int) (hm : m ≤ 9223372036854775807) (hc : Cuu w g A n cap) :
    Calls Try.prog 88 #[.pointer (some ⟨g, 0, none⟩), .int .i64 m] w fun e w' => ∃ x : Int, e = .returned (.int .i64 x) ∧ 0 ≤ x ∧ x ≤ 16777215 ∧ (0 < m → x < m) ∧ Drew w g A n cap w' := by
  obtain ⟨i, h, c⟩ := hc
  exact below_any g A n cap i h w m hm c
theorem byteC (g : Nat) (A : Option Addr) (n cap : Nat) (w : World) (hc : Cuu w g A n cap) :
    Calls Try.prog 89 #[.pointer (some ⟨g, 0, none⟩)] w fun e w' => ∃ x : Int, e = .returned (.int .i64 x) ∧ 0 ≤ x ∧ x ≤ 255 ∧ Drew w g A n cap w' := by
  obtain ⟨i, h, c⟩ := hc
  exact byte_any g A n cap i h w c
theorem intC {u : Bool} {T : Nat → Prop} (g : Nat) (A : Option Addr) (n cap : Nat) (w : World) (L : Option Addr) (lc : Nat) (ls : List Int) (hl : ls ≠ []) (hl2 : ls.length ≤ 1000) (hL : Rw u .i64 w T L ls) (hT : ∀ b, T b → b ≠ g) (hc : Cuu w g A n cap) :
    Calls Try.prog 82 #[.pointer (some ⟨g, 0, none⟩), .slice L ls.length lc] w fun e w' => ∃ x : Int, e = .returned (.int .i64 x) ∧ x ∈ ls ∧ Drew w g A n cap w' := by
  obtain ⟨i, h, c⟩ := hc
  exact int_any g A n cap i h w L lc ls hl hl2 hL hT c
/- a list of numbers that was written out just now -/
theorem rw_lit {w : World} {t : TypeId} (ls : List Int) : Rw true .i64 (w.alloc (.cells ((ls.map (Value.int .i64)).toArray) t)) (fun b => b = w.heap.size) (some ⟨w.heap.size, 0, none⟩) ls := by
  refine (RwF.of_alloc w t _ ls (f := Value.int .i64) (fun k hk => ?_)).rw
  simp [List.getElem?_eq_getElem hk]
theorem intL (g : Nat) (A : Option Addr) (n cap : Nat) (w : World) (t : TypeId) (k lc : Nat) (cs : Array Value) (ls : List Int) (hcs : cs = (ls.map (Value.int .i64)).toArray) (hk : k = ls.length) (b : Nat) (hb : b = w.heap.size) (hl : ls ≠ []) (hl2 : ls.length ≤ 1000) (hc : Cuu w g A n cap) :
    Calls Try.prog 82 #[.pointer (some ⟨g, 0, none⟩), .slice (some ⟨b, 0, none⟩) k lc] (w.alloc (.cells cs t)) fun e w' => ∃ x : Int, e = .returned (.int .i64 x) ∧ x ∈ ls ∧ Drew (w.alloc (.cells cs t)) g A n cap w' := by
  subst hcs hk hb
  exact intC g A n cap _ _ lc ls hl hl2 (rw_lit ls) (fun b hb => by have := hc.lt; omega) (hc.alloc _)

theorem intX {g : Nat} {A : Option Addr} {n cap : Nat} {w : World} {t : TypeId} {k lc b : Nat} {cs : Array Value} (hb : b = w.heap.size) (hc : Cuu w g A n cap) (hx : ∃ ls : List Int, k = ls.length ∧ cs = (ls.map (Value.int .i64)).toArray ∧ ls ≠ [] ∧ ls.length ≤ 1000) :
    Calls Try.prog 82 #[.pointer (some ⟨g, 0, none⟩), .slice (some ⟨b, 0, none⟩) k lc] (w.alloc (.cells cs t)) fun e w' => ∃ x : Int, e = .returned (.int .i64 x) ∧ Drew (w.alloc (.cells cs t)) g A n cap w' := by
  obtain ⟨ls, h1, h2, h3, h4⟩ := hx
  exact (intL g A n cap w t k lc cs ls h2 h1 b hb h3 h4 hc).mono fun e w' ⟨x, p, _, q⟩ => ⟨x, p, q⟩

theorem intL2 {g : Nat} {A : Option Addr} {n cap : Nat} {w : World} {t : TypeId} {lc b : Nat} {a0 a1 : Int} (hb : b = w.heap.size) (hc : Cuu w g A n cap) :
    Calls Try.prog 82 #[.pointer (some ⟨g, 0, none⟩), .slice (some ⟨b, 0, none⟩) 2 lc] (w.alloc (.cells #[.int .i64 a0, .int .i64 a1] t)) fun e w' => ∃ x : Int, e = .returned (.int .i64 x) ∧ x ∈ [a0, a1] ∧ Drew (w.alloc (.cells #[.int .i64 a0, .int .i64 a1] t)) g A n cap w' :=
  intL g A n cap w t 2 lc _ [a0, a1] rfl rfl b hb (by simp) (by simp) hc
theorem intL3 {g : Nat} {A : Option Addr} {n cap : Nat} {w : World} {t : TypeId} {lc b : Nat} {a0 a1 a2 : Int} (hb : b = w.heap.size) (hc : Cuu w g A n cap) :
    Calls Try.prog 82 #[.pointer (some ⟨g, 0, none⟩), .slice (some ⟨b, 0, none⟩) 3 lc] (w.alloc (.cells #[.int .i64 a0, .int .i64 a1, .int .i64 a2] t)) fun e w' => ∃ x : Int, e = .returned (.int .i64 x) ∧ x ∈ [a0, a1, a2] ∧ Drew (w.alloc (.cells #[.int .i64 a0, .int .i64 a1, .int .i64 a2] t)) g A n cap w' :=
  intL g A n cap w t 3 lc _ [a0, a1, a2] rfl rfl b hb (by simp) (by simp) hc
theorem intL4 {g : Nat} {A : Option Addr} {n cap : Nat} {w : World} {t : TypeId} {lc b : Nat} {a0 a1 a2 a3 : Int} (hb : b = w.heap.size) (hc : Cuu w g A n cap) :
    Calls Try.prog 82 #[.pointer (some ⟨g, 0, none⟩), .slice (some ⟨b, 0, none⟩) 4 lc] (w.alloc (.cells #[.int .i64 a0, .int .i64 a1, .int .i64 a2, .int .i64 a3] t)) fun e w' => ∃ x : Int, e = .returned (.int .i64 x) ∧ x ∈ [a0, a1, a2, a3] ∧ Drew (w.alloc (.cells #[.int .i64 a0, .int .i64 a1, .int .i64 a2, .int .i64 a3] t)) g A n cap w' :=
  intL g A n cap w t 4 lc _ [a0, a1, a2, a3] rfl rfl b hb (by simp) (by simp) hc
theorem intL5 {g : Nat} {A : Option Addr} {n cap : Nat} {w : World} {t : TypeId} {lc b : Nat} {a0 a1 a2 a3 a4 : Int} (hb : b = w.heap.size) (hc : Cuu w g A n cap) :
    Calls Try.prog 82 #[.pointer (some ⟨g, 0, none⟩), .slice (some ⟨b, 0, none⟩) 5 lc] (w.alloc (.cells #[.int .i64 a0, .int .i64 a1, .int .i64 a2, .int .i64 a3, .int .i64 a4] t)) fun e w' => ∃ x : Int, e = .returned (.int .i64 x) ∧ x ∈ [a0, a1, a2, a3, a4] ∧ Drew (w.alloc (.cells #[.int .i64 a0, .int .i64 a1, .int .i64 a2, .int .i64 a3, .int .i64 a4] t)) g A n cap w' :=
  intL g A n cap w t 5 lc _ [a0, a1, a2, a3, a4] rfl rfl b hb (by simp) (by simp) hc
theorem intL6 {g : Nat} {A : Option Addr} {n cap : Nat} {w : World} {t : TypeId} {lc b : Nat} {a0 a1 a2 a3 a4 a5 : Int} (hb : b = w.heap.size) (hc : Cuu w g A n cap) :
    Calls Try.prog 82 #[.pointer (some ⟨g, 0, none⟩), .slice (some ⟨b, 0, none⟩) 6 lc] (w.alloc (.cells #[.int .i64 a0, .int .i64 a1, .int .i64 a2, .int .i64 a3, .int .i64 a4, .int .i64 a5] t)) fun e w' => ∃ x : Int, e = .returned (.int .i64 x) ∧ x ∈ [a0, a1, a2, a3, a4, a5] ∧ Drew (w.alloc (.cells #[.int .i64 a0, .int .i64 a1, .int .i64 a2, .int .i64 a3, .int .i64 a4, .int .i64 a5] t)) g A n cap w' :=
  intL g A n cap w t 6 lc _ [a0, a1, a2, a3, a4, a5] rfl rfl b hb (by simp) (by simp) hc
theorem intL7 {g : Nat} {A : Option Addr} {n cap : Nat} {w : World} {t : TypeId} {lc b : Nat} {a0 a1 a2 a3 a4 a5 a6 : Int} (hb : b = w.heap.size) (hc : Cuu w g A n cap) :
    Calls Try.prog 82 #[.pointer (some ⟨g, 0, none⟩), .slice (some ⟨b, 0, none⟩) 7 lc] (w.alloc (.cells #[.int .i64 a0, .int .i64 a1, .int .i64 a2, .int .i64 a3, .int .i64 a4, .int .i64 a5, .int .i64 a6] t)) fun e w' => ∃ x : Int, e = .returned (.int .i64 x) ∧ x ∈ [a0, a1, a2, a3, a4, a5, a6] ∧ Drew (w.alloc (.cells #[.int .i64 a0, .int .i64 a1, .int .i64 a2, .int .i64 a3, .int .i64 a4, .int .i64 a5, .int .i64 a6] t)) g A n cap w' :=
  intL g A n cap w t 7 lc _ [a0, a1, a2, a3, a4, a5, a6] rfl rfl b hb (by simp) (by simp) hc
theorem intL8 {g : Nat} {A : Option Addr} {n cap : Nat} {w : World} {t : TypeId} {lc b : Nat} {a0 a1 a2 a3 a4 a5 a6 a7 : Int} (hb : b = w.heap.size) (hc : Cuu w g A n cap) :
    Calls Try.prog 82 #[.pointer (some ⟨g, 0, none⟩), .slice (some ⟨b, 0, none⟩) 8 lc] (w.alloc (.cells #[.int .i64 a0, .int .i64 a1, .int .i64 a2, .int .i64 a3, .int .i64 a4, .int .i64 a5, .int .i64 a6, .int .i64 a7] t)) fun e w' => ∃ x : Int, e = .returned (.int .i64 x) ∧ x ∈ [a0, a1, a2, a3, a4, a5, a6, a7] ∧ Drew (w.alloc (.cells #[.int .i64 a0, .int .i64 a1, .int .i64 a2, .int .i64 a3, .int .i64 a4, .int .i64 a5, .int .i64 a6, .int .i64 a7] t)) g A n cap w' :=
  intL g A n cap w t 8 lc _ [a0, a1, a2, a3, a4, a5, a6, a7] rfl rfl b hb (by simp) (by simp) hc
theorem intL9 {g : Nat} {A : Option Addr} {n cap : Nat} {w : World} {t : TypeId} {lc b : Nat} {a0 a1 a2 a3 a4 a5 a6 a7 a8 : Int} (hb : b = w.heap.size) (hc : Cuu w g A n cap) :
    Calls Try.prog 82 #[.pointer (some ⟨g, 0, none⟩), .slice (some ⟨b, 0, none⟩) 9 lc] (w.alloc (.cells #[.int .i64 a0, .int .i64 a1, .int .i64 a2, .int .i64 a3, .int .i64 a4, .int .i64 a5, .int .i64 a6, .int .i64 a7, .int .i64 a8] t)) fun e w' => ∃ x : Int, e = .returned (.int .i64 x) ∧ x ∈ [a0, a1, a2, a3, a4, a5, a6, a7, a8] ∧ Drew (w.alloc (.cells #[.int .i64 a0, .int .i64 a1, .int .i64 a2, .int .i64 a3, .int .i64 a4, .int .i64 a5, .int .i64 a6, .int .i64 a7, .int .i64 a8] t)) g A n cap w' :=
  intL g A n cap w t 9 lc _ [a0, a1, a2, a3, a4, a5, a6, a7, a8] rfl rfl b hb (by simp) (by simp) hc
theorem intL10 {g : Nat} {A : Option Addr} {n cap : Nat} {w : World} {t : TypeId} {lc b : Nat} {a0 a1 a2 a3 a4 a5 a6 a7 a8 a9 : Int} (hb : b = w.heap.size) (hc : Cuu w g A n cap) :
    Calls Try.prog 82 #[.pointer (some ⟨g, 0, none⟩), .slice (some ⟨b, 0, none⟩) 10 lc] (w.alloc (.cells #[.int .i64 a0, .int .i64 a1, .int .i64 a2, .int .i64 a3, .int .i64 a4, .int .i64 a5, .int .i64 a6, .int .i64 a7, .int .i64 a8, .int .i64 a9] t)) fun e w' => ∃ x : Int, e = .returned (.int .i64 x) ∧ x ∈ [a0, a1, a2, a3, a4, a5, a6, a7, a8, a9] ∧ Drew (w.alloc (.cells #[.int .i64 a0, .int .i64 a1, .int .i64 a2, .int .i64 a3, .int .i64 a4, .int .i64 a5, .int .i64 a6, .int .i64 a7, .int .i64 a8, .int .i64 a9] t)) g A n cap w' :=
  intL g A n cap w t 10 lc _ [a0, a1, a2, a3, a4, a5, a6, a7, a8, a9] rfl rfl b hb (by simp) (by simp) hc
theorem intL11 {g : Nat} {A : Option Addr} {n cap : Nat} {w : World} {t : TypeId} {lc b : Nat} {a0 a1 a2 a3 a4 a5 a6 a7 a8 a9 a10 : Int} (hb : b = w.heap.size) (hc : Cuu w g A n cap) :
    Calls Try.prog 82 #[.pointer (some ⟨g, 0, none⟩), .slice (some ⟨b, 0, none⟩) 11 lc] (w.alloc (.cells #[.int .i64 a0, .int .i64 a1, .int .i64 a2, .int .i64 a3, .int .i64 a4, .int .i64 a5, .int .i64 a6, .int .i64 a7, .int .i64 a8, .int .i64 a9, .int .i64 a10] t)) fun e w' => ∃ x : Int, e = .returned (.int .i64 x) ∧ x ∈ [a0, a1, a2, a3, a4, a5, a6, a7, a8, a9, a10] ∧ Drew (w.alloc (.cells #[.int .i64 a0, .int .i64 a1, .int .i64 a2, .int .i64 a3, .int .i64 a4, .int .i64 a5, .int .i64 a6, .int .i64 a7, .int .i64 a8, .int .i64 a9, .int .i64 a10] t)) g A n cap w' :=
  intL g A n cap w t 11 lc _ [a0, a1, a2, a3, a4, a5, a6, a7, a8, a9, a10] rfl rfl b hb (by simp) (by simp) hc
theorem intL12 {g : Nat} {A : Option Addr} {n cap : Nat} {w : World} {t : TypeId} {lc b : Nat} {a0 a1 a2 a3 a4 a5 a6 a7 a8 a9 a10 a11 : Int} (hb : b = w.heap.size) (hc : Cuu w g A n cap) :
    Calls Try.prog 82 #[.pointer (some ⟨g, 0, none⟩), .slice (some ⟨b, 0, none⟩) 12 lc] (w.alloc (.cells #[.int .i64 a0, .int .i64 a1, .int .i64 a2, .int .i64 a3, .int .i64 a4, .int .i64 a5, .int .i64 a6, .int .i64 a7, .int .i64 a8, .int .i64 a9, .int .i64 a10, .int .i64 a11] t)) fun e w' => ∃ x : Int, e = .returned (.int .i64 x) ∧ x ∈ [a0, a1, a2, a3, a4, a5, a6, a7, a8, a9, a10, a11] ∧ Drew (w.alloc (.cells #[.int .i64 a0, .int .i64 a1, .int .i64 a2, .int .i64 a3, .int .i64 a4, .int .i64 a5, .int .i64 a6, .int .i64 a7, .int .i64 a8, .int .i64 a9, .int .i64 a10, .int .i64 a11] t)) g A n cap w' :=
  intL g A n cap w t 12 lc _ [a0, a1, a2, a3, a4, a5, a6, a7, a8, a9, a10, a11] rfl rfl b hb (by simp) (by simp) hc
theorem intL13 {g : Nat} {A : Option Addr} {n cap : Nat} {w : World} {t : TypeId} {lc b : Nat} {a0 a1 a2 a3 a4 a5 a6 a7 a8 a9 a10 a11 a12 : Int} (hb : b = w.heap.size) (hc : Cuu w g A n cap) :
    Calls Try.prog 82 #[.pointer (some ⟨g, 0, none⟩), .slice (some ⟨b, 0, none⟩) 13 lc] (w.alloc (.cells #[.int .i64 a0, .int .i64 a1, .int .i64 a2, .int .i64 a3, .int .i64 a4, .int .i64 a5, .int .i64 a6, .int .i64 a7, .int .i64 a8, .int .i64 a9, .int .i64 a10, .int .i64 a11, .int .i64 a12] t)) fun e w' => ∃ x : Int, e = .returned (.int .i64 x) ∧ x ∈ [a0, a1, a2, a3, a4, a5, a6, a7, a8, a9, a10, a11, a12] ∧ Drew (w.alloc (.cells #[.int .i64 a0, .int .i64 a1, .int .i64 a2, .int .i64 a3, .int .i64 a4, .int .i64 a5, .int .i64 a6, .int .i64 a7, .int .i64 a8, .int .i64 a9, .int .i64 a10, .int .i64 a11, .int .i64 a12] t)) g A n cap w' :=
  intL g A n cap w t 13 lc _ [a0, a1, a2, a3, a4, a5, a6, a7, a8, a9, a10, a11, a12] rfl rfl b hb (by simp) (by simp) hc
theorem intL14 {g : Nat} {A : Option Addr} {n cap : Nat} {w : World} {t : TypeId} {lc b : Nat} {a0 a1 a2 a3 a4 a5 a6 a7 a8 a9 a10 a11 a12 a13 : Int} (hb : b = w.heap.size) (hc : Cuu w g A n cap) :
    Calls Try.prog 82 #[.pointer (some ⟨g, 0, none⟩), .slice (some ⟨b, 0, none⟩) 14 lc] (w.alloc (.cells #[.int .i64 a0, .int .i64 a1, .int .i64 a2, .int .i64 a3, .int .i64 a4, .int .i64 a5, .int .i64 a6, .int .i64 a7, .int .i64 a8, .int .i64 a9, .int .i64 a10, .int .i64 a11, .int .i64 a12, .int .i64 a13] t)) fun e w' => ∃ x : Int, e = .returned (.int .i64 x) ∧ x ∈ [a0, a1, a2, a3, a4, a5, a6, a7, a8, a9, a10, a11, a12, a13] ∧ Drew (w.alloc (.cells #[.int .i64 a0, .int .i64 a1, .int .i64 a2, .int .i64 a3, .int .i64 a4, .int .i64 a5, .int .i64 a6, .int .i64 a7, .int .i64 a8, .int .i64 a9, .int .i64 a10, .int .i64 a11, .int .i64 a12, .int .i64 a13] t)) g A n cap w' :=
  intL g A n cap w t 14 lc _ [a0, a1, a2, a3, a4, a5, a6, a7, a8, a9, a10, a11, a12, a13] rfl rfl b hb (by simp) (by simp) hc
end Go.Proofs.Ytnfgdgmmbddmgaa
