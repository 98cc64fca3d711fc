/- What the law on beacons draws: any beacon, any bytes. -/
import Derived.Test.YtifakpjchmalnaaDrawB
import Derived.Test.YtifakpjchmalnaaBent
import Derived.Test.YtifakpjchmalnaaEncB
namespace Go.Proofs.Ytifakpjchmalnaa
open Go.RowKit
set_option linter.unusedVariables false
set_option linter.unusedSimpArgs false

theorem Drew.below {w0 w w' : World} {g n cap : Nat} {A : Option Addr} (h : Drew w g A n cap w') (hl : g < w.heap.size) (hb : Below w0.heap.size w0 w) (hg : w0.heap.size ≤ g) : Below w0.heap.size w0 w' := by
  obtain ⟨i, h, X, d, rfl, h0, h1⟩ := h
  have h2 : Below w0.heap.size w (World.put w g (curO A n cap i h)) := (put_chg w g _).below hb.size (fun k hk => by omega)
  exact Below.ext (hb.trans h2) (by have := hb.size; simpa using this) X d
theorem code_below {u : Bool} {w w' : World} {A : Option Addr} {xs : List Int} (hx : Rw u .u8 w (fun b => b < w.heap.size) A xs) (hb : Below w.heap.size w w') : Rw u .u8 w' (fun b => b < w'.heap.size) A xs :=
  (hx.below hb).wider (fun k hk => by have := hb.size; omega)

def AnyB (w : World) (e : Ending) (w' : World) : Prop := ∃ (f sl c p : Int) (gt : Bool) (t : Int), e = .returned (.agg #[.int .i64 f, .int .i64 sl, .int .i64 c, .int .i64 p, .bool gt, .int .i64 t]) ∧ Below w.heap.size w w'
set_option maxHeartbeats 1000000 in
theorem drawValid_any {u : Bool} (A : Option Addr) (cap : Nat) (xs : List Int) (w : World) (hx : Rw u .u8 w (fun b => b < w.heap.size) A xs) (hm : xs.length ≤ 1000000000) (hb : ∀ x ∈ xs, 0 ≤ x ∧ x ≤ 255) :
    Calls Try.prog 40 #[.slice A xs.length cap] w fun e w' => AnyB w e w' := by
  have HX := Lib.hid (code_below hx ((Below.refl _ _).alloc (Nat.le_refl _) (.cells #[.int .i64 0, .int .i64 0, .int .i64 0, .int .i64 0, .bool false, .int .i64 0] 27)))
  have HB := Lib.hid hb
  clear hx hb
  go_enter Try.func40, Try.ntmps40
  go_wp2_with fail
  refine (new_any A cap xs _ HX.out (by omega)).mono ?_
  rintro e w1 ⟨h0, rfl, rfl⟩
  have hc := (cu_new (cap := cap) h0 HX.out (by omega) HB.out).cuu
  have HC : Hid (Cuu ((w.alloc (.cells #[.int .i64 0, .int .i64 0, .int .i64 0, .int .i64 0, .bool false, .int .i64 0] 27)).alloc (curO A xs.length cap 0 h0)) (w.heap.size + 1) A xs.length cap) := Lib.hid (by simpa using hc)
  clear hc
  go_wp2_with fail
  refine (l24Any_any _ A xs.length cap _ HC.out).mono ?_
  rintro e w2 ⟨f, sl, c, p, gt, t, rfl, hd⟩
  have hbl : Below (w.alloc (.cells #[.int .i64 0, .int .i64 0, .int .i64 0, .int .i64 0, .bool false, .int .i64 0] 27)).heap.size (w.alloc (.cells #[.int .i64 0, .int .i64 0, .int .i64 0, .int .i64 0, .bool false, .int .i64 0] 27)) w2 := hd.below HC.out.lt ((Below.refl _ _).alloc (Nat.le_refl _) _) (by simp)
  obtain ⟨X, d, rfl⟩ := Below.ext_ hbl
  clear hd hbl
  go_wp2
  go_returns
  exact ⟨_, _, _, _, _, _, rfl, (by repeat (first | (with_reducible exact Below.refl _ _) | (with_reducible refine Below.ext ?_ (by go_size) _ _) | (with_reducible refine Below.alloc ?_ (by go_size) _) | (with_reducible refine Below.setCell ?_ (by go_size) _) | (with_reducible refine Below.drew ?_) | (with_reducible refine Below.drewN_ ?_ _)))⟩
set_option maxHeartbeats 1000000 in
theorem drawEnc_any {u : Bool} (A : Option Addr) (cap : Nat) (xs : List Int) (w : World) (hx : Rw u .u8 w (fun b => b < w.heap.size) A xs) (hm : xs.length ≤ 1000000000) (hb : ∀ x ∈ xs, 0 ≤ x ∧ x ≤ 255) :
    Calls Try.prog 19 #[.slice A xs.length cap] w fun e w' => AnyB w e w' := by
  have HX := Lib.hid (code_below hx ((Below.refl _ _).alloc (Nat.le_refl _) (.cells #[.int .i64 0, .int .i64 0, .int .i64 0, .int .i64 0, .bool false, .int .i64 0] 27)))
  have HB := Lib.hid hb
  clear hx hb
  go_enter Try.func19, Try.ntmps19
  go_wp2_with fail
  refine (drawValid_any A cap xs _ HX.out hm HB.out).mono ?_
  rintro e w2 ⟨f, sl, c, p, gt, t, rfl, hbl⟩
  obtain ⟨X, d, rfl⟩ := Below.ext_ hbl
  clear hbl
  go_wp2
  go_returns
  exact ⟨_, _, _, _, _, _, rfl, (by repeat (first | (with_reducible exact Below.refl _ _) | (with_reducible refine Below.ext ?_ (by go_size) _ _) | (with_reducible refine Below.alloc ?_ (by go_size) _) | (with_reducible refine Below.setCell ?_ (by go_size) _) | (with_reducible refine Below.drew ?_) | (with_reducible refine Below.drewN_ ?_ _)))⟩

set_option maxHeartbeats 1000000 in
theorem drawDec_any {u : Bool} (A : Option Addr) (cap : Nat) (xs : List Int) (w : World) (hx : Rw u .u8 w (fun b => b < w.heap.size) A xs) (hm : xs.length ≤ 1000000000) (hb : ∀ x ∈ xs, 0 ≤ x ∧ x ≤ 255) :
    Calls Try.prog 20 #[.slice A xs.length cap] w fun e w' => SomeBytes w e w' 37 ∧ Below w.heap.size w w' := by
  have HX := Lib.hid hx
  have HB := Lib.hid hb
  clear hx hb
  go_enter Try.func20, Try.ntmps20
  go_wp2_with fail
  refine (new_any A cap xs _ HX.out (by omega)).mono ?_
  rintro e w1 ⟨h0, rfl, rfl⟩
  have HC : Hid (Cuu (w.alloc (curO A xs.length cap 0 h0)) w.heap.size A xs.length cap) := Lib.hid (cu_new (cap := cap) h0 HX.out (by omega) HB.out).cuu
  have HBW : Hid (Below w.heap.size w (w.alloc (curO A xs.length cap 0 h0))) := Lib.hid ((Below.refl _ _).alloc (Nat.le_refl _) _)
  generalize w.alloc (curO A xs.length cap 0 h0) = W1 at *
  go_wp2_with fail
  refine (l24Beacon_any _ A xs.length cap _ HC.out).mono ?_
  rintro e w2 ⟨f, sl, c, p, gt, t, rfl, hd⟩
  have HC2 : Hid (Cuu w2 w.heap.size A xs.length cap) := Lib.hid (HC.out.next hd)
  have HB2 : Hid (Below w.heap.size w w2) := Lib.hid (hd.below HC.out.lt HBW.out (Nat.le_refl _))
  clear hd
  go_wp2_with fail
  refine (specEncB_any f sl c p gt t _).mono ?_
  rintro e w3 ⟨g1, c1, X1, d1, rfl, rfl, hg1, hown1⟩
  have hle := encB_le f sl c p gt t
  have hub := encB_ub f sl c p gt t
  generalize hE : encB f sl c p gt t = E at hle hown1 hub
  have HU := Lib.hid hub
  clear hub hE
  have HO := Lib.hid hown1
  have hgl : g1 < (World.ext w2 X1 d1).heap.size := own_lt hown1
  have hgne : g1 ≠ w.heap.size := by have := HC2.out.lt; omega
  have HC3 : Hid (Cuu (World.ext w2 X1 d1) w.heap.size A xs.length cap) := Lib.hid (HC2.out.ext X1 d1)
  have HB3 : Hid (Below w.heap.size w (World.ext w2 X1 d1)) := Lib.hid (Below.ext HB2.out HB2.out.size X1 d1)
  have hs2 := HB2.out.size
  clear hown1
  generalize World.ext w2 X1 d1 = W3 at *
  go_wp2_with fail
  refine (onceC _ A xs.length cap _ _ (by omega) HC3.out).mono ?_
  rintro e w4 ⟨q, rfl, hd⟩
  have HO4 : Hid (w4.ownsRow w2.heap.size 5 1 (.slice (some ⟨g1, 0, none⟩) E.length c1) E.length (E.map (Value.int .u8))) := Lib.hid (own_block HO.out (hd.block g1 hgl hgne))
  have HC4 : Hid (Cuu w4 w.heap.size A xs.length cap) := Lib.hid (HC3.out.next hd)
  have HB4 : Hid (Below w.heap.size w w4) := Lib.hid (hd.below HC3.out.lt HB3.out (Nat.le_refl _))
  have hgl4 : g1 < w4.heap.size := Nat.lt_of_lt_of_le hgl hd.size
  clear hd
  cases q
  · go_wp2_with fail
    refine (onceC _ A xs.length cap _ _ (by omega) HC4.out).mono ?_
    rintro e w5 ⟨q, rfl, hd⟩
    have HO5 : Hid (w5.ownsRow w2.heap.size 5 1 (.slice (some ⟨g1, 0, none⟩) E.length c1) E.length (E.map (Value.int .u8))) := Lib.hid (own_block HO4.out (hd.block g1 hgl4 hgne))
    have HC5 : Hid (Cuu w5 w.heap.size A xs.length cap) := Lib.hid (HC4.out.next hd)
    have HB5 : Hid (Below w.heap.size w w5) := Lib.hid (hd.below HC4.out.lt HB4.out (Nat.le_refl _))
    clear hd
    cases q
    · go_wp2
      go_ret
      exact ⟨some_of_own (own_lower HO5.out hs2) (by omega) HU.out, HB5.out⟩
    · go_wp2_with fail
      refine (belowC _ A xs.length cap _ _ (by omega) HC5.out).mono ?_
      rintro e w6 ⟨x, rfl, hx0, _, hx2, hd⟩
      have hx3 := hx2 (by omega)
      clear hx2
      have HB6 : Hid (Below w.heap.size w w6) := Lib.hid (hd.below HC5.out.lt HB5.out (Nat.le_refl _))
      clear hd
      go_wp2_with fail
      refine Calls.mono (specEnc6 1 10 0 2 x 3 _ 3 _ (World.heap_new _ _ _ rfl)) ?_
      rintro e w7 ⟨g7, c7, X7, d7, rfl, rfl, hg7, hown7⟩
      have hle7 := encL_len [1, 10, 0, 2, x, 3]
      have HU7 := Lib.hid (encL_ub [1, 10, 0, 2, x, 3])
      generalize encL [1, 10, 0, 2, x, 3] = E7 at *
      have h7 : w.heap.size ≤ (w6.alloc (.cells #[.int .i64 1, .int .i64 10, .int .i64 0, .int .i64 2, .int .i64 x, .int .i64 3] 3)).heap.size := by have := HB6.out.size; simp; omega
      have HO7 := Lib.hid (own_lower hown7 h7)
      clear hown7
      go_wp2
      go_ret
      refine ⟨some_of_own HO7.out (by simp at hle7; omega) HU7.out, ?_⟩
      exact Below.ext (HB6.out.alloc HB6.out.size _) (by have := HB6.out.size; simp; omega) _ _
  · go_wp2_with fail
    refine (bent_any _ A xs.length cap _ _ E _ HC4.out (Rw.of_own HO4.out) (by omega) HU.out).mono ?_
    rintro e w5 ⟨⟨A5, ys, c5, rfl, h1, h2, h3⟩, hd⟩
    have HB5 : Hid (Below w.heap.size w w5) := Lib.hid (hd.below HC4.out.lt HB4.out (Nat.le_refl _))
    have hs4 := HB4.out.size
    have HR := Lib.hid h3
    have HU5 := Lib.hid h2
    clear h3 h2 hd
    go_wp2
    go_ret
    exact ⟨⟨A5, ys, c5, rfl, by omega, HU5.out, HR.out.wider (fun k hk => by omega)⟩, HB5.out⟩

end Go.Proofs.Ytifakpjchmalnaa
