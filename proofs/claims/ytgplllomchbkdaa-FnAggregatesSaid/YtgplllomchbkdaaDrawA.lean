/- Drawn bytes, drawn frames: any, in new memory. -/
import Derived.Test.YtgplllomchbkdaaCurM
import Derived.Test.YtgplllomchbkdaaOwN
import Derived.Test.YtgplllomchbkdaaSpl
namespace Go.Proofs.Ytgplllomchbkdaa
open Go.RowKit
set_option linter.unusedVariables false
set_option linter.unusedSimpArgs false

theorem Drew.below {w0 w w' : World} {g n cap : Nat} {A : Option Addr} (h : Drew w g A n cap w') (hl : g < w.heap.size) (hb : Below w0.heap.size w0 w) (hg : w0.heap.size ≤ g) : Below w0.heap.size w0 w' := by
  obtain ⟨i, h, X, d, rfl, h0, h1⟩ := h
  have h2 : Below w0.heap.size w (World.put w g (curO A n cap i h)) := (put_chg w g _).below hb.size (fun k hk => by omega)
  exact Below.ext (hb.trans h2) (by have := hb.size; simpa using this) X d
theorem Drew.size {w w' : World} {g n cap : Nat} {A : Option Addr} (h : Drew w g A n cap w') : w.heap.size ≤ w'.heap.size := by
  obtain ⟨i, h, X, d, rfl, h0, h1⟩ := h
  simp
theorem Drew.chg {w w' : World} {g n cap : Nat} {A : Option Addr} (h : Drew w g A n cap w') : Chg (fun b => b = g) w w' := by
  obtain ⟨i, h, X, d, rfl, h0, h1⟩ := h
  exact (put_chg w g _).trans (Chg.of_below (Below.ext (Below.refl _ _) (Nat.le_refl _) X d))
theorem Drew.and_below {w w1 w2 : World} {g n cap : Nat} {A : Option Addr} (hc : Cuu w g A n cap) (h : Drew w g A n cap w1) (hb : Below w1.heap.size w1 w2) : Drew w g A n cap w2 :=
  Drew.trans hc.lt h ((hc.next h).drew_below hb)
theorem Drew.chg_new {w w1 w2 : World} {g n cap go : Nat} {A : Option Addr} (h : Drew w g A n cap w1) (hc : Chg (fun b => b = go) w1 w2) (hg : w.heap.size ≤ go) : Drew w g A n cap w2 := by
  obtain ⟨i', h', X, d, rfl, a0, a1⟩ := h
  have hbb : Below (World.put w g (curO A n cap i' h')).heap.size (World.put w g (curO A n cap i' h')) w2 :=
    (Below.ext (Below.refl _ _) (Nat.le_refl _) X d).trans (hc.below (by simp) (fun k hk => by subst hk; simpa using hg))
  obtain ⟨X', d', e'⟩ := Below.ext_ hbb
  exact ⟨i', h', X', d', e', a0, a1⟩
theorem OwN.chg {e : TypeId} {w w' : World} {base g c : Nat} {xs : List (List Int)} {S : Nat → Prop} (h : OwN e w base g c xs) (hc : Chg S w w') (hS : ∀ b, base ≤ b → ¬ S b) : OwN e w' base g c xs := by
  obtain ⟨vs, F, h1, h2, h3, h4, h5⟩ := h
  have hs := hc.size
  refine ⟨vs, F, h1, h2.chg hc (hS g h2.ge), fun k b hF => by have := h3 k b hF; omega, h4, fun k hk => ?_⟩
  obtain ⟨A, c, q1, q2⟩ := h5 k hk
  exact ⟨A, c, q1, q2.frame hc (fun b hb => hS b (h3 k b hb).1)⟩
theorem rwF_alloc1 {α : Type} {f : α → Value} {w : World} {t : TypeId} {v : α} {b : Nat} (hb : b = w.heap.size) : RwF f true (w.alloc (.cells #[f v] t)) (fun k => k = b) (some ⟨b, 0, none⟩) [v] := by
  subst hb
  exact RwF.of_alloc w t #[f v] [v] (fun k hk => by
    match k, hk with
    | 0, _ => rfl)
def SomeB (w : World) (g : Nat) (A : Option Addr) (n cap m : Nat) (e : Ending) (w' : World) : Prop := ∃ go c q, e = .returned (.slice (some ⟨go, 0, none⟩) q.length c) ∧ q.length = m ∧ (∀ y ∈ q, 0 ≤ y ∧ y ≤ 255) ∧ OwR (Value.int .u8) 5 w' w.heap.size go c q ∧ Drew w g A n cap w'

set_option maxHeartbeats 2000000 in
theorem l1Bytes_any (g : Nat) (A : Option Addr) (n cap m : Nat) (w : World) (hcu : Cuu w g A n cap) (hm : m ≤ 1000) :
    Calls Try.prog 46 #[.pointer (some ⟨g, 0, none⟩), .int .i64 (m : Int)] w fun e w' => SomeB w g A n cap m e w' := by
  obtain ⟨i0, hi, hz0, hz1, hz2⟩ := info_parts infoU8
  have HC := Lib.hid hcu
  have hgl := hcu.lt
  clear hcu
  go_enter Try.func46, Try.ntmps46
  go_wp2
  go_loopw [5, 6] (fun v p wr => ∃ (i go c : Nat) (q : List Int), p = .int .i64 (i : Int) ∧ i ≤ m ∧ v = .slice (some ⟨go, 0, none⟩) q.length c ∧ Hid (q.length = i) ∧ Hid (∀ y ∈ q, 0 ≤ y ∧ y ≤ 255) ∧ Hid (OwR (Value.int .u8) 5 wr w.heap.size go c q) ∧ Hid (Drew w g A n cap wr)) (fun _ p _ => m - (intOf p).toNat)
  case atStart => exact ⟨0, w.heap.size, 0, [], rfl, Nat.zero_le _, rfl, Lib.hid rfl, Lib.hid (by simp), Lib.hid (OwR.new (Nat.le_refl _) (World.heap_new _ _ _ rfl)), Lib.hid (HC.out.drew_below ((Below.refl _ _).alloc (Nat.le_refl _) _))⟩
  case round =>
    obtain ⟨i, go, c, q, rfl, him, rfl, HQ, HY, HO, HD⟩ := hrel
    have hql : q.length ≤ 1000 := by have := HQ.out; omega
    have hge := HO.out.ge
    by_cases hlt : i < m
    · have hlt2 : (i : Int) < (m : Int) := by omega
      go_wp2_with fail
      refine (byteC g A n cap _ (HC.out.next HD.out)).mono ?_
      rintro e w2 ⟨y, rfl, hy0, hy1, hd⟩
      have HO2 := Lib.hid (HO.out.chg hd.chg (by omega))
      have HD2 := Lib.hid (Drew.trans HC.out.lt HD.out hd)
      have hs2 := HD2.out.size
      have hu8 : IntKind.u8.wrap y = y := by rw [IntKind.wrap_u8]; omega
      clear hd HD HO
      go_wp2_with (at_builtin; refine wpList_appR rfl (.tmp 13) (.tmp 17) 22 rfl 5 i0 (.int .u8 0) 1 Try.underlying22 hi hz0 hz1 hz2 rfl w.heap.size _ _ _ rfl (HO2.out.below ((Below.refl _ _).alloc (Nat.le_refl _) _)) _ [y] _ (fun _ _ => rfl) rfl (rwF_alloc1 (f := Value.int .u8) (by simp)) (by first | omega | (simp; done) | (simp; omega)) (by decide) (by first | omega | (simp; done) | (simp; omega)) ?_)
      intro g3 c3 w3 q3 HQ3 HO3 HG3 HC3
      have HD3 := Lib.hid (Drew.chg_new (Drew.and_below HC.out HD2.out ((Below.refl _ _).alloc (Nat.le_refl _) _)) HC3.out (by omega))
      have HY3 : Hid (∀ z ∈ q3, 0 ≤ z ∧ z ≤ 255) := Lib.hid (by
        rw [HQ3.out]
        intro z hz
        rcases List.mem_append.1 hz with h | h
        · exact HY.out z h
        · simp at h; subst h; exact ⟨hy0, hy1⟩)
      have HL3 : Hid (q3.length = i + 1) := Lib.hid (by rw [HQ3.out]; simp [HQ.out])
      clear HQ3 HG3 HC3 HO2 HD2 hu8
      go_wp2
      go_roundw
      case rel => exact ⟨i + 1, g3, c3, q3, by go_num, by omega, rfl, HL3, HY3, HO3, HD3⟩
      case measure => simp [intOf]; omega
    · obtain rfl : i = m := by omega
      go_wp2
      go_ret
      exact ⟨go, c, q, rfl, HQ.out, HY.out, HO.out, HD.out⟩

def SomeSS (w : World) (g : Nat) (A : Option Addr) (n cap : Nat) (e : Ending) (w' : World) : Prop := ∃ go c fs, e = .returned (.slice (some ⟨go, 0, none⟩) fs.length c) ∧ fs.length ≤ 5 ∧ (∀ f ∈ fs, f.length ≤ 8 ∧ ∀ y ∈ f, 0 ≤ y ∧ y ≤ 255) ∧ OwN 22 w' w.heap.size go c fs ∧ Drew w g A n cap w'
set_option maxHeartbeats 2000000 in
theorem l20Frames_any (g : Nat) (A : Option Addr) (n cap : Nat) (w : World) (hcu : Cuu w g A n cap) :
    Calls Try.prog 41 #[.pointer (some ⟨g, 0, none⟩)] w fun e w' => SomeSS w g A n cap e w' := by
  obtain ⟨i0, hi, hz0, hz1, hz2⟩ := info_parts infoBytes
  have HC := Lib.hid hcu
  have hgl := hcu.lt
  clear hcu
  go_enter Try.func41, Try.ntmps41
  go_wp2_with fail
  refine (belowC g A n cap _ _ (by omega) (HC.out.alloc _)).mono ?_
  rintro e w1 ⟨x, rfl, hx0, _, hx2, hd⟩
  have hx3 := hx2 (by omega)
  clear hx2
  have HD1 := Lib.hid (Drew.trans HC.out.lt (HC.out.drew_below ((Below.refl _ _).alloc (Nat.le_refl _) (.cells #[] 22))) hd)
  have HO1 : Hid (OwN 22 w1 w.heap.size w.heap.size 0 []) := Lib.hid (OwN.chg (OwN.new (Nat.le_refl _) (World.heap_new _ _ _ rfl)) hd.chg (fun b hb => by omega))
  clear hd
  go_wp2
  go_loopw [3, 4] (fun v p wr => ∃ (i go c : Nat) (fs : List (List Int)), p = .int .i64 (i : Int) ∧ i + fs.length ≤ 5 ∧ v = .slice (some ⟨go, 0, none⟩) fs.length c ∧ Hid (∀ f ∈ fs, f.length ≤ 8 ∧ ∀ y ∈ f, 0 ≤ y ∧ y ≤ 255) ∧ Hid (OwN 22 wr w.heap.size go c fs) ∧ Hid (Drew w g A n cap wr)) (fun _ p _ => (intOf p).toNat)
  case atStart =>
    obtain ⟨k, rfl⟩ := Int.eq_ofNat_of_zero_le hx0
    exact ⟨k, w.heap.size, 0, [], rfl, by simp; omega, rfl, Lib.hid (by simp), HO1, HD1⟩
  case round =>
    obtain ⟨i, go, c, fs, rfl, hif, rfl, HF, HO, HD⟩ := hrel
    by_cases hlt : 0 < i
    · have hlt2 : (0 : Int) < (i : Int) := by omega
      go_wp2_with fail
      refine (belowC g A n cap _ _ (by omega) (HC.out.next HD.out)).mono ?_
      rintro e w2 ⟨y, rfl, hy0, _, hy2, hd⟩
      have hy3 := hy2 (by omega)
      clear hy2
      have HO2 := Lib.hid (HO.out.chg hd.chg (fun b hb => by omega))
      have HD2 := Lib.hid (Drew.trans HC.out.lt HD.out hd)
      clear hd HD HO
      obtain ⟨m, rfl⟩ := Int.eq_ofNat_of_zero_le hy0
      go_wp2_with fail
      refine (l1Bytes_any g A n cap m _ (HC.out.next HD2.out) (by omega)).mono ?_
      rintro e w3 ⟨g3, c3, x, rfl, hxl, hxy, hox, hd⟩
      have hs2 := HD2.out.size
      have hgw2 := (HC.out.next HD2.out).lt
      obtain ⟨vs, F, o1, o2, o3, o4, o5⟩ := HO2.out
      have hgl2 := HO2.out.lt
      have hge2 := HO2.out.ge
      have hs3 := hd.size
      have hg3l := hox.lt
      have hg3e := hox.ge
      have HD3 := Lib.hid (Drew.trans HC.out.lt HD2.out hd)
      have hx8 : x.length ≤ 8 := by omega
      have R3 := Lib.hid hox.rwF.rw
      have O3 := Lib.hid o3; have O4 := Lib.hid o4
      have O2' := Lib.hid ((o2.chg hd.chg (by omega)).below ((Below.refl _ _).alloc (Nat.le_refl _) (.cells #[.slice (some ⟨g3, 0, none⟩) x.length c3] 22)))
      have O5' : Hid (∀ k (h : k < fs.length), ∃ A c, vs[k]? = some (.slice A fs[k].length c) ∧ Rw true .u8 (w3.alloc (.cells #[.slice (some ⟨g3, 0, none⟩) x.length c3] 22)) (F k) A fs[k]) := Lib.hid (fun k h => by
        obtain ⟨A, c, q1, q2⟩ := o5 k h
        exact ⟨A, c, q1, (q2.frame hd.chg (fun b hb h1 => by have := o3 k b hb; omega)).below ((Below.refl _ _).alloc (Nat.le_refl _) _)⟩)
      have hvsl : vs.length ≤ 5 := by omega
      have HX := Lib.hid hxy
      rw [← o1]
      have O1 := Lib.hid o1
      clear o1 o2 o3 o4 o5 hd hox hxy hxl HO2
      go_wp2_with (at_builtin; refine wpList_appR rfl (.tmp 12) (.tmp 17) 29 rfl 22 i0 (.slice none 0 0) 24 Try.underlying29 hi hz0 hz1 hz2 rfl w.heap.size _ _ _ rfl O2'.out _ [.slice (some ⟨g3, 0, none⟩) x.length c3] _ (by intro y hy; simp only [List.mem_singleton] at hy; subst hy; rfl) rfl (rwF_one_at (by simp)) (by first | omega | (simp; done) | (simp; omega)) (by decide) (by first | omega | (simp; done) | (simp; omega)) ?_)
      intro g4 c4 w4 vs' HQ HO4 HG HC4
      have hq4 : vs'.length = (fs ++ [x]).length := by rw [HQ.out]; simp [O1.out]
      have HD4 := Lib.hid (Drew.chg_new (Drew.and_below HC.out HD3.out ((Below.refl _ _).alloc (Nat.le_refl _) _)) HC4.out (by omega))
      have HON : Hid (OwN 22 w4 w.heap.size g4 c4 (fs ++ [x])) := Lib.hid (OwN.snoc (Fn := fun b => b = g3) vs F O1.out (fun k b hF => by have := O3.out k b hF; simp; omega) O4.out O5'.out HQ.out HO4.out (by simpa using HG.out) HC4.out (R3.out.below ((Below.refl _ _).alloc (Nat.le_refl _) _)) (fun b hb => by subst hb; simp; omega))
      have HF4 : Hid (∀ f ∈ fs ++ [x], f.length ≤ 8 ∧ ∀ y ∈ f, 0 ≤ y ∧ y ≤ 255) := Lib.hid (by
        intro f hf
        rcases List.mem_append.1 hf with h | h
        · exact HF.out f h
        · simp at h; subst h; exact ⟨hx8, HX.out⟩)
      rw [hq4]
      clear hq4 HQ HO4 HG HC4 O2' O5' R3 O3 O4
      go_wp2
      go_roundw
      case rel => exact ⟨i - 1, g4, c4, fs ++ [x], by go_num, by simp; omega, by simp, HF4, HON, HD4⟩
      case measure => simp [intOf]; omega
    · obtain rfl : i = 0 := by omega
      go_wp2
      go_ret
      exact ⟨go, c, fs, rfl, by omega, HF.out, HO.out, HD.out⟩

def AnySS (w : World) (e : Ending) (w' : World) : Prop := ∃ go c fs, e = .returned (.slice (some ⟨go, 0, none⟩) fs.length c) ∧ fs.length ≤ 5 ∧ (∀ f ∈ fs, f.length ≤ 8 ∧ ∀ y ∈ f, 0 ≤ y ∧ y ≤ 255) ∧ OwN 22 w' w.heap.size go c fs ∧ Below w.heap.size w w'
theorem OwN.lower {e : TypeId} {w : World} {base base' g c : Nat} {xs : List (List Int)} (h : OwN e w base g c xs) (hb : base' ≤ base) : OwN e w base' g c xs := by
  obtain ⟨vs, F, h1, h2, h3, h4, h5⟩ := h
  exact ⟨vs, F, h1, h2.lower hb, fun k b hF => by have := h3 k b hF; omega, h4, h5⟩
set_option maxHeartbeats 1000000 in
theorem drawSub_any {u : Bool} (A : Option Addr) (cap : Nat) (xs : List Int) (w : World) (hx : Rw u .u8 w (fun b => b < w.heap.size) A xs) (hm : xs.length ≤ 1000000000) (hb : ∀ x ∈ xs, 0 ≤ x ∧ x ≤ 255) :
    Calls Try.prog 25 #[.slice A xs.length cap] w fun e w' => AnySS w e w' := by
  have HX := Lib.hid hx
  have HB := Lib.hid hb
  clear hx hb
  go_enter Try.func25, Try.ntmps25
  go_wp2_with fail
  refine (new_any A cap xs _ HX.out (by omega)).mono ?_
  rintro e w1 ⟨h0, rfl, rfl⟩
  have hc := (cu_new (cap := cap) h0 HX.out (by omega) HB.out).cuu
  have HC : Hid (Cuu (w.alloc (curO A xs.length cap 0 h0)) w.heap.size A xs.length cap) := Lib.hid (by simpa using hc)
  clear hc
  go_wp2_with fail
  refine (l20Frames_any _ A xs.length cap _ HC.out).mono ?_
  rintro e w2 ⟨go, c, fs, rfl, hl, hF, ho, hd⟩
  have hbl : Below w.heap.size w w2 := hd.below (by simp) ((Below.refl _ _).alloc (Nat.le_refl _) _) (Nat.le_refl _)
  have HO := Lib.hid (ho.lower (base' := w.heap.size) (by simp))
  have HF := Lib.hid hF
  have HBL := Lib.hid hbl
  clear hd hbl ho hF
  go_wp2
  go_ret
  exact ⟨go, c, fs, rfl, hl, HF.out, HO.out, HBL.out⟩

end Go.Proofs.Ytgplllomchbkdaa
