/- Lists of outstanding frames: Outstanding of the program and of the reference; leaving out what is acknowledged at the start. -/
import Derived.Test.YtipcjbmfogijeaaSendA
import Derived.Test.YtipcjbmfogijeaaOwn
namespace Go.Proofs.Ytipcjbmfogijeaa
open Go.RowKit
set_option linter.unusedVariables false
set_option linter.unusedSimpArgs false

def adv : Nat → Int → Nat → Int × Nat
  | 0, st, A => (st, A)
  | f + 1, st, A => if A % 2 = 1 then adv f (seqN st) (A / 2) else (st, A)
def cellNat (w : World) (b o : Nat) : Nat := match w.cell? ⟨b, o, none⟩ with | some (.int _ n) => n.toNat | _ => 0

theorem mask_eq (D : Nat) (h : D ≤ 16) : maskI (D : Int) = ((2 ^ D - 1 : Nat) : Int) := by
  have h1 : 2 ^ D ≤ 2 ^ 16 := Nat.pow_le_pow_right (by omega) h
  have h2 : 1 ≤ 2 ^ D := Nat.one_le_two_pow
  unfold maskI
  rw [Int.toNat_natCast, wrap_pow D (by omega), IntKind.wrap_i64]
  omega
theorem vSend_true {st nx ak : Int} (h : vSend st nx ak = true) : ∃ D A : Nat, seqD st nx = (D : Int) ∧ ak = (A : Int) ∧ D ≤ 16 ∧ A < 2 ^ D ∧ A % 2 = 0 ∧ 0 ≤ st ∧ st ≤ 4095 ∧ 0 ≤ nx ∧ nx ≤ 4095 := by
  simp only [vSend, Bool.and_eq_true, beq_iff_eq] at h
  obtain ⟨⟨h1, h2⟩, h3⟩ := h
  have b1 := inR_true h1
  obtain ⟨p1, p2, p3, p4, p5⟩ := seqD_pos b1.1
  obtain ⟨D, hD⟩ := Int.eq_ofNat_of_zero_le b1.1
  rw [hD] at h2 b1
  have b2 := inR_true h2
  obtain ⟨A, rfl⟩ := Int.eq_ofNat_of_zero_le b2.1
  rw [mask_eq D (by omega)] at b2
  have h5 : 1 ≤ 2 ^ D := Nat.one_le_two_pow
  have h4 : 2 ^ D ≤ 2 ^ 16 := Nat.pow_le_pow_right (by omega) (by omega)
  rw [and_one A (by omega)] at h3
  exact ⟨D, A, hD, rfl, by omega, by omega, by omega, p1, p2, p3, p4⟩

def outL (st : Int) (k A : Nat) : List Int := ((List.range k).filter fun (i : Nat) => !A.testBit i).map fun (i : Nat) => (st + (i : Int)) % 4096
theorem outL_succ (st : Int) (k A : Nat) : outL st (k + 1) A = outL st k A ++ (if A.testBit k then [] else [(st + (k : Int)) % 4096]) := by
  cases hb : A.testBit k <;> simp [outL, List.range_succ, hb]
theorem outL_le (st : Int) (k A : Nat) : (outL st k A).length ≤ k := by
  simp only [outL, List.length_map]
  exact Nat.le_trans (List.length_filter_le _ _) (by simp)

set_option maxHeartbeats 400000 in
theorem implAdv_any (f : Nat) (hf : f ≤ 40) (st nx : Int) (A : Nat) (hA : A < 2 ^ f) (w : World) :
    Calls Try.prog 46 #[.agg #[.int .i64 st, .int .i64 nx, .int .i64 (A : Int)]] w fun e w' => e = .returned (.agg #[.int .i64 (adv f st A).1, .int .i64 nx, .int .i64 ((adv f st A).2 : Int)]) ∧ Below w.heap.size w w' := by
  go_enter Try.func46, Try.ntmps46
  go_wp2
  go_loopw [3] (fun _ wr => ∃ (f' : Nat) (st' : Int) (A' : Nat), f' ≤ f ∧ A' < 2 ^ f' ∧ Hid (adv f' st' A' = adv f st A) ∧
      wr = (w.alloc (.cells #[.int .i64 st', .int .i64 nx, .int .i64 (A' : Int)] 29)).alloc (.cells #[.int .i64 0, .int .i64 0, .int .i64 0] 29))
    (fun _ wr => cellNat wr w.heap.size 2)
  case atStart => exact ⟨f, st, A, Nat.le_refl _, hA, rfl, rfl⟩
  case round =>
    obtain ⟨f', st', A', hf', hA', hadv, rfl⟩ := hrel
    have hb : A' < 9223372036854775808 := Nat.lt_of_lt_of_le hA' (Nat.le_trans (Nat.pow_le_pow_right (by omega) (show f' ≤ 40 by omega)) (by decide))
    have ha1 := and_one A' hb
    by_cases hodd : A' % 2 = 1
    · rw [hodd] at ha1
      go_wp2_with (go_at_call 43; refine (implNext_any _ _).mono ?_; rintro e w' ⟨rfl, rfl⟩)
      have hp : f' ≠ 0 := by rintro rfl; simp at hA'; omega
      obtain ⟨g, rfl⟩ : ∃ g, f' = g + 1 := ⟨f' - 1, by omega⟩
      have e : ((A' / 2 : Nat) : Int) = (A' : Int) / 2 := by omega
      refine ⟨⟨g, seqN st', A' / 2, by omega, by rw [Nat.pow_succ] at hA'; omega, ?_, by rw [e]⟩, ?_⟩
      · have := hadv.out
        rw [adv, if_pos hodd] at this
        exact this
      · simp [cellNat, go_sem]
        omega
    · have h0 : A' % 2 = 0 := by omega
      rw [h0] at ha1
      go_wp2_with (go_at_call 43; refine (implNext_any _ _).mono ?_; rintro e w' ⟨rfl, rfl⟩)
      go_returns
      have hr : adv f st A = (st', A') := by
        rw [← hadv.out]
        cases f' with
        | zero => rfl
        | succ g => rw [adv, if_neg hodd]
      rw [hr]
      exact ⟨by simp, (by repeat (first | (with_reducible exact Below.refl _ _) | (with_reducible refine Below.ext ?_ (by go_size) _ _) | (with_reducible refine Below.alloc ?_ (by go_size) _) | (with_reducible refine Below.setCell ?_ (by go_size) _) | (with_reducible refine Below.drew ?_) | (with_reducible refine Below.drewN_ ?_ _)))⟩

set_option maxHeartbeats 400000 in
theorem specAdv_any (f : Nat) (hf : f ≤ 40) (st nx : Int) (A : Nat) (hA : A < 2 ^ f) (w : World) :
    Calls Try.prog 45 #[.agg #[.int .i64 st, .int .i64 nx, .int .i64 (A : Int)]] w fun e w' => e = .returned (.agg #[.int .i64 (adv f st A).1, .int .i64 nx, .int .i64 ((adv f st A).2 : Int)]) ∧ Below w.heap.size w w' := by
  go_enter Try.func45, Try.ntmps45
  go_wp2
  go_loopw [5] (fun _ wr => ∃ (f' : Nat) (st' : Int) (A' : Nat), f' ≤ f ∧ A' < 2 ^ f' ∧ Hid (adv f' st' A' = adv f st A) ∧
      wr = ((w.alloc (.cells #[.int .i64 st, .int .i64 nx, .int .i64 (A : Int)] 29)).alloc (.cells #[.int .i64 0, .int .i64 0, .int .i64 0] 29)).alloc (.cells #[.int .i64 st', .int .i64 nx, .int .i64 (A' : Int)] 29))
    (fun _ wr => cellNat wr (w.heap.size + 2) 2)
  case atStart => exact ⟨f, st, A, Nat.le_refl _, hA, rfl, rfl⟩
  case round =>
    obtain ⟨f', st', A', hf', hA', hadv, rfl⟩ := hrel
    have hb : A' < 9223372036854775808 := Nat.lt_of_lt_of_le hA' (Nat.le_trans (Nat.pow_le_pow_right (by omega) (show f' ≤ 40 by omega)) (by decide))
    have ha1 := and_one A' hb
    by_cases hodd : A' % 2 = 1
    · rw [hodd] at ha1
      go_wp2_with (go_at_call 42; refine (specNext_any _ _).mono ?_; rintro e w' ⟨rfl, rfl⟩)
      have hp : f' ≠ 0 := by rintro rfl; simp at hA'; omega
      obtain ⟨g, rfl⟩ : ∃ g, f' = g + 1 := ⟨f' - 1, by omega⟩
      have e : ((A' / 2 : Nat) : Int) = (A' : Int) / 2 := by omega
      refine ⟨⟨g, seqN st', A' / 2, by omega, by rw [Nat.pow_succ] at hA'; omega, ?_, by rw [e]⟩, ?_⟩
      · have := hadv.out
        rw [adv, if_pos hodd] at this
        exact this
      · simp [cellNat, go_sem]
        omega
    · have h0 : A' % 2 = 0 := by omega
      rw [h0] at ha1
      go_wp2_with (go_at_call 42; refine (specNext_any _ _).mono ?_; rintro e w' ⟨rfl, rfl⟩)
      go_returns
      have hr : adv f st A = (st', A') := by
        rw [← hadv.out]
        cases f' with
        | zero => rfl
        | succ g => rw [adv, if_neg hodd]
      rw [hr]
      exact ⟨by simp, (by repeat (first | (with_reducible exact Below.refl _ _) | (with_reducible refine Below.ext ?_ (by go_size) _ _) | (with_reducible refine Below.alloc ?_ (by go_size) _) | (with_reducible refine Below.setCell ?_ (by go_size) _) | (with_reducible refine Below.drew ?_) | (with_reducible refine Below.drewN_ ?_ _)))⟩

set_option maxHeartbeats 1000000 in
theorem implOutX_any (st nx ak : Int) (hv : vSend st nx ak = false) (w : World) :
    Calls Try.prog 26 #[.agg #[.int .i64 st, .int .i64 nx, .int .i64 ak]] w fun e w' => ∃ g X d, e = .returned (.slice (some ⟨g, 0, none⟩) 0 0) ∧ w' = World.ext w X d ∧ w.heap.size ≤ g ∧ w'.ownsRow w.heap.size 3 1 (.slice (some ⟨g, 0, none⟩) 0 0) 0 [] := by
  go_enter Try.func26, Try.ntmps26
  go_wp2_with (go_at_call 20; refine (implVS_any _ _ _ _).mono ?_; rintro e w' ⟨rfl, hbw⟩; obtain ⟨X, d, rfl⟩ := Below.ext_ hbw; clear hbw)
  go_ret
  refine ⟨_, .cells #[.int .i64 st, .int .i64 nx, .int .i64 ak] 29 :: .cells #[] 3 :: X, d, rfl, by rw [World.ext_alloc, World.ext_alloc], by omega, ?_⟩
  exact own_new (by omega) (by rw [World.heap_ext _ _ _ _ (by simp), World.heap_new _ _ _ (by simp)])

set_option maxHeartbeats 1000000 in
theorem implOut_any (st nx : Int) (D A : Nat) (hD : seqD st nx = (D : Int)) (hv : vSend st nx (A : Int) = true) (hDle : D ≤ 16) (hA : A < 65536) (hst : 0 ≤ st ∧ st ≤ 4095) (w : World) :
    Calls Try.prog 26 #[.agg #[.int .i64 st, .int .i64 nx, .int .i64 (A : Int)]] w fun e w' => ∃ g cap X d, e = .returned (.slice (some ⟨g, 0, none⟩) (outL st D A).length cap) ∧ w' = World.ext w X d ∧ w.heap.size ≤ g ∧
      w'.ownsRow w.heap.size 3 1 (.slice (some ⟨g, 0, none⟩) (outL st D A).length cap) (outL st D A).length ((outL st D A).map (Value.int .i64)) := by
  obtain ⟨i0, hi, hz0, hz1, hz2⟩ := info_parts infoInt
  have HD := Lib.hid hD
  clear hD
  obtain ⟨hst0, hst1⟩ := hst
  go_enter Try.func26, Try.ntmps26
  go_wp2_with (go_at_call 20; refine (implVS_any _ _ _ _).mono ?_; rintro e w' ⟨rfl, hbw⟩; obtain ⟨X, d, rfl⟩ := Below.ext_ hbw; clear hbw)
  go_loopw [3, 4] (fun v i wr => ∃ (k g cap : Nat) (X : List Obj) (d : Nat), k ≤ D ∧ i = .int .i64 (k : Int) ∧ wr = World.ext (w.alloc (.cells #[.int .i64 st, .int .i64 nx, .int .i64 (A : Int)] 29)) X d ∧ v = .slice (some ⟨g, 0, none⟩) (outL st k A).length cap ∧
      wr.ownsRow (w.heap.size + 1) 3 1 v (outL st k A).length ((outL st k A).map (Value.int .i64)))
    (fun _ i _ => D - (intOf i).toNat)
  case atStart =>
    refine ⟨0, _, 0, .cells #[] 3 :: X, d, Nat.zero_le _, rfl, World.ext_alloc _ _ _ _, rfl, ?_⟩
    exact own_new (Nat.le_refl _) (by rw [World.heap_ext _ _ _ _ (by simp), World.heap_new _ _ _ (by simp)])
  case round =>
    obtain ⟨k, g, cap, X, d, hk, rfl, rfl, rfl, hown⟩ := hrel
    have hbit := bit_and A k (by omega)
    have hlen := outL_le st k A
    have hsucc := Lib.hid (outL_succ st k A)
    by_cases hlt : k < D
    · have hlt' : (k : Int) < seqD st nx := by rw [HD.out]; omega
      skip
      cases hb : A.testBit k
      · rw [hb] at hbit
        simp only [Bool.false_eq_true, if_false] at hbit
        go_wp2_with (first | (go_at_call 41; refine (implDist_any _ _ _).mono ?_; rintro e w' ⟨rfl, rfl⟩) | (go_at_call 44; refine (implAdd_any _ _ ⟨hst0, hst1⟩ (by omega) _).mono ?_; rintro e w' ⟨rfl, rfl⟩) | (at_builtin; refine wpList_append_own _ rfl _ _ 39 rfl (w.heap.size + 1) 3 i0 (.int .i64 0) 1 8 Try.underlying39 hi hz0 hz1 hz2 rfl (by decide) _ _ _ rfl (hown.alloc _) ⟨w.heap.size + 1 + X.length, 0, none⟩ 1 1 [.int .i64 ((st + (k : Int)) % 4096)] rfl rfl ?c1 ?c2 ?c3 ?c4 ?c5 ?_))
        case c1 =>
          intro j u hj
          match j, hj with
          | 0, hj => simp at hj; subst hj; simp [Addr.add, go_sem]
        case c2 => intro u hu; simp at hu; subst hu; rfl
        case c3 => unfold maxLen; omega
        case c4 => omega
        case c5 => simp; omega
        · intro v' w1 hown' hgrow hnil
          obtain ⟨g', cap', rfl, hg'⟩ := own_some hown' (by intro h; simp [h] at hnil)
          have hbe : Below (w.heap.size + 1) (w.alloc (.cells #[.int .i64 st, .int .i64 nx, .int .i64 (A : Int)] 29)) w1 :=
            ((Below.ext (Below.refl _ _) (by simp) X d).alloc (by go_size) _).grown hgrow (by simp; omega) (own_ge hown)
          obtain ⟨X', d', rfl⟩ := Below.ext_ (w := w.alloc (.cells #[.int .i64 st, .int .i64 nx, .int .i64 (A : Int)] 29)) (by simpa using hbe)
          clear hgrow hbe hown hnil
          go_wp2_with (first | fail)
          go_roundw
          case rel => exact ⟨k + 1, g', cap', X', d', by omega, by go_num, rfl, by simp [hsucc.out, hb], by rw [hsucc.out, hb]; simpa using hown'⟩
          case measure => simp [intOf]; omega
      · rw [hb] at hbit
        simp only [if_true] at hbit
        go_wp2_with (first | (go_at_call 41; refine (implDist_any _ _ _).mono ?_; rintro e w' ⟨rfl, rfl⟩) | (go_at_call 44; refine (implAdd_any _ _ ⟨hst0, hst1⟩ (by omega) _).mono ?_; rintro e w' ⟨rfl, rfl⟩))
        go_roundw
        case rel => exact ⟨k + 1, g, cap, X, d, by omega, by go_num, rfl, by simp [hsucc.out, hb], by rw [hsucc.out, hb]; simpa using hown⟩
        case measure => simp [intOf]; omega
    · have hlt' : seqD st nx ≤ (k : Int) := by rw [HD.out]; omega
      obtain rfl : k = D := by omega
      go_wp2_with (first | (go_at_call 41; refine (implDist_any _ _ _).mono ?_; rintro e w' ⟨rfl, rfl⟩))
      go_ret
      have hg := own_ge hown g (by simp [Value.ownBlock])
      exact ⟨g, cap, (.cells #[.int .i64 st, .int .i64 nx, .int .i64 (A : Int)] 29) :: X, d, rfl, World.ext_alloc _ _ _ _, by omega, own_lower hown (by omega)⟩

set_option maxHeartbeats 1000000 in
theorem specOutX_any (st nx ak : Int) (hv : vSend st nx ak = false) (w : World) :
    Calls Try.prog 25 #[.agg #[.int .i64 st, .int .i64 nx, .int .i64 ak]] w fun e w' => ∃ g X d, e = .returned (.slice (some ⟨g, 0, none⟩) 0 0) ∧ w' = World.ext w X d ∧ w.heap.size ≤ g ∧ w'.ownsRow w.heap.size 3 1 (.slice (some ⟨g, 0, none⟩) 0 0) 0 [] := by
  go_enter Try.func25, Try.ntmps25
  go_wp2_with (go_at_call 18; refine (specVS_any _ _ _ _).mono ?_; rintro e w' ⟨rfl, hbw⟩; obtain ⟨X, d, rfl⟩ := Below.ext_ hbw; clear hbw)
  go_ret
  refine ⟨_, .cells #[.int .i64 st, .int .i64 nx, .int .i64 ak] 29 :: .cells #[] 3 :: X, d, rfl, by rw [World.ext_alloc, World.ext_alloc], by omega, ?_⟩
  exact own_new (by omega) (by rw [World.heap_ext _ _ _ _ (by simp), World.heap_new _ _ _ (by simp)])

set_option maxHeartbeats 1000000 in
theorem specOut_any (st nx : Int) (D A : Nat) (hD : seqD st nx = (D : Int)) (hv : vSend st nx (A : Int) = true) (hDle : D ≤ 16) (hA : A < 65536) (hst : 0 ≤ st ∧ st ≤ 4095) (w : World) :
    Calls Try.prog 25 #[.agg #[.int .i64 st, .int .i64 nx, .int .i64 (A : Int)]] w fun e w' => ∃ g cap X d, e = .returned (.slice (some ⟨g, 0, none⟩) (outL st D A).length cap) ∧ w' = World.ext w X d ∧ w.heap.size ≤ g ∧
      w'.ownsRow w.heap.size 3 1 (.slice (some ⟨g, 0, none⟩) (outL st D A).length cap) (outL st D A).length ((outL st D A).map (Value.int .i64)) := by
  obtain ⟨i0, hi, hz0, hz1, hz2⟩ := info_parts infoInt
  have HD := Lib.hid hD
  clear hD
  obtain ⟨hst0, hst1⟩ := hst
  go_enter Try.func25, Try.ntmps25
  go_wp2_with (go_at_call 18; refine (specVS_any _ _ _ _).mono ?_; rintro e w' ⟨rfl, hbw⟩; obtain ⟨X, d, rfl⟩ := Below.ext_ hbw; clear hbw)
  go_loopw [3, 4, 5] (fun v x i wr => ∃ (k g cap : Nat) (X : List Obj) (d : Nat), k ≤ D ∧ i = .int .i64 (k : Int) ∧ x = .int .i64 ((st + (k : Int)) % 4096) ∧ wr = World.ext (w.alloc (.cells #[.int .i64 st, .int .i64 nx, .int .i64 (A : Int)] 29)) X d ∧ v = .slice (some ⟨g, 0, none⟩) (outL st k A).length cap ∧
      wr.ownsRow (w.heap.size + 1) 3 1 v (outL st k A).length ((outL st k A).map (Value.int .i64)))
    (fun _ _ i _ => D - (intOf i).toNat)
  case atStart =>
    refine ⟨0, _, 0, .cells #[] 3 :: X, d, Nat.zero_le _, rfl, by rw [Int.emod_eq_of_lt (by omega) (by omega)]; simp, World.ext_alloc _ _ _ _, rfl, ?_⟩
    exact own_new (Nat.le_refl _) (by rw [World.heap_ext _ _ _ _ (by simp), World.heap_new _ _ _ (by simp)])
  case round =>
    obtain ⟨k, g, cap, X, d, hk, rfl, rfl, rfl, rfl, hown⟩ := hrel
    have hbit := bit_and A k (by omega)
    have hlen := outL_le st k A
    have hsucc := Lib.hid (outL_succ st k A)
    by_cases hlt : k < D
    · have hlt' : (k : Int) < seqD st nx := by rw [HD.out]; omega
      have hx : seqN ((st + (k : Int)) % 4096) = (st + ((k + 1 : Nat) : Int)) % 4096 := by rw [seqN_of (by omega)]; omega
      cases hb : A.testBit k
      · rw [hb] at hbit
        simp only [Bool.false_eq_true, if_false] at hbit
        go_wp2_with (first | (go_at_call 40; refine (specDist_any _ _ _).mono ?_; rintro e w' ⟨rfl, rfl⟩) | (go_at_call 42; refine (specNext_any _ _).mono ?_; rintro e w' ⟨rfl, rfl⟩) | (at_builtin; refine wpList_append_own _ rfl _ _ 39 rfl (w.heap.size + 1) 3 i0 (.int .i64 0) 1 8 Try.underlying39 hi hz0 hz1 hz2 rfl (by decide) _ _ _ rfl (hown.alloc _) ⟨w.heap.size + 1 + X.length, 0, none⟩ 1 1 [.int .i64 ((st + (k : Int)) % 4096)] rfl rfl ?c1 ?c2 ?c3 ?c4 ?c5 ?_))
        case c1 =>
          intro j u hj
          match j, hj with
          | 0, hj => simp at hj; subst hj; simp [Addr.add, go_sem]
        case c2 => intro u hu; simp at hu; subst hu; rfl
        case c3 => unfold maxLen; omega
        case c4 => omega
        case c5 => simp; omega
        · intro v' w1 hown' hgrow hnil
          obtain ⟨g', cap', rfl, hg'⟩ := own_some hown' (by intro h; simp [h] at hnil)
          have hbe : Below (w.heap.size + 1) (w.alloc (.cells #[.int .i64 st, .int .i64 nx, .int .i64 (A : Int)] 29)) w1 :=
            ((Below.ext (Below.refl _ _) (by simp) X d).alloc (by go_size) _).grown hgrow (by simp; omega) (own_ge hown)
          obtain ⟨X', d', rfl⟩ := Below.ext_ (w := w.alloc (.cells #[.int .i64 st, .int .i64 nx, .int .i64 (A : Int)] 29)) (by simpa using hbe)
          clear hgrow hbe hown hnil
          go_wp2_with (first | (go_at_call 42; refine (specNext_any _ _).mono ?_; rintro e w' ⟨rfl, rfl⟩))
          go_roundw
          case rel => exact ⟨k + 1, g', cap', X', d', by omega, by go_num, by go_num, rfl, by simp [hsucc.out, hb], by rw [hsucc.out, hb]; simpa using hown'⟩
          case measure => simp [intOf]; omega
      · rw [hb] at hbit
        simp only [if_true] at hbit
        go_wp2_with (first | (go_at_call 40; refine (specDist_any _ _ _).mono ?_; rintro e w' ⟨rfl, rfl⟩) | (go_at_call 42; refine (specNext_any _ _).mono ?_; rintro e w' ⟨rfl, rfl⟩))
        go_roundw
        case rel => exact ⟨k + 1, g, cap, X, d, by omega, by go_num, by go_num, rfl, by simp [hsucc.out, hb], by rw [hsucc.out, hb]; simpa using hown⟩
        case measure => simp [intOf]; omega
    · have hlt' : seqD st nx ≤ (k : Int) := by rw [HD.out]; omega
      obtain rfl : k = D := by omega
      go_wp2_with (first | (go_at_call 40; refine (specDist_any _ _ _).mono ?_; rintro e w' ⟨rfl, rfl⟩))
      go_ret
      have hg := own_ge hown g (by simp [Value.ownBlock])
      exact ⟨g, cap, (.cells #[.int .i64 st, .int .i64 nx, .int .i64 (A : Int)] 29) :: X, d, rfl, World.ext_alloc _ _ _ _, by omega, own_lower hown (by omega)⟩

end Go.Proofs.Ytipcjbmfogijeaa
