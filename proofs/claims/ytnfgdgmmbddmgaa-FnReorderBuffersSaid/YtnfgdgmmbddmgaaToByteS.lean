/- toByteS of the laws: a copy of a slice in new memory. -/
import Derived.Test.YtnfgdgmmbddmgaaRowF
namespace Go.Proofs.Ytnfgdgmmbddmgaa
open Go.RowKit
set_option linter.unusedVariables false
set_option linter.unusedSimpArgs false

theorem infoByteS : (Try.prog.info? 5).map (fun i => (i.zero, i.size, i.bytes)) = some (some (.int .u8 0), 1, 1) := by kernel_rfl

set_option maxHeartbeats 1000000 in
theorem toByteS_any {u : Bool} {T : Nat → Prop} (A : Option Addr) (c : Nat) (xs : List Int) (w : World) (hx : RwF (Value.int .u8) u w T A xs) (hm : xs.length ≤ 1000000000000) :
    Calls Try.prog 23 #[.slice A xs.length c] w fun e w' => ∃ X d, e = .returned (.slice (some ⟨w.heap.size, 0, none⟩) xs.length xs.length) ∧ w' = World.ext w X d ∧ RwF (Value.int .u8) true w' (fun g => g = w.heap.size) (some ⟨w.heap.size, 0, none⟩) xs := by
  obtain ⟨i0, hi, hz0, hz1, hz2⟩ := info_parts infoByteS
  have HX := Lib.hid hx
  clear hx
  have hmk : ∀ W : World, (Instr.makeSlice 38 (.int .i64 (xs.length : Int)) (.int .i64 (xs.length : Int))).run Try.prog W = .ok (.slice (some ⟨W.heap.size, 0, none⟩) xs.length xs.length) (W.alloc (.cells (madeCells #[.int .u8 0] (xs.length * 1)) 5)) := by
    intro W
    have h1 := run_make (P := Try.prog) W 38 5 i0 (.int .u8 0) Try.underlying38 hi hz0 .i64 .i64 (xs.length : Int) (xs.length : Int) (by omega) (by omega) (by rw [hz2]; omega) (by omega)
    rw [hz1] at h1
    simpa [Value.cells] using h1
  have HMS := Lib.hid (made_size (.int .u8 0) xs.length)
  have HMA := Lib.hid (made_at (.int .u8 0) xs.length)
  generalize madeCells #[.int .u8 0] (xs.length * 1) = cur0 at *
  go_enter Try.func23, Try.ntmps23
  go_wp2
  go_loopw [4] (fun p wr => ∃ (i : Nat) (cur : Array Value), i ≤ xs.length ∧ p = .int .i64 (i : Int) ∧ wr = w.alloc (.cells cur 5) ∧ Hid (cur.size = xs.length ∧ ∀ j (h : j < xs.length), cur[j]? = some (if j < i then (Value.int .u8) xs[j] else .int .u8 0)))
    (fun p _ => xs.length - (intOf p).toNat)
  case atStart =>
    exact ⟨0, cur0, Nat.zero_le _, rfl, rfl, HMS.out, fun j h => by rw [if_neg (by omega)]; exact HMA.out j h⟩
  case round =>
    obtain ⟨i, cur, hi, rfl, rfl, hcur⟩ := hrel
    by_cases hlt : i < xs.length
    · obtain ⟨g, o, rfl, _, hg, hc, _⟩ := HX.out i hlt
      have hlt2 : (i : Int) < (xs.length : Int) := by omega
      have hci : cur[i]? = some (if i < i then (Value.int .u8) xs[i] else .int .u8 0) := hcur.out.2 i hlt
      rw [if_neg (by omega)] at hci
      have hxi : xs[i]? = some xs[i] := List.getElem?_eq_getElem hlt
      generalize xs[i] = x at hc hxi
      have HXI := Lib.hid hxi
      clear hxi
      go_wp2
      go_roundw
      case rel =>
        refine ⟨i + 1, cur.setIfInBounds i ((Value.int .u8) x), by omega, by go_num, rfl, by simpa using hcur.out.1, fun j h => ?_⟩
        rw [Array.getElem?_setIfInBounds]
        by_cases hji : i = j
        · subst hji
          rw [if_pos rfl, if_pos (by rw [hcur.out.1]; exact h), if_pos (by omega)]
          have := HXI.out
          rw [List.getElem?_eq_getElem h] at this
          injection this with this
          rw [this]
        · rw [if_neg hji, hcur.out.2 j h]
          by_cases hj : j < i
          · rw [if_pos hj, if_pos (by omega)]
          · rw [if_neg hj, if_neg (by omega)]
      case measure => simp [intOf]; omega
    · obtain rfl : i = xs.length := by omega
      go_wp2
      go_ret
      refine ⟨[.cells cur 5], w.drawn, rfl, ?_, ?_⟩
      · simp only [World.ext, World.alloc, World.mk.injEq, and_true]
        apply Array.ext'
        simp
      · exact RwF.of_alloc w _ cur xs (fun k hk => by rw [hcur.out.2 k hk, if_pos hk])

end Go.Proofs.Ytnfgdgmmbddmgaa
