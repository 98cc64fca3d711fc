/- copyBytes. A row of bytes in new memory. -/
import Derived.Test.YtnfgdgmmbddmgaaReads
import Derived.Laws.CopyOwn
namespace Go.Proofs.Ytnfgdgmmbddmgaa
open Go.RowKit
set_option linter.unusedVariables false
set_option linter.unusedSimpArgs false

theorem infoU8 : (Try.prog.info? 5).map (fun i => (i.zero, i.size, i.bytes)) = some (some (.int .u8 0), 1, 1) := by kernel_rfl
/- what a call hands back: a row of bytes in new memory -/
def NewB (w : World) (e : Ending) (w' : World) (xs : List Int) : Prop := ∃ g cap X d, e = .returned (.slice (some ⟨g, 0, none⟩) xs.length cap) ∧ w' = World.ext w X d ∧ w.heap.size ≤ g ∧
  w'.ownsRow w.heap.size 5 1 (.slice (some ⟨g, 0, none⟩) xs.length cap) xs.length (xs.map (Value.int .u8))

set_option maxHeartbeats 1000000 in
theorem copyBytes_any {u : Bool} {T : Nat → Prop} (A : Option Addr) (c : Nat) (xs : List Int) (w : World) (hx : Rw u .u8 w T A xs) (hm : xs.length ≤ 1000000000000) :
    Calls Try.prog 69 #[.slice A xs.length c] w fun e w' => NewB w e w' xs := by
  obtain ⟨i0, hi, hz0, hz1, hz2⟩ := info_parts infoU8
  have hR := hx.rwF.reads
  have HR := Lib.hid hR
  clear hx hR
  have hmk : ∀ W : World, (Instr.makeSlice 38 (.int .i64 (xs.length : Int)) (.int .i64 (xs.length : Int))).run Try.prog W = .ok (.slice (some ⟨W.heap.size, 0, none⟩) xs.length xs.length) (W.alloc (.cells (madeCells #[.int .u8 0] (xs.length * 1)) 5)) := by
    intro W
    have h1 := run_make (P := Try.prog) W 38 5 i0 (.int .u8 0) Try.underlying38 hi hz0 .i64 .i64 (xs.length : Int) (xs.length : Int) (by omega) (by omega) (by rw [hz2]; omega) (by omega)
    rw [hz1] at h1
    simpa [Value.cells] using h1
  have HMS := Lib.hid (made_size (.int .u8 0) xs.length)
  generalize madeCells #[.int .u8 0] (xs.length * 1) = cur0 at *
  have hinfo : (Try.prog.info? 5).map (·.size) = some 1 := by rw [hi]; simp [hz1]
  go_enter Try.func69, Try.ntmps69
  go_wp2_with (with_reducible refine wpList_copy_splice rfl (.tmp 7) (.tmp 8) 38 38 rfl 5 Try.underlying38 hinfo _ _ _ _ _ _ rfl rfl w.heap.size 0 cur0.toList 5 ?c1 (xs.map (Value.int .u8)) ?c2 ?c3 ?c4 ?c5 w.heap.size w ?c6 (Nat.le_refl _) ?_)
  case c1 => rw [World.heap_new _ _ _ rfl]
  case c2 => simp
  case c3 =>
    intro hpos
    obtain ⟨ad, h1, h2, h3⟩ := HR.out.2 (by simpa using hpos)
    exact ⟨ad, h1, fun j v hj => by
      rw [← h3 j (.int .u8 v) (by simp [hj])]
      exact World.cell?_alloc_lt _ _ _ (by rw [block_of_add]; exact h2)⟩
  case c4 => simp [HMS.out]
  case c5 => intro v hv; simp at hv; obtain ⟨x, _, rfl⟩ := hv; rfl
  case c6 => exact (Below.refl _ _).alloc (Nat.le_refl _) _
  · intro w' hg hb
    obtain ⟨X, d, rfl⟩ := Below.ext_ hb
    clear hb
    go_wp2
    go_ret
    refine ⟨w.heap.size, xs.length, X, d, rfl, rfl, Nat.le_refl _, ?_⟩
    refine ⟨by simp, .inr ⟨w.heap.size, xs.length, _, rfl, Nat.le_refl _, hg.out, Nat.le_refl _, by unfold maxLen; omega, ?_, ?_⟩⟩
    · simp [splice, HMS.out]
    · simp [splice, HMS.out]

end Go.Proofs.Ytnfgdgmmbddmgaa
