/-
  The program's FormatEvent returns what the reference's returns, for every event; the listed tables of the library hold what the program's text lays.
-/
import Derived.Test.YtbaelbjgfakpoaaDoorTmD1
import Derived.Test.YtbaelbjgfakpoaaDoorTm5
import Derived.Test.YtbaelbjgfakpoaaDoorRows
import Derived.Test.YtbaelbjgfakpoaaDoorCards
import Derived.Test.YtbaelbjgfakpoaaDoorTie
import Derived.LaidMore
import Derived.OpenShut
import Derived.Stop.Joined
import Derived.Stop.LaidErr
namespace Go.Proofs.YtbaelbjgfakpoaaDoor.formatEvent
open Go.ChangeShapes Go.WideShapes Go.ChangeAt Go.WideMaps Go.WideElems Go.RowKit
open Go.Tm Go.Tm.D
set_option maxRecDepth 100000

theorem own : ownKnob Tryd.prog.godebug = none := by kernel_rfl
theorem laidOut : laidOutB Tryd.prog = true := by kernel_rfl
abbrev tabName : String := "internal/strconv.uint64pow10"
abbrev laidVars : List (String × DataW Unit) := [("math/bits.deBruijn32tab", Rows.laid_math_bits_deBruijn32tab), ("math/bits.deBruijn64tab", Rows.laid_math_bits_deBruijn64tab), (tabName, Rows.laid_internal_strconv_uint64pow10)]

/-- The door's own heap meets the condition. -/
theorem door_met (os : Os) (args : Array Value) : laidMetH Tryd.prog laidVars ((World.doorLaid Tryd.prog 400 os).forCall (fun _ _ => 0) ⟨#[], args, []⟩).memory :=
  laidMetH_of_parts3 (fuel := 8) (laidMet_of_run' 8 (by kernel_rfl) (by kernel_rfl)) (by kernel_rfl) (by kernel_rfl)

theorem gTab : Tryd.prog.globalNamed tabName = some 0 := by kernel_rfl
theorem tTab : (Tryd.prog.globals[0]?).map (·.type) = some 81 := by kernel_rfl

theorem tab_of {W : World} (h : laidMetH Tryd.prog laidVars W) : Lib.TabIs Tryd.prog W tabName .u64 Lib.pow10Tab := by
  rw [MakeChecks.laidMetH_plain _ _ _ (by kernel_rfl)] at h
  exact Lib.tabIs_of_head (rest := []) gTab tTab Tryd.underlying81 (by kernel_rfl) (by kernel_rfl) (by kernel_rfl) h.tail.tail

/-- The variable's block, as it stands when the call begins. -/
noncomputable def glOf (W : World) : Nat → Option Obj := fun b => if b = 0 then W.heap[b]? else none

theorem glOf_tab {W : World} (h : laidMetH Tryd.prog laidVars W) : TabOk Tryd.prog (glOf W) := by
  intro w fp hg
  have ht := tab_of h
  unfold Lib.TabIs World.var? at *
  rw [gTab] at *
  simp only [Option.bind_some] at *
  cases hW : W.heap[0]? with
  | none => rw [hW] at ht; cases ht
  | some o =>
    rw [hW] at ht
    rw [(hg 0 o (by simp [glOf, hW])).1]
    exact ht

theorem glOf_ok (W : World) : GlobOk (glOf W) W [] := fun b o hb => by
  unfold glOf at hb
  split at hb
  · exact ⟨hb, by simp⟩
  · cases hb

theorem lifted (os : Os) (started : os.Started) (H : Type) (enc : TypeId × Value → H) :
    ReturnsInHanded {} Tryd.checked os 3 .any (fun w args => (Rows.fnExactFormatEventSpec.pre enc Tryd.prog Tryd.f3 [] false w args ∧ laidMetH Tryd.prog laidVars w) ∧ sizedMet enc Tryd.prog Tryd.f3 (OpenSpec.ofChange Rows.fnExactFormatEventSpec) false w args)
      (Rows.fnExactFormatEventSpec.post enc Tryd.prog Tryd.f3 false true false false) := by
  refine returnsInHanded_of_change_and (C := Tryd.checked) (X := fun w _ => laidMetH Tryd.prog laidVars w) (fun _ _ _ hh h => h.of_heap hh) own started (by kernel_rfl) Tryd.func3
    (ChangeSpec.witness_shaped (enc := enc) (C := Tryd.checked) (os := os) (X := fun w _ => laidMetH Tryd.prog laidVars w) false (World.doorLaid Tryd.prog 400 os) #[.agg #[.int .i64 0, .int .i64 0, .int .i64 0, .int .i64 0, .int .i64 0, .int .i64 0, .int .i64 0]] 8 rfl (World.shaped_of_RefB (by kernel_rfl) (by kernel_rfl)) (by kernel_rfl) (by kernel_rfl) (by kernel_rfl) (door_met os _)) ?_
  intro W base args ds gs before hval0 hW _ hsz hL _
  have hds : Rows.fnExactFormatEventSpec.fn H (ds ++ []) = { results := [.lit (.bool true)], args := ds } := by
    obtain ⟨p, q, hA, _⟩ := hW
    have hA' : DataW.TrodAll enc Tryd.prog W 0 (fun _ => true) true Tryd.f3.params.toList args.toList ds p := hA
    rw [Tryd.params3] at hA'
    obtain ⟨v0, d0, rfl, rfl, h0⟩ := trodAll_one hA'
    rfl
  exact law_calls (P := Tryd.prog) (fs := fs_lawFE) (base := base) [tEv] ((c13_ok (glOf W) (glOf_tab hL)).env 3 fs_lawFE rfl).1 (glOf_ok W) rfl rfl (fun dvs => by
      have h : sh_lawFE = fun _ => true := Classical.choose_spec (shut _)
      simp only [fs_lawFE, h]) (fun _ => trivial) (by kernel_rfl) (by kernel_rfl) laidOut rfl (by kernel_rfl) rfl Tryd.underlying4 hval0 hW hds hsz

theorem holds : Rows.FnExactFormatEventSaid :=
  OpenClaim.holds_of_wide 3 Tryd.f3 rfl rfl rfl rfl rfl rfl rfl ⟨rfl, rfl, rfl, rfl, rfl⟩ rfl rfl rfl rfl rfl (by kernel_rfl) Tryd.func3 (by kernel_rfl)
    (of_decide_eq_true (by kernel_rfl)) (by unfold Func.isWrapper; rw [if_neg (of_decide_eq_false (by kernel_rfl))]; exact ⟨rfl, rfl⟩)
    (fun os started H enc _ => lifted os started H enc)

/-- The tied card. -/
theorem proved : Rows.FnExactFormatEventCardSaid :=
  Claim7.holds_tied_plain_at .later [] [.data, .data, .data] true (true, "fa4605ca9048b6102f22d825b88f6010c1de5fef572f0752fb65f093fa0884ad") false
    holds (fun _ h => by cases h) (by kernel_rfl) (fun _ h => by cases h) fnExactFormatEvent_row_tie rfl ⟨rfl, rfl⟩ (by kernel_rfl) rfl
    (fun f fn hf hfn => by
      obtain rfl : f = 3 := Option.some.inj ((show Tryd.prog.funcNamed "loop.example/g03318/laws.FnExactFormatEvent" = some 3 by kernel_rfl).symm.trans hf) |>.symm
      obtain rfl : fn = Tryd.f3 := (Option.some.inj (Tryd.func3.symm.trans hfn)).symm
      exact ⟨by kernel_rfl, fun j t ht => by
        rw [Tryd.params3] at ht
        have h3 : t = 23 := by
          rcases j with _ | j
          · simpa using ht.symm
          · simp at ht
        subst h3
        exact (show Tryd.prog.wantsStandIn 23 = false by kernel_rfl)⟩)
    (by kernel_rfl)
#print axioms proved
end Go.Proofs.YtbaelbjgfakpoaaDoor.formatEvent
