/-
  What the functions that FormatEvent reaches compute, each as a plain function.
-/
import Derived.Test.YtbaelbjgfakpoaaDoorTm5
import Derived.Test.YtbaelbjgfakpoaaDoorShelf
import Derived.KernelRfl
namespace Go.Tm.D
open Go.Tm Go.Proofs
set_option maxRecDepth 100000

set_option maxHeartbeats 4000000
abbrev tI : Ty := .int .i64
abbrev tB : Ty := .int .u8
abbrev tEv : Ty := .pr tI (.pr tI (.pr tI (.pr tI (.pr tI (.pr tI (.pr tI .un))))))
def tys : List (TypeId × Ty) := [(3, .int .i64), (4, .bool), (5, .int .u8), (9, .str), (23, tEv), (25, tEv), (28, .sl (.int .u8)), (43, .sl .str)]
/-- The library's table of powers stands where it should. -/
def TabOk (P : Program) (gl : Nat → Option Obj) : Prop := ∀ w fp, GlobOk gl w fp → Lib.TabIs P w "internal/strconv.uint64pow10" .u64 Lib.pow10Tab
def c0 (gl : Nat → Option Obj) : Cfg := { tys := tys, cmp := [], env := [], gl := gl }
theorem mixed : Tryd.prog.follows .mixedOrders = true := by kernel_rfl
theorem c0_ok (gl : Nat → Option Obj) (_ : TabOk Tryd.prog gl) : CfgOk0 Tryd.prog (c0 gl) := cfg_base (by kernel_rfl) trivial rfl
def inI (n lo hi : Int) : Bool := decide (lo ≤ n) && decide (n ≤ hi)
def eventOk (e : tEv.den) : Bool := inI e.1 0 5 && inI e.2.1 1 999 && inI e.2.2.1 1 100000 && inI e.2.2.2.1 1 4 && inI e.2.2.2.2.1 1 999 && inI e.2.2.2.2.2.1 0 20000 && inI e.2.2.2.2.2.2.1 0 20000
def timeOk (n : Int) : Bool := inI n 0 20000
def evId (e : tEv.den) : tEv.den := e
noncomputable def sh_within : Int → Int → Int → Bool := Classical.choose (shut inI)
noncomputable def fs_within : FS := { ps := [.sh tI, .sh tI, .sh tI], rs := [.val (.bool) .sh], pre := fun _ => True, F := fun ds => ([⟨.bool, sh_within (arg tI ds 0) (arg tI ds 1) (arg tI ds 2)⟩], []) }
theorem b33 (gl : Nat → Option Obj) : BodyOk (c0 gl) Tryd.f33 fs_within := by
  refine body_of fun ds hd hpre => ?_
  obtain ⟨n, _, rfl, hn, lo, _, rfl, hlo, hi, _, rfl, hhi, rfl⟩ := hd
  refine ⟨_, _, rfl, fun K out hout hK => ?_⟩
  cbv; (try simp only [implies_true, true_and])
  refine hK _ _ ?_
  clear hK K
  cbv; (try simp only [choice_is])
  cbv at hout; simp only [choice_is] at hout; subst hout
  refine out1 ?_
  simp [inI]

noncomputable def c1 (gl : Nat → Option Obj) : Cfg := (c0 gl).add 33 fs_within
theorem c1_ok (gl : Nat → Option Obj) (hgl : TabOk Tryd.prog gl) : CfgOk0 Tryd.prog (c1 gl) := cfg_fn (c0_ok gl hgl) mixed Tryd.func33 rfl (by kernel_rfl) (b33 gl)
theorem b35 (gl : Nat → Option Obj) : BodyOk (c1 gl) Tryd.f35 fs_within := by
  refine body_of fun ds hd hpre => ?_
  obtain ⟨n, _, rfl, hn, lo, _, rfl, hlo, hi, _, rfl, hhi, rfl⟩ := hd
  refine ⟨_, _, rfl, fun K out hout hK => ?_⟩
  cbv; (try simp only [implies_true, true_and])
  refine hK _ _ ?_
  clear hK K
  cbv; (try simp only [choice_is])
  cbv at hout; simp only [choice_is] at hout; subst hout
  refine out1 ?_
  simp [inI]

noncomputable def c2 (gl : Nat → Option Obj) : Cfg := (c1 gl).add 35 fs_within
theorem c2_ok (gl : Nat → Option Obj) (hgl : TabOk Tryd.prog gl) : CfgOk0 Tryd.prog (c2 gl) := cfg_fn (c1_ok gl hgl) mixed Tryd.func35 rfl (by kernel_rfl) (b35 gl)
noncomputable def sh_timeOk : Int → Bool := Classical.choose (shut timeOk)
noncomputable def fs_timeOk : FS := { ps := [.sh tI], rs := [.val (.bool) .sh], pre := fun _ => True, F := fun ds => ([⟨.bool, sh_timeOk (arg tI ds 0)⟩], []) }
theorem b36 (gl : Nat → Option Obj) : BodyOk (c2 gl) Tryd.f36 fs_timeOk := by
  refine body_of fun ds hd hpre => ?_
  obtain ⟨n, _, rfl, hn, rfl⟩ := hd
  refine ⟨_, _, rfl, fun K out hout hK => ?_⟩
  cbv; (try simp only [implies_true, true_and])
  refine hK _ _ ?_
  clear hK K
  cbv; (try simp only [choice_is])
  cbv at hout; simp only [choice_is] at hout; subst hout
  refine out1 ?_
  simp [timeOk]

noncomputable def c3 (gl : Nat → Option Obj) : Cfg := (c2 gl).add 36 fs_timeOk
theorem c3_ok (gl : Nat → Option Obj) (hgl : TabOk Tryd.prog gl) : CfgOk0 Tryd.prog (c3 gl) := cfg_fn (c2_ok gl hgl) mixed Tryd.func36 rfl (by kernel_rfl) (b36 gl)
noncomputable def sh_eventOk : tEv.den → Bool := Classical.choose (shut eventOk)
noncomputable def fs_eventOk : FS := { ps := [.sh tEv], rs := [.val (.bool) .sh], pre := fun _ => True, F := fun ds => ([⟨.bool, sh_eventOk (arg tEv ds 0)⟩], []) }
theorem b18 (gl : Nat → Option Obj) : BodyOk (c3 gl) Tryd.f18 fs_eventOk := by
  refine body_of fun ds hd hpre => ?_
  obtain ⟨e, _, rfl, he, rfl⟩ := hd
  refine ⟨_, _, rfl, fun K out hout hK => ?_⟩
  cbv; (try simp only [implies_true, true_and])
  refine hK _ _ ?_
  clear hK K
  cbv; (try simp only [choice_is])
  cbv at hout; simp only [choice_is] at hout; subst hout
  refine out1 ?_
  simp [eventOk]

noncomputable def c4 (gl : Nat → Option Obj) : Cfg := (c3 gl).add 18 fs_eventOk
theorem c4_ok (gl : Nat → Option Obj) (hgl : TabOk Tryd.prog gl) : CfgOk0 Tryd.prog (c4 gl) := cfg_fn (c3_ok gl hgl) mixed Tryd.func18 rfl (by kernel_rfl) (b18 gl)
theorem b20 (gl : Nat → Option Obj) : BodyOk (c4 gl) Tryd.f20 fs_eventOk := by
  refine body_of fun ds hd hpre => ?_
  obtain ⟨e, _, rfl, he, rfl⟩ := hd
  refine ⟨_, _, rfl, fun K out hout hK => ?_⟩
  cbv; (try simp only [implies_true, true_and])
  refine hK _ _ ?_
  clear hK K
  cbv; (try simp only [choice_is])
  cbv at hout; simp only [choice_is] at hout; subst hout
  refine out1 ?_
  simp [eventOk, timeOk]

noncomputable def c5 (gl : Nat → Option Obj) : Cfg := (c4 gl).add 20 fs_eventOk
theorem c5_ok (gl : Nat → Option Obj) (hgl : TabOk Tryd.prog gl) : CfgOk0 Tryd.prog (c5 gl) := cfg_fn (c4_ok gl hgl) mixed Tryd.func20 rfl (by kernel_rfl) (b20 gl)
noncomputable def sh_evId : tEv.den → tEv.den := Classical.choose (shut evId)
noncomputable def fs_evId : FS := { ps := [.sh tEv], rs := [.val (tEv) .sh], pre := fun _ => True, F := fun ds => ([⟨tEv, sh_evId (arg tEv ds 0)⟩], []) }
theorem b6 (gl : Nat → Option Obj) : BodyOk (c5 gl) Tryd.f6 fs_evId := by
  refine body_of fun ds hd hpre => ?_
  obtain ⟨e, _, rfl, he, rfl⟩ := hd
  refine ⟨_, _, rfl, fun K out hout hK => ?_⟩
  cbv; (try simp only [implies_true, true_and])
  refine hK _ _ ?_
  clear hK K
  cbv; (try simp only [choice_is])
  cbv at hout; simp only [choice_is] at hout; subst hout
  refine out1 ?_
  rfl

noncomputable def c6 (gl : Nat → Option Obj) : Cfg := (c5 gl).add 6 fs_evId
theorem c6_ok (gl : Nat → Option Obj) (hgl : TabOk Tryd.prog gl) : CfgOk0 Tryd.prog (c6 gl) := cfg_fn (c5_ok gl hgl) mixed Tryd.func6 rfl (by kernel_rfl) (b6 gl)
noncomputable def sh_fig : Int → Int := Classical.choose (shut fig)
noncomputable def fs_fig : FS := { ps := [.sh tI], rs := [.val (tB) .sh], pre := fun _ => True, F := fun ds => ([⟨tB, sh_fig (arg tI ds 0)⟩], []) }
theorem b34 (gl : Nat → Option Obj) : BodyOk (c6 gl) Tryd.f34 fs_fig := by
  refine body_of fun ds hd hpre => ?_
  obtain ⟨i, _, rfl, hi, rfl⟩ := hd
  refine ⟨_, _, rfl, fun K out hout hK => ?_⟩
  cbv; (try simp only [implies_true, true_and])
  refine ⟨fun h => ?_, fun h => ?_⟩
  · cbv
    refine hK _ _ ?_
    clear hK K
    cbv; (try simp only [choice_is])
    cbv at hout; simp only [choice_is] at hout; subst hout
    simp only [choice_is] at h
    refine out1 ?_
    simp_all [fig]
  · cbv
    refine hK _ _ ?_
    clear hK K
    cbv; (try simp only [choice_is])
    cbv at hout; simp only [choice_is] at hout; subst hout
    simp only [choice_is] at h
    refine out1 ?_
    simp_all [fig]
    intro h; omega

noncomputable def c7 (gl : Nat → Option Obj) : Cfg := (c6 gl).add 34 fs_fig
theorem c7_ok (gl : Nat → Option Obj) (hgl : TabOk Tryd.prog gl) : CfgOk0 Tryd.prog (c7 gl) := cfg_fn (c6_ok gl hgl) mixed Tryd.func34 rfl (by kernel_rfl) (b34 gl)
structure X19 (n : Int) where
  k : Int
  acc : ByteArray
  neg : Bool
  isneg : neg = decide (n < 0)
  low : -9223372036854775808 ≤ k
  high : k ≤ 9223372036854775807
  same : fmtLoop k acc = fmtLoop n ByteArray.empty
  small : 10 ^ acc.size * k.natAbs ≤ 9223372036854775808
noncomputable def sh_fmt : Int → ByteArray := Classical.choose (shut fmt)
noncomputable def fs_fmt : FS := { ps := [.sh tI], rs := [.val (.str) .sh], pre := fun _ => True, F := fun ds => ([⟨.str, sh_fmt (arg tI ds 0)⟩], []) }
theorem b19 (gl : Nat → Option Obj) : BodyOk (c7 gl) Tryd.f19 fs_fmt := by
  refine body_of fun ds hd hpre => ?_
  obtain ⟨n, _, rfl, hn, rfl⟩ := hd
  refine ⟨_, _, rfl, fun K out hout hK => ?_⟩
  cbv; (try simp only [implies_true, true_and])
  refine ⟨fun h => ?_, fun h => ?_⟩
  · cbv
    refine hK _ _ ?_
    clear hK K
    cbv
    cbv at hout; simp only [choice_is] at hout h; subst hout
    refine out1 ?_
    simp_all [fmt]
  · simp only [choice_is, decide_eq_false_iff_not] at h
    have hn1 : -9223372036854775808 ≤ n := hn.1
    have hn2 : n ≤ 9223372036854775807 := hn.2
    cbv
    refine ⟨X19 n, fun p => ⟨30, [(0, [], .v tI p.k), (3, [], .v .bool p.neg), (4, [], .v .str p.acc)], [], []⟩, fun p => p.k.natAbs, ⟨n, ByteArray.empty, D.lt n 0, by rw [D.lt_eq], hn1, hn2, rfl, ?_⟩, ?_, fun p => ?_⟩
    · simp [ByteArray.size]; omega
    · exact le_sub ⟨rfl, rfl, rfl⟩ trivial rfl
    · obtain ⟨k, acc, neg, hneg, hl, hh, hs, hsm⟩ := p
      cbv
      refine ⟨fun h1 => ?_, fun h1 => ?_⟩
      · simp only [choice_is, Bool.not_eq_true', decide_eq_false_iff_not] at h1
        have hsz := pow_small hsm (by omega)
        have hdig : (k.tmod 10).natAbs < 10 := by rw [Int.natAbs_tmod]; exact Nat.mod_lt _ (by decide)
        have hab : (k.tdiv 10).natAbs = k.natAbs / 10 := by rw [Int.natAbs_tdiv]; rfl
        have e1 : IntKind.i64.wrap (k.tdiv 10) = k.tdiv 10 := w64 (by omega) (by omega)
        have hlt : (k.tdiv 10).natAbs < k.natAbs := by omega
        have hs2 : fmtLoop (k.tdiv 10) (strOfNums [fig ((k.tmod 10).natAbs : Nat)] ++ acc) = fmtLoop n ByteArray.empty := by rw [← hs]; exact (fmtLoop_step h1 acc).symm
        have hsm2 : 10 ^ (strOfNums [fig ((k.tmod 10).natAbs : Nat)] ++ acc).size * (k.tdiv 10).natAbs ≤ 9223372036854775808 := by
          rw [ByteArray.size_append, strOfNums_size, hab, List.length_singleton, Nat.add_comm, Nat.pow_succ, Nat.mul_assoc]
          exact Nat.le_trans (Nat.mul_le_mul_left _ (Nat.mul_div_le _ _)) hsm
        have hroom : (strOfNums [fig ((k.tmod 10).natAbs : Nat)]).size + acc.size ≤ lenMax := by rw [strOfNums_size]; simp only [List.length_singleton, lenMax]; omega
        cbv
        refine ⟨?_, fun h2 => ?_, fun h2 => ?_⟩
        · simp only [choice_is]; decide
        · simp only [choice_is, decide_eq_true_eq] at h2
          have e2 : IntKind.i64.wrap (0 - k.tmod 10) = ((k.tmod 10).natAbs : Nat) := by rw [w64 (by omega) (by omega)]; omega
          cbv
          simp only [choice_is, e1, e2]
          exact ⟨hroom, by decide, ⟨k.tdiv 10, _, neg, hneg, by omega, by omega, hs2, hsm2⟩, hlt, le_sub ⟨rfl, rfl, rfl⟩ trivial rfl⟩
        · simp only [choice_is, decide_eq_false_iff_not] at h2
          have e2 : k.tmod 10 = ((k.tmod 10).natAbs : Nat) := by omega
          cbv
          simp only [choice_is, e1]
          generalize k.tmod 10 = m at *
          generalize hmm : m.natAbs = u at *
          subst e2
          exact ⟨hroom, by decide, ⟨k.tdiv 10, _, neg, hneg, by omega, by omega, hs2, hsm2⟩, hlt, le_sub ⟨rfl, rfl, rfl⟩ trivial rfl⟩
      · simp only [choice_is, Bool.not_eq_false', decide_eq_true_eq] at h1
        subst h1
        rw [fmtLoop_zero] at hs
        have hsz : acc.size ≤ 20 := by
          have h5 := fmt_size hn1 hn2
          rw [← fmt_itoa, fmt, if_neg h, ← hs] at h5
          split at h5
          · rw [ByteArray.size_append] at h5; omega
          · exact h5
        cbv
        refine ⟨fun h2 => ?_, fun h2 => ?_⟩
        · rw [h2, eq_comm, decide_eq_true_eq] at hneg
          cbv
          refine ⟨?_, hK _ _ ?_⟩
          · simp only [choice_is]
            show 1 + acc.size ≤ lenMax
            unfold lenMax; omega
          clear hK K
          cbv; simp only [choice_is]
          cbv at hout; simp only [choice_is] at hout; subst hout
          refine out1 ?_
          rw [fmt, if_neg h, if_pos hneg, ← hs]
        · rw [h2, eq_comm, decide_eq_false_iff_not] at hneg
          cbv
          refine hK _ _ ?_
          clear hK K
          cbv
          cbv at hout; simp only [choice_is] at hout; subst hout
          refine out1 ?_
          rw [fmt, if_neg h, if_neg hneg, ← hs]

noncomputable def c8 (gl : Nat → Option Obj) : Cfg := (c7 gl).add 19 fs_fmt
theorem c8_ok (gl : Nat → Option Obj) (hgl : TabOk Tryd.prog gl) : CfgOk0 Tryd.prog (c8 gl) := cfg_fn (c7_ok gl hgl) mixed Tryd.func19 rfl (by kernel_rfl) (b19 gl)
noncomputable def sh_itoa : Int → ByteArray := Classical.choose (shut itoa)
noncomputable def fs_itoa : FS := { ps := [.sh tI], rs := [.val (.str) .sh], pre := fun _ => True, F := fun ds => ([⟨.str, sh_itoa (arg tI ds 0)⟩], []) }
theorem s37 (gl : Nat → Option Obj) (hgl : TabOk Tryd.prog gl) : Sn Tryd.prog gl 37 fs_itoa :=
  sn_int_str (F := itoa) rfl rfl (fun x => by have h : sh_itoa = itoa := Classical.choose_spec (shut itoa); simp only [fs_itoa, h]; rfl) (fun x h0 h1 => Nat.le_trans (fmt_size h0 h1) (by decide)) (fun x w h0 h1 hg => Tryd.strconv_Itoa x h0 h1 w (hgl w [] hg))
noncomputable def c9 (gl : Nat → Option Obj) : Cfg := (c8 gl).add 37 fs_itoa
theorem c9_ok (gl : Nat → Option Obj) (hgl : TabOk Tryd.prog gl) : CfgOk0 Tryd.prog (c9 gl) := cfg_add (c8_ok gl hgl) (s37 gl hgl) Tryd.func37 rfl (by kernel_rfl)
theorem b21 (gl : Nat → Option Obj) : BodyOk (c9 gl) Tryd.f21 fs_itoa := by
  refine body_of fun ds hd hpre => ?_
  obtain ⟨n, _, rfl, hn, rfl⟩ := hd
  refine ⟨_, _, rfl, fun K out hout hK => ?_⟩
  cbv; (try simp only [implies_true, true_and])
  refine hK _ _ ?_
  clear hK K
  cbv; (try simp only [choice_is])
  cbv at hout; simp only [choice_is] at hout; subst hout
  exact out1 rfl

noncomputable def c10 (gl : Nat → Option Obj) : Cfg := (c9 gl).add 21 fs_itoa
theorem c10_ok (gl : Nat → Option Obj) (hgl : TabOk Tryd.prog gl) : CfgOk0 Tryd.prog (c10 gl) := cfg_fn (c9_ok gl hgl) mixed Tryd.func21 rfl (by kernel_rfl) (b21 gl)
def words : List Ty.str.den := [ByteArray.mk (Array.mk [112, 108, 97, 99, 101, 100]), ByteArray.mk (Array.mk [101, 120, 116, 101, 110, 100, 101, 100]), ByteArray.mk (Array.mk [116, 97, 107, 101, 110]), ByteArray.mk (Array.mk [102, 101, 116, 99, 104, 101, 100])]
def fmtEvent (e : tEv.den) : ByteArray :=
  if eventOk e then
    let s := itoa e.1 ++ ⟨#[46]⟩ ++ itoa e.2.1 ++ ⟨#[64]⟩ ++ itoa e.2.2.1 ++ ⟨#[32]⟩ ++ words.getD (e.2.2.2.1 - 1).toNat Ty.str.dflt ++ ⟨#[32]⟩ ++ itoa e.2.2.2.2.1
    if e.2.2.2.1 = 2 then s else s ++ ⟨#[32]⟩ ++ itoa e.2.2.2.2.2.1 ++ ⟨#[32]⟩ ++ itoa e.2.2.2.2.2.2.1
  else ByteArray.empty
theorem roomy {n : Nat} (h : n ≤ 1000) : n ≤ lenMax := Nat.le_trans h (by unfold lenMax; omega)
theorem size1 (x : UInt8) : (ByteArray.mk (Array.mk [x])).size = 1 := rfl
structure EvFacts (a b t k p x y : Int) : Prop where
  z1 : (itoa a).size ≤ 20
  z2 : (itoa b).size ≤ 20
  z3 : (itoa t).size ≤ 20
  z5 : (itoa p).size ≤ 20
  z6 : (itoa x).size ≤ 20
  z7 : (itoa y).size ≤ 20
  w1 : IntKind.i64.wrap (k - 1) = k - 1
  k0 : 0 ≤ k - 1
  k4 : k - 1 < 4
  zw : ByteArray.size (List.getD [ByteArray.mk (Array.mk [112, 108, 97, 99, 101, 100]), ByteArray.mk (Array.mk [101, 120, 116, 101, 110, 100, 101, 100]), ByteArray.mk (Array.mk [116, 97, 107, 101, 110]), ByteArray.mk (Array.mk [102, 101, 116, 99, 104, 101, 100])] (k - 1).toNat Ty.str.dflt) ≤ 20
theorem evFacts {a b t k p x y : Int} {u : PUnit} (hev : eventOk (a, b, t, k, p, x, y, u) = true) : EvFacts a b t k p x y := by
  have hh := hev
  simp only [eventOk, inI, Bool.and_eq_true, decide_eq_true_eq] at hh
  obtain ⟨⟨⟨⟨⟨⟨r1, r2⟩, r3⟩, r4⟩, r5⟩, r6⟩, r7⟩ := hh
  refine ⟨fmt_size (by omega) (by omega), fmt_size (by omega) (by omega), fmt_size (by omega) (by omega), fmt_size (by omega) (by omega), fmt_size (by omega) (by omega), fmt_size (by omega) (by omega), w64 (by omega) (by omega), by omega, by omega, ?_⟩
  obtain h5 | h5 | h5 | h5 : k = 1 ∨ k = 2 ∨ k = 3 ∨ k = 4 := by omega
  all_goals rw [h5]; decide
noncomputable def sh_fmtEvent : tEv.den → ByteArray := Classical.choose (shut fmtEvent)
noncomputable def fs_fmtEvent : FS := { ps := [.sh tEv], rs := [.val (.str) .sh], pre := fun _ => True, F := fun ds => ([⟨.str, sh_fmtEvent (arg tEv ds 0)⟩], []) }
def plans7 : List (Nat × Bool × Plan) := [(4, (true, .quiet)), (6, (true, .quiet))]
theorem b7 (gl : Nat → Option Obj) : BodyOk (c10 gl) Tryd.f7 fs_fmtEvent := by
  refine body_plan plans7 (by kernel_rfl) fun ds hd hpre => ?_
  obtain ⟨⟨a, b, t, k, p, x, y, u⟩, _, rfl, he, rfl⟩ := hd
  refine ⟨_, _, rfl, fun K out hout hK => ?_⟩
  cbv
  refine ⟨fun h => ?_, fun h => ?_⟩
  · cbv
    refine hK _ _ ?_
    clear hK K
    cbv
    cbv at hout; simp only [choice_is] at hout h; subst hout
    refine out1 ?_
    simp only [Bool.not_eq_true'] at h
    simp only [fmtEvent, h]
    rfl
  · have hev : eventOk (a, b, t, k, p, x, y, u) = true := by
      simp only [choice_is, Bool.not_eq_false'] at h; exact h
    have z1 := (evFacts hev).z1
    have z2 := (evFacts hev).z2
    have z3 := (evFacts hev).z3
    have z5 := (evFacts hev).z5
    have z6 := (evFacts hev).z6
    have z7 := (evFacts hev).z7
    have w1 := (evFacts hev).w1
    have k0 := (evFacts hev).k0
    have k4 := (evFacts hev).k4
    have zw := (evFacts hev).zw
    cbv
    refine ⟨?_, ?_, ?_, ?_, ?_, ?_, ?_, ?_, ?_, fun h2 => ?_, fun h2 => ?_⟩
    · simp only [choice_is, w1]; exact ⟨k0, k4⟩
    iterate 8
      · simp only [choice_is, w1, ByteArray.size_append]
        refine roomy ?_
        simp only [size1]
        omega
    · cbv
      refine ⟨?_, ?_, ?_, ?_, hK _ _ ?_⟩
      iterate 4
        · simp only [choice_is, w1, ByteArray.size_append]
          refine roomy ?_
          simp only [size1]
          omega
      clear hK K
      cbv
      cbv at hout; simp only [choice_is] at hout h2; subst hout
      refine out1 ?_
      simp only [choice_is, w1]
      simp only [Bool.not_eq_true', decide_eq_false_iff_not] at h2
      simp only [fmtEvent, hev, if_true]
      rw [if_neg h2]
      simp only [ByteArray.append_assoc]
      rfl
    · cbv
      refine hK _ _ ?_
      clear hK K
      cbv
      cbv at hout; simp only [choice_is] at hout h2; subst hout
      refine out1 ?_
      simp only [choice_is, w1]
      simp only [Bool.not_eq_false', decide_eq_true_eq] at h2
      simp only [fmtEvent, hev, if_true]
      rw [if_pos h2]
      rfl

noncomputable def c11 (gl : Nat → Option Obj) : Cfg := (c10 gl).add 7 fs_fmtEvent
theorem c11_ok (gl : Nat → Option Obj) (hgl : TabOk Tryd.prog gl) : CfgOk0 Tryd.prog (c11 gl) := cfg_fn (c10_ok gl hgl) mixed Tryd.func7 rfl (by kernel_rfl) (b7 gl)
def plans5 : List (Nat × Bool × Plan) := [(3, (true, .one 0 (.one 1 (.one 4 (.one 5 (.one 9 (.one 10 (.one 15 (.one 16 (.one 17 (.one 22 (.one 23 (.alt 2 (.one 3 (.alt 6 (.one 7 (.one 8 (.alt 11 (.one 12 (.one 13 (.alt 14 (.one 18 (.one 19 (.one 20 (.one 21 (.alt 24 (.one 25 (.one 26 (.fin))) (.fin)))))) (.alt 24 (.alt 14 (.one 18 (.one 19 (.one 20 (.one 21 (.one 25 (.one 26 (.fin))))))) (.fin)) (.fin))))) (.alt 14 (.one 18 (.one 19 (.alt 11 (.one 12 (.one 13 (.one 20 (.one 21 (.alt 24 (.one 25 (.one 26 (.fin))) (.fin)))))) (.fin)))) (.fin))))) (.alt 14 (.one 18 (.one 19 (.alt 6 (.one 7 (.one 8 (.alt 11 (.one 12 (.one 13 (.one 20 (.one 21 (.alt 24 (.one 25 (.one 26 (.fin))) (.fin)))))) (.fin)))) (.fin)))) (.fin)))) (.alt 14 (.one 18 (.one 19 (.alt 2 (.one 3 (.alt 6 (.one 7 (.one 8 (.alt 11 (.one 12 (.one 13 (.one 20 (.one 21 (.alt 24 (.one 25 (.one 26 (.fin))) (.fin)))))) (.fin)))) (.fin))) (.fin)))) (.fin))))))))))))))), (6, (true, .quiet))]
theorem b5 (gl : Nat → Option Obj) : BodyOk (c11 gl) Tryd.f5 fs_fmtEvent := by
  refine body_plan plans5 (by kernel_rfl) fun ds hd hpre => ?_
  obtain ⟨⟨a, b, t, k, p, x, y, u⟩, _, rfl, he, rfl⟩ := hd
  refine ⟨_, _, rfl, fun K out hout hK => ?_⟩
  cbv
  refine ⟨fun h => ?_, fun h => ?_⟩
  · cbv
    refine hK _ _ ?_
    clear hK K
    cbv
    cbv at hout; simp only [choice_is] at hout h; subst hout
    refine out1 ?_
    simp only [Bool.not_eq_true'] at h
    simp only [fmtEvent, h]
    rfl
  · have hev : eventOk (a, b, t, k, p, x, y, u) = true := by
      simp only [choice_is, Bool.not_eq_false'] at h; exact h
    have z1 := (evFacts hev).z1
    have z2 := (evFacts hev).z2
    have z3 := (evFacts hev).z3
    have z5 := (evFacts hev).z5
    have z6 := (evFacts hev).z6
    have z7 := (evFacts hev).z7
    have w1 := (evFacts hev).w1
    have k0 := (evFacts hev).k0
    have k4 := (evFacts hev).k4
    have zw := (evFacts hev).zw
    cbv
    refine ⟨?_, fun h2 => ?_, fun h2 => ?_⟩
    · repeat' apply And.intro
      all_goals first
        | (refine leJ ?_ ?_ rfl <;> cbv <;> repeat' apply And.intro)
        | (simp only [choice_is, w1]; exact ⟨k0, k4⟩)
        | (simp only [choice_is, w1, fmt_itoa, ByteArray.size_append]; refine roomy ?_; simp only [size1]; omega)
    · cbv
      refine hK _ _ ?_
      clear hK K
      cbv
      cbv at hout; simp only [choice_is] at hout h2; subst hout
      refine out1 ?_
      simp only [choice_is, w1, fmt_itoa]
      simp only [decide_eq_true_eq] at h2
      simp only [fmtEvent, hev, if_true]
      rw [if_pos h2]
      rfl
    · cbv
      refine ⟨?_, ?_, ?_, ?_, hK _ _ ?_⟩
      iterate 4
        · simp only [choice_is, w1, fmt_itoa, ByteArray.size_append]
          refine roomy ?_
          simp only [size1]
          omega
      clear hK K
      cbv
      cbv at hout; simp only [choice_is] at hout h2; subst hout
      refine out1 ?_
      simp only [choice_is, w1, fmt_itoa]
      simp only [decide_eq_false_iff_not] at h2
      simp only [fmtEvent, hev, if_true]
      rw [if_neg h2]
      rfl

noncomputable def c12 (gl : Nat → Option Obj) : Cfg := (c11 gl).add 5 fs_fmtEvent
theorem c12_ok (gl : Nat → Option Obj) (hgl : TabOk Tryd.prog gl) : CfgOk0 Tryd.prog (c12 gl) := cfg_fn (c11_ok gl hgl) mixed Tryd.func5 rfl (by kernel_rfl) (b5 gl)
noncomputable def sh_lawFE : tEv.den → Bool := Classical.choose (shut (fun _ : tEv.den => true))
noncomputable def fs_lawFE : FS := { ps := [.sh tEv], rs := [.val (.bool) .sh], pre := fun _ => True, F := fun ds => ([⟨.bool, sh_lawFE (arg tEv ds 0)⟩], []) }
theorem b3 (gl : Nat → Option Obj) : BodyOk (c12 gl) Tryd.f3 fs_lawFE := by
  refine body_of fun ds hd hpre => ?_
  obtain ⟨e, _, rfl, he, rfl⟩ := hd
  refine ⟨_, _, rfl, fun K out hout hK => ?_⟩
  cbv
  refine ⟨fun h => ?_, fun h => ?_⟩
  · simp only [choice_is, evId] at h
    simp at h
  · cbv
    refine hK _ _ ?_
    clear hK K
    cbv
    cbv at hout; simp only [choice_is] at hout; subst hout
    exact out1 rfl

noncomputable def c13 (gl : Nat → Option Obj) : Cfg := (c12 gl).add 3 fs_lawFE
theorem c13_ok (gl : Nat → Option Obj) (hgl : TabOk Tryd.prog gl) : CfgOk0 Tryd.prog (c13 gl) := cfg_fn (c12_ok gl hgl) mixed Tryd.func3 rfl (by kernel_rfl) (b3 gl)
end Go.Tm.D
