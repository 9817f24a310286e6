/-
  The pure machine, part 2 of 5: a general law that such code as this program's keeps to descriptions in plain Lean. It speaks of no program.
-/
import Derived.Test.YtbaelbjgfakpoaaDoorTm1
import Derived.Laws.Closers25b
import Derived.Laws.Shifts
import Derived.Laws.Tables
import Derived.Deep.Quiet
import Derived.Laws.Cover3
import Derived.LoopN

/- (TmQuiet)
  The operations that change no object are sound, one after the other.
-/
section
set_option linter.unusedSimpArgs false
namespace Go.Tm

section
variable {P : Program} {c : Cfg} {w0 : World} {mu : Lent} {Γ : Gam} {st : St} {a : Act} {w : World} {key : Key} {o : Oper} {rv : RV} {ok : Prop}

def isLoad : Op → Bool
  | .load _ _ => true
  | .convert _ _ _ => true
  | _ => false

/-- The blocks that were there are as they were. -/
def Ext (w w' : World) : Prop := ∀ b, b < w.heap.size → w'.heap[b]? = w.heap[b]?

/-- What is to be shown of an operation without effect. -/
def Yield (P : Program) (Γ : Gam) (st : St) (a : Act) (w : World) (o : Oper) (rv : RV) : Prop :=
  ∃ v, (∀ w', (isLoad o.op = true → Ext w w') → (execOp a.eval o).run P w' = .ok (.value v) w') ∧ VR (envOf w Γ st.obs) rv v

theorem yield_move (h : Inv w0 mu Γ st a.tmps w) (hk : ∀ q ∈ key, a.tmps.getD q.1 undef = .bool q.2) {x : Operand} {hint : Option Ty}
    (ho : o.op = .move x ∨ o.op = .assign x) (hq : st.val key hint x = some rv) : Yield P Γ st a w o rv := by
  refine ⟨a.eval x, fun _ _ => ?_, h.val hk hq⟩
  rcases ho with ho | ho <;> simp [execOp, ho]

theorem tmin_bounds {k : IntKind} {x y : Int} (hx1 : k.min ≤ x) (hx2 : x ≤ k.max) : k.min ≤ x.tmod y ∧ x.tmod y ≤ k.max := by
  have h0 : k.min ≤ 0 := by cases k <;> decide
  have h1 : 0 ≤ k.max := by cases k <;> decide
  by_cases hx : 0 ≤ x
  · have a1 := Int.tmod_nonneg y hx
    have a2 : x.tmod y ≤ x := by
      rw [Int.tmod_eq_emod_of_nonneg hx]
      rcases Int.lt_trichotomy y 0 with hy | hy | hy
      · rw [← Int.emod_neg]
        by_cases hxy : x < -y
        · rw [Int.emod_eq_of_lt hx hxy]; omega
        · have := Int.emod_lt_of_pos x (show 0 < -y by omega); omega
      · subst hy; simp
      · by_cases hxy : x < y
        · rw [Int.emod_eq_of_lt hx hxy]; omega
        · have := Int.emod_lt_of_pos x hy; omega
    omega
  · have hx' : x = -(-x) := by omega
    have hneg : (x.tmod y) = -((-x).tmod y) := by rw [Int.neg_tmod]; omega
    have b0 : 0 ≤ -x := by omega
    have a1 := Int.tmod_nonneg y b0
    have a2 : (-x).tmod y ≤ -x := by
      rw [Int.tmod_eq_emod_of_nonneg b0]
      rcases Int.lt_trichotomy y 0 with hy | hy | hy
      · rw [← Int.emod_neg]
        by_cases hxy : -x < -y
        · rw [Int.emod_eq_of_lt b0 hxy]; omega
        · have := Int.emod_lt_of_pos (-x) (show 0 < -y by omega); omega
      · subst hy; simp
      · by_cases hxy : -x < y
        · rw [Int.emod_eq_of_lt b0 hxy]; omega
        · have := Int.emod_lt_of_pos (-x) hy; omega
    omega

theorem fdiv_bounds {k : IntKind} {x : Int} {n : Nat} (hx1 : k.min ≤ x) (hx2 : x ≤ k.max) : k.min ≤ x.fdiv (2 ^ n) ∧ x.fdiv (2 ^ n) ≤ k.max := by
  have h0 : k.min ≤ 0 := by cases k <;> decide
  have h1 : 0 ≤ k.max := by cases k <;> decide
  have hp : (0 : Int) < 2 ^ n := Int.pow_pos (by omega)
  rw [Int.fdiv_eq_ediv_of_nonneg _ (by omega)]
  by_cases hx : 0 ≤ x
  · have a1 := Int.ediv_nonneg hx (show (0 : Int) ≤ 2 ^ n by omega)
    have a2 := Int.ediv_le_self (2 ^ n) hx
    omega
  · have a1 : x / 2 ^ n < 0 := Int.ediv_neg_of_neg_of_pos (by omega) hp
    have a2 : x ≤ x / 2 ^ n := by
      have hm := Int.mul_ediv_add_emod x (2 ^ n)
      have hr := Int.emod_nonneg x (show (2 ^ n : Int) ≠ 0 by omega)
      have hl := Int.emod_lt_of_pos x hp
      by_cases hge : x ≤ x / 2 ^ n
      · exact hge
      · exfalso
        have hq : x / 2 ^ n ≤ x - 1 := by omega
        have h3 : 2 ^ n * (x / 2 ^ n) ≤ 2 ^ n * (x - 1) := Int.mul_le_mul_of_nonneg_left hq (by omega)
        have h4 : (2 ^ n : Int) * (x - 1) ≤ 1 * (x - 1) := Int.mul_le_mul_of_nonpos_right (by omega) (by omega)
        have h5 : x < 2 ^ n * (x / 2 ^ n) + 2 ^ n := by omega
        have h6 : (2 ^ n : Int) * (x - 1) = 2 ^ n * x - 2 ^ n := by rw [Int.mul_sub, Int.mul_one]
        have h7 : (2 ^ n : Int) * x ≤ 1 * x := Int.mul_le_mul_of_nonpos_right (by omega) (by omega)
        omega
    omega

theorem run_intOp {op : BinOp} {k : IntKind} {x y : Int} {xt : TypeId} (hs : op ≠ .shl ∧ op ≠ .shr) (hx : k.min ≤ x ∧ x ≤ k.max) (hr : intOp op k x y = some (rv, ok)) (hok : ok) :
    ∃ v, (∀ w', (Go.binOp op xt (.int k x) (.int k y)).run P w' = .ok v w') ∧ VR (envOf w Γ st.obs) rv v := by
  have hwr := wrap_within k
  cases op <;> simp only [intOp, D.add_eq, D.sub_eq, D.mul_eq, D.quo_eq, D.rem_eq, D.band_eq, D.bor_eq, D.bxor_eq, D.eq_eq, D.ne_eq, D.lt_eq, D.le_eq, D.nz_eq, Option.some.injEq, Prod.mk.injEq, reduceCtorEq] at hr <;> (try (obtain ⟨rfl, rfl⟩ := hr))
  · exact ⟨_, fun _ => by simp [Go.binOp, Op.intArith], .of_int (hwr _).1 (hwr _).2⟩
  · exact ⟨_, fun _ => by simp [Go.binOp, Op.intArith], .of_int (hwr _).1 (hwr _).2⟩
  · exact ⟨_, fun _ => by simp [Go.binOp, Op.intArith], .of_int (hwr _).1 (hwr _).2⟩
  · exact ⟨_, fun _ => by simp [Go.binOp, Op.intDiv, hok], .of_int (hwr _).1 (hwr _).2⟩
  · exact ⟨_, fun _ => by simp [Go.binOp, Op.intDiv, hok], .of_int (tmin_bounds hx.1 hx.2).1 (tmin_bounds hx.1 hx.2).2⟩
  · exact ⟨_, fun _ => by simp [Go.binOp, Op.intBits], .of_int (hwr _).1 (hwr _).2⟩
  · exact ⟨_, fun _ => by simp [Go.binOp, Op.intBits], .of_int (hwr _).1 (hwr _).2⟩
  · exact ⟨_, fun _ => by simp [Go.binOp, Op.intBits], .of_int (hwr _).1 (hwr _).2⟩
  · refine ⟨.bool (x == y), fun _ => by simp [Go.binOp, Op.intCmp], ?_⟩
    rw [show (x == y) = decide (x = y) from rfl]; exact .of_bool
  · refine ⟨.bool (x != y), fun _ => by simp [Go.binOp, Op.intCmp], ?_⟩
    rw [show (x != y) = !decide (x = y) from rfl]; exact .of_bool
  · exact ⟨_, fun _ => by simp [Go.binOp, Op.intCmp], .of_bool⟩
  · exact ⟨_, fun _ => by simp [Go.binOp, Op.intCmp], .of_bool⟩
  · exact ⟨_, fun _ => by simp [Go.binOp, Op.intCmp], .of_bool⟩
  · exact ⟨_, fun _ => by simp [Go.binOp, Op.intCmp], .of_bool⟩

theorem run_shiftOp {op : BinOp} {k k' : IntKind} {x y : Int} {xt : TypeId} (hx : k.min ≤ x ∧ x ≤ k.max) (hr : shiftOp op k x y = some (rv, ok)) (hok : ok) :
    ∃ v, (∀ w', (Go.binOp op xt (.int k x) (.int k' y)).run P w' = .ok v w') ∧ VR (envOf w Γ st.obs) rv v := by
  have hwr := wrap_within k
  cases op <;> simp only [shiftOp, D.shl_eq, D.shr_eq, D.nn_eq, Option.some.injEq, Prod.mk.injEq, reduceCtorEq] at hr <;> (try (obtain ⟨rfl, rfl⟩ := hr))
  · have h' : ¬ y < 0 := by omega
    exact ⟨_, fun _ => by simp [Go.binOp, Op.shift, h'], .of_int (hwr _).1 (hwr _).2⟩
  · have h' : ¬ y < 0 := by omega
    exact ⟨_, fun _ => by simp [Go.binOp, Op.shift, h'], .of_int (fdiv_bounds hx.1 hx.2).1 (fdiv_bounds hx.1 hx.2).2⟩

theorem run_strOp {op : BinOp} {x y : ByteArray} {xt : TypeId} (hr : strOp op x y = some (rv, ok)) (hok : ok) :
    ∃ v, (∀ w', (Go.binOp op xt (.string x) (.string y)).run P w' = .ok v w') ∧ VR (envOf w Γ st.obs) rv v := by
  cases op <;> simp only [strOp, D.sapp_eq, D.sroom_eq, D.seq_eq, D.sne_eq, D.slt_eq, Option.some.injEq, Prod.mk.injEq, reduceCtorEq] at hr <;> (try (obtain ⟨rfl, rfl⟩ := hr))
  · have hm : ¬ (((x.size + y.size : Nat) : Int) > IntKind.i64.max) := by
      have h1 : IntKind.i64.max = 9223372036854775807 := by decide
      rw [h1]; unfold lenMax at hok; omega
    refine ⟨.string (x ++ y), fun _ => ?_, .of_str (by rw [ByteArray.size_append]; exact hok)⟩
    simp only [Go.binOp, Op.stringOp]
    rw [if_neg hm]; rfl
  · exact ⟨_, fun _ => by simp [Go.binOp, Op.stringOp], .of_bool⟩
  · exact ⟨_, fun _ => by simp [Go.binOp, Op.stringOp], .of_bool⟩
  · exact ⟨_, fun _ => by simp [Go.binOp, Op.stringOp], .of_bool⟩

theorem castTo_inj {t u : Ty} {x : t.den} {y : u.den} (h : castTo u x = some y) : ∃ e : t = u, e ▸ x = y := by
  unfold castTo at h
  split at h
  · rename_i e; exact ⟨e, Option.some.inj h⟩
  · cases h

theorem run_equal_bool {t : TypeId} (hu : P.underlying t = some .bool) (p q : Bool) : (Op.equal t (.bool p) (.bool q)).run P w = .ok (p == q) w := by
  have key : ∀ d, (Op.equalIn (d + 1) t (.bool p) (.bool q)).run P w = .ok (p == q) w := fun d => by
    simp only [Op.equalIn, Sem.run_bind, run_underlying hu, Result.andThen_ok]; rfl
  exact key 9999

theorem run_binRV (hC : CfgOk P c w0 mu) {op : BinOp} {x y : RV} {xv yv : Value} {xt : TypeId} {xo yo : Operand} (hr : binRV c op xt x y = some (rv, ok)) (hok : ok)
    (hx : VR (envOf w Γ st.obs) x xv) (hy : VR (envOf w Γ st.obs) y yv) :
    ∃ v, (∀ w', (do eqGuard op xt xo yo xv yv; Go.binOp op xt xv yv : Sem Value).run P w' = .ok v w') ∧ VR (envOf w Γ st.obs) rv v := by
  unfold binRV at hr
  split at hr
  · -- ints
    rename_i k p k' q
    obtain ⟨rfl, hx1⟩ := hx.int
    obtain ⟨rfl, hy1⟩ := hy.int
    have hg : ∀ w', (eqGuard op xt xo yo (.int k p) (.int k' q)).run P w' = .ok () w' := fun w' => by
      unfold eqGuard; split <;> simp
    simp only [Sem.run_bind, hg, Result.andThen_ok]
    split at hr
    · exact run_shiftOp hx1 hr hok
    · exact run_shiftOp hx1 hr hok
    · rename_i h1 h2
      split at hr
      · rename_i hkk; subst hkk
        exact run_intOp ⟨h1, h2⟩ hx1 hr hok
      · cases hr
  · -- strings
    obtain ⟨rfl, hx1⟩ := hx.str
    obtain ⟨rfl, hy1⟩ := hy.str
    rename_i p q
    have hg : ∀ w', (eqGuard op xt xo yo (.string p) (.string q)).run P w' = .ok () w' := fun w' => by
      unfold eqGuard; split <;> simp
    simp only [Sem.run_bind, hg, Result.andThen_ok]
    exact run_strOp hr hok
  · -- bools
    obtain rfl := hx.bool
    obtain rfl := hy.bool
    rename_i p q
    have hg : ∀ w', (eqGuard op xt xo yo (.bool p) (.bool q)).run P w' = .ok () w' := fun w' => by
      unfold eqGuard; split <;> simp
    simp only [Sem.run_bind, hg, Result.andThen_ok]
    split at hr
    · rename_i hl
      simp only [D.beq_eq, D.bne_eq, Option.some.injEq, Prod.mk.injEq] at hr; obtain ⟨rfl, rfl⟩ := hr
      have hu := tyOf_bool (hC.tys _ _ hl)
      exact ⟨_, fun _ => by simp only [Go.binOp, Sem.run_bind, run_equal_bool hu, Result.andThen_ok, Sem.run_pure], .of_bool⟩
    · rename_i hl
      simp only [D.beq_eq, D.bne_eq, Option.some.injEq, Prod.mk.injEq] at hr; obtain ⟨rfl, rfl⟩ := hr
      have hu := tyOf_bool (hC.tys _ _ hl)
      exact ⟨_, fun _ => by simp only [Go.binOp, Sem.run_bind, run_equal_bool hu, Result.andThen_ok, Sem.run_pure], .of_bool⟩
    · cases hr
  · -- structs
    rename_i t u p t' u' q
    split at hr
    · rename_i q' z hcast hl
      obtain ⟨e, he⟩ := castTo_inj hcast
      cases e
      subst he
      split at hr
      · rename_i hz; subst hz
        obtain ⟨xs, hxr, hxv⟩ := hx
        obtain ⟨ys, hyr, hyv⟩ := hy
        simp only [RV.agg, Ty.agg, if_true] at hxv hyv
        subst hxv; subst hyv
        have heq := fun w' => (hC.cmp _ _ hl w w' xs ys p q _ hxr hyr).1
        have hguard := (hC.cmp _ _ hl w w xs ys p q _ hxr hyr).2
        have hg : ∀ w', (eqGuard op xt xo yo (.agg xs.toArray) (.agg ys.toArray)).run P w' = .ok () w' := fun w' => by
          unfold eqGuard; split <;> simp [hguard, program, Sem.run]
        simp only [Sem.run_bind, hg, Result.andThen_ok]
        split at hr
        · simp only [D.eqv_eq, D.neqv_eq, Option.some.injEq, Prod.mk.injEq] at hr; obtain ⟨rfl, rfl⟩ := hr
          exact ⟨_, fun _ => by simp [Go.binOp, heq], .of_bool⟩
        · simp only [D.eqv_eq, D.neqv_eq, Option.some.injEq, Prod.mk.injEq] at hr; obtain ⟨rfl, rfl⟩ := hr
          exact ⟨_, fun _ => by simp [Go.binOp, heq], .of_bool⟩
        · cases hr
      · cases hr
    · cases hr
  · cases hr

theorem yield_binOp (hC : CfgOk P c w0 mu) (h : Inv w0 mu Γ st a.tmps w) (hk : ∀ q ∈ key, a.tmps.getD q.1 undef = .bool q.2) {op : BinOp} {xt yt : TypeId} {x y : Operand}
    (ho : o.op = .binOp op xt x y yt) (hq : st.quiet c key o = some (rv, ok)) (hok : ok) : Yield P Γ st a w o rv := by
  simp only [St.quiet, ho] at hq
  split at hq
  · rename_i p q hp hq'
    obtain ⟨v, hv, hr⟩ := run_binRV (P := P) (xo := x) (yo := y) hC hq hok (h.val hk hp) (h.val hk hq')
    refine ⟨v, fun w' _ => ?_, hr⟩
    have hv := hv w'
    simp only [execOp, ho]
    simp only [Sem.run_bind, Sem.run_pure] at hv ⊢
    rw [hv]; rfl
  · cases hq

end
end Go.Tm
end

/- (TmQuiet2)
  More operations that change no object: reading memory, addresses.
-/
section
namespace Go.Tm

theorem addr_add (b o n : Nat) : (⟨b, o, none⟩ : Addr).add n = ⟨b, o + n, none⟩ := by
  unfold Addr.add; split
  · rename_i h; subst h; rfl
  · rfl

theorem RV.fits_agg : ∀ {c : RV} {t : Ty}, c.fits t = true → c.agg = t.agg
  | .v t _, u, h => by simp only [RV.fits, decide_eq_true_eq] at h; subst h; rfl
  | .nl e, u, h => by simp only [RV.fits, decide_eq_true_eq] at h; subst h; rfl
  | .rf _ e _, u, h => by simp only [RV.fits, decide_eq_true_eq] at h; subst h; rfl
  | .vw _ _ t _, u, h => by simp only [RV.fits, decide_eq_true_eq] at h; subst h; rfl
  | .dd t, u, h => by simp only [RV.fits, decide_eq_true_eq] at h; subst h; rfl
  | .pr a b, .pr x y, h => rfl
  | .un, .un, _ => rfl
  | .pr _ _, .int _, h | .pr _ _, .bool, h | .pr _ _, .str, h | .pr _ _, .sl _, h | .pr _ _, .un, h => by simp [RV.fits] at h
  | .un, .int _, h | .un, .bool, h | .un, .str, h | .un, .sl _, h | .un, .pr _ _, h => by simp [RV.fits] at h
  | .bi _ _, _, h | .ptr _ _, _, h | .pv _ _, _, h | .fn _ _, _, h | .tp _, _, h => by simp [RV.fits] at h

theorem RV.fits_not_tp {c : RV} {t : Ty} (h : c.fits t = true) (a : RV) : c ≠ .tp a := by
  rintro rfl; simp [RV.fits] at h

theorem VR.of_cells {E : Env} {c : RV} {t : Ty} {vs : List Value} {v : Value} (hc : CR E c vs) (hf : c.fits t = true) (hv : valOf t vs v) : VR E c v := by
  refine VR.of1 (RV.fits_not_tp hf) ⟨vs, hc, ?_⟩
  rw [RV.fits_agg hf]; exact hv

theorem VR.to_cells {E : Env} {c : RV} {t : Ty} {v : Value} (h : VR E c v) (hf : c.fits t = true) : ∃ vs, CR E c vs ∧ valOf t vs v := by
  have h1 : VR1 E c v := by
    cases c <;> first | exact h | exact absurd rfl (RV.fits_not_tp hf _)
  obtain ⟨vs, hc, hv⟩ := h1
  refine ⟨vs, hc, ?_⟩
  rw [RV.fits_agg hf] at hv; exact hv

section
variable {P : Program} {c : Cfg} {w0 : World} {mu : Lent} {Γ : Gam} {st : St} {a : Act} {w : World} {key : Key} {o : Oper} {rv : RV} {ok : Prop}

theorem RowAt.ext {w w' : World} {b o : Nat} {cs : List Value} (h : RowAt w b o cs) (he : Ext w w') : RowAt w' b o cs := by
  intro j v hj
  have h1 := h j v hj
  have hlt : b < w.heap.size := World.block_lt_of_cell? w _ h1
  exact (cell_same (he b hlt)).trans h1

theorem run_loadVar {n : Nat} {t : TypeId} {ty : Ty} (ht : tyOf P (n + 1) t = some ty) {cs : List Value} (hl : cs.length = ty.size)
    (h1 : ty.agg = false → ty.size = 1) : ∃ v, (∀ w b o, RowAt w b o cs → (loadVar t ⟨b, o, none⟩).run P w = .ok v w) ∧ valOf ty cs v := by
  unfold loadVar
  simp only [Sem.run_bind, run_isAgg ht, Result.andThen_ok]
  cases ha : ty.agg with
  | true =>
    refine ⟨.agg cs.toArray, fun w b o hr => ?_, by simp [valOf, ha]⟩
    have h2 := run_loadCells_list (P := P) w ⟨b, o, none⟩ cs (fun j v hj => by rw [addr_add]; exact hr j v hj)
    rw [hl] at h2
    simp only [if_true, Sem.run_bind, run_sizeOf ht, Result.andThen_ok, h2, Sem.run_pure]
  | false =>
    have h3 := h1 ha
    match cs, hl with
    | [v], _ =>
      refine ⟨v, fun w b o hr => ?_, by simp [valOf, ha]⟩
      have hc := hr 0 v rfl
      simp only [Nat.add_zero] at hc
      simp [load, Sem.run, hc]
    | [], hl => simp at hl; omega
    | _ :: _ :: _, hl => simp at hl; omega

theorem Ty.size_one : ∀ {t : Ty}, t.agg = false → t.size = 1
  | .int _, _ | .bool, _ | .str, _ | .sl _, _ => rfl
  | .un, h | .pr _ _, h => by cases h

theorem getS_ty : ∀ (p : List Step) {t u : Ty} {x : t.den} {y : u.den}, getS t x p = some ⟨u, y⟩ → tyAt t p = some u
  | [], t, u, x, y, h => by
    unfold getS at h; simp only [Option.some.injEq, Sigma.mk.injEq] at h
    unfold tyAt; rw [h.1]
  | .l :: p, t, u, x, y, h => by
    cases t <;> simp only [getS, reduceCtorEq] at h
    simp only [tyAt]; exact getS_ty p h
  | .r :: p, t, u, x, y, h => by
    cases t <;> simp only [getS, reduceCtorEq] at h
    simp only [tyAt]; exact getS_ty p h
  | .ix i :: p, t, u, x, y, h => by
    cases t <;> simp only [getS, reduceCtorEq] at h
    simp only [tyAt]; exact getS_ty p h

theorem Inv.dis (_h : Inv w0 mu Γ st a.tmps w) {s : Nat} {e : Ty} {d : Bool} {xs : List e.den} (hs : look st.obs s = some (.slot e d xs)) :
    ∀ b, (envOf w Γ st.obs).ok b → b ∉ Γ.fp s := fun b hb hm => hb.2.1 (mem_owned_slot (look_mem hs) b hm)

theorem VR.addr {E : Env} {x : RV} {v : Value} (h : VR E x v) (hx : (∃ o p, x = .bi o p) ∨ (∃ s p, x = .ptr s p) ∨ (∃ t y, x = .pv t y)) :
    ∃ b o, v = .pointer (some ⟨b, o, none⟩) ∧ CR E x [.pointer (some ⟨b, o, none⟩)] := by
  rcases hx with ⟨o, p, rfl⟩ | ⟨s, p, rfl⟩ | ⟨t, y, rfl⟩
  · obtain ⟨vs, h, h2⟩ := h
    have h' := h
    obtain ⟨t, c, t', k, _, _, rfl⟩ := h
    simp only [RV.agg, Bool.false_eq_true, if_false, List.cons.injEq, and_true] at h2
    exact ⟨_, _, h2.symm, h'⟩
  · obtain ⟨vs, h, h2⟩ := h
    have h' := h
    obtain ⟨e, d, xs, t, b, o, _, _, rfl⟩ := h
    simp only [RV.agg, Bool.false_eq_true, if_false, List.cons.injEq, and_true] at h2
    exact ⟨_, _, h2.symm, h'⟩
  · obtain ⟨vs, h, h2⟩ := h
    have h' := h
    obtain ⟨b, o, cs, rfl, _⟩ := h
    simp only [RV.agg, Bool.false_eq_true, if_false, List.cons.injEq, and_true] at h2
    exact ⟨_, _, h2.symm, h'⟩

theorem St.tgt_addr {x : RV} {ty : Ty} (h : st.tgt x = some ty) : (∃ o p, x = .bi o p) ∨ (∃ s p, x = .ptr s p) ∨ (∃ t y, x = .pv t y) := by
  cases x <;> simp only [St.tgt, reduceCtorEq] at h
  · exact .inl ⟨_, _, rfl⟩
  · exact .inr (.inl ⟨_, _, rfl⟩)
  · exact .inr (.inr ⟨_, _, rfl⟩)

/-- What is loaded through a pointer. -/
theorem load_cells (h : Inv w0 mu Γ st a.tmps w) {x y : RV} {v : Value} {ty : Ty} (hx : VR (envOf w Γ st.obs) x v) (ht : st.tgt x = some ty) (hl : st.load x = some y) :
    ∃ b o cs, v = .pointer (some ⟨b, o, none⟩) ∧ RowAt w b o cs ∧ CR (envOf w Γ st.obs) y cs ∧ y.fits ty = true := by
  obtain ⟨b, o, rfl, hc⟩ := hx.addr (St.tgt_addr ht)
  cases x with
  | bi ob p =>
    obtain ⟨t, c, t', k, ho, hp, hv⟩ := hc
    simp only [List.cons.injEq, Value.pointer.injEq, Option.some.injEq, Addr.mk.injEq, and_true] at hv
    obtain ⟨rfl, rfl⟩ := hv
    have ho' : look st.obs ob = some (.box t c) := ho
    simp only [St.load, ho'] at hl
    simp only [St.tgt, ho', hp, Option.map_some, Option.some.injEq] at ht
    subst ht
    obtain ⟨hf, cs, ety, hh, hcr⟩ := h.obs ob _ (look_mem ho')
    obtain ⟨h1, h2, _⟩ := hcr.get hf hl hp
    exact ⟨_, _, _, rfl, RowAt.of_block hh, h1, h2⟩
  | ptr s p =>
    obtain ⟨e, d, xs, t, b', o', ho, hp, hv⟩ := hc
    simp only [List.cons.injEq, Value.pointer.injEq, Option.some.injEq, Addr.mk.injEq, and_true] at hv
    obtain ⟨rfl, rfl⟩ := hv
    have ho' : look st.obs s = some (.slot e d xs) := ho
    cases p with
    | nil => simp [St.load] at hl
    | cons st1 p =>
      cases st1 with
      | l => simp [St.load] at hl
      | r => simp [St.load] at hl
      | ix i =>
        obtain ⟨hsz, hsl⟩ := h.obs s _ (look_mem ho')
        obtain ⟨hi, y', vs', fp', hg, hr, hown, hf, hb⟩ := slot_get (h.dis ho') hsl hp
        simp only [St.load, ho', hg] at hl
        simp only [St.tgt, ho'] at ht
        rw [getS_ty p hg] at ht
        simp only [Option.some.injEq] at ht; subst ht
        refine ⟨_, _, vs', rfl, hr, ?_⟩
        cases hfl : t.flat with
        | true =>
          rw [hfl] at hl; simp only [cond_true, Option.some.injEq] at hl; subst hl
          have := Own.flat_fp hfl hown; subst this
          exact ⟨hown.rep (fun _ h => h) (by simp), by simp [RV.fits]⟩
        | false =>
          rw [hfl] at hl; simp only [cond_false] at hl
          cases d with
          | true =>
            simp only [cond_true, Option.some.injEq] at hl; subst hl
            exact ⟨⟨hown.rep (fun _ h => .inl h) (fun c hc => .inr (hf c hc)), ⟨e, true, xs, ho⟩, fun q hq => by
              simp only [Option.some.injEq] at hq; subst hq
              exact ⟨e, true, xs, _, _, ho, hp, hr⟩⟩, by simp [RV.fits]⟩
          | false =>
            simp only [cond_false] at hl
            cases hix : hasIx p with
            | true => rw [hix] at hl; simp at hl
            | false =>
              rw [hix] at hl; simp only [cond_false, Option.some.injEq] at hl; subst hl
              have := Own.shared_fp hown; subst this
              exact ⟨hown.rep (fun _ h => h) (by simp), by simp [RV.fits]⟩
  | pv t y' =>
    obtain ⟨b', o', cs, hv, hok, hr, hre⟩ := hc
    simp only [List.cons.injEq, Value.pointer.injEq, Option.some.injEq, Addr.mk.injEq, and_true] at hv
    obtain ⟨rfl, rfl⟩ := hv
    simp only [St.load, Option.some.injEq] at hl; subst hl
    simp only [St.tgt, Option.some.injEq] at ht; subst ht
    exact ⟨_, _, cs, rfl, hr, hre, by simp [RV.fits]⟩
  | _ => simp [St.load] at hl

theorem yield_load (hC : CfgOk P c w0 mu) (h : Inv w0 mu Γ st a.tmps w) (hk : ∀ q ∈ key, a.tmps.getD q.1 undef = .bool q.2) {t : TypeId} {x : Operand}
    (ho : o.op = .load t x) (hq : st.quiet c key o = some (rv, ok)) : Yield P Γ st a w o rv := by
  simp only [St.quiet, ho] at hq
  split at hq
  · rename_i p ty hp hty
    split at hq
    · rename_i htg
      simp only [Option.map_eq_some_iff, Prod.mk.injEq] at hq
      obtain ⟨y, hl, rfl, rfl⟩ := hq
      obtain ⟨b, o', cs, hv, hr, hcr, hf⟩ := load_cells h (h.val hk hp) htg hl
      have ht := hC.tys _ _ hty
      have hlen : cs.length = ty.size := by rw [hcr.len, RV.fits_size hf]
      obtain ⟨v, hrun, hval⟩ := run_loadVar (P := P) ht hlen Ty.size_one
      refine ⟨v, fun w' hw' => ?_, VR.of_cells hcr hf hval⟩
      have hrun' := hrun w' b o' (hr.ext (hw' (by simp [ho, isLoad])))
      simp only [execOp, ho, hv, Instr.loadAt, Instr.sureAddr, Sem.run_bind, Sem.run_pure, Result.andThen_ok, hrun']
    · cases hq
  · cases hq

theorem yield_nilCheck (h : Inv w0 mu Γ st a.tmps w) (hk : ∀ q ∈ key, a.tmps.getD q.1 undef = .bool q.2) {x : Operand}
    (ho : o.op = .nilCheck x) (hq : st.quiet c key o = some (rv, ok)) : Yield P Γ st a w o rv := by
  simp only [St.quiet, ho] at hq
  split at hq
  case h_4 => cases hq
  all_goals
    rename_i hp
    simp only [Option.some.injEq, Prod.mk.injEq] at hq
    obtain ⟨rfl, rfl⟩ := hq
    have hv := h.val hk hp
    obtain ⟨b, o', he, hc⟩ := hv.addr (by first | exact .inl ⟨_, _, rfl⟩ | exact .inr (.inl ⟨_, _, rfl⟩) | exact .inr (.inr ⟨_, _, rfl⟩))
    refine ⟨_, fun _ _ => ?_, hv⟩
    simp [execOp, ho, he]

theorem offB_append : ∀ (p q : List Bool) {t t' : Ty} {k : Nat}, t.offB p = some (t', k) → t.offB (p ++ q) = (t'.offB q).map fun r => (r.1, k + r.2)
  | [], q, t, t', k, h => by
    unfold Ty.offB at h; simp only [Option.some.injEq, Prod.mk.injEq] at h
    obtain ⟨rfl, rfl⟩ := h
    simp
  | d :: p, q, t, t', k, h => by
    cases t with
    | pr x y =>
      cases d with
      | false =>
        simp only [Ty.offB, List.cons_append] at h ⊢
        exact offB_append p q h
      | true =>
        simp only [Ty.offB, List.cons_append, Option.map_eq_some_iff, Prod.mk.injEq] at h ⊢
        obtain ⟨⟨t2, k2⟩, h, rfl, rfl⟩ := h
        rw [offB_append p q h]
        simp [Nat.add_assoc, Function.comp_def]
    | _ => simp [Ty.offB] at h

theorem addrIn_offB (w : World) (F : List Nat) : ∀ (q : List Bool) {t u : Ty} {k b o : Nat}, t.offB q = some (u, k) → addrIn w F t b o (q.map stepOf) = some (u, b, o + k)
  | [], t, u, k, b, o, h => by
    unfold Ty.offB at h; simp only [Option.some.injEq, Prod.mk.injEq] at h
    obtain ⟨rfl, rfl⟩ := h
    simp [addrIn]
  | d :: q, t, u, k, b, o, h => by
    cases t with
    | pr x y =>
      cases d with
      | false =>
        simp only [Ty.offB] at h
        simp only [List.map_cons, stepOf, addrIn]
        exact addrIn_offB w F q h
      | true =>
        simp only [Ty.offB, Option.map_eq_some_iff, Prod.mk.injEq] at h
        obtain ⟨⟨t2, k2⟩, h, rfl, rfl⟩ := h
        simp only [List.map_cons, stepOf, addrIn]
        rw [addrIn_offB w F q h]; simp [Nat.add_assoc]
    | _ => simp [Ty.offB] at h

theorem rep_getV {ok : Nat → Prop} : ∀ (q : List Bool) {t u : Ty} {k : Nat} {cs : List Value} {x : t.den}, Rep w ok t cs x → t.offB q = some (u, k) →
    ∃ y, getV t x q = some ⟨u, y⟩ ∧ Rep w ok u ((cs.drop k).take u.size) y
  | [], t, u, k, cs, x, h, hq => by
    unfold Ty.offB at hq; simp only [Option.some.injEq, Prod.mk.injEq] at hq
    obtain ⟨rfl, rfl⟩ := hq
    refine ⟨x, by simp [getV, getS], ?_⟩
    rw [List.drop_zero, List.take_of_length_le (by rw [h.len]; omega)]; exact h
  | d :: q, t, u, k, cs, x, h, hq => by
    cases t with
    | pr p r =>
      obtain ⟨v1, v2, rfl, h1, h2⟩ := h
      have hl1 := h1.len
      cases d with
      | false =>
        simp only [Ty.offB] at hq
        obtain ⟨y, hy, hr⟩ := rep_getV q h1 hq
        refine ⟨y, by simpa [getV, getS, stepOf] using hy, ?_⟩
        have hl := hr.len
        by_cases hz : u.size = 0
        · rw [hz] at hr ⊢; simpa using hr
        · have hk : k + u.size ≤ v1.length := by
            rw [List.length_take, List.length_drop] at hl; omega
          rw [List.drop_append_of_le_length (by omega), List.take_append_of_le_length (by simp; omega)]
          exact hr
      | true =>
        simp only [Ty.offB, Option.map_eq_some_iff, Prod.mk.injEq] at hq
        obtain ⟨⟨t2, k2⟩, hq, rfl, rfl⟩ := hq
        obtain ⟨y, hy, hr⟩ := rep_getV q h2 hq
        refine ⟨y, by simpa [getV, getS, stepOf] using hy, ?_⟩
        rw [← hl1, List.drop_append, List.drop_eq_nil_of_le (by omega)]
        simpa using hr
    | _ => simp [Ty.offB] at hq

theorem yield_fieldAddr (hC : CfgOk P c w0 mu) (h : Inv w0 mu Γ st a.tmps w) (hk : ∀ q ∈ key, a.tmps.getD q.1 undef = .bool q.2) {xt : TypeId} {x : Operand} {k : Nat}
    (ho : o.op = .fieldAddr xt x k) (hq : st.quiet c key o = some (rv, ok)) : Yield P Γ st a w o rv := by
  simp only [St.quiet, ho] at hq
  split at hq
  case h_2 => cases hq
  rename_i p ty hp hty
  split at hq
  case isFalse => cases hq
  rename_i htg
  split at hq
  case h_2 => cases hq
  rename_i u off hoff
  split at hq
  case isFalse => cases hq
  rename_i hsz
  simp only [Option.map_eq_some_iff, Prod.mk.injEq] at hq
  obtain ⟨y, hf, rfl, rfl⟩ := hq
  have ht := hC.tys _ _ hty
  have hagg : ty.agg = true := by
    cases ty <;> first | rfl | (cases k <;> simp [fieldPath, Ty.offB] at hoff)
  obtain ⟨fs, hu, hfs⟩ := tyOf_st ht hagg
  obtain ⟨f, hfk⟩ := field_of hfs hoff
  obtain ⟨u', o', h1, h2, h3⟩ := field_at hfs hfk
  rw [hoff] at h1
  simp only [Option.some.injEq, Prod.mk.injEq] at h1
  obtain ⟨rfl, rfl⟩ := h1
  have hfk' : fs[k]? = some f := by simpa using hfk
  have hv := h.val hk hp
  obtain ⟨b, ao, he, hc⟩ := hv.addr (St.tgt_addr htg)
  refine ⟨.pointer (some ⟨b, ao + off, none⟩), fun w' _ => ?_, ?_⟩
  · have hpl : (fieldPlace ⟨b, ao, none⟩ f).run P w' = .ok ⟨b, ao + off, none⟩ w' := by
      unfold fieldPlace
      simp only [Sem.run_bind, run_sizeOf h3, Result.andThen_ok]
      rw [if_neg (by omega)]
      simp [h2, addr_add]
    simp only [execOp, ho, he, Instr.fieldAt, Sem.run_bind, run_underlying hu, Result.andThen_ok, hfk', Instr.sureAddr, Sem.run_pure, hpl]
  · cases p with
    | bi ob q =>
      simp only [fieldAddrRV, Option.some.injEq] at hf; subst hf
      obtain ⟨t, cc, t', k', hob, hpq, hvv⟩ := hc
      simp only [List.cons.injEq, Value.pointer.injEq, Option.some.injEq, Addr.mk.injEq, and_true] at hvv
      obtain ⟨rfl, rfl⟩ := hvv
      have ho' : look st.obs ob = some (.box t cc) := hob
      simp only [St.tgt, ho', hpq, Option.map_some, Option.some.injEq] at htg; subst htg
      exact ⟨_, ⟨t, cc, u, _, hob, by rw [offB_append q _ hpq, hoff]; rfl, rfl⟩, by simp [RV.agg]⟩
    | ptr s q =>
      simp only [fieldAddrRV, Option.some.injEq] at hf; subst hf
      obtain ⟨e, d, xs, t, b', o', hob, hpq, hvv⟩ := hc
      simp only [List.cons.injEq, Value.pointer.injEq, Option.some.injEq, Addr.mk.injEq, and_true] at hvv
      obtain ⟨rfl, rfl⟩ := hvv
      have ho' : look st.obs s = some (.slot e d xs) := hob
      have htt : t = ty := by
        cases q with
        | nil => simp [St.tgt] at htg
        | cons s1 q =>
          cases s1 with
          | l => simp [St.tgt] at htg
          | r => simp [St.tgt] at htg
          | ix i =>
            obtain ⟨hsz', hsl⟩ := h.obs s _ (look_mem ho')
            obtain ⟨_, y', vs', fp', hg, _⟩ := slot_get (h.dis ho') hsl hpq
            simp only [St.tgt, ho', getS_ty q hg, Option.some.injEq] at htg
            exact htg
      subst htt
      refine ⟨_, ⟨e, d, xs, u, b, ao + off, hob, ?_, rfl⟩, by simp [RV.agg]⟩
      rw [addrH_append _ _ _ _ _ _ _ hpq]
      exact addrIn_offB w (Γ.fp s) _ hoff
    | pv t y' =>
      simp only [fieldAddrRV, Option.map_eq_some_iff] at hf
      obtain ⟨z, hz, rfl⟩ := hf
      obtain ⟨b', o', cs, hvv, hok, hr, hre⟩ := hc
      simp only [List.cons.injEq, Value.pointer.injEq, Option.some.injEq, Addr.mk.injEq, and_true] at hvv
      obtain ⟨rfl, rfl⟩ := hvv
      simp only [St.tgt, Option.some.injEq] at htg; subst htg
      obtain ⟨y2, hy2, hr2⟩ := rep_getV _ hre hoff
      rw [hy2] at hz; simp only [Option.some.injEq] at hz; subst hz
      exact ⟨_, ⟨b, ao + off, _, rfl, hok, hr.drop_take, hr2⟩, by simp [RV.agg]⟩
    | _ => simp [fieldAddrRV] at hf

end
end Go.Tm
end

/- (TmQuiet3)
  The remaining operations that change no object.
-/
section
set_option linter.unusedSimpArgs false
namespace Go.Tm

section
variable {P : Program} {c : Cfg} {w0 : World} {mu : Lent} {Γ : Gam} {st : St} {a : Act} {w : World} {key : Key} {o : Oper} {rv : RV} {ok : Prop}

theorem run_indexAt {n : Nat} {t te : TypeId} {e : Ty} (hu : P.underlying t = some (.slice te)) (he : tyOf P (n + 1) te = some e) {b off len cap : Nat} {k : IntKind} {i : Int} (h0 : 0 ≤ i) (h1 : i < len) :
    (Instr.indexAt t (.slice (some ⟨b, off, none⟩) len cap) (.int k i)).run P w = .ok (.pointer (some ⟨b, off + i.toNat * e.size, none⟩)) w := by
  have hh : 0 ≤ i ∧ i < (len : Int) := ⟨h0, h1⟩
  simp only [Instr.indexAt, asIntOf, Sem.run_bind, Sem.run_pure, Result.andThen_ok, run_underlying hu]
  by_cases hl : len ≤ 1
  · simp only [hl, decide_true, if_true, Sem.run_bind, run_underlying hu, Result.andThen_ok, Sem.run_pure, hh, and_self, run_sizeOf he, addr_add]
  · simp only [hl, decide_false, Bool.false_eq_true, if_false, Sem.run_bind, Result.andThen_ok, Sem.run_pure, hh, and_self, if_true, run_sizeOf he, addr_add]

theorem yield_indexAddr (hC : CfgOk P c w0 mu) (h : Inv w0 mu Γ st a.tmps w) (hk : ∀ q ∈ key, a.tmps.getD q.1 undef = .bool q.2) {t : TypeId} {x i : Operand}
    (ho : o.op = .indexAddr t x i) (hq : st.quiet c key o = some (rv, ok)) (hok : ok) : Yield P Γ st a w o rv := by
  simp only [St.quiet, ho] at hq
  split at hq
  · -- rf
    rename_i s e n ki iv e' hp hi hty
    change Int at iv
    split at hq
    case isFalse => cases hq
    rename_i hee; subst hee
    simp only [Option.some.injEq, Prod.mk.injEq] at hq
    obtain ⟨rfl, rfl⟩ := hq
    simp only [D.inR_eq, D.cnt_eq] at hok
    try rw [show D.nat iv = iv.toNat by rw [D.nat_eq]]
    have hok1 : (0 : Int) ≤ iv := hok.1
    have hok2 := hok.2
    obtain ⟨te, hu, hte⟩ := tyOf_sl (hC.tys _ _ hty)
    obtain ⟨hie, _⟩ := (h.val hk hi).int
    obtain ⟨vs, ⟨hvs, d, xs, hob, hn⟩, hv⟩ := h.val hk hp
    simp only [RV.agg, Bool.false_eq_true, if_false] at hv
    have hob' : look st.obs s = some (.slot e d xs) := hob
    obtain ⟨hsz, aa, cap, hh, hc, hm, hx⟩ := h.obs s _ (look_mem hob')
    have hhe : a.eval x = .slice aa xs.length cap := by
      rw [hvs] at hv; rw [← (List.cons.inj hv).1]; exact hh
    rcases hx with ⟨h0, _⟩ | ⟨b, cs, ety, fps, rfl, hb, _, _, hfp, _⟩
    · exfalso; omega
    · refine ⟨.pointer (some ⟨b, 0 + iv.toNat * e.size, none⟩), fun _ _ => ?_, ?_⟩
      · simp only [execOp, ho, hie, hhe, run_indexAt hu hte hok1 (show iv < (xs.length : Int) by omega), Sem.run_bind, Result.andThen_ok, Sem.run_pure]
      · refine ⟨_, ⟨e, d, xs, e, b, 0 + iv.toNat * e.size, hob, ?_, rfl⟩, by simp [RV.agg]⟩
        have hh' : (envOf w Γ st.obs).hdr s = .slice (some ⟨b, 0, none⟩) xs.length cap := hh
        simp only [addrH, hh']
        have hmem : b ∈ (envOf w Γ st.obs).fp s := by
          show b ∈ Γ.fp s
          have : Γ.fp s = b :: fps.flatten := hfp
          rw [this]; simp
        rw [if_pos ⟨by omega, hmem⟩, addrIn]
  · -- vw
    rename_i s p e xs ki iv e' hp hi hty
    change Int at iv
    change List e.den at xs
    split at hq
    case h_2 => cases hq
    rename_i es xss hslot
    split at hq
    case isFalse => cases hq
    rename_i hee; subst hee
    simp only [Option.some.injEq, Prod.mk.injEq] at hq
    obtain ⟨rfl, rfl⟩ := hq
    simp only [D.inR_eq, D.cnt_eq] at hok
    try rw [show D.nat iv = iv.toNat by rw [D.nat_eq]]
    have hok1 : (0 : Int) ≤ iv := hok.1
    have hok2 := hok.2
    obtain ⟨te, hu, hte⟩ := tyOf_sl (hC.tys _ _ hty)
    obtain ⟨hie, _⟩ := (h.val hk hi).int
    obtain ⟨vs, ⟨hrep, _, hpath⟩, hv⟩ := h.val hk hp
    simp only [RV.agg, Ty.agg, Bool.false_eq_true, if_false] at hv
    subst hv
    obtain ⟨e1, d1, xs1, b1, o1, hob1, haddr, hrow⟩ := hpath p rfl
    have hob1' : look st.obs s = some (.slot e1 d1 xs1) := hob1
    rw [hslot] at hob1'
    simp only [Option.some.injEq, Ob.slot.injEq] at hob1'
    obtain ⟨rfl, rfl, hxx⟩ := hob1'
    have hxx' := eq_of_heq hxx; subst hxx'
    obtain ⟨aa, cap, hval, hcap, hlm, hne⟩ := hrep
    have hval' : a.eval x = .slice aa xs.length cap := (List.cons.inj hval).1
    have hlen : 0 < xs.length := by omega
    -- the slice lies alone in its block
    cases p with
    | nil => simp [addrH] at haddr
    | cons st1 p =>
      cases st1 with
      | l => simp [addrH] at haddr
      | r => simp [addrH] at haddr
      | ix j =>
        obtain ⟨hsz, hsl⟩ := h.obs s _ (look_mem hslot)
        obtain ⟨_, y', vs', fp', hg, hr', hown, hf, hb⟩ := slot_get (h.dis hslot) hsl haddr
        rcases hown with ⟨_, hd, rfl, a2, cap2, hd2, _, _, hx2⟩ | ⟨h1, _⟩
        case inr => cases h1
        have hcell : hd = a.eval x := by
          have h1 := hr' 0 _ rfl
          have h2 := hrow 0 _ rfl
          rw [h1] at h2; exact Option.some.inj h2
        rw [hd2, hval'] at hcell
        simp only [Value.slice.injEq] at hcell
        obtain ⟨rfl, hl2, rfl⟩ := hcell
        rcases hx2 with ⟨h0, _⟩ | ⟨b, cs, ety, fps, rfl, hbb, _, _, hfp, _⟩
        · exfalso; omega
        · have hbm : b ∈ Γ.fp s := hf b (by rw [hfp]; simp)
          refine ⟨.pointer (some ⟨b, 0 + iv.toNat * e.size, none⟩), fun _ _ => ?_, ?_⟩
          · simp only [execOp, ho, hie, hval', run_indexAt hu hte hok1 hok2, Sem.run_bind, Result.andThen_ok, Sem.run_pure]
          · refine ⟨_, ⟨_, true, _, e, b, 0 + iv.toNat * e.size, hob1, ?_, rfl⟩, by simp [RV.agg]⟩
            rw [addrH_append _ _ _ _ _ _ _ haddr]
            have hc0 := hrow 0 _ rfl
            rw [Nat.add_zero, hval'] at hc0
            have hlt : iv.toNat < List.length xs := by omega
            have hc1 : w.cell? ⟨b1, o1, none⟩ = some (.slice (some ⟨b, 0, none⟩) (List.length xs) cap2) := hc0
            simp only [addrIn, envOf, hc1, hlt, hbm, and_self, if_true]
  · -- shared
    rename_i e xs ki iv e' hp hi hty
    change Int at iv
    change List e.den at xs
    split at hq
    case isFalse => cases hq
    rename_i hee; subst hee
    simp only [Option.some.injEq, Prod.mk.injEq] at hq
    obtain ⟨rfl, rfl⟩ := hq
    simp only [D.inR_eq, D.cnt_eq] at hok
    try rw [show D.nat iv = iv.toNat by rw [D.nat_eq]]
    have hok1 : (0 : Int) ≤ iv := hok.1
    have hok2 := hok.2
    obtain ⟨te, hu, hte⟩ := tyOf_sl (hC.tys _ _ hty)
    obtain ⟨hie, _⟩ := (h.val hk hi).int
    obtain ⟨vs, hrep, hv⟩ := h.val hk hp
    simp only [RV.agg, Ty.agg, Bool.false_eq_true, if_false] at hv
    subst hv
    obtain ⟨aa, cap, hval, hcap, hlm, hne⟩ := hrep
    have hval' : a.eval x = .slice aa xs.length cap := (List.cons.inj hval).1
    have hlen : 0 < xs.length := by omega
    obtain ⟨b, off, rfl, hb, hel⟩ := hne (by intro h0; rw [h0] at hlen; simp at hlen)
    have hlt : iv.toNat < xs.length := by omega
    obtain ⟨cs, hrow, hre⟩ := hel iv.toNat hlt
    refine ⟨.pointer (some ⟨b, off + iv.toNat * e.size, none⟩), fun _ _ => ?_, ?_⟩
    · simp only [execOp, ho, hie, hval', run_indexAt hu hte hok1 hok2, Sem.run_bind, Result.andThen_ok, Sem.run_pure]
    · refine ⟨_, ⟨b, off + iv.toNat * e.size, cs, rfl, hb, hrow, ?_⟩, by simp [RV.agg]⟩
      rw [get_of_lt hlt]; exact hre
  · cases hq

theorem yield_index (hC : CfgOk P c w0 mu) (h : Inv w0 mu Γ st a.tmps w) (hk : ∀ q ∈ key, a.tmps.getD q.1 undef = .bool q.2) {t : TypeId} {x i : Operand}
    (ho : o.op = .index t x i) (hq : st.quiet c key o = some (rv, ok)) (hok : ok) : Yield P Γ st a w o rv := by
  simp only [St.quiet, ho] at hq
  split at hq
  case h_2 => cases hq
  rename_i s ki iv hp hi hty
  change Int at iv
  change ByteArray at s
  simp only [D.sat_eq, D.inR_eq, D.scnt_eq, Option.some.injEq, Prod.mk.injEq] at hq
  obtain ⟨rfl, rfl⟩ := hq
  have hok1 : (0 : Int) ≤ iv := hok.1
  have hok2 := hok.2
  have hu := tyOf_str (hC.tys _ _ hty)
  obtain ⟨hie, _⟩ := (h.val hk hi).int
  obtain ⟨hxe, _⟩ := (h.val hk hp).str
  have hlt : iv.toNat < s.size := by omega
  have hget : s[iv.toNat]? = some (s[iv.toNat]) := by simp [hlt]
  refine ⟨.int .u8 (s[iv.toNat].toNat : Int), fun _ _ => ?_, ?_⟩
  · simp only [execOp, ho, hie, hxe, Instr.index, asIntOf, Sem.run_bind, Sem.run_pure, Result.andThen_ok, run_underlying hu, hok1, if_true, hget]
  · have e : s.data.toList.getD iv.toNat 0 = s[iv.toNat] := by
      rw [getD_of_lt (by simpa using hlt)]; rfl
    rw [e]
    have := s[iv.toNat].toNat_lt
    exact .of_int (by simp [IntKind.min, IntKind.signed]) (by simp [IntKind.max, IntKind.signed, IntKind.bits]; omega)

theorem tupAt_sound {E : Env} : ∀ {x y : RV} {vs : List Value} {i : Nat}, TR E x vs → tupAt x i = some y → ∃ v, vs[i]? = some v ∧ VR1 E y v
  | .pr p q, y, _, 0, h, hy => by
    obtain ⟨v, rest, rfl, h1, h2⟩ := h
    simp only [tupAt, Option.some.injEq] at hy; subst hy
    exact ⟨v, rfl, h1⟩
  | .pr p q, y, _, i + 1, h, hy => by
    obtain ⟨v, rest, rfl, h1, h2⟩ := h
    simp only [tupAt] at hy
    obtain ⟨u, hu, hv⟩ := tupAt_sound h2 hy
    exact ⟨u, by simpa using hu, hv⟩
  | .un, y, _, i, h, hy => by simp [tupAt] at hy
  | .v .., _, _, _, h, _ | .nl .., _, _, _, h, _ | .rf .., _, _, _, h, _ | .vw .., _, _, _, h, _ | .bi .., _, _, _, h, _ | .ptr .., _, _, _, h, _ | .pv .., _, _, _, h, _ | .fn .., _, _, _, h, _ | .dd .., _, _, _, h, _ | .tp .., _, _, _, h, _ => h.elim

theorem VR1.not_tp {E : Env} {x : RV} {v : Value} (h : VR1 E x v) : VR E x v := by
  refine VR.of1 (fun a e => ?_) h
  subst e
  obtain ⟨vs, h, _⟩ := h
  exact h

theorem yield_extract (h : Inv w0 mu Γ st a.tmps w) (hk : ∀ q ∈ key, a.tmps.getD q.1 undef = .bool q.2) {x : Operand} {i : Nat}
    (ho : o.op = .extract x i) (hq : st.quiet c key o = some (rv, ok)) : Yield P Γ st a w o rv := by
  simp only [St.quiet, ho] at hq
  split at hq
  case h_2 => cases hq
  rename_i p hp
  simp only [Option.map_eq_some_iff, Prod.mk.injEq] at hq
  obtain ⟨y, hy, rfl, rfl⟩ := hq
  obtain ⟨vs, he, ht⟩ := h.val hk hp
  obtain ⟨v, hv, hr⟩ := tupAt_sound ht hy
  refine ⟨v, fun _ _ => ?_, hr.not_tp⟩
  simp [execOp, ho, he, Instr.extract, hv]

theorem allSome_get {α β : Type} {f : α → Option β} : ∀ {l : List α} {bs : List β}, allSome f l = some bs → bs.length = l.length ∧ ∀ (i : Nat) (a : α), l[i]? = some a → ∃ b, bs[i]? = some b ∧ f a = some b
  | [], bs, h => by simp only [allSome, Option.some.injEq] at h; subst h; simp
  | x :: l, bs, h => by
    simp only [allSome] at h
    split at h
    · rename_i b bs' hb hbs
      simp only [Option.some.injEq] at h; subst h
      obtain ⟨h1, h2⟩ := allSome_get hbs
      refine ⟨by simp [h1], fun i a hi => ?_⟩
      cases i with
      | zero => simp only [List.getElem?_cons_zero, Option.some.injEq] at hi; subst hi; exact ⟨b, rfl, hb⟩
      | succ i => simp only [List.getElem?_cons_succ] at hi ⊢; exact h2 i a hi
    · cases h

theorem yield_makeFunc (h : Inv w0 mu Γ st a.tmps w) (hk : ∀ q ∈ key, a.tmps.getD q.1 undef = .bool q.2) {f : FuncId} {first caps : Array Operand}
    (ho : o.op = .makeFunc (.func f) first caps) (hq : st.quiet c key o = some (rv, ok)) : Yield P Γ st a w o rv := by
  simp only [St.quiet, ho] at hq
  split at hq
  case h_2 => cases hq
  rename_i os hf hcs
  simp only [Option.some.injEq, Prod.mk.injEq] at hq
  obtain ⟨rfl, rfl⟩ := hq
  have hf' : first = #[] := by simpa using hf
  subst hf'
  obtain ⟨hl, hget⟩ := allSome_get hcs
  have hcap : ∀ (i : Nat) (x : Operand), caps.toList[i]? = some x → ∃ o, os[i]? = some o ∧ a.eval x = .pointer (some ⟨Γ.bx o, 0, none⟩) ∧ ∃ t cc, look st.obs o = some (.box t cc) := by
    intro i x hx
    obtain ⟨b, hb, hfb⟩ := hget i x hx
    refine ⟨b, hb, ?_⟩
    cases hvx : st.val key none x with
    | none => rw [hvx] at hfb; cases hfb
    | some r =>
      rw [hvx] at hfb
      simp only [Option.bind_some] at hfb
      cases r <;> simp only [biOf, reduceCtorEq] at hfb
      rename_i oo pp
      cases pp with
      | cons _ _ => simp [biOf] at hfb
      | nil =>
        simp only [biOf, Option.some.injEq] at hfb; subst hfb
        obtain ⟨vs, ⟨t, cc, t', k, hob, hpo, rfl⟩, hv⟩ := h.val hk hvx
        simp only [RV.agg, Bool.false_eq_true, if_false, List.cons.injEq, and_true] at hv
        unfold Ty.offB at hpo
        simp only [Option.some.injEq, Prod.mk.injEq] at hpo
        obtain ⟨rfl, rfl⟩ := hpo
        exact ⟨hv.symm, t, cc, hob⟩
  refine ⟨.func (.func f) #[] (caps.map a.eval), fun _ _ => ?_, [.func (.func f) #[] (caps.map a.eval)], ⟨?_, ?_⟩, by simp [RV.agg]⟩
  · simp [execOp, ho, Instr.makeFunc]
  · congr 2
    apply Array.ext'
    simp only [Array.toList_map]
    apply List.ext_getElem?
    intro i
    simp only [List.getElem?_map]
    cases hx : caps.toList[i]? with
    | none =>
      have : os[i]? = none := by
        rw [List.getElem?_eq_none_iff] at hx ⊢; omega
      simp [this]
    | some x =>
      obtain ⟨oo, ho1, ho2, _⟩ := hcap i x hx
      simp [ho1, ho2, envOf]
  · intro oo hoo
    obtain ⟨i, hi, rfl⟩ := List.getElem_of_mem hoo
    have : caps.toList[i]? = some (caps.toList[i]'(by omega)) := by simp [List.getElem?_eq_getElem (by omega : i < caps.toList.length)]
    obtain ⟨o2, ho1, _, t, cc, h3⟩ := hcap i _ this
    rw [List.getElem?_eq_getElem hi] at ho1
    simp only [Option.some.injEq] at ho1; subst ho1
    exact ⟨t, cc, h3⟩

theorem yield_pick (h : Inv w0 mu Γ st a.tmps w) (hk : ∀ q ∈ key, a.tmps.getD q.1 undef = .bool q.2) {q x y : Operand}
    (ho : o.op = .pick q x y) (hq : st.quiet c key o = some (rv, ok)) : Yield P Γ st a w o rv := by
  simp only [St.quiet, ho] at hq
  split at hq
  case h_2 => cases hq
  rename_i b hb
  split at hq
  case h_2 => cases hq
  rename_i r
  split at hq
  case h_2 => cases hq
  rename_i t p u p' hx hy
  simp only [D.ife_eq, Option.map_eq_some_iff, Prod.mk.injEq] at hq
  obtain ⟨z, hz, rfl, rfl⟩ := hq
  obtain ⟨e, he⟩ := castTo_inj hz
  subst e; subst he
  have hbv := (h.val hk hb).bool
  have hbt : a.tmps.getD r undef = .bool b := hbv
  cases b with
  | true =>
    have hv := h.val (key := (r, true) :: key) (by intro q hq; rcases List.mem_cons.1 hq with rfl | hq; exact hbt; exact hk q hq) hx
    exact ⟨a.eval x, fun _ _ => by simp [execOp, ho, hbv, asBool], hv⟩
  | false =>
    have hv := h.val (key := (r, false) :: key) (by intro q hq; rcases List.mem_cons.1 hq with rfl | hq; exact hbt; exact hk q hq) hy
    exact ⟨a.eval y, fun _ _ => by simp [execOp, ho, hbv, asBool], hv⟩

theorem yield_unOp (h : Inv w0 mu Γ st a.tmps w) (hk : ∀ q ∈ key, a.tmps.getD q.1 undef = .bool q.2) {op : UnOp} {t : TypeId} {x : Operand}
    (ho : o.op = .unOp op t x) (hq : st.quiet c key o = some (rv, ok)) : Yield P Γ st a w o rv := by
  simp only [St.quiet, ho] at hq
  split at hq
  case h_3 => cases hq
  · rename_i b hb
    simp only [D.not_eq, D.neg_eq, D.wrap_eq, Option.some.injEq, Prod.mk.injEq] at hq; obtain ⟨rfl, rfl⟩ := hq
    exact ⟨.bool (!b), fun _ _ => by simp [execOp, ho, (h.val hk hb).bool, Op.unary], .of_bool⟩
  · rename_i k n hb
    simp only [D.not_eq, D.neg_eq, D.wrap_eq, Option.some.injEq, Prod.mk.injEq] at hq; obtain ⟨rfl, rfl⟩ := hq
    exact ⟨.int k (k.wrap (0 - n)), fun _ _ => by simp [execOp, ho, (h.val hk hb).int.1, Op.unary, Op.intArith], .of_int (wrap_within k _).1 (wrap_within k _).2⟩

theorem yield_convert_int (hC : CfgOk P c w0 mu) (h : Inv w0 mu Γ st a.tmps w) (hk : ∀ q ∈ key, a.tmps.getD q.1 undef = .bool q.2) {s d : TypeId} {x : Operand} {sty : Ty} {k k' : IntKind} {n : Int}
    (ho : o.op = .convert s d x) (hs : look c.tys s = some sty) (hd : look c.tys d = some (.int k)) (hb : st.val key none x = some (.v (.int k') n)) : Yield P Γ st a w o (.v (.int k) (D.wrap k n)) := by
  have hu := tyOf_int (hC.tys _ _ hd)
  have hsu : ∃ ds, P.underlying s = some ds := by
    rcases tyOf_cases (hC.tys _ _ hs) with ⟨_, h, _⟩ | ⟨h, _⟩ | ⟨h, _⟩ | ⟨_, _, h, _⟩ | ⟨_, h, _⟩ <;> exact ⟨_, h⟩
  obtain ⟨ds, hsu⟩ := hsu
  rw [D.wrap_eq]
  refine ⟨.int k (k.wrap n), fun _ _ => ?_, .of_int (wrap_within k _).1 (wrap_within k _).2⟩
  simp only [execOp, ho, (h.val hk hb).int.1, convert, Sem.run_bind, run_underlying hsu, run_underlying hu, Result.andThen_ok]
  cases ds <;> simp [Conv.intToInt]

end
end Go.Tm
end

/- (TmQuiet4)
  Struct values, slicing, length, the greater and the smaller of two.
-/
section
set_option linter.unusedSimpArgs false
namespace Go.Tm

theorem get_offB : ∀ {p : List Bool} {c y : RV} {t : Ty}, c.fits t = true → c.get p = some y → ∃ u k, t.offB p = some (u, k)
  | [], c, y, t, _, _ => ⟨t, 0, by unfold Ty.offB; rfl⟩
  | d :: p, c, y, t, hf, hg => by
    simp only [RV.get] at hg
    split at hg
    case h_2 => cases hg
    rename_i a b hs
    have ht : ∃ x z, t = .pr x z := by
      cases c <;> simp only [RV.split, reduceCtorEq] at hs
      · rename_i t' x
        cases t' <;> simp only [reduceCtorEq] at hs
        simp only [RV.fits, decide_eq_true_eq] at hf; subst hf; exact ⟨_, _, rfl⟩
      · rename_i t' x
        cases t' <;> simp only [reduceCtorEq] at hs
        simp only [RV.fits, decide_eq_true_eq] at hf; subst hf; exact ⟨_, _, rfl⟩
      · rename_i t'
        cases t' <;> simp only [reduceCtorEq] at hs
        simp only [RV.fits, decide_eq_true_eq] at hf; subst hf; exact ⟨_, _, rfl⟩
      · cases t <;> simp [RV.fits] at hf
        exact ⟨_, _, rfl⟩
    obtain ⟨x, z, rfl⟩ := ht
    obtain ⟨f1, f2⟩ := RV.fits_split hf hs
    cases d with
    | false =>
      simp only [Bool.false_eq_true, if_false] at hg
      obtain ⟨u, k, h⟩ := get_offB f1 hg
      exact ⟨u, k, by simpa [Ty.offB] using h⟩
    | true =>
      simp only [if_true] at hg
      obtain ⟨u, k, h⟩ := get_offB f2 hg
      exact ⟨u, x.size + k, by simp [Ty.offB, h]⟩

section
variable {P : Program} {c : Cfg} {w0 : World} {mu : Lent} {Γ : Gam} {st : St} {a : Act} {w : World} {key : Key} {o : Oper} {rv : RV} {ok : Prop}

theorem run_part {n : Nat} {t : TypeId} {u : Ty} (ht : tyOf P (n + 1) t = some u) {cs : List Value} {off : Nat} (hl : off + u.size ≤ cs.length) :
    ∃ v, (∀ w, (part t cs.toArray off).run P w = .ok v w) ∧ valOf u ((cs.drop off).take u.size) v := by
  unfold part
  simp only [Sem.run_bind, run_isAgg ht, Result.andThen_ok]
  cases ha : u.agg with
  | true =>
    refine ⟨.agg ((cs.drop off).take u.size).toArray, fun w => ?_, by simp [valOf, ha]⟩
    simp only [if_true, Sem.run_bind, run_sizeOf ht, Result.andThen_ok, Sem.run_pure]
    congr 2
    apply Array.ext'
    simp [List.extract]
  | false =>
    have h1 := Ty.size_one ha
    have hlt : off < cs.length := by omega
    refine ⟨cs[off], fun w => ?_, ?_⟩
    · simp [hlt]
    · simp only [valOf, ha, h1, Bool.false_eq_true, if_false]
      rw [List.drop_eq_getElem_cons hlt]; rfl

theorem yield_field (hC : CfgOk P c w0 mu) (h : Inv w0 mu Γ st a.tmps w) (hk : ∀ q ∈ key, a.tmps.getD q.1 undef = .bool q.2) {xt : TypeId} {x : Operand} {k : Nat}
    (ho : o.op = .field xt x k) (hq : st.quiet c key o = some (rv, ok)) : Yield P Γ st a w o rv := by
  simp only [St.quiet, ho] at hq
  split at hq
  case h_2 => cases hq
  rename_i p ty hp hty
  cases hf : p.fits ty with
  | false => rw [hf] at hq; cases hq
  | true =>
    rw [hf] at hq
    simp only [cond_true, Option.map_eq_some_iff, Prod.mk.injEq] at hq
    obtain ⟨y, hy, rfl, rfl⟩ := hq
    obtain ⟨u, off, hoff⟩ := get_offB hf hy
    have ht := hC.tys _ _ hty
    have hagg : ty.agg = true := by
      cases ty <;> first | rfl | (cases k <;> simp [fieldPath, Ty.offB] at hoff)
    obtain ⟨fs, hu, hfs⟩ := tyOf_st ht hagg
    obtain ⟨f, hfk⟩ := field_of hfs hoff
    obtain ⟨u', o', h1, h2, h3⟩ := field_at hfs hfk
    rw [hoff] at h1
    simp only [Option.some.injEq, Prod.mk.injEq] at h1
    obtain ⟨rfl, rfl⟩ := h1
    have hfk' : fs[k]? = some f := by simpa using hfk
    obtain ⟨vs, hcr, hval⟩ := (h.val hk hp).to_cells hf
    simp only [valOf, hagg, if_true] at hval
    obtain ⟨hc2, hfy, hlen⟩ := hcr.get hf hy hoff
    obtain ⟨v, hrun, hvv⟩ := run_part (P := P) h3 hlen
    refine ⟨v, fun w' _ => ?_, VR.of_cells hc2 hfy hvv⟩
    simp only [execOp, ho, hval, Instr.field, Sem.run_bind, run_underlying hu, Result.andThen_ok, hfk', asAgg, Sem.run_pure, h2, Nat.zero_add, hrun]

/-! ### struct values -/

theorem rep_zero {ok : Nat → Prop} : ∀ (t : Ty), Rep w ok t t.zcells t.dflt
  | .int k => ⟨rfl, by cases k <;> simp [Ty.dflt, IntKind.min, IntKind.signed, IntKind.bits], by cases k <;> simp [Ty.dflt, IntKind.max, IntKind.signed, IntKind.bits]⟩
  | .bool => rfl
  | .str => ⟨rfl, by simp [Ty.dflt]⟩
  | .un => rfl
  | .pr a b => ⟨a.zcells, b.zcells, rfl, rep_zero a, rep_zero b⟩
  | .sl e => ⟨none, 0, rfl, Nat.le_refl _, by simp [Ty.dflt], fun h => absurd rfl h⟩

theorem cr_zero {E : Env} : ∀ (t : Ty), CR E (zeroRV t) t.zcells ∧ (zeroRV t).fits t = true
  | .int k => ⟨rep_zero (.int k), by simp [zeroRV, RV.fits]⟩
  | .bool => ⟨rep_zero .bool, by simp [zeroRV, RV.fits]⟩
  | .str => ⟨rep_zero .str, by simp [zeroRV, RV.fits]⟩
  | .un => ⟨rep_zero .un, by simp [zeroRV, RV.fits]⟩
  | .sl e => ⟨⟨none, rfl⟩, by simp [zeroRV, RV.fits]⟩
  | .pr a b => by
    simp only [zeroRV]
    cases (Ty.pr a b).flat with
    | true => exact ⟨rep_zero (.pr a b), by simp [RV.fits]⟩
    | false => exact ⟨⟨_, _, rfl, (cr_zero a).1, (cr_zero b).1⟩, by simp [RV.fits, (cr_zero (E := E) a).2, (cr_zero (E := E) b).2]⟩

theorem zeroOk_sound : ∀ {t : Ty} {vs r : List Value}, zeroOk t vs = some r → vs = t.zcells ++ r
  | .int k, vs, r, h => by
    unfold zeroOk at h
    split at h <;> try (cases h; done)
    all_goals (try (rename_i heq; cases heq))
    split at h
    · rename_i hh; obtain ⟨rfl, rfl⟩ := hh
      simp only [Option.some.injEq] at h; subst h; rfl
    · cases h
  | .bool, vs, r, h => by
    unfold zeroOk at h
    split at h <;> try (cases h; done)
    all_goals (try (rename_i heq; cases heq))
    simp only [Option.some.injEq] at h; subst h; rfl
  | .str, vs, r, h => by
    unfold zeroOk at h
    split at h <;> try (cases h; done)
    all_goals (try (rename_i heq; cases heq))
    split at h
    · rename_i s _ hh
      simp only [Option.some.injEq] at h; subst h
      have : s = ByteArray.empty := by
        apply ByteArray.ext
        exact Array.eq_empty_of_size_eq_zero hh
      subst this; rfl
    · cases h
  | .sl e, vs, r, h => by
    unfold zeroOk at h
    split at h <;> try (cases h; done)
    all_goals (try (rename_i heq; cases heq))
    simp only [Option.some.injEq] at h; subst h; rfl
  | .un, vs, r, h => by
    unfold zeroOk at h
    simp only [Option.some.injEq] at h; subst h; rfl
  | .pr a b, vs, r, h => by
    simp only [zeroOk] at h
    split at h
    · rename_i r' h1
      rw [zeroOk_sound h1, zeroOk_sound h, Ty.zcells, List.append_assoc]
    · cases h

theorem foldl_updL (off : Nat) : ∀ (l : List Value) (n : Nat) (cs : Array Value), off + n + l.length ≤ cs.size →
    ((l.zipIdx n).foldl (fun cs (p : Value × Nat) => cs.setIfInBounds (off + p.2) p.1) cs).toList = updL cs.toList (off + n) l
  | [], n, cs, h => by simp [updL]
  | x :: l, n, cs, h => by
    simp only [List.length_cons] at h
    simp only [List.zipIdx_cons, List.foldl_cons]
    rw [foldl_updL off l (n + 1) _ (by simp; omega)]
    apply List.ext_getElem?
    intro j
    rw [updL_get (by simp; omega), updL_get (by simp; omega)]
    simp only [Array.toList_setIfInBounds, List.length_cons]
    by_cases h1 : off + (n + 1) ≤ j ∧ j < off + (n + 1) + l.length
    · rw [if_pos h1, if_pos (by omega), show j - (off + n) = (j - (off + (n + 1))) + 1 by omega, List.getElem?_cons_succ]
    · rw [if_neg h1]
      by_cases h2 : j = off + n
      · subst h2
        rw [if_pos (by omega), Nat.sub_self]
        simp [List.getElem?_set, show off + n < cs.size by omega]
      · rw [if_neg (by omega), List.getElem?_set_ne (by omega)]

theorem fields_places {n : Nat} : ∀ {fs : List Field} {off : Nat} {ty : Ty}, fieldsTy (tyOf P n) fs off = some ty →
    ∃ places, fs.mapM (fun f => (P.info? f.type).map fun i => (f.offset, i.size)) = some places ∧
      ∀ (k : Nat) (f : Field), fs[k]? = some f → ∃ u, tyOf P n f.type = some u ∧ places[k]? = some (f.offset, u.size)
  | [], _, _, _ => ⟨[], rfl, by simp⟩
  | f :: fs, off, ty, h => by
    simp only [fieldsTy] at h
    split at h
    case isFalse => cases h
    split at h
    case h_2 => cases h
    rename_i u hu
    simp only [Option.map_eq_some_iff] at h
    obtain ⟨r, hr, rfl⟩ := h
    obtain ⟨places, hp, hpl⟩ := fields_places hr
    have hi : ∃ i, P.info? f.type = some i ∧ i.size = u.size := by
      cases n with
      | zero => cases hu
      | succ n => obtain ⟨i, z, hi, hs, _⟩ := tyOf_info hu; exact ⟨i, hi, hs⟩
    obtain ⟨i, hi, hs⟩ := hi
    refine ⟨(f.offset, i.size) :: places, by simp [List.mapM_cons, hi, hp], fun k f' hk => ?_⟩
    cases k with
    | zero => simp only [List.getElem?_cons_zero, Option.some.injEq] at hk; subst hk; exact ⟨u, hu, by simp [hs]⟩
    | succ k => simp only [List.getElem?_cons_succ] at hk ⊢; exact hpl k f' hk

theorem fill_sound (h : Inv w0 mu Γ st a.tmps w) {ty : Ty} {place : Nat → Option (Nat × Nat)}
    (hplace : ∀ k u off, ty.offB (fieldPath k) = some (u, off) → place k = some (off, u.size)) :
    ∀ {rs : List (Nat × RV)} {parts : List (Nat × Value)} {r r' : RV} {cells : Array Value}, CR (envOf w Γ st.obs) r cells.toList → r.fits ty = true →
      buildRV ty rs r = some r' → parts.length = rs.length → (∀ (i : Nat) k x, rs[i]? = some (k, x) → ∃ v, parts[i]? = some (k, v) ∧ VR (envOf w Γ st.obs) x v) →
      ∃ cells', Instr.fill place cells parts = some cells' ∧ CR (envOf w Γ st.obs) r' cells'.toList ∧ r'.fits ty = true
  | [], parts, r, r', cells, hc, hf, hb, hl, _ => by
    simp only [buildRV, Option.some.injEq] at hb; subst hb
    have : parts = [] := by simpa using hl
    subst this
    exact ⟨cells, rfl, hc, hf⟩
  | (k, x) :: rs, parts, r, r', cells, hc, hf, hb, hl, hget => by
    simp only [buildRV] at hb
    split at hb
    case h_2 => cases hb
    rename_i u off r1 hoff hput
    cases hfx : (x.fits u && x.noDead) with
    | false => rw [hfx] at hb; cases hb
    | true =>
      rw [hfx] at hb; simp only [cond_true] at hb
      simp only [Bool.and_eq_true] at hfx
      obtain ⟨v, hv, hvr⟩ := hget 0 k x rfl
      match parts, hl, hv with
      | (k', v') :: parts, hl, hv =>
        simp only [List.getElem?_cons_zero, Option.some.injEq, Prod.mk.injEq] at hv
        obtain ⟨rfl, rfl⟩ := hv
        have hv1 : VR1 (envOf w Γ st.obs) x v' := by
          cases x <;> first | exact hvr | exact absurd rfl (RV.fits_not_tp hfx.1 _)
        have hcx := h.cells hv1 hfx.2
        have hlx : v'.cells.size = u.size := by
          have := hcx.len; rw [RV.fits_size hfx.1] at this; simpa using this
        obtain ⟨hc', hf', hk'⟩ := hc.put hf hput hoff hcx hfx.1
        have hpl := hplace k' u off hoff
        have hin : off + v'.cells.size ≤ cells.size := by simpa using hk'
        have hfill : Instr.fill place cells ((k', v') :: parts) =
            Instr.fill place (v'.cells.zipIdx.foldl (fun cs (p : Value × Nat) => cs.setIfInBounds (off + p.2) p.1) cells) parts := by
          rw [Instr.fill]
          simp only [hpl]
          split
          · rename_i hh
            exfalso
            simp only [Bool.or_eq_true, decide_eq_true_eq] at hh
            rcases hh with hh | hh
            · exact hh hlx
            · omega
          · rfl
        have hcells : (v'.cells.zipIdx.foldl (fun cs (p : Value × Nat) => cs.setIfInBounds (off + p.2) p.1) cells).toList = updL cells.toList off v'.cells.toList := by
          have := foldl_updL off v'.cells.toList 0 cells (by simpa using hin)
          rw [← Array.foldl_toList]
          simpa using this
        rw [hfill]
        refine fill_sound h hplace (r := r1) ?_ hf' hb (by simpa using hl) ?_
        · rw [hcells]; exact hc'
        · intro i k x hi
          exact hget (i + 1) k x (by simpa using hi)

theorem joinV_sound {E : Env} : ∀ {ty : Ty} {x : RV} {vs : List Value}, CR E x vs → x.fits ty = true → CR E (joinV ty x) vs ∧ (joinV ty x).fits ty = true
  | .pr p q, .pr x y, vs, h, hf => by
    obtain ⟨v1, v2, rfl, h1, h2⟩ := h
    simp only [RV.fits, Bool.and_eq_true] at hf
    have i1 := joinV_sound h1 hf.1
    have i2 := joinV_sound h2 hf.2
    simp only [joinV]
    split
    · rename_i t z u z' e1 e2
      rw [e1] at i1; rw [e2] at i2
      simp only [RV.fits, decide_eq_true_eq] at i1 i2
      obtain ⟨c1, rfl⟩ := i1
      obtain ⟨c2, rfl⟩ := i2
      exact ⟨⟨v1, v2, rfl, c1, c2⟩, by simp [RV.fits]⟩
    · exact ⟨⟨v1, v2, rfl, i1.1, i2.1⟩, by simp [RV.fits, i1.2, i2.2]⟩
  | .un, .un, vs, h, _ => ⟨h, by simp [joinV, RV.fits]⟩
  | .int _, x, vs, h, hf | .bool, x, vs, h, hf | .str, x, vs, h, hf | .sl _, x, vs, h, hf => by simp only [joinV]; exact ⟨h, hf⟩
  | .pr _ _, .v .., vs, h, hf | .pr _ _, .nl .., vs, h, hf | .pr _ _, .rf .., vs, h, hf | .pr _ _, .vw .., vs, h, hf | .pr _ _, .bi .., vs, h, hf
  | .pr _ _, .ptr .., vs, h, hf | .pr _ _, .pv .., vs, h, hf | .pr _ _, .fn .., vs, h, hf | .pr _ _, .dd .., vs, h, hf | .pr _ _, .un, vs, h, hf | .pr _ _, .tp .., vs, h, hf => by
    simp only [joinV]; exact ⟨h, hf⟩
  | .un, .v .., vs, h, hf | .un, .nl .., vs, h, hf | .un, .rf .., vs, h, hf | .un, .vw .., vs, h, hf | .un, .bi .., vs, h, hf
  | .un, .ptr .., vs, h, hf | .un, .pv .., vs, h, hf | .un, .fn .., vs, h, hf | .un, .dd .., vs, h, hf | .un, .pr .., vs, h, hf | .un, .tp .., vs, h, hf => by
    simp only [joinV]; exact ⟨h, hf⟩

theorem yield_build (hC : CfgOk P c w0 mu) (h : Inv w0 mu Γ st a.tmps w) (hk : ∀ q ∈ key, a.tmps.getD q.1 undef = .bool q.2) {t : TypeId} {ps : Array (Nat × Operand)}
    (ho : o.op = .build t ps) (hq : st.quiet c key o = some (rv, ok)) : Yield P Γ st a w o rv := by
  simp only [St.quiet, ho] at hq
  split at hq
  case h_2 => cases hq
  rename_i ty rs hty hrs
  cases hagg : ty.agg with
  | false => rw [hagg] at hq; cases hq
  | true =>
    rw [hagg] at hq
    simp only [cond_true, Option.map_eq_some_iff, Prod.mk.injEq] at hq
    obtain ⟨r, hr, rfl, rfl⟩ := hq
    have ht := hC.tys _ _ hty
    obtain ⟨i, z, hi, hsz, hz, hzo, _⟩ := tyOf_info ht
    obtain ⟨fs, hu, hfs⟩ := tyOf_st ht hagg
    obtain ⟨places, hpl, hplk⟩ := fields_places hfs
    obtain ⟨hlen, hget⟩ := allSome_get hrs
    have hzc : z.cells.toList = ty.zcells := by simpa using zeroOk_sound hzo
    have hplace : ∀ k u off, ty.offB (fieldPath k) = some (u, off) → (fun k => places.toArray[k]?) k = some (off, u.size) := by
      intro k u off hoff
      obtain ⟨f, hfk⟩ := field_of hfs hoff
      obtain ⟨u', o', h1, h2, h3⟩ := field_at hfs hfk
      rw [hoff] at h1
      simp only [Option.some.injEq, Prod.mk.injEq] at h1
      obtain ⟨rfl, rfl⟩ := h1
      obtain ⟨u2, h4, h5⟩ := hplk k f hfk
      rw [h3] at h4; simp only [Option.some.injEq] at h4; subst h4
      simp [h5, h2]
    obtain ⟨cells', hfill, hcr, hfit⟩ := fill_sound h (ty := ty) (place := fun k => places.toArray[k]?) hplace
      (rs := rs) (parts := (ps.map fun (i, x) => (i, a.eval x)).toList) (r := zeroRV ty) (r' := r) (cells := z.cells)
      (by rw [hzc]; exact (cr_zero ty).1) (cr_zero (E := envOf w Γ st.obs) ty).2 hr (by simp [hlen]) (by
        intro i k x hi
        have hlt : i < ps.toList.length := by
          rw [← hlen]
          rcases Nat.lt_or_ge i rs.length with h | h
          · exact h
          · rw [List.getElem?_eq_none h] at hi; cases hi
        obtain ⟨b, hb1, hb2⟩ := hget i (ps.toList[i]) (List.getElem?_eq_getElem hlt)
        rw [hi] at hb1; simp only [Option.some.injEq] at hb1; subst hb1
        simp only [Option.map_eq_some_iff, Prod.mk.injEq] at hb2
        obtain ⟨y, hy, hy1, rfl⟩ := hb2
        refine ⟨a.eval (ps.toList[i]).2, ?_, h.val hk hy⟩
        have hlt' : i < ps.size := by simpa using hlt
        have hy2 : ps[i].1 = k := by simpa using hy1
        simp [hy2, hlt'])
    have hbuilt : P.built t (ps.map fun (i, x) => (i, a.eval x)).toList = some cells' := by
      unfold Program.built
      simp only [hi, hu, hz, hpl]
      exact hfill
    obtain ⟨j1, j2⟩ := joinV_sound hcr hfit
    refine ⟨.agg cells', fun w' _ => ?_, VR.of_cells j1 j2 (by simp [valOf, hagg])⟩
    simp only [execOp, ho, Sem.run_bind, run_build w' t _ cells' hbuilt, Result.andThen_ok, Sem.run_pure]

end
end Go.Tm
end

/- (TmQuiet5)
  Slicing, length, the greater and the smaller of two; and all operations without calls together.
-/
section
set_option linter.unusedSimpArgs false
namespace Go.Tm

section
variable {P : Program} {c : Cfg} {w0 : World} {mu : Lent} {Γ : Gam} {st : St} {a : Act} {w : World} {key : Key} {o : Oper} {rv : RV} {ok : Prop}

/-- A value that is a slice: what it looks like. -/
theorem slice_val (h : Inv w0 mu Γ st a.tmps w) {x : RV} {v : Value} {e : Ty} (hx : VR (envOf w Γ st.obs) x v) (hf : x.fits (.sl e) = true) (hd : x.noDead = true) :
    ∃ ad len cap, v = .slice ad len cap ∧ lenRV x = some (.v (.int .i64) (len : Int)) ∧ len ≤ lenMax ∧ len ≤ cap := by
  obtain ⟨vs, hc, hv⟩ := hx.to_cells hf
  simp only [valOf, Ty.agg, Bool.false_eq_true, if_false] at hv
  subst hv
  cases x <;> simp only [RV.fits, Bool.false_eq_true, decide_eq_true_eq, RV.noDead] at hf hd
  · subst hf
    obtain ⟨ad, cap, hv, h1, h2, _⟩ := hc
    exact ⟨ad, _, cap, (List.cons.inj hv).1, by simp only [lenRV, D.len_eq], h2, h1⟩
  · obtain ⟨ad, hv⟩ := hc
    exact ⟨ad, 0, 0, (List.cons.inj hv).1, rfl, Nat.zero_le _, Nat.le_refl _⟩
  · obtain ⟨hv, d, xs, hob, hn⟩ := hc
    have hob' : look st.obs _ = some (.slot _ d xs) := hob
    obtain ⟨_, ad, cap, hh, h1, h2, _⟩ := h.obs _ _ (look_mem hob')
    refine ⟨ad, xs.length, cap, (List.cons.inj hv).1.trans hh, ?_, h2, h1⟩
    simp [lenRV, hn, D.int_eq]
  · subst hf
    obtain ⟨⟨ad, cap, hv, h1, h2, _⟩, _⟩ := hc
    exact ⟨ad, _, cap, (List.cons.inj hv).1, by simp only [lenRV, D.len_eq], h2, h1⟩

theorem str_val {x : RV} {v : Value} (hx : VR (envOf w Γ st.obs) x v) (hf : x.fits .str = true) (hd : x.noDead = true) :
    ∃ s, v = .string s ∧ lenRV x = some (.v (.int .i64) (s.size : Int)) ∧ s.size ≤ lenMax ∨ lenRV x = none := by
  cases x <;> simp only [RV.fits, Bool.false_eq_true, decide_eq_true_eq, RV.noDead, reduceCtorEq] at hf hd
  · subst hf
    rename_i s
    obtain ⟨rfl, h1⟩ := hx.str
    exact ⟨s, .inl ⟨rfl, by simp only [lenRV, D.slen_eq], h1⟩⟩
  · subst hf
    exact ⟨ByteArray.empty, .inr rfl⟩

theorem i64_of_len {n : Nat} (h : n ≤ lenMax) : IntKind.i64.min ≤ (n : Int) ∧ (n : Int) ≤ IntKind.i64.max := by
  have h1 : IntKind.i64.min = -9223372036854775808 := by decide
  have h2 : IntKind.i64.max = 9223372036854775807 := by decide
  unfold lenMax at h
  omega

theorem yield_len (hC : CfgOk P c w0 mu) (h : Inv w0 mu Γ st a.tmps w) (hk : ∀ q ∈ key, a.tmps.getD q.1 undef = .bool q.2) {args : Array Operand} {ts : Array TypeId}
    (ho : o.op = .call { callee := .builtin .len, args := args, argTypes := ts }) (hq : st.quiet c key o = some (rv, ok)) : Yield P Γ st a w o rv := by
  simp only [St.quiet, ho] at hq
  split at hq
  case h_2 => cases hq
  rename_i x t hargs hts
  have hargs' : args = #[x] := by apply Array.ext'; simpa using hargs
  have hts' : ts = #[t] := by apply Array.ext'; simpa using hts
  subst hargs'; subst hts'
  split at hq
  case h_2 => cases hq
  rename_i p ty hp hty
  cases hfd : (p.fits ty && p.noDead) with
  | false => rw [hfd] at hq; cases hq
  | true =>
    rw [hfd] at hq
    simp only [Bool.and_eq_true] at hfd
    simp only [cond_true, Option.map_eq_some_iff, Prod.mk.injEq] at hq
    obtain ⟨y, hy, rfl, rfl⟩ := hq
    have hv := h.val hk hp
    cases ty with
    | sl e =>
      obtain ⟨ad, len, cap, hve, hl, hm, _⟩ := slice_val h hv hfd.1 hfd.2
      rw [hl] at hy; simp only [Option.some.injEq] at hy; subst hy
      obtain ⟨te, hu, _⟩ := tyOf_sl (hC.tys _ _ hty)
      refine ⟨.int .i64 (len : Int), fun _ _ => ?_, .of_int (i64_of_len hm).1 (i64_of_len hm).2⟩
      simp [execOp, ho, resolve, invoke, builtin, Builtin.len_, hve, run_underlying hu, goInt]
    | str =>
      obtain ⟨s, ⟨hve, hl, hm⟩ | hl⟩ := str_val hv hfd.1 hfd.2
      · rw [hl] at hy; simp only [Option.some.injEq] at hy; subst hy
        have hu := tyOf_str (hC.tys _ _ hty)
        refine ⟨.int .i64 (s.size : Int), fun _ _ => ?_, .of_int (i64_of_len hm).1 (i64_of_len hm).2⟩
        simp [execOp, ho, resolve, invoke, builtin, Builtin.len_, hve, run_underlying hu, goInt]
      · rw [hl] at hy; cases hy
    | _ => cases p <;> simp [RV.fits, lenRV] at hfd hy <;> (try (obtain ⟨rfl, _⟩ := hfd; simp [lenRV] at hy)) <;> (try (subst hfd; simp [lenRV] at hy))

theorem yield_max (h : Inv w0 mu Γ st a.tmps w) (hk : ∀ q ∈ key, a.tmps.getD q.1 undef = .bool q.2) {args : Array Operand} {ts : Array TypeId}
    (ho : o.op = .call { callee := .builtin .max, args := args, argTypes := ts }) (hq : st.quiet c key o = some (rv, ok)) : Yield P Γ st a w o rv := by
  simp only [St.quiet, ho] at hq
  split at hq
  case h_2 => cases hq
  rename_i x y hargs
  have hargs' : args = #[x, y] := by apply Array.ext'; simpa using hargs
  subst hargs'
  split at hq
  case h_2 => cases hq
  rename_i k p k' q hp hq'
  split at hq
  case isFalse => cases hq
  rename_i hkk; subst hkk
  simp only [D.max_eq, D.min_eq, Option.some.injEq, Prod.mk.injEq] at hq; obtain ⟨rfl, rfl⟩ := hq
  have h1 := (h.val hk hp).int
  have h2 := (h.val hk hq').int
  refine ⟨.int k (if (q : Int) > p then q else p), fun _ _ => ?_, ?_⟩
  · simp [execOp, ho, resolve, invoke, builtin, Builtin.max_, Builtin.max2, h1.1, h2.1]
  · by_cases hlt : (q : Int) > p
    · simp only [hlt, if_true]; exact .of_int h2.2.1 h2.2.2
    · simp only [hlt, if_false]; exact .of_int h1.2.1 h1.2.2

theorem yield_min (h : Inv w0 mu Γ st a.tmps w) (hk : ∀ q ∈ key, a.tmps.getD q.1 undef = .bool q.2) {args : Array Operand} {ts : Array TypeId}
    (ho : o.op = .call { callee := .builtin .min, args := args, argTypes := ts }) (hq : st.quiet c key o = some (rv, ok)) : Yield P Γ st a w o rv := by
  simp only [St.quiet, ho] at hq
  split at hq
  case h_2 => cases hq
  rename_i x y hargs
  have hargs' : args = #[x, y] := by apply Array.ext'; simpa using hargs
  subst hargs'
  split at hq
  case h_2 => cases hq
  rename_i k p k' q hp hq'
  split at hq
  case isFalse => cases hq
  rename_i hkk; subst hkk
  simp only [D.max_eq, D.min_eq, Option.some.injEq, Prod.mk.injEq] at hq; obtain ⟨rfl, rfl⟩ := hq
  have h1 := (h.val hk hp).int
  have h2 := (h.val hk hq').int
  refine ⟨.int k (if (q : Int) < p then q else p), fun _ _ => ?_, ?_⟩
  · simp [execOp, ho, resolve, invoke, builtin, Builtin.min_, Builtin.min2, h1.1, h2.1]
  · by_cases hlt : (q : Int) < p
    · simp only [hlt, if_true]; exact .of_int h2.2.1 h2.2.2
    · simp only [hlt, if_false]; exact .of_int h1.2.1 h1.2.2

/-! ### slicing -/

theorem run_bounds (isSlice : Bool) {len cap : Nat} {lo hi : Option Value} {l h : Nat} (hlo : (lo = none ∧ l = 0) ∨ ∃ k, lo = some (.int k (l : Int))) (hhi : (hi = none ∧ h = len) ∨ ∃ k, hi = some (.int k (h : Int)))
    (h1 : l ≤ h) (h2 : h ≤ len) (h3 : len ≤ cap) : (Instr.sliceBounds isSlice len cap lo hi none).run P w = .ok (l, h, cap) w := by
  have a1 : (0 : Int) ≤ (l : Int) ∧ (l : Int) ≤ (h : Int) := by omega
  have a2 : (0 : Int) ≤ (h : Int) ∧ (h : Int) ≤ (cap : Int) := by omega
  rcases hlo with ⟨rfl, rfl⟩ | ⟨k, rfl⟩ <;> rcases hhi with ⟨rfl, rfl⟩ | ⟨k', rfl⟩
  · simp [Instr.sliceBounds]
  · simp only [Instr.sliceBounds, Instr.sliceBound, asIntOf, Sem.run_bind, Sem.run_pure, Result.andThen_ok, a2, and_self, if_true, Int.toNat_natCast]
  · simp only [Instr.sliceBounds, Instr.sliceBound, asIntOf, Sem.run_bind, Sem.run_pure, Result.andThen_ok, a1, and_self, if_true, Int.toNat_natCast]
  · simp only [Instr.sliceBounds, Instr.sliceBound, asIntOf, Sem.run_bind, Sem.run_pure, Result.andThen_ok, a1, a2, and_self, if_true, Int.toNat_natCast]

theorem run_sliceAt_sl {n : Nat} {t te : TypeId} {e : Ty} (hu : P.underlying t = some (.slice te)) (he : tyOf P (n + 1) te = some e) {ad : Option Addr} {len cap : Nat} {lo hi : Option Value} {l h : Nat}
    (hb : (Instr.sliceBounds true len cap lo hi none).run P w = .ok (l, h, cap) w) :
    (Instr.sliceAt t (.slice ad len cap) lo hi none).run P w = .ok (.slice (if cap = l then ad else ad.map (·.add (l * e.size))) (h - l) (cap - l)) w := by
  simp only [Instr.sliceAt, Instr.slice, Sem.run_bind, run_underlying hu, Result.andThen_ok, hb, run_sizeOf he, Sem.run_pure]

/-- A part of shared data. -/
theorem rep_cut {okk : Nat → Prop} {e : Ty} {xs : List e.den} {ad : Option Addr} {cap l h : Nat} (hr : Rep w okk (.sl e) [.slice ad xs.length cap] xs) (h1 : l ≤ h) (h2 : h ≤ xs.length) :
    Rep w okk (.sl e) [.slice (if cap = l then ad else ad.map (·.add (l * e.size))) (h - l) (cap - l)] ((xs.take h).drop l) := by
  obtain ⟨a', cap', hv', hc, hm, hne⟩ := hr
  have := (List.cons.inj hv').1
  simp only [Value.slice.injEq, true_and] at this
  obtain ⟨rfl, rfl⟩ := this
  have hlen : ((xs.take h).drop l).length = h - l := by
    rw [List.length_drop, List.length_take]; omega
  refine ⟨(if cap = l then ad else ad.map (·.add (l * e.size))), cap - l, ?_, ?_, ?_, ?_⟩
  · rw [hlen]
  · rw [hlen]; omega
  · rw [hlen]; omega
  · intro hne'
    have hlt : l < h := by
      rcases Nat.lt_or_ge l h with hh | hh
      · exact hh
      · exfalso; apply hne'
        apply List.eq_nil_of_length_eq_zero; omega
    obtain ⟨b, o', rfl, hb, hel⟩ := hne (by intro h0; subst h0; simp at h2; omega)
    refine ⟨b, o' + l * e.size, ?_, hb, fun i hi => ?_⟩
    · rw [if_neg (by omega)]; simp [addr_add]
    · rw [hlen] at hi
      obtain ⟨cs, hr, hre⟩ := hel (l + i) (by omega)
      refine ⟨cs, ?_, ?_⟩
      · rw [show o' + l * e.size + i * e.size = o' + (l + i) * e.size by rw [Nat.add_mul]; omega]; exact hr
      · simpa using hre

theorem bnd_run (h : Inv w0 mu Γ st a.tmps w) (hk : ∀ q ∈ key, a.tmps.getD q.1 undef = .bool q.2) {b : Option Operand} {b' : Option RV}
    (hb : (match b with | none => some none | some y => (st.val key none y).map some) = some b') {d m : Nat} {i : Int} (hi : bnd b' (d : Int) = some i) (hm : i = (m : Int)) :
    (b.map a.eval = none ∧ m = d) ∨ ∃ k, b.map a.eval = some (.int k (m : Int)) := by
  cases b with
  | none =>
    simp only [Option.some.injEq] at hb; subst hb
    simp only [bnd, Option.some.injEq] at hi
    exact .inl ⟨rfl, by omega⟩
  | some y =>
    simp only [Option.map_eq_some_iff] at hb
    obtain ⟨r, hr, rfl⟩ := hb
    unfold bnd at hi
    split at hi
    · rename_i heq; cases heq
    · rename_i n k _ heq
      simp only [Option.some.injEq] at heq hi
      subst heq
      exact .inr ⟨_, by simp only [Option.map_some, (h.val hk hr).int.1]; rw [hi, hm]⟩
    · cases hi

theorem asView_sound (h : Inv w0 mu Γ st a.tmps w) {x : RV} {v : Value} (hx : VR (envOf w Γ st.obs) x v) : VR (envOf w Γ st.obs) (st.asView x) v := by
  cases x <;> simp only [St.asView] <;> try exact hx
  rename_i s e n
  split
  · rename_i e' d xs hob
    obtain ⟨vs, ⟨hvs, d', xs', hob', hn⟩, hv⟩ := hx
    simp only [RV.agg, Bool.false_eq_true, if_false] at hv
    subst hv
    have h1 : look st.obs s = some (.slot e d' xs') := hob'
    rw [hob] at h1
    simp only [Option.some.injEq, Ob.slot.injEq] at h1
    obtain ⟨rfl, rfl, hxx⟩ := h1
    have := eq_of_heq hxx; subst this
    obtain ⟨hsz, hsl⟩ := h.obs s _ (look_mem hob)
    refine ⟨[v], ⟨?_, ⟨_, _, _, hob⟩, fun q hq => by cases hq⟩, by simp [RV.agg, Ty.agg]⟩
    rw [hvs]
    exact hsl.rep_of (fun b hb => .inr hb) fun cs x f hf ho => ho.rep (fun b hb => .inl hb) (fun b hb => .inr (hf b hb))
  · exact hx

theorem yield_slice (hC : CfgOk P c w0 mu) (h : Inv w0 mu Γ st a.tmps w) (hk : ∀ q ∈ key, a.tmps.getD q.1 undef = .bool q.2) {t : TypeId} {x : Operand} {lo hi mx : Option Operand}
    (ho : o.op = .slice t x lo hi mx) (hq : st.quiet c key o = some (rv, ok)) (hok : ok) : Yield P Γ st a w o rv := by
  simp only [St.quiet, ho] at hq
  split at hq
  case h_2 => cases hq
  rename_i p lo' hi' ty hp hlo hhi hty
  cases hfd : (p.fits ty && p.noDead) with
  | false => rw [hfd] at hq; cases hq
  | true =>
    rw [hfd] at hq
    simp only [Bool.and_eq_true] at hfd
    simp only [cond_true] at hq
    have hv := h.val hk hp
    cases hz : isZeroCut lo hi mx with
    | true =>
      rw [hz] at hq; simp only [cond_true] at hq
      unfold isZeroCut at hz
      split at hz
      case h_2 => cases hz
      rename_i n m
      simp only [Bool.and_eq_true, decide_eq_true_eq] at hz
      obtain ⟨rfl, rfl⟩ := hz
      cases ty <;> simp only [nlOf, reduceCtorEq, Option.some.injEq, Prod.mk.injEq] at hq
      obtain ⟨rfl, rfl⟩ := hq
      rename_i e
      obtain ⟨ad, len, cap, hve, _, _, _⟩ := slice_val h hv hfd.1 hfd.2
      obtain ⟨te, hu, hte⟩ := tyOf_sl (hC.tys _ _ hty)
      refine ⟨.slice ad 0 0, fun _ _ => ?_, ⟨[.slice ad 0 0], ⟨ad, rfl⟩, by simp [RV.agg]⟩⟩
      have e0 : a.eval (.const (.int .i64 0)) = .int .i64 0 := rfl
      simp [execOp, ho, hve, e0, Instr.sliceAt, Instr.slice, run_underlying hu, Instr.sliceBounds, Instr.sliceBound, asIntOf, run_sizeOf hte]
    | false =>
      rw [hz] at hq; simp only [cond_false] at hq
      cases hmx : mx with
      | some _ => rw [hmx] at hq; simp at hq
      | none =>
        rw [hmx] at hq
        simp only [Option.isSome_none, cond_false] at hq
        have hv' := asView_sound h hv
        subst hmx
        unfold sliceRV at hq
        split at hq
        · -- a string
          rename_i s heq
          rw [heq] at hv'
          obtain ⟨hse, hsm⟩ := hv'.str
          change ByteArray at s
          have hty' : ty = .str := by
            cases p <;> simp only [St.asView, RV.v.injEq, reduceCtorEq] at heq
            · obtain ⟨rfl, _⟩ := heq; exact (by simpa [RV.fits] using hfd.1 : _ = ty).symm
            · split at heq <;> cases heq
          subst hty'
          have hu := tyOf_str (hC.tys _ _ hty)
          split at hq
          case h_2 => cases hq
          rename_i i j hi1 hj1
          simp only [D.ssub_eq, D.cut_eq, D.cut2_eq, D.scnt_eq, D.cnt_eq, Option.some.injEq, Prod.mk.injEq] at hq
          simp only [D.slen_eq, D.len_eq] at hi1 hj1
          obtain ⟨rfl, rfl⟩ := hq
          obtain ⟨o1, o2, o3⟩ := hok
          have b1 := bnd_run h hk hlo (d := 0) (m := i.toNat) hi1 (by omega)
          have b2 := bnd_run h hk hhi (m := j.toNat) hj1 (by omega)
          have hb := fun w' => run_bounds (P := P) (w := w') false b1 b2 (by omega) (by omega) (Nat.le_refl _)
          refine ⟨.string (s.extract i.toNat j.toNat), fun w' _ => ?_, .of_str ?_⟩
          · simp only [execOp, ho, hse, Option.map_none, Instr.sliceAt, Instr.slice, Sem.run_bind, run_underlying hu, Result.andThen_ok, Option.isSome_none, Bool.false_eq_true, if_false, hb w', Sem.run_pure]
          · have : (s.extract i.toNat j.toNat).size ≤ s.size := by rw [ByteArray.size_extract]; omega
            omega
        · -- shared data
          rename_i e xs heq
          rw [heq] at hv'
          change List e.den at xs
          have hty' : ty = .sl e := by
            cases p <;> simp only [St.asView, RV.v.injEq, reduceCtorEq] at heq
            · obtain ⟨rfl, _⟩ := heq; exact (by simpa [RV.fits] using hfd.1 : _ = ty).symm
            · split at heq <;> cases heq
          subst hty'
          obtain ⟨te, hu, hte⟩ := tyOf_sl (hC.tys _ _ hty)
          split at hq
          case h_2 => cases hq
          rename_i i j hi1 hj1
          simp only [D.ssub_eq, D.cut_eq, D.cut2_eq, D.scnt_eq, D.cnt_eq, Option.some.injEq, Prod.mk.injEq] at hq
          simp only [D.slen_eq, D.len_eq] at hi1 hj1
          obtain ⟨rfl, rfl⟩ := hq
          obtain ⟨o1, o2, o3⟩ := hok
          obtain ⟨vs, hrep, hvv⟩ := hv'
          simp only [RV.agg, Ty.agg, Bool.false_eq_true, if_false] at hvv
          subst hvv
          have hrep' := hrep
          obtain ⟨ad, cap, hve, hc, _⟩ := hrep'
          have hve' : a.eval x = .slice ad (List.length xs) cap := (List.cons.inj hve).1
          have b1 := bnd_run h hk hlo (d := 0) (m := i.toNat) hi1 (by omega)
          have b2 := bnd_run h hk hhi (m := j.toNat) hj1 (by omega)
          have hb := fun w' => run_bounds (P := P) (w := w') true b1 b2 (by omega) (by omega) hc
          rw [hve'] at hrep
          have hcut := rep_cut (l := i.toNat) (h := j.toNat) hrep (by omega) (by omega)
          refine ⟨.slice (if cap = i.toNat then ad else ad.map (·.add (i.toNat * e.size))) (j.toNat - i.toNat) (cap - i.toNat), fun w' _ => ?_, ⟨_, hcut, by simp [RV.agg, Ty.agg]⟩⟩
          simp only [execOp, ho, hve', Option.map_none, Sem.run_bind, run_sliceAt_sl hu hte (hb w'), Result.andThen_ok, Sem.run_pure]
        · -- a view
          rename_i s q e xs heq
          rw [heq] at hv'
          change List e.den at xs
          have hty' : ty = .sl e := by
            cases p <;> simp only [St.asView, RV.vw.injEq, reduceCtorEq] at heq
            · rename_i s' e' n'
              simp only [RV.fits, decide_eq_true_eq] at hfd
              split at heq
              · rename_i e2 d2 xs2 hob
                simp only [RV.vw.injEq, Ty.sl.injEq] at heq
                obtain ⟨rfl, _, rfl, _⟩ := heq
                obtain ⟨vs, ⟨_, d', xs', hob', _⟩, _⟩ := hv
                have h1 : look st.obs s' = some (.slot e' d' xs') := hob'
                rw [hob] at h1
                simp only [Option.some.injEq, Ob.slot.injEq] at h1
                obtain ⟨rfl, _⟩ := h1
                exact hfd.1.symm
              · cases heq
            · obtain ⟨_, _, rfl, _⟩ := heq; exact (by simpa [RV.fits] using hfd.1 : _ = ty).symm
          subst hty'
          obtain ⟨te, hu, hte⟩ := tyOf_sl (hC.tys _ _ hty)
          split at hq
          case h_2 => cases hq
          rename_i i j hi1 hj1
          simp only [D.ssub_eq, D.cut_eq, D.cut2_eq, D.scnt_eq, D.cnt_eq, Option.some.injEq, Prod.mk.injEq] at hq
          simp only [D.slen_eq, D.len_eq] at hi1 hj1
          obtain ⟨rfl, rfl⟩ := hq
          obtain ⟨o1, o2, o3⟩ := hok
          obtain ⟨vs, ⟨hrep, hob, _⟩, hvv⟩ := hv'
          simp only [RV.agg, Ty.agg, Bool.false_eq_true, if_false] at hvv
          subst hvv
          have hrep' := hrep
          obtain ⟨ad, cap, hve, hc, _⟩ := hrep'
          have hve' : a.eval x = .slice ad (List.length xs) cap := (List.cons.inj hve).1
          have b1 := bnd_run h hk hlo (d := 0) (m := i.toNat) hi1 (by omega)
          have b2 := bnd_run h hk hhi (m := j.toNat) hj1 (by omega)
          have hb := fun w' => run_bounds (P := P) (w := w') true b1 b2 (by omega) (by omega) hc
          rw [hve'] at hrep
          have hcut := rep_cut (l := i.toNat) (h := j.toNat) hrep (by omega) (by omega)
          refine ⟨.slice (if cap = i.toNat then ad else ad.map (·.add (i.toNat * e.size))) (j.toNat - i.toNat) (cap - i.toNat), fun w' _ => ?_, ⟨_, ⟨hcut, hob, fun q hq => by cases hq⟩, by simp [RV.agg, Ty.agg]⟩⟩
          simp only [execOp, ho, hve', Option.map_none, Sem.run_bind, run_sliceAt_sl hu hte (hb w'), Result.andThen_ok, Sem.run_pure]
        · cases hq

end
end Go.Tm
end

/- (TmCall)
  Calls of functions that read shared data and return data without slices; the memory grows.
-/
section
set_option linter.unusedSimpArgs false
namespace Go.Tm

/-- The memory has grown: nothing that was there has changed. -/
structure Grow (w w' : World) : Prop where
  ext : Ext w w'
  size : w.heap.size ≤ w'.heap.size
  same : w'.os = w.os ∧ w'.tape = w.tape ∧ w'.output = w.output

theorem Grow.refl (w : World) : Grow w w := ⟨fun _ _ => rfl, Nat.le_refl _, rfl, rfl, rfl⟩
theorem Grow.trans {w w' w'' : World} (h : Grow w w') (h' : Grow w' w'') : Grow w w'' :=
  ⟨fun b hb => (h'.ext b (Nat.lt_of_lt_of_le hb h.size)).trans (h.ext b hb), Nat.le_trans h.size h'.size,
    h'.same.1.trans h.same.1, h'.same.2.1.trans h.same.2.1, h'.same.2.2.trans h.same.2.2⟩

theorem Grow.drew (w : World) : Grow w { w with drawn := w.drawn + 1 } := ⟨fun _ _ => rfl, Nat.le_refl _, rfl, rfl, rfl⟩

theorem sameOb_w (w w' : World) (Γ : Gam) (obs : List (Nat × Ob)) (m : Nat) : SameOb (envOf w Γ obs) (envOf w' Γ obs) m :=
  ⟨rfl, rfl, rfl, fun _ _ xs h => ⟨_, xs, h, rfl⟩, fun _ c h => ⟨c, h⟩⟩

theorem VR.grow {Γ : Gam} {obs : List (Nat × Ob)} {w w' : World} (hlt : ∀ b ∈ owned Γ obs, b < w.heap.size) (hg : Grow w w') {rv : RV} {v : Value}
    (h : VR (envOf w Γ obs) rv v) : VR (envOf w' Γ obs) rv v :=
  VR.mono (E := envOf w Γ obs) (E' := envOf w' Γ obs) (fun b hb => ⟨Nat.lt_of_lt_of_le hb.1 hg.size, hb.2⟩) (fun b hb => hg.ext b hb.1) (fun m _ => sameOb_w w w' Γ obs m) (fun m hm b hb => by
    obtain ⟨e, d, xs, ho⟩ := h.reads_ob m hm
    exact hg.ext b (hlt b (mem_owned_slot (look_mem ho) b hb))) h

theorem Inv.grow {w0 : World} {mu : Lent} {Γ : Gam} {st : St} {tmps : Array Value} {w w' : World} (h : Inv w0 mu Γ st tmps w) (hg : Grow w w') : Inv w0 mu Γ st tmps w' where
  size := h.size
  regs := fun r k rv hm hk => (h.regs r k rv hm hk).grow h.lt hg
  off := h.off
  obs := fun o ob hm => by
    refine ObR.mono (E := envOf w Γ st.obs) (E' := envOf w' Γ st.obs) (fun b hb => ⟨Nat.lt_of_lt_of_le hb.1 hg.size, hb.2⟩) (fun b hb => hg.ext b hb.1) rfl rfl rfl (h.obs o ob hm) ?_ ?_
    · rintro t c rfl
      obtain ⟨_, cs, ety, hh, hc⟩ := h.obs o _ hm
      refine ⟨hg.ext _ (Array.getElem?_eq_some_iff.1 hh).1, fun m _ => sameOb_w w w' Γ st.obs m, fun m hm2 b hb => ?_⟩
      obtain ⟨e, d, xs, ho⟩ := hc.reads_ob m hm2
      exact hg.ext b (h.lt b (mem_owned_slot (look_mem ho) b hb))
    · rintro e d xs rfl
      exact fun b hb => hg.ext b (h.lt b (mem_owned_slot hm b hb))
  ids := h.ids
  nodup := h.nodup
  low := h.low
  frame := fun b hb hm => by
    rw [hg.ext b (Nat.lt_of_lt_of_le hb h.grown)]; exact h.frame b hb hm
  grown := Nat.le_trans h.grown hg.size
  same := ⟨hg.same.1.trans h.same.1, hg.same.2.1.trans h.same.2.1, hg.same.2.2.trans h.same.2.2⟩
  pin := h.pin
  rlt := fun b hb => Nat.lt_of_lt_of_le (h.rlt b hb) hg.size
  nop := h.nop

/-! ### the one encoding of data without slices -/

def Ty.enc : (t : Ty) → t.den → List Value
  | .int k, n => [.int k n]
  | .bool, b => [.bool b]
  | .str, s => [.string s]
  | .un, _ => []
  | .pr a b, x => a.enc x.1 ++ b.enc x.2
  | .sl _, _ => []

def Ty.encV (t : Ty) (x : t.den) : Value := if t.agg then .agg (t.enc x).toArray else (t.enc x).headD undef

theorem Rep.enc {w : World} {ok : Nat → Prop} : ∀ {t : Ty} {vs : List Value} {x : t.den}, t.flat = true → Rep w ok t vs x → vs = t.enc x
  | .int _, _, _, _, h => h.1
  | .bool, _, _, _, h => h
  | .str, _, _, _, h => h.1
  | .un, _, _, _, h => h
  | .pr a b, _, x, hf, h => by
    obtain ⟨v1, v2, rfl, h1, h2⟩ := h
    simp only [Ty.flat, Bool.and_eq_true] at hf
    rw [Rep.enc hf.1 h1, Rep.enc hf.2 h2]; rfl
  | .sl e, _, _, hf, _ => by simp [Ty.flat] at hf

theorem valOf_enc {t : Ty} {x : t.den} {v : Value} (h : valOf t (t.enc x) v) : v = t.encV x := by
  unfold valOf at h
  unfold Ty.encV
  split at h
  · rename_i ha; rw [if_pos ha]; exact h
  · rename_i ha; rw [if_neg ha, h]; rfl

/-! ### arguments -/

section
variable {P : Program} {c : Cfg} {w0 : World} {mu : Lent} {Γ : Gam} {st : St} {a : Act} {w : World} {key : Key} {o : Oper} {rv : RV} {ok : Prop}

theorem mat_agg {st : St} : ∀ {t : Ty} {rv : RV} {x : t.den}, st.mat t rv = some x → rv.noDead = true ∧ (∀ a, rv ≠ .tp a) ∧ rv.agg = t.agg
  | t, .v u y, x, h => by
    have h' : castTo t y = some x := by cases t <;> simpa only [St.mat] using h
    obtain ⟨e, _⟩ := castTo_inj h'
    subst e; exact ⟨rfl, by simp, rfl⟩
  | t, .vw s p u y, x, h => by
    have h' : castTo t y = some x := by cases t <;> simpa only [St.mat] using h
    obtain ⟨e, _⟩ := castTo_inj h'
    subst e; exact ⟨rfl, by simp, rfl⟩
  | .sl _, .nl _, _, _ => ⟨rfl, by simp, rfl⟩
  | .sl _, .rf _ _ _, _, _ => ⟨rfl, by simp, rfl⟩
  | .pr a b, .pr x y, z, h => by
    simp only [St.mat] at h
    split at h
    · rename_i p q hp hq
      exact ⟨by simp [RV.noDead, (mat_agg hp).1, (mat_agg hq).1], by simp, rfl⟩
    · cases h
  | .un, .un, _, _ => ⟨rfl, by simp, rfl⟩
  | .int _, .nl _, _, h | .bool, .nl _, _, h | .str, .nl _, _, h | .un, .nl _, _, h | .pr _ _, .nl _, _, h => by simp [St.mat] at h
  | .int _, .rf s _ _, x, h | .bool, .rf s _ _, x, h | .str, .rf s _ _, x, h | .un, .rf s _ _, x, h | .pr _ _, .rf s _ _, x, h => by
    simp only [St.mat] at h
    split at h
    · obtain ⟨e, _⟩ := castTo_inj h; cases e
    · cases h
  | .int _, .pr _ _, _, h | .bool, .pr _ _, _, h | .str, .pr _ _, _, h | .un, .pr _ _, _, h | .sl _, .pr _ _, _, h => by simp [St.mat] at h
  | .int _, .un, _, h | .bool, .un, _, h | .str, .un, _, h | .pr _ _, .un, _, h | .sl _, .un, _, h => by simp [St.mat] at h
  | .int _, .bi _ _, _, h | .bool, .bi _ _, _, h | .str, .bi _ _, _, h | .un, .bi _ _, _, h | .pr _ _, .bi _ _, _, h | .sl _, .bi _ _, _, h => by simp [St.mat] at h
  | .int _, .ptr _ _, _, h | .bool, .ptr _ _, _, h | .str, .ptr _ _, _, h | .un, .ptr _ _, _, h | .pr _ _, .ptr _ _, _, h | .sl _, .ptr _ _, _, h => by simp [St.mat] at h
  | .int _, .pv _ _, _, h | .bool, .pv _ _, _, h | .str, .pv _ _, _, h | .un, .pv _ _, _, h | .pr _ _, .pv _ _, _, h | .sl _, .pv _ _, _, h => by simp [St.mat] at h
  | .int _, .fn _ _, _, h | .bool, .fn _ _, _, h | .str, .fn _ _, _, h | .un, .fn _ _, _, h | .pr _ _, .fn _ _, _, h | .sl _, .fn _ _, _, h => by simp [St.mat] at h
  | .int _, .dd _, _, h | .bool, .dd _, _, h | .str, .dd _, _, h | .un, .dd _, _, h | .pr _ _, .dd _, _, h | .sl _, .dd _, _, h => by simp [St.mat] at h
  | .int _, .tp _, _, h | .bool, .tp _, _, h | .str, .tp _, _, h | .un, .tp _, _, h | .pr _ _, .tp _, _, h | .sl _, .tp _, _, h => by simp [St.mat] at h

/-- Data for reading: it lies in memory as shared data. -/
theorem mat_sound (h : Inv w0 mu Γ st a.tmps w) {okk : Nat → Prop} (hok : ∀ b, b < w.heap.size → okk b) : ∀ {t : Ty} {rv : RV} {x : t.den} {vs : List Value}, CR (envOf w Γ st.obs) rv vs → st.mat t rv = some x →
    Rep w okk t vs x
  | t, .v u y, x, vs, hc, hm => by
    have h' : castTo t y = some x := by cases t <;> simpa only [St.mat] using hm
    obtain ⟨e, he⟩ := castTo_inj h'
    subst e; subst he
    exact Rep.mono (fun b hb => hok b hb.1) (fun _ _ => rfl) hc
  | t, .vw s p u y, x, vs, hc, hm => by
    have h' : castTo t y = some x := by cases t <;> simpa only [St.mat] using hm
    obtain ⟨e, he⟩ := castTo_inj h'
    subst e; subst he
    obtain ⟨e, d, xs, ho⟩ := hc.2.1
    refine Rep.mono (fun b hb => hok b ?_) (fun _ _ => rfl) hc.1
    rcases hb with hb | hb
    · exact hb.1
    · exact h.lt b (mem_owned_slot (look_mem ho) b hb)
  | .sl e, .nl e', x, vs, hc, hm => by
    simp only [St.mat, Option.some.injEq] at hm; subst hm
    obtain ⟨ad, rfl⟩ := hc
    exact ⟨ad, 0, rfl, Nat.le_refl _, Nat.zero_le _, fun h => absurd rfl h⟩
  | .sl e, .rf s e' n, x, vs, hc, hm => by
    simp only [St.mat] at hm
    split at hm
    · rename_i e2 d xs ho
      obtain ⟨e3, he⟩ := castTo_inj hm
      cases e3
      subst he
      rw [hc.1]
      obtain ⟨_, hsl⟩ := h.obs s _ (look_mem ho)
      have hlt : ∀ b ∈ Γ.fp s, b < w.heap.size := fun b hb => h.lt b (mem_owned_slot (look_mem ho) b hb)
      exact hsl.rep_of (fun b hb => hok b (hlt b hb)) fun cs x f hf ho => ho.rep (fun b hb => hok b hb.1) (fun b hb => hok b (hlt b (hf b hb)))
    · cases hm
  | .pr a' b', .pr p q, x, vs, hc, hm => by
    simp only [St.mat] at hm
    split at hm
    · rename_i y z hy hz
      simp only [Option.some.injEq] at hm; subst hm
      obtain ⟨v1, v2, rfl, h1, h2⟩ := hc
      exact ⟨v1, v2, rfl, mat_sound h hok h1 hy, mat_sound h hok h2 hz⟩
    · cases hm
  | .un, .un, _, vs, hc, _ => hc
  | .int _, .nl _, _, _, _, h | .bool, .nl _, _, _, _, h | .str, .nl _, _, _, _, h | .un, .nl _, _, _, _, h | .pr _ _, .nl _, _, _, _, h => by simp [St.mat] at h
  | .int _, .rf s _ _, x, _, _, h | .bool, .rf s _ _, x, _, _, h | .str, .rf s _ _, x, _, _, h | .un, .rf s _ _, x, _, _, h | .pr _ _, .rf s _ _, x, _, _, h => by
    simp only [St.mat] at h
    split at h
    · obtain ⟨e, _⟩ := castTo_inj h; cases e
    · cases h
  | .int _, .pr _ _, _, _, _, h | .bool, .pr _ _, _, _, _, h | .str, .pr _ _, _, _, _, h | .un, .pr _ _, _, _, _, h | .sl _, .pr _ _, _, _, _, h => by simp [St.mat] at h
  | .int _, .un, _, _, _, h | .bool, .un, _, _, _, h | .str, .un, _, _, _, h | .pr _ _, .un, _, _, _, h | .sl _, .un, _, _, _, h => by simp [St.mat] at h
  | .int _, .bi _ _, _, _, _, h | .bool, .bi _ _, _, _, _, h | .str, .bi _ _, _, _, _, h | .un, .bi _ _, _, _, _, h | .pr _ _, .bi _ _, _, _, _, h | .sl _, .bi _ _, _, _, _, h => by simp [St.mat] at h
  | .int _, .ptr _ _, _, _, _, h | .bool, .ptr _ _, _, _, _, h | .str, .ptr _ _, _, _, _, h | .un, .ptr _ _, _, _, _, h | .pr _ _, .ptr _ _, _, _, _, h | .sl _, .ptr _ _, _, _, _, h => by simp [St.mat] at h
  | .int _, .pv _ _, _, _, _, h | .bool, .pv _ _, _, _, _, h | .str, .pv _ _, _, _, _, h | .un, .pv _ _, _, _, _, h | .pr _ _, .pv _ _, _, _, _, h | .sl _, .pv _ _, _, _, _, h => by simp [St.mat] at h
  | .int _, .fn _ _, _, _, _, h | .bool, .fn _ _, _, _, _, h | .str, .fn _ _, _, _, _, h | .un, .fn _ _, _, _, _, h | .pr _ _, .fn _ _, _, _, _, h | .sl _, .fn _ _, _, _, _, h => by simp [St.mat] at h
  | .int _, .dd _, _, _, _, h | .bool, .dd _, _, _, _, h | .str, .dd _, _, _, _, h | .un, .dd _, _, _, _, h | .pr _ _, .dd _, _, _, _, h | .sl _, .dd _, _, _, _, h => by simp [St.mat] at h
  | .int _, .tp _, _, _, _, h | .bool, .tp _, _, _, _, h | .str, .tp _, _, _, _, h | .un, .tp _, _, _, _, h | .pr _ _, .tp _, _, _, _, h | .sl _, .tp _, _, _, _, h => by simp [St.mat] at h

theorem VR.to1 {E : Env} {rv : RV} {v : Value} (h : VR E rv v) (hn : ∀ a, rv ≠ .tp a) : VR1 E rv v := by
  cases rv <;> first | exact h | exact absurd rfl (hn _)

theorem mat_val (h : Inv w0 mu Γ st a.tmps w) {okk : Nat → Prop} (hok : ∀ b, b < w.heap.size → okk b) {t : Ty} {rv : RV} {x : t.den} {v : Value} (hv : VR (envOf w Γ st.obs) rv v) (hm : st.mat t rv = some x) :
    ∃ cells, valOf t cells v ∧ Rep w okk t cells x := by
  obtain ⟨_, hn, ha⟩ := mat_agg hm
  obtain ⟨vs, hc, hvs⟩ := hv.to1 hn
  refine ⟨vs, ?_, mat_sound h hok hc hm⟩
  unfold valOf
  rw [ha] at hvs; exact hvs

theorem args_sound (h : Inv w0 mu Γ st a.tmps w) (hk : ∀ q ∈ key, a.tmps.getD q.1 undef = .bool q.2) {okk : Nat → Prop} (hok : ∀ b, b < w.heap.size → okk b) : ∀ {ps : List PK} {xs : List Operand} {ds : List DV}, st.args key ps xs = some ds →
    ArgsR w okk ps (xs.map a.eval) ds []
  | [], [], ds, hq => by
    simp only [St.args, Option.some.injEq] at hq; subst hq; exact ⟨rfl, rfl⟩
  | [], _ :: _, ds, hq => by simp [St.args] at hq
  | .sh t :: ps, [], ds, hq => by simp [St.args] at hq
  | .sh t :: ps, x :: xs, ds, hq => by
    simp only [St.args] at hq
    split at hq
    case h_2 => cases hq
    rename_i rv hrv
    split at hq
    case h_2 => cases hq
    rename_i d ds' hd hds
    simp only [Option.some.injEq] at hq; subst hq
    obtain ⟨cells, h1, h2⟩ := mat_val h hok (h.val hk hrv) hd
    exact ⟨d, ds', cells, rfl, h1, h2, args_sound h hk hok hds⟩
  | .mv _ :: _, _, _, hq | .mu _ :: _, _, _, hq | .bx _ _ :: _, _, _, hq | .fn _ _ :: _, _, _, hq => by simp [St.args] at hq

/-! ### results -/

theorem Own.flat_rep {w : World} {ok : Nat → Prop} {d : Bool} {t : Ty} {vs : List Value} {x : t.den} {fp : List Nat} (hf : t.flat = true) (h : Own w ok d t vs x fp) : Rep w ok t vs x := by
  have := Own.flat_fp hf h
  subst this
  exact h.rep (fun _ h => h) (by simp)

def encs : List RK → List DV → List Value
  | .val t _ :: rs, d :: ds => (match castTo t d.2 with | some x => t.encV x | none => undef) :: encs rs ds
  | _, _ => []

theorem res_sound {okk : Nat → Prop} {E : Env} : ∀ {rs : List RK} {vs : List Value} {ds : List DV} {fp : List Nat} {r : RV}, ResL w okk rs vs ds fp → resRV rs ds = some r →
    vs = encs rs ds ∧ TR E r vs
  | [], vs, ds, fp, r, h, hr => by
    cases vs <;> cases ds <;> simp only [ResL] at h
    simp only [resRV, Option.some.injEq] at hr; subst hr
    exact ⟨rfl, rfl⟩
  | .box t m :: rs, vs, ds, fp, r, h, hr => by
    cases ds <;> simp [resRV] at hr
  | .val t m :: rs, vs, ds, fp, r, h, hr => by
    cases vs <;> cases ds <;> simp only [ResL] at h
    rename_i v vs d ds
    obtain ⟨x, cells, f1, f2, rfl, hval, hh, hrest, rfl⟩ := h
    simp only [resRV] at hr
    cases hfl0 : (t.flat && !(decide (m = .de))) with
    | false => rw [hfl0] at hr; cases hr
    | true =>
      rw [hfl0] at hr
      simp only [Bool.and_eq_true, Bool.not_eq_true', decide_eq_false_iff_not] at hfl0
      obtain ⟨hfl, hde⟩ := hfl0
      simp only [cond_true, castTo_self] at hr
      split at hr
      · rename_i y r' hy hr'
        simp only [Option.some.injEq] at hr hy; subst hr; subst hy
        have hrep : Rep w okk t cells x := by
          cases m with
          | sh => exact hh.1
          | ow => exact Own.flat_rep hfl hh
          | de => exact absurd rfl hde
        obtain ⟨h1, h2⟩ := res_sound (E := E) hrest hr'
        have henc := Rep.enc hfl hrep
        subst henc
        have hve := valOf_enc hval
        refine ⟨by simp [encs, castTo_self, ← h1, ← hve], v, vs, rfl, ⟨t.enc x, ?_, ?_⟩, h2⟩
        · -- flat data means the same anywhere
          have key : ∀ {u : Ty} {cs : List Value} {y : u.den}, u.flat = true → Rep w okk u cs y → Rep E.w E.ok u cs y := by
            intro u
            induction u with
            | int k => intro cs y _ h; exact h
            | bool => intro cs y _ h; exact h
            | str => intro cs y _ h; exact h
            | un => intro cs y _ h; exact h
            | sl e => intro cs y hf _; simp [Ty.flat] at hf
            | pr p q ihp ihq =>
              intro cs y hf h
              simp only [Ty.flat, Bool.and_eq_true] at hf
              obtain ⟨v1, v2, rfl, h1, h2⟩ := h
              exact ⟨v1, v2, rfl, ihp hf.1 h1, ihq hf.2 h2⟩
          exact key hfl hrep
        · unfold valOf at hval; exact hval
      · cases hr

theorem oneOrTup_sound {E : Env} {r : RV} {vs : List Value} (h : TR E r vs) : VR E (oneOrTup r) (oneVal vs) := by
  unfold oneOrTup
  split
  · obtain ⟨v, rest, rfl, h1, h2⟩ := h
    have : rest = [] := h2
    subst this
    exact h1.not_tp
  · rename_i hne
    refine ⟨vs, ?_, h⟩
    unfold oneVal
    split
    · rename_i v
      exfalso
      cases r <;> simp only [TR] at h
      · obtain ⟨v', rest, he, h1, h2⟩ := h
        simp only [List.cons.injEq] at he
        obtain ⟨rfl, rfl⟩ := he
        rename_i p q
        cases q <;> simp only [TR] at h2
        · obtain ⟨_, _, he, _⟩ := h2; cases he
        · exact hne p rfl
      · cases h
    · rfl

theorem run_enter {g : Operand} {args : Array Operand} {ts : Array TypeId} {f : FuncId} {caps : Array Value} {fn : Func} (ho : o.op = .call { callee := .value g, args := args, argTypes := ts })
    (hg : a.eval g = .func (.func f) #[] caps) (hf : P.funcs[f]? = some fn) (hb : fn.body.isSome = true) (hn : (fn.name == "runtime.NumGoroutine") = false) (w : World) :
    (execOp a.eval o).run P w = .ok (.enter f (args.map a.eval ++ caps)) w := by
  have h1 : fn.name ≠ "runtime.NumGoroutine" := by simpa using hn
  have h2 : ¬ fn.body = none := by intro e; rw [e] at hb; cases hb
  simp [execOp, ho, resolve, hg, Deferred.ofValue, invoke, callFunc, hf, h1, h2]

end
end Go.Tm
end

/- (TmQuiet6)
  All operations that change no object, together.
-/
section
set_option linter.unusedSimpArgs false
namespace Go.Tm

section
variable {P : Program} {c : Cfg} {w0 : World} {mu : Lent} {Γ : Gam} {st : St} {a : Act} {w : World} {key : Key} {o : Oper} {rv : RV} {ok : Prop}

theorem of_yield (h : Yield P Γ st a w o rv) : ∃ v, (∀ w', Grow w w' → o.quietAt P a (Grow w) w' v) ∧ VR (envOf w Γ st.obs) rv v := by
  obtain ⟨v, hv, hr⟩ := h
  refine ⟨v, fun w' hg => ?_, hr⟩
  unfold Oper.quietAt
  rw [hv w' fun _ => hg.ext]
  exact ⟨rfl, rfl⟩

/-- The arguments in a grown memory. -/
theorem argsR_grow {w' : World} (hg : Grow w w') : ∀ {ps : List PK} {vs : List Value} {ds : List DV}, (∀ p ∈ ps, ∃ t, p = .sh t) →
    ArgsR w (fun b => b < w.heap.size) ps vs ds [] → ArgsR w' (fun b => b < w'.heap.size) ps vs ds []
  | [], [], _, _, h => h
  | [], _ :: _, _, _, h => by simp [ArgsR] at h
  | p :: ps, [], ds, hp, h => by
    obtain ⟨t, rfl⟩ := hp p (by simp)
    simp [ArgsR] at h
  | p :: ps, v :: vs, ds, hp, h => by
    obtain ⟨t, rfl⟩ := hp p (by simp)
    obtain ⟨x, rest, cells, rfl, h1, h2, h3⟩ := h
    exact ⟨x, rest, cells, rfl, h1, h2.mono (fun b hb => Nat.lt_of_lt_of_le hb hg.size) (fun b hb => hg.ext b hb), argsR_grow hg (fun q hq => hp q (by simp [hq])) h3⟩

theorem args_shared : ∀ {ps : List PK} {xs : List Operand} {ds : List DV}, st.args key ps xs = some ds → ∀ p ∈ ps, ∃ t, p = .sh t
  | [], _, _, _, p, hp => by simp at hp
  | .sh t :: ps, [], ds, hq, p, hp => by simp [St.args] at hq
  | .sh t :: ps, x :: xs, ds, hq, p, hp => by
    simp only [St.args] at hq
    split at hq
    case h_2 => cases hq
    split at hq
    case h_2 => cases hq
    rename_i hds
    rcases List.mem_cons.1 hp with rfl | hp
    · exact ⟨t, rfl⟩
    · exact args_shared hds p hp
  | .mv _ :: _, _, _, hq, _, _ | .mu _ :: _, _, _, hq, _, _ | .bx _ _ :: _, _, _, hq, _, _ | .fn _ _ :: _, _, _, hq, _, _ => by simp [St.args] at hq

theorem quiet_call (hC : CfgOk P c w0 mu) (h : Inv w0 mu Γ st a.tmps w) (hk : ∀ q ∈ key, a.tmps.getD q.1 undef = .bool q.2) {g : Operand} {args : Array Operand} {ts : Array TypeId}
    (ho : o.op = .call { callee := .value g, args := args, argTypes := ts }) (hq : st.quiet c key o = some (rv, ok)) (hok : ok) :
    ∃ v, (∀ w', Grow w w' → o.quietAt P a (Grow w) w' v) ∧ VR (envOf w Γ st.obs) rv v := by
  simp only [St.quiet, ho] at hq
  split at hq
  case h_2 => cases hq
  rename_i f hf
  split at hq
  case h_2 => cases hq
  rename_i fs hfs
  split at hq
  case h_2 => cases hq
  rename_i ds hds
  simp only [Option.map_eq_some_iff, Prod.mk.injEq] at hq
  obtain ⟨r, hr, rfl, rfl⟩ := hq
  obtain ⟨hsn, fn, hfn, hb, hn⟩ := hC.env _ _ hfs
  obtain ⟨vs, ⟨hvs, _⟩, hv⟩ := h.val hk hf
  simp only [RV.agg, Bool.false_eq_true, if_false] at hv
  have hg : a.eval g = .func (.func f) #[] #[] := by
    rw [hvs] at hv; exact (List.cons.inj hv).1.symm
  have hargs := args_sound (okk := fun b => b < w.heap.size) h hk (fun b hb => hb) hds
  have hrun : ∀ w', Grow w w' → Calls P f (args.map a.eval) w' fun e w'' => e = .returned (oneVal (encs fs.rs (fs.F ds).1)) ∧ Grow w' w'' ∧ TR (envOf w Γ st.obs) r (encs fs.rs (fs.F ds).1) := fun w' hw' => by
    have h1 := hsn w' (args.toList.map a.eval) ds [] (fun b => b < w'.heap.size) (fun b hb => ⟨hb, by simp⟩) ((hC.gl h (by simp)).grow hw'.ext) (argsR_grow hw' (args_shared hds) hargs) (by simp) (by simp) hok
    have he : (args.toList.map a.eval).toArray = args.map a.eval := by apply Array.ext'; simp
    rw [he] at h1
    refine h1.mono fun e w'' ⟨v, hv, haft⟩ => ?_
    obtain ⟨vs, fr, fl, rfl, hres, _⟩ := haft.ex
    obtain ⟨h2, h3⟩ := res_sound (E := envOf w Γ st.obs) hres hr
    subst h2
    exact ⟨hv, ⟨fun b hb => haft.frame b hb (by simp), haft.grown, haft.same⟩, h3⟩
  have hTR : TR (envOf w Γ st.obs) r (encs fs.rs (fs.F ds).1) := by
    obtain ⟨e, w', fr, hR, _⟩ := hrun w (Grow.refl w) []
    exact hR.2.2
  refine ⟨oneVal (encs fs.rs (fs.F ds).1), fun w' hw' => ?_, oneOrTup_sound hTR⟩
  unfold Oper.quietAt
  rw [run_enter ho hg hfn hb hn w']
  refine ⟨rfl, ?_⟩
  simp only [Array.append_empty]
  exact (hrun w' hw').mono fun e w'' ⟨h1, h2, _⟩ => ⟨h1, hw'.trans h2⟩

/-- The bytes of a slice, as numbers. -/
theorem bytes_cells {w : World} {ok : Nat → Prop} {xs : List Int} {v : Value} (h : Rep w ok (.sl (.int .u8)) [v] xs) :
    ∃ ad cap, v = .slice ad xs.length cap ∧ xs.length ≤ lenMax ∧ (xs = [] ∨ ∃ b o, ad = some ⟨b, o, none⟩ ∧ ∀ i, i < xs.length → w.cell? ⟨b, o + i, none⟩ = some (.int .u8 (xs.getD i 0))) := by
  obtain ⟨ad, cap, hv, hc, hm, hx⟩ := h
  refine ⟨ad, cap, (List.cons.inj hv).1, hm, ?_⟩
  by_cases hne : xs = []
  · exact .inl hne
  · obtain ⟨b, o, ha, _, hel⟩ := hx hne
    refine .inr ⟨b, o, ha, fun i hi => ?_⟩
    obtain ⟨cs, hr, hre⟩ := hel i hi
    have h1 : cs = [.int .u8 xs[i]] := hre.1
    have := hr 0 (.int .u8 xs[i]) (by rw [h1]; rfl)
    simp only [Ty.size, Nat.mul_one, Nat.add_zero] at this
    rw [this]
    simp [List.getD, List.getElem?_eq_getElem hi]

theorem yield_convert (hC : CfgOk P c w0 mu) (h : Inv w0 mu Γ st a.tmps w) (hk : ∀ q ∈ key, a.tmps.getD q.1 undef = .bool q.2) {s d : TypeId} {x : Operand}
    (ho : o.op = .convert s d x) (hq : st.quiet c key o = some (rv, ok)) : Yield P Γ st a w o rv := by
  simp only [St.quiet, ho] at hq
  split at hq
  · rename_i sty k k' n hs hd hb
    simp only [Option.some.injEq, Prod.mk.injEq] at hq; obtain ⟨rfl, rfl⟩ := hq
    exact yield_convert_int hC h hk ho hs hd hb
  · rename_i rv0 hs hd hx
    simp only [Option.map_eq_some_iff, Prod.mk.injEq] at hq
    obtain ⟨xs, hm, rfl, rfl⟩ := hq
    obtain ⟨cells, hval, hr⟩ := mat_val (okk := fun b => True) h (fun _ _ => trivial) (h.val hk hx) hm
    simp only [valOf, Ty.agg, Bool.false_eq_true, if_false] at hval
    subst hval
    obtain ⟨ad, cap, hv, hlen, hcell⟩ := bytes_cells hr
    obtain ⟨te, hu, hte⟩ := tyOf_sl (hC.tys _ _ hs)
    have hue := tyOf_int hte
    have hud := tyOf_str (hC.tys _ _ hd)
    refine ⟨.string (strOfNums xs), fun w' hw' => ?_, ?_⟩
    · have hext : Ext w w' := hw' (by simp [ho, isLoad])
      rcases hcell with rfl | ⟨b, off, rfl, hcell⟩
      · have hrun : (convert s d (.slice ad 0 cap)).run P w' = .ok (.string (strOfNums [])) w' := by
          cases ad with
          | none => rw [run_convert_bytes_nil w' s te hu hue 0 cap d hud]; rfl
          | some aa =>
            rw [run_convert_bytes_string w' s d te _ 0 cap hu hue hud, run_bytesToString w' aa 0 cap [] (by
              have := run_loadCells_list (P := P) w' aa [] (fun j v hj => by simp at hj)
              simpa using this)]
            rfl
        have hv' : a.eval x = .slice ad 0 cap := hv
        simp only [execOp, ho, hv', Sem.run_bind, hrun, Result.andThen_ok, Sem.run_pure]
      · have hcell' : ∀ i, i < xs.length → w'.cell? ⟨b, off + i, none⟩ = some (.int .u8 (xs.getD i 0)) := fun i hi => by
          have h1 := hcell i hi
          have hlt : b < w.heap.size := World.block_lt_of_cell? w _ h1
          exact (cell_same (hext b hlt)).trans h1
        have hrun := run_convert_bytes_arg (P := P) w' s te hu hue b off xs.length cap xs rfl hcell' d hud
        simp only [execOp, ho, hv, Sem.run_bind, hrun, Result.andThen_ok, Sem.run_pure]
    · rw [D.b2s_eq]
      exact .of_str (by rw [strOfNums_size]; exact hlen)
  · cases hq

def isCall (o : Oper) : Bool :=
  match o.op with
  | .call { callee := .value _, .. } => true
  | _ => false

theorem yield_sound (hC : CfgOk P c w0 mu) (h : Inv w0 mu Γ st a.tmps w) (hk : ∀ q ∈ key, a.tmps.getD q.1 undef = .bool q.2) (hq : st.quiet c key o = some (rv, ok)) (hok : ok) (hc : isCall o = false) :
    Yield P Γ st a w o rv := by
  have hq' := hq
  cases ho : o.op with
  | move x =>
    simp only [St.quiet, ho, Option.map_eq_some_iff, Prod.mk.injEq] at hq
    obtain ⟨y, hy, rfl, _⟩ := hq
    exact yield_move h hk (.inl ho) hy
  | assign x =>
    simp only [St.quiet, ho, Option.map_eq_some_iff, Prod.mk.injEq] at hq
    obtain ⟨y, hy, rfl, _⟩ := hq
    exact yield_move h hk (.inr ho) hy
  | pick q x y => exact yield_pick h hk ho hq'
  | binOp op xt x y yt => exact yield_binOp hC h hk ho hq' hok
  | unOp op t x => exact yield_unOp h hk ho hq'
  | convert s d x => exact yield_convert hC h hk ho hq'
  | field xt x k => exact yield_field hC h hk ho hq'
  | fieldAddr xt x k => exact yield_fieldAddr hC h hk ho hq'
  | load t x => exact yield_load hC h hk ho hq'
  | nilCheck x => exact yield_nilCheck h hk ho hq'
  | indexAddr t x i => exact yield_indexAddr hC h hk ho hq' hok
  | index t x i => exact yield_index hC h hk ho hq' hok
  | extract x i => exact yield_extract h hk ho hq'
  | makeFunc fn first caps =>
    cases fn with
    | func f => exact yield_makeFunc h hk ho hq'
    | _ => simp [St.quiet, ho] at hq
  | build t ps => exact yield_build hC h hk ho hq'
  | slice t x lo hi mx => exact yield_slice hC h hk ho hq' hok
  | call cc =>
    obtain ⟨callee, args, ts⟩ := cc
    cases callee with
    | value g => simp [isCall, ho] at hc
    | builtin b =>
      cases b with
      | len => exact yield_len hC h hk ho hq'
      | max => exact yield_max h hk ho hq'
      | min => exact yield_min h hk ho hq'
      | _ => simp [St.quiet, ho] at hq
    | invoke _ _ => simp [St.quiet, ho] at hq
  | _ => simp [St.quiet, ho] at hq

theorem quiet_sound (hC : CfgOk P c w0 mu) (h : Inv w0 mu Γ st a.tmps w) (hk : ∀ q ∈ key, a.tmps.getD q.1 undef = .bool q.2) (hq : st.quiet c key o = some (rv, ok)) (hok : ok) :
    ∃ v, (∀ w', Grow w w' → o.quietAt P a (Grow w) w' v) ∧ VR (envOf w Γ st.obs) rv v := by
  cases hc : isCall o with
  | false => exact of_yield (yield_sound hC h hk hq hok hc)
  | true =>
    unfold isCall at hc
    split at hc
    · rename_i g args ts ho; exact quiet_call hC h hk ho hq hok
    · cases hc

end
end Go.Tm
end

/- (TmLoudOps)
  The operations that make or change objects.
-/
section
namespace Go.Tm

def RV.hasId (s : Nat) (rv : RV) : Bool := rv.ids.any (Nat.beq s)
def RV.readsId (s : Nat) (rv : RV) : Bool := rv.reads.any (Nat.beq s)

/-- The object is forgotten, with all that refers to it. -/
def St.drop (st : St) (s : Nat) : St :=
  let st1 := st.kil (RV.hasId s)
  { st1 with obs := st1.obs.filter fun e => !(Nat.beq e.1 s) }

def St.putOb (st : St) (s : Nat) (ob : Ob) : St := { st with obs := st.obs.map fun e => bif Nat.beq e.1 s then (e.1, ob) else e }

/-- A slot is written: what was read out of it is not to be read any more. -/
def St.touch (st : St) (s : Nat) (ob : Ob) : St := (st.kil (RV.readsId s)).putOb s ob

def St.addOb (st : St) (d : Nat) (ob : Ob) : St :=
  let st1 := st.drop d
  { st1 with obs := (d, ob) :: st1.obs }

def St.newOb (st : St) (d : Nat) (ob : Ob) (rv : RV) : St := (st.addOb d ob).set d [] rv

/-- Data that is shared at every depth. -/
def RV.shr : (t : Ty) → RV → Option t.den
  | t, .v _ x => castTo t x
  | .sl _, .nl _ => some []
  | .pr a b, .pr x y =>
    match x.shr a, y.shr b with
    | some p, some q => some (p, q)
    | _, _ => none
  | .un, .un => some ()
  | _, _ => none

/-- Data whose slices are slots of their own, and these slots. -/
def St.own (st : St) : (t : Ty) → RV → Option (t.den × List Nat)
  | t, .v u x => bif u.flat then (castTo t x).map (·, []) else none
  | .sl _, .nl _ => some ([], [])
  | .sl e, .rf s _ _ =>
    match look st.obs s with
    | some (.slot e2 d xs) => bif d || e2.flat then (castTo (.sl e) (t := .sl e2) xs).map (·, [s]) else none
    | _ => none
  | .pr a b, .pr x y =>
    match st.own a x, st.own b y with
    | some (p, i), some (q, j) => some ((p, q), i ++ j)
    | _, _ => none
  | .un, .un => some ((), [])
  | _, _ => none

/-- Not lent by the caller. -/
def St.free (st : St) (d : Nat) : Bool := !(st.lent.any (Nat.beq d))

def nodupB : List Nat → Bool
  | [] => true
  | a :: l => !(l.any (Nat.beq a)) && nodupB l

def St.drops (st : St) (ids : List Nat) : St := ids.foldl St.drop st

/-- Data to be laid into a slot of the mode 'd', and the slots that go into it. -/
def St.give (st : St) (d : Bool) (t : Ty) (rv : RV) : Option (t.den × List Nat) :=
  bif t.flat then (st.mat t rv).map (·, [])
  else bif d then st.own t rv
  else (rv.shr t).map (·, [])

noncomputable def St.store (c : Cfg) (st : St) (key : Key) (t : TypeId) (p x : Operand) : Option (St × Prop) :=
  match look c.tys t with
  | none => none
  | some ty =>
    match st.val key none p, st.val key (some ty) x with
    | some pv, some rv =>
      if st.tgt pv = some ty then
        match pv with
        | .bi o path =>
          match look st.obs o with
          | some (.box t0 c0) => bif rv.fits ty && rv.noDead then (c0.put path rv).map fun c1 => (st.putOb o (.box t0 (joinV t0 c1)), True) else none
          | _ => none
        | .ptr s path =>
          match look st.obs s with
          | some (.slot e d xs) =>
            match st.give d ty rv with
            | some (y, ids) =>
              bif nodupB (s :: ids) && Nat.ble 1 ty.size then (setS (.sl e) xs path ty y).map fun xs' => ((st.drops ids).touch s (.slot e d xs'), True) else none
            | none => none
          | _ => none
        | _ => none
      else none
    | _, _ => none

/-- The elements of a slice that is appended, for a slot of the mode 'd'. -/
def St.giveEl (st : St) (d : Bool) (e : Ty) (rv : RV) : Option (List e.den × List Nat) :=
  bif e.flat then (st.mat (.sl e) rv).map (·, [])
  else bif d then st.own (.sl e) rv
  else
    match rv with
    | .v (.sl e') xs => (castTo (.sl e) (t := .sl e') xs).map (·, [])
    | .nl _ => some ([], [])
    | .rf s _ _ =>
      match look st.obs s with
      | some (.slot e2 false xs) => (castTo (.sl e) (t := .sl e2) xs).map (·, [])
      | _ => none
    | _ => none

noncomputable def St.append (c : Cfg) (st : St) (key : Key) (d : Nat) (t : TypeId) (s x : Operand) : Option (St × Prop) :=
  match look c.tys t with
  | some (.sl e) =>
    match st.val key (some (.sl e)) s, st.val key (some (.sl e)) x with
    | some (.rf b _ _), some xv =>
      match look st.obs b with
      | some (.slot e2 m xs) =>
        match castTo (.sl e) (t := .sl e2) xs, st.giveEl m e xv with
        | some xs, some (ys, ids) =>
          bif nodupB (b :: ids) && Nat.ble 1 e.size && st.free b then
            some (((st.drops ids).addOb b (.slot e m (D.app e xs ys))).set d [] (.rf b e (D.cnt e (D.app e xs ys))), D.room (D.cnt e (D.app e xs ys)) e)
          else none
        | _, _ => none
      | _ => none
    | some (.nl _), some xv =>
      match st.giveEl true e xv with
      | some (ys, ids) =>
        bif nodupB ids && Nat.ble 1 e.size then
          some ((st.drops ids).newOb d (.slot e true ys) (.rf d e (D.cnt e ys)), D.room (D.cnt e ys) e)
        else none
      | none =>
        match st.giveEl false e xv with
        | some (ys, ids) =>
          bif nodupB ids && Nat.ble 1 e.size then
            some ((st.drops ids).newOb d (.slot e false ys) (.rf d e (D.cnt e ys)), D.room (D.cnt e ys) e)
          else none
        | none => none
    | _, _ => none
  | _ => none

/-- The parts of a slice that is written out: all of them, in order. -/
def St.parts (st : St) (key : Key) (m : Bool) (e : Ty) : Nat → List (Nat × Operand) → Option (List e.den × List Nat)
  | _, [] => some ([], [])
  | i, (j, x) :: l =>
    bif Nat.beq i j then
      match st.val key (some e) x with
      | some rv =>
        match st.give m e rv, st.parts key m e (i + 1) l with
        | some (y, ids), some (ys, ids') => some (y :: ys, ids ++ ids')
        | _, _ => none
      | none => none
    else none

def St.buildSlice (c : Cfg) (st : St) (key : Key) (d : Nat) (t : TypeId) (n : Nat) (ps : List (Nat × Operand)) : Option (St × Prop) :=
  match look c.tys t with
  | some (.sl e) =>
    bif Nat.beq n 0 then (bif ps.isEmpty then some (st.set d [] (.nl e), True) else none)
    else
      match st.parts key true e 0 ps with
      | some (ys, ids) =>
        bif nodupB ids && Nat.ble 1 e.size && Nat.beq (List.length ys) n && Nat.ble (n * e.size) 16777216 then some ((st.drops ids).newOb d (.slot e true ys) (.rf d e n), True) else none
      | none =>
        match st.parts key false e 0 ps with
        | some (ys, ids) =>
          bif nodupB ids && Nat.ble 1 e.size && Nat.beq (List.length ys) n && Nat.ble (n * e.size) 16777216 then some ((st.drops ids).newOb d (.slot e false ys) (.rf d e n), True) else none
        | none => none
  | _ => none

noncomputable def St.makeSlice (c : Cfg) (st : St) (key : Key) (d : Nat) (t : TypeId) (l k : Operand) : Option (St × Prop) :=
  match look c.tys t, st.val key none l, st.val key none k with
  | some (.sl e), some (.v (.int .i64) (n : Int)), some (.v (.int .i64) (m : Int)) =>
    bif Nat.ble 1 e.size then
      some (st.newOb d (.slot e true (D.rep e n)) (.rf d e (D.nat n)), D.same n m ∧ D.room (D.nat n) e)
    else none
  | _, _, _ => none

/-! ### calls -/

def PK.hint : PK → Option Ty
  | .sh t => some t
  | .mv t => some t
  | .mu t => some t
  | _ => none

/-- The contents of a variable that is lent, and the slots that go along. -/
def St.inBox (st : St) (m : Md) (t : Ty) (c : RV) : Option (t.den × List Nat) :=
  match m with
  | .sh => (c.shr t).map (·, [])
  | .ow => st.own t c
  | .de => none

/-- What is lent. -/
inductive LI where
  | box (o : Nat) (t : Ty) (m : Md)
  | dat (t : Ty) (rv : RV)

/-- The arguments of a call: their data; the slots that are given away; what is lent, and its objects; the slots that are read. -/
structure LA where
  ds : List DV
  gone : List Nat
  lent : List LI
  ids : List Nat
  used : List Nat

def LA.nil : LA := ⟨[], [], [], [], []⟩
def LA.app (x y : LA) : LA := ⟨x.ds ++ y.ds, x.gone ++ y.gone, x.lent ++ y.lent, x.ids ++ y.ids, x.used ++ y.used⟩

def St.lbox (st : St) (t : Ty) (m : Md) (o : Nat) : Option LA :=
  match look st.obs o with
  | some (.box t' c) =>
    bif decide (t' = t) then
      match st.inBox m t c with
      | some (x, g) => some ⟨[⟨t, x⟩], g, [.box o t m], [o], []⟩
      | none => none
    else none
  | _ => none

def St.lcaps (st : St) : List (Ty × Md) → List Nat → Option LA
  | [], [] => some .nil
  | (t, m) :: cs, o :: os =>
    match st.lbox t m o, st.lcaps cs os with
    | some x, some y => some (x.app y)
    | _, _ => none
  | _, _ => none

def St.larg (st : St) : PK → RV → Option LA
  | .sh t, rv =>
    match st.mat t rv with
    | some d => some ⟨[⟨t, d⟩], [], [], [], bif t.flat || (rv.shr t).isSome then [] else rv.ids⟩
    | none => none
  | .mv t, rv =>
    match st.own t rv with
    | some (d, g) => some ⟨[⟨t, d⟩], g, [], [], []⟩
    | none => none
  | .mu t, rv =>
    match st.own t rv with
    | some (d, g) => some ⟨[⟨t, d⟩], [], [.dat t rv], g, []⟩
    | none => none
  | .bx t m, .bi o [] => st.lbox t m o
  | .fn f cs, .fn f' os => bif Nat.beq f f' then st.lcaps cs os else none
  | _, _ => none

def St.largs (st : St) : List PK → List RV → Option LA
  | [], [] => some .nil
  | p :: ps, rv :: rvs =>
    match st.larg p rv, st.largs ps rvs with
    | some x, some y => some (x.app y)
    | _, _ => none
  | _, _ => none

/-- The slices on top have elements that take room. -/
def Ty.impOk : Ty → Bool
  | .sl e => Nat.ble 1 e.size
  | .pr a b => a.impOk && b.impOk
  | _ => true

/-- Owned data as a value, with the new slots that it brings. -/
noncomputable def imp (n : Nat) : Nat → (t : Ty) → t.den → RV × List (Nat × Ob) × Nat
  | id, .sl e, xs => (.rf id e (D.cnt e xs), [(id, .slot e true xs)], id + n)
  | id, .pr a b, x =>
    bif (Ty.pr a b).flat then (.v (.pr a b) x, [], id)
    else
      match imp n id a x.1 with
      | (r1, o1, id1) =>
        match imp n id1 b x.2 with
        | (r2, o2, id2) => (.pr r1 r2, o1 ++ o2, id2)
  | id, .int k, x => (.v (.int k) x, [], id)
  | id, .bool, x => (.v .bool x, [], id)
  | id, .str, x => (.v .str x, [], id)
  | id, .un, x => (.v .un x, [], id)

/-- Data of a mode as a value. -/
noncomputable def impM (shr : Bool) (n id : Nat) (m : Md) (t : Ty) (x : t.den) : Option (RV × List (Nat × Ob) × Nat) :=
  match m with
  | .sh => bif shr || t.flat then some (.v t x, [], id) else none
  | .ow => bif t.impOk then some (imp n id t x) else none
  | .de => some (.dd t, [], id)

/-- The results as values, with the new objects that they bring. -/
noncomputable def imps (shr : Bool) (n : Nat) : Nat → List RK → List DV → Option (RV × List (Nat × Ob) × List (Nat × Ty × RV))
  | _, [], [] => some (.un, [], [])
  | id, .val t m :: rs, d :: ds =>
    match castTo t d.2 with
    | some x =>
      match impM shr n id m t x with
      | some (r1, o1, id1) =>
        match imps shr n id1 rs ds with
        | some (r, obs, bxs) => some (.pr r1 r, o1 ++ obs, bxs)
        | none => none
      | none => none
    | none => none
  | id, .box t m :: rs, d :: ds =>
    match castTo t d.2 with
    | some x =>
      match impM shr n (id + n) m t x with
      | some (r1, o1, id1) =>
        match imps shr n id1 rs ds with
        | some (r, obs, bxs) => some (.pr (.bi id []) r, o1 ++ obs, (id, t, r1) :: bxs)
        | none => none
      | none => none
    | none => none
  | _, _, _ => none

/-- The slots of lent data, with what is in them now. -/
noncomputable def upds : (t : Ty) → RV → t.den → List (Nat × Ob)
  | .sl e, .rf s _ _, xs => [(s, .slot e true xs)]
  | .pr a b, .pr p q, x => upds a p x.1 ++ upds b q x.2
  | _, _, _ => []

/-- What was lent comes back: slots with other contents, variables with other contents, the slots that these bring. -/
noncomputable def backs (shr : Bool) (n : Nat) : List LI → List DV → Option (List (Nat × Ob) × List (Nat × Ty × RV) × List (Nat × Ob))
  | [], [] => some ([], [], [])
  | .box o t m :: ls, d :: ds =>
    match castTo t d.2 with
    | some x =>
      match impM shr n (o + n) m t x with
      | some (r, o1, _) =>
        match backs shr n ls ds with
        | some (ps, bs, obs) => some (ps, (o, t, r) :: bs, o1 ++ obs)
        | none => none
      | none => none
    | none => none
  | .dat t rv :: ls, d :: ds =>
    match castTo t d.2 with
    | some x =>
      match backs shr n ls ds with
      | some (ps, bs, obs) => some (upds t rv x ++ ps, bs, obs)
      | none => none
    | none => none
  | _, _ => none

def St.setD (st : St) (d : Option Nat) (rv : RV) : St :=
  match d with
  | some d => st.set d [] rv
  | none => st

noncomputable def impsD (shr : Bool) (n : Nat) (d : Option Nat) (rs : List RK) (res : List DV) : Option (RV × List (Nat × Ob) × List (Nat × Ty × RV)) :=
  match d with
  | some d => imps shr n d rs res
  | none => some (.un, [], [])

def lany (l : List Nat) (m : Nat) : Bool := l.any (Nat.beq m)

def boxObs (l : List (Nat × Ty × RV)) : List (Nat × Ob) := l.map fun b => (b.1, .box b.2.1 b.2.2)

/-- Objects get new contents. -/
def putAll (ps : List (Nat × Ob)) (obs : List (Nat × Ob)) : List (Nat × Ob) := obs.map fun e => (e.1, (look ps e.1).getD e.2)

def ddBoxes (l : List (Nat × Ty × RV)) : List (Nat × Ob) := l.map fun b => (b.1, .box b.2.1 (.dd b.2.1))

/-- The state behind a call. -/
noncomputable def St.lret (st : St) (dst : Option Nat) (rs : List RK) (la : LA) (res upd : List DV) : Option St :=
  match backs la.used.isEmpty st.n la.lent upd, impsD la.used.isEmpty st.n dst rs res with
  | some (ps, bs, obs1), some (r, obs2, bxs) =>
    bif nodupB (la.ids ++ ((obs1 ++ obs2).map (·.1) ++ bxs.map (·.1))) && ((obs1 ++ obs2).map (·.1) ++ bxs.map (·.1)).all st.free then
      let st1 := (st.drops (la.gone ++ ((obs1 ++ obs2).map (·.1) ++ bxs.map (·.1)))).kil fun c => c.reads.any (lany la.ids)
      some (({ st1 with obs := putAll (boxObs bs) (boxObs bxs ++ ((obs1 ++ obs2) ++ putAll (ps ++ ddBoxes bs) st1.obs)) } : St).setD dst (oneOrTup r))
    else none
  | _, _ => none

noncomputable def St.lcall (c : Cfg) (st : St) (key : Key) (dst : Option Nat) (g : Operand) (args : List Operand) : Option (St × Prop) :=
  match st.val key none g with
  | some (.fn f os) =>
    match look c.env f with
    | some fs =>
      match allSome (fun (x : PK × Operand) => st.val key x.1.hint x.2) (fs.ps.zip args) with
      | some rvs =>
        bif Nat.beq (args.length + os.length) fs.ps.length then
          match st.largs fs.ps (rvs ++ os.map fun o => .bi o []) with
          | some la =>
            bif nodupB (la.gone ++ la.ids) && la.used.all fun u => !(lany (la.gone ++ la.ids) u) then
              match fs.F la.ds with
              | (res, upd) =>
                match st.lret dst fs.rs la res upd with
                | some st' => some (st', fs.pre la.ds)
                | none => none
            else none
          | none => none
        else none
      | none => none
    | none => none
  | _ => none

def St.canMake (st : St) (d : Nat) : Bool := st.free d && Nat.blt d st.n

/-- An operation that makes or changes objects. -/
noncomputable def St.loud (c : Cfg) (st : St) (key : Key) (o : Oper) : Option (St × Prop) :=
  match o.op, o.dst with
  | .alloc t, some d => bif st.canMake d then (look c.tys t).map fun ty => (st.newOb d (.box ty (zeroRV ty)) (.bi d []), True) else none
  | .box t x, some d =>
    match look c.tys t with
    | some ty =>
      match st.val key (some ty) x with
      | some rv => bif rv.fits ty && rv.noDead && !(rv.hasId d) && st.canMake d then some (st.newOb d (.box ty rv) (.bi d []), True) else none
      | none => none
    | none => none
  | .store t p x, none => st.store c key t p x
  | .buildSlice t n ps, some d => bif st.canMake d then st.buildSlice c key d t n ps.toList else none
  | .makeSlice t l k, some d => bif st.canMake d then st.makeSlice c key d t l k else none
  | .call { callee := .builtin .append, args, argTypes }, some d =>
    match args.toList, argTypes.toList with
    | [s, x], [t, t'] => bif Nat.beq t t' && st.canMake d then st.append c key d t s x else none
    | _, _ => none
  | .call { callee := .value g, args, .. }, dst => st.lcall c key dst g args.toList
  | _, _ => none

end Go.Tm
end

/- (TmRun)
  The pure machine runs code: what must hold so that it ends well.
-/
section
namespace Go.Tm

inductive Ex where
  | normal | exit (id : Nat) | ret

def St.kc (st : St) : Key → Prop
  | [] => True
  | (r, want) :: k => (match look st.regs r with | some (_, .v .bool b) => b = want | _ => True) ∧ st.kc k

def guardReg (ops : Array Oper) (g : Nat) : Option Nat :=
  match ops[g]? with
  | some o => o.dst
  | none => none

def St.fits (st : St) (k : Key) (d : Nat) : Bool := Nat.blt d st.n && k.all fun q => !(Nat.beq q.1 d)

def dstOk (st : St) (k : Key) : Option Nat → Bool
  | some d => st.fits k d
  | none => true

def St.setK (st : St) (d : Option Nat) (k : Key) (rv : RV) : St :=
  match d with
  | some d => st.set d k rv
  | none => st

/-- One operation without effect on objects. -/
def tq (c : Cfg) (ops : Array Oper) (o : Oper) (K : St → Prop) (st : St) : Prop :=
  match o.guard with
  | none =>
    match st.quiet c [] o with
    | some (rv, ok) => bif dstOk st [] o.dst then ok ∧ K (st.setK o.dst [] rv) else False
    | none => False
  | some (g, want) =>
    match guardReg ops g with
    | none => False
    | some r =>
      match look st.regs r with
      | some (k, .v .bool _) =>
        match st.quiet c ((r, want) :: k) o with
        | some (rv, ok) => bif dstOk st ((r, want) :: k) o.dst then (st.kc ((r, want) :: k) → ok) ∧ K (st.setK o.dst ((r, want) :: k) rv) else False
        | none => False
      | _ => False

def Md.deep : Md → Bool
  | .ow => true
  | _ => false

/-- Results of a call, new memory taken as shared. -/
def resCalm : List RK → List DV → Option RV
  | [], [] => some .un
  | .val t m :: rs, d :: ds =>
    bif t.flat && !(decide (m = .de)) || Md.deep m then
      match castTo t d.2, resCalm rs ds with
      | some x, some r => some (.pr (.v t x) r)
      | _, _ => none
    else none
  | _, _ => none

/-- A call that reads shared data, under a guard: what it makes is taken as shared. -/
def St.calm (c : Cfg) (st : St) (key : Key) (o : Oper) : Option (RV × Prop) :=
  match o.op with
  | .call { callee := .value g, args, .. } =>
    match st.val key none g with
    | some (.fn f []) =>
      match look c.env f with
      | some fs =>
        match st.args key fs.ps args.toList with
        | some ds => (resCalm fs.rs (fs.F ds).1).map fun r => (oneOrTup r, fs.pre ds)
        | none => none
      | none => none
    | _ => none
  | _ => none

/-- A slice is compared with nil: what must hold where the answer is yes; and whether it is asked for 'no'. -/
noncomputable def St.nilTest (c : Cfg) (st : St) (o : Oper) : Option (Prop × Bool) :=
  match o.op with
  | .binOp op xt x (.const (.slice none 0 0)) _ =>
    match look c.tys xt, st.val [] none x with
    | some (.sl e), some rv =>
      match st.mat (.sl e) rv with
      | some xs =>
        match op with
        | .eql => some (D.isNil e xs, false)
        | .neq => some (D.isNil e xs, true)
        | _ => none
      | none => none
    | _, _ => none
  | _ => none

/-- One operation. -/
def top (c : Cfg) (ops : Array Oper) (o : Oper) (K : St → Prop) (st : St) : Prop :=
  match o.guard with
  | none =>
    match st.quiet c [] o with
    | some (rv, ok) => bif dstOk st [] o.dst then ok ∧ K (st.setK o.dst [] rv) else False
    | none =>
      match st.loud c [] o with
      | some (st', ok) => bif dstOk st [] o.dst then ok ∧ K st' else False
      | none =>
        match st.nilTest c o with
        | some (p, neg) => bif dstOk st [] o.dst then ∀ b : Bool, (b = true → p) → K (st.setK o.dst [] (.v .bool (bif neg then !b else b))) else False
        | none => False
  | some (g, want) =>
    match guardReg ops g with
    | none => False
    | some r =>
      match look st.regs r with
      | some (k, .v .bool _) =>
        match st.quiet c ((r, want) :: k) o with
        | some (rv, ok) => bif dstOk st ((r, want) :: k) o.dst then (st.kc ((r, want) :: k) → ok) ∧ K (st.setK o.dst ((r, want) :: k) rv) else False
        | none =>
          match st.calm c ((r, want) :: k) o with
          | some (rv, ok) => bif dstOk st ((r, want) :: k) o.dst then (st.kc ((r, want) :: k) → ok) ∧ K (st.setK o.dst ((r, want) :: k) rv) else False
          | none => False
      | _ => False

/-- Operations that may stand in a region that only makes new memory. -/
def growOp (o : Oper) : Bool :=
  match o.op with
  | .store _ _ _ => false
  | .call { callee := .builtin .append, .. } => false
  | _ => true

def PK.isSh : PK → Bool
  | .sh _ => true
  | _ => false

/-- A loud operation that changes no memory that is there. -/
def St.growLoud (c : Cfg) (st : St) (key : Key) (o : Oper) : Bool :=
  match o.op with
  | .alloc _ | .box _ _ | .buildSlice _ _ _ | .makeSlice _ _ _ => true
  | .call { callee := .value g, .. } =>
    match st.val key none g with
    | some (.fn f os) =>
      match look c.env f with
      | some fs => os.isEmpty && fs.ps.all PK.isSh
      | none => false
    | _ => false
  | _ => false

noncomputable def St.growStep (c : Cfg) (st : St) (o : Oper) : Bool :=
  match o.guard with
  | some _ => true
  | none =>
    match st.quiet c [] o with
    | some _ => true
    | none =>
      match st.loud c [] o with
      | some _ => st.growLoud c [] o
      | none => true

def topL (c : Cfg) (ops : Array Oper) : List Oper → (St → Prop) → St → Prop
  | [], K, st => K st
  | o :: l, K, st => top c ops o (topL c ops l K) st

def tqL (c : Cfg) (ops : Array Oper) : List Oper → (St → Prop) → St → Prop
  | [], K, st => K st
  | o :: l, K, st => tq c ops o (tqL c ops l K) st

/-- Operations that may change no object, by their kind. -/
def quietOp (o : Oper) : Bool :=
  match o.op with
  | .alloc _ | .box _ _ | .store _ _ _ | .buildSlice _ _ _ | .makeSlice _ _ _ => false
  | .call { callee := .builtin .append, .. } => false
  | _ => true

/-- Operations that look at the registers only. -/
def pureOp (o : Oper) : Bool :=
  match o.op with
  | .load _ _ => false
  | .convert _ _ _ => false
  | .call { callee := .value _, .. } => false
  | _ => quietOp o

def pureAt (ops : Array Oper) (i : Nat) : Bool :=
  match ops[i]? with
  | some o => pureOp o
  | none => false

def pickOp (ops : Array Oper) (listed : Array Bool) : List Nat → Option Nat
  | [] => none
  | i :: rs => bif pureAt ops i && Region.free .any ops listed i then some i else pickOp ops listed rs

def allP {α : Type} (f : α → Prop) : List α → Prop
  | [] => True
  | [a] => f a
  | a :: l => f a ∧ allP f l

/-- A region whose order is open: every order. -/
def tany (c : Cfg) (ops : Array Oper) (K : St → Prop) : Nat → Array Bool → St → Prop
  | 0, listed, st => Region.ready .any ops listed = [] ∧ K st
  | fuel + 1, listed, st =>
    match Region.ready .any ops listed with
    | [] => K st
    | rs =>
      match pickOp ops listed rs with
      | some i => (match ops[i]? with | some o => tq c ops o (tany c ops K fuel (listed.setIfInBounds i true)) st | none => False)
      | none => allP (fun i => match ops[i]? with | some o => top c ops o (tany c ops K fuel (listed.setIfInBounds i true)) st | none => False) rs

def takeAt (ops : Array Oper) (i : Nat) : Bool :=
  match ops[i]? with
  | some o => pureOp o || isLoad o.op
  | none => false

def pickG (ops : Array Oper) (listed : Array Bool) : List Nat → Option Nat
  | [] => none
  | i :: rs => bif takeAt ops i && Region.free .any ops listed i then some i else pickG ops listed rs

/-- A region whose order is open, in which no memory that is there is changed: loads go first. -/
noncomputable def tanyG (c : Cfg) (ops : Array Oper) (K : St → Prop) : Nat → Array Bool → St → Prop
  | 0, listed, st => Region.ready .any ops listed = [] ∧ K st
  | fuel + 1, listed, st =>
    match Region.ready .any ops listed with
    | [] => K st
    | rs =>
      match pickG ops listed rs with
      | some i => (match ops[i]? with | some o => tq c ops o (tanyG c ops K fuel (listed.setIfInBounds i true)) st | none => False)
      | none => allP (fun i => match ops[i]? with | some o => bif st.growStep c o then top c ops o (tanyG c ops K fuel (listed.setIfInBounds i true)) st else False | none => False) rs

/-- What holds in the one state holds in the other. -/
def Le (st st' : St) : Prop := ∀ w0 mu Γ tmps w, Inv w0 mu Γ st tmps w → ∃ Γ', Inv w0 mu Γ' st' tmps w

noncomputable def tcode (c : Cfg) : Code → (Ex → St → Prop) → St → Prop
  | .skip, K, st => K .normal st
  | .exit id, K, st => K (.exit id) st
  | .ret, K, st => K .ret st
  | .region _ ops false, K, st => topL c ops ops.toList (K .normal) st
  | .region _ ops true, K, st =>
    bif ops.all quietOp then Region.lexB .any ops = true ∧ tqL c ops ops.toList (K .normal) st
    else bif ops.all growOp then Region.noSelect ops = true ∧ tanyG c ops (fun s => ∃ M, Le s M ∧ K .normal M) ops.size (Array.replicate ops.size false) st
    else Region.noSelect ops = true ∧ tany c ops (fun s => ∃ M, Le s M ∧ K .normal M) ops.size (Array.replicate ops.size false) st
  | .seq a b, K, st => tcode c a (fun e st' => match e with | .normal => tcode c b K st' | e => K e st') st
  | .cond q a b, K, st =>
    match st.val [] none q with
    | some (.v .bool t) => (t = true → tcode c a K st) ∧ (t = false → tcode c b K st)
    | _ => False
  | .block id a, K, st => tcode c a (fun e st' => match e with | .exit j => bif Nat.beq j id then K .normal st' else K (.exit j) st' | e => K e st') st
  | .loop a, K, st => ∃ (α : Type) (S : α → St) (m : α → Nat) (x : α), Le st (S x) ∧
      ∀ x, tcode c a (fun e st' => match e with | .normal => ∃ y, m y < m x ∧ Le st' (S y) | e => K e st') (S x)
  | _, _, _ => False

end Go.Tm
end

/- (TmSound)
  The runner is sound, as long as each operation that changes objects is.
-/
section
set_option linter.unusedSimpArgs false
set_option linter.unusedVariables false
namespace Go.Tm

/-- What is asked of the operations that make or change objects. -/
def LoudOk (P : Program) (c : Cfg) (w0 : World) (mu : Lent) : Prop :=
  ∀ (Γ : Gam) (st : St) (a : Act) (w : World) (key : Key) (o : Oper) (st' : St) (ok : Prop), Inv w0 mu Γ st a.tmps w →
    (∀ q ∈ key, a.tmps.getD q.1 undef = .bool q.2) → st.loud c key o = some (st', ok) → dstOk st [] o.dst = true → ok →
    ∀ (K : Act → World → Prop) (Q : Exit → Act → World → Prop), (∀ Γ' a' w', Inv w0 mu Γ' st' a'.tmps w' → a'.defers = a.defers → (st.growLoud c key o = true → Ext w w') → K a' w') → o.wp P a w K Q

def toExit : Ex → Exit
  | .normal => .normal
  | .exit id => .exit id
  | .ret => .ret

section
variable {P : Program} {c : Cfg} {w0 : World} {mu : Lent} {Γ : Gam} {st : St} {a : Act} {w : World} {key : Key} {o : Oper} {rv : RV} {ok : Prop} {ops : Array Oper}

theorem getD_of_yielded {g r : Nat} {b : Bool} (hr : guardReg ops g = some r) : (yielded ops a.tmps g == some b) = true ↔ a.tmps.getD r undef = .bool b := by
  unfold guardReg at hr
  unfold yielded
  cases ho : ops[g]? with
  | none => rw [ho] at hr; cases hr
  | some og =>
    rw [ho] at hr
    simp only [Option.bind_some]
    simp only [hr, Option.bind_some]
    have hd : a.tmps.getD r undef = (a.tmps[r]?).getD undef := by simp [Array.getD_eq_getD_getElem?]
    rw [hd]
    cases ht : a.tmps[r]? with
    | none => simp [undef]
    | some v =>
      simp only [Option.getD_some]
      cases v <;> simp [undef]

/-- A key's registers hold what the key says, or one does not. -/
theorem key_dec (k : Key) (tmps : Array Value) : (∀ q ∈ k, tmps.getD q.1 undef = .bool q.2) ∨ ∃ q ∈ k, tmps.getD q.1 undef ≠ .bool q.2 := by
  by_cases h : ∀ q ∈ k, tmps.getD q.1 undef = .bool q.2
  · exact .inl h
  · simp only [Classical.not_forall] at h
    obtain ⟨q, hq, hh⟩ := h
    exact .inr ⟨q, hq, hh⟩

theorem kc_of_held (h : Inv w0 mu Γ st a.tmps w) (hk : ∀ q ∈ key, a.tmps.getD q.1 undef = .bool q.2) : ∀ {k : Key}, (∀ q ∈ k, q ∈ key) → (∀ q ∈ k, ∀ k' rv, look st.regs q.1 = some (k', rv) → ∀ x ∈ k', a.tmps.getD x.1 undef = .bool x.2) → st.kc k
  | [], _, _ => trivial
  | (r, want) :: k, hs, hn => by
    refine ⟨?_, kc_of_held h hk (fun q hq => hs q (by simp [hq])) (fun q hq => hn q (by simp [hq]))⟩
    split
    · rename_i k' b hl
      have h1 := h.regs r k' _ (look_mem hl) (hn (r, want) (by simp) k' _ hl)
      have h2 := h1.bool
      rw [hk (r, want) (hs _ (by simp))] at h2
      simp only [Value.bool.injEq] at h2
      exact h2.symm
    · trivial

/-- Where a register holds what a key asks, the register's own key holds. -/
theorem held_sub (h : Inv w0 mu Γ st a.tmps w) {r : Nat} {k : Key} {rv : RV} {b : Bool} (hl : look st.regs r = some (k, rv)) (hv : a.tmps.getD r undef = .bool b) : ∀ q ∈ k, a.tmps.getD q.1 undef = .bool q.2 := by
  rcases key_dec k a.tmps with h1 | h1
  · exact h1
  · have := h.off r k rv (look_mem hl) h1
    rw [hv] at this; cases this

theorem kc_of_key (h : Inv w0 mu Γ st a.tmps w) (hk : ∀ q ∈ key, a.tmps.getD q.1 undef = .bool q.2) : st.kc key :=
  kc_of_held h hk (fun _ h => h) fun q hq k' rv hl => held_sub h hl (hk q hq)

/-- The values of a key's registers follow from the conditions. -/
theorem held_of_guard {g r : Nat} {want b : Bool} {k : Key} (h : Inv w0 mu Γ st a.tmps w) (hr : guardReg ops g = some r) (hl : look st.regs r = some (k, .v .bool b)) (hg : o.guard = some (g, want)) :
    (Region.wanted o (yielded ops a.tmps) = true ∧ ∀ q ∈ (r, want) :: k, a.tmps.getD q.1 undef = .bool q.2) ∨
    (Region.wanted o (yielded ops a.tmps) = false ∧ ∃ q ∈ (r, want) :: k, a.tmps.getD q.1 undef ≠ .bool q.2) := by
  have hw : Region.wanted o (yielded ops a.tmps) = (yielded ops a.tmps g == some want) := by simp [Region.wanted, hg]
  rw [hw]
  cases hy : (yielded ops a.tmps g == some want) with
  | true =>
    have h1 := (getD_of_yielded (b := want) hr).1 hy
    refine .inl ⟨rfl, fun q hq => ?_⟩
    rcases List.mem_cons.1 hq with rfl | hq
    · exact h1
    · exact held_sub h hl h1 q hq
  | false =>
    refine .inr ⟨rfl, (r, want), by simp, fun h1 => ?_⟩
    rw [(getD_of_yielded (b := want) hr).2 h1] at hy; cases hy

/-- A result is laid into its register. -/
theorem Inv.put (h : Inv w0 mu Γ st a.tmps w) {dst : Option Nat} {v : Value} (hd : dstOk st key dst = true) (hv : (∀ q ∈ key, a.tmps.getD q.1 undef = .bool q.2) → VR (envOf w Γ st.obs) rv v)
    (hoff : (∃ q ∈ key, a.tmps.getD q.1 undef ≠ .bool q.2) → v = undef) : Inv w0 mu Γ (st.setK dst key rv) (a.put dst v).tmps w := by
  cases dst with
  | none => exact h
  | some d =>
    simp only [dstOk, St.fits, Bool.and_eq_true] at hd
    exact h.set (by simpa using hd.1) hd.2 hv hoff

theorem Act.put_defers' (a : Act) (d : Option Tmp) (v : Value) : (a.put d v).defers = a.defers := by cases d <;> rfl

/-- One operation without effect, as a step of the walk in order. -/
theorem tq_quiet (hC : CfgOk P c w0 mu) {K : St → Prop} (ht : tq c ops o K st) (h : Inv w0 mu Γ st a.tmps w) {K' : Act → Prop}
    (hK : ∀ st' a', K st' → Inv w0 mu Γ st' a'.tmps w → a'.defers = a.defers → K' a') :
    if Region.wanted o (yielded ops a.tmps) then o.quiet P a (Grow w) K' else K' (a.put o.dst undef) := by
  unfold tq at ht
  cases hg : o.guard with
  | none =>
    rw [hg] at ht
    simp only at ht
    split at ht
    case h_2 => exact ht.elim
    rename_i rv ok hq
    cases hd : dstOk st [] o.dst with
    | false => rw [hd] at ht; exact ht.elim
    | true =>
      rw [hd] at ht
      obtain ⟨hok, hk⟩ := ht
      rw [if_pos (by simp [Region.wanted, hg])]
      obtain ⟨v, hv, hr⟩ := quiet_sound (key := []) hC h (by simp) hq hok
      exact ⟨v, hv, hK _ _ hk (h.put hd (fun _ => hr) (by simp)) (Act.put_defers' _ _ _)⟩
  | some gw =>
    obtain ⟨g, want⟩ := gw
    rw [hg] at ht
    simp only at ht
    split at ht
    case h_1 => exact ht.elim
    rename_i r hr
    split at ht
    case h_2 => exact ht.elim
    rename_i k b hl
    split at ht
    case h_2 => exact ht.elim
    rename_i rv ok hq
    cases hd : dstOk st ((r, want) :: k) o.dst with
    | false => rw [hd] at ht; exact ht.elim
    | true =>
      rw [hd] at ht
      obtain ⟨hok, hk⟩ := ht
      rcases held_of_guard h hr hl hg with ⟨hw, hh⟩ | ⟨hw, hh⟩
      · rw [if_pos hw]
        obtain ⟨v, hv, hr⟩ := quiet_sound (key := (r, want) :: k) hC h hh hq (hok (kc_of_key h hh))
        exact ⟨v, hv, hK _ _ hk (h.put hd (fun _ => hr) (fun ⟨q, hq, hne⟩ => absurd (hh q hq) hne)) (Act.put_defers' _ _ _)⟩
      · rw [if_neg (by simp [hw])]
        exact hK _ _ hk (h.put hd (fun h1 => by obtain ⟨q, hq, hne⟩ := hh; exact absurd (h1 q hq) hne) (fun _ => rfl)) (Act.put_defers' _ _ _)

theorem tqL_quiet (hC : CfgOk P c w0 mu) {K : St → Prop} {K' : Act → Prop} (d : List Deferred) (h0 : ∀ st' a', K st' → Inv w0 mu Γ st' a'.tmps w → a'.defers = d → K' a') :
    ∀ {l : List Oper} {st : St} {a : Act}, tqL c ops l K st → Inv w0 mu Γ st a.tmps w → a.defers = d → wpQuiet P ops (Grow w) K' l a
  | [], st, a, ht, h, hd => h0 st a ht h hd
  | o :: l, st, a, ht, h, hd =>
    tq_quiet (K' := wpQuiet P ops (Grow w) K' l) hC ht h fun st' a' hk hi hdd => tqL_quiet hC d h0 hk hi (hdd.trans hd)

/-- Data owned at every depth is read in its own blocks. -/
theorem Own.rep_true {w : World} {ok ok' : Nat → Prop} : ∀ {t : Ty} {vs : List Value} {x : t.den} {fp : List Nat}, Own w ok true t vs x fp → (∀ b ∈ fp, ok' b) → Rep w ok' t vs x
  | .int _, _, _, _, h, _ => h.1
  | .bool, _, _, _, h, _ => h.1
  | .str, _, _, _, h, _ => h.1
  | .un, _, _, _, h, _ => h.1
  | .pr a b, _, x, _, h, hk => by
    obtain ⟨v1, v2, f1, f2, e, rfl, h1, h2⟩ := h
    exact ⟨v1, v2, e, Own.rep_true h1 (fun b hb => hk b (by simp [hb])), Own.rep_true h2 (fun b hb => hk b (by simp [hb]))⟩
  | .sl e, _, xs, _, h, hk => by
    rcases h with ⟨hd, h, rfl, hh⟩ | ⟨hd, _, _⟩
    · exact hh.rep_of hk fun cs x f hf ho => Own.rep_true ho (fun b hb => hk b (hf b hb))
    · cases hd

theorem Rep.flat_any {w w' : World} {ok ok' : Nat → Prop} : ∀ {t : Ty} {vs : List Value} {x : t.den}, t.flat = true → Rep w ok t vs x → Rep w' ok' t vs x
  | .int _, _, _, _, h => h
  | .bool, _, _, _, h => h
  | .str, _, _, _, h => h
  | .un, _, _, _, h => h
  | .pr a b, _, x, hf, h => by
    obtain ⟨v1, v2, rfl, h1, h2⟩ := h
    simp only [Ty.flat, Bool.and_eq_true] at hf
    exact ⟨v1, v2, rfl, Rep.flat_any hf.1 h1, Rep.flat_any hf.2 h2⟩
  | .sl e, _, _, hf, _ => by simp [Ty.flat] at hf

theorem Held.lt {w : World} {ok : Nat → Prop} {m : Md} {t : Ty} {vs : List Value} {x : t.den} {fp : List Nat} (h : Held w ok m t vs x fp) : ∀ b ∈ fp, b < w.heap.size := by
  cases m with
  | sh => rw [h.2]; simp
  | ow => exact Own.lt h
  | de => rw [h.2]; simp

theorem BoxR.lt {w : World} {ok : Nat → Prop} {m : Md} {t : Ty} {v : Value} {x : t.den} {fp : List Nat} (h : BoxR w ok m t v x fp) : ∀ b ∈ fp, b < w.heap.size := by
  obtain ⟨b0, cs, ety, f, _, hb0, hh, rfl⟩ := h
  intro b hb
  rcases List.mem_cons.1 hb with rfl | hb
  · exact (Array.getElem?_eq_some_iff.1 hb0).1
  · exact hh.lt b hb

theorem ResL.lt {w : World} {ok : Nat → Prop} : ∀ {rs : List RK} {vs : List Value} {ds : List DV} {fp : List Nat}, ResL w ok rs vs ds fp → ∀ b ∈ fp, b < w.heap.size
  | [], vs, ds, fp, h => by
    cases vs <;> cases ds <;> simp only [ResL] at h
    subst h; simp
  | .val t m :: rs, vs, ds, fp, h => by
    cases vs <;> cases ds <;> simp only [ResL] at h
    obtain ⟨x, cells, f1, f2, rfl, hval, hh, hrest, rfl⟩ := h
    intro b hb
    rcases List.mem_append.1 hb with hb | hb
    · exact hh.lt b hb
    · exact ResL.lt hrest b hb
  | .box t m :: rs, vs, ds, fp, h => by
    cases vs <;> cases ds <;> simp only [ResL] at h
    obtain ⟨x, f1, f2, rfl, hh, hrest, rfl⟩ := h
    intro b hb
    rcases List.mem_append.1 hb with hb | hb
    · exact hh.lt b hb
    · exact ResL.lt hrest b hb

theorem resCalm_sound {w' : World} {okk : Nat → Prop} {E : Env} (hw : E.w = w') : ∀ {rs : List RK} {vs : List Value} {ds : List DV} {fp : List Nat} {r : RV}, (∀ b ∈ fp, E.ok b) → ResL w' okk rs vs ds fp → resCalm rs ds = some r → TR E r vs
  | [], vs, ds, fp, r, _, h, hr => by
    cases vs <;> cases ds <;> simp only [ResL] at h
    simp only [resCalm, Option.some.injEq] at hr; subst hr
    rfl
  | .box t m :: rs, vs, ds, fp, r, hf, h, hr => by
    cases ds <;> simp [resCalm] at hr
  | .val t m :: rs, vs, ds, fp, r, hf, h, hr => by
    cases vs <;> cases ds <;> simp only [ResL] at h
    rename_i v vs d ds
    obtain ⟨x, cells, f1, f2, rfl, hval, hh, hrest, rfl⟩ := h
    simp only [resCalm] at hr
    cases hc : (t.flat && !(decide (m = .de)) || Md.deep m) with
    | false => rw [hc] at hr; cases hr
    | true =>
      rw [hc] at hr
      simp only [cond_true, castTo_self] at hr
      split at hr
      · rename_i y r' hy hr'
        simp only [Option.some.injEq] at hr hy; subst hr; subst hy
        have hrep : Rep E.w E.ok t cells x := by
          rw [hw]
          simp only [Bool.or_eq_true, Bool.and_eq_true, Bool.not_eq_true', decide_eq_false_iff_not] at hc
          rcases hc with ⟨hc, hde⟩ | hc
          · cases m with
            | sh => exact Rep.flat_any hc hh.1
            | ow => exact Rep.flat_any hc (Own.flat_rep hc hh)
            | de => exact absurd rfl hde
          · cases m with
            | sh => cases hc
            | de => cases hc
            | ow => exact Own.rep_true hh (fun b hb => hf b (by simp [hb]))
        refine ⟨v, vs, rfl, ⟨cells, hrep, ?_⟩, resCalm_sound hw (fun b hb => hf b (by simp [hb])) hrest hr'⟩
        unfold valOf at hval; exact hval
      · cases hr

theorem calm_sound (hC : CfgOk P c w0 mu) (h : Inv w0 mu Γ st a.tmps w) (hk : ∀ q ∈ key, a.tmps.getD q.1 undef = .bool q.2) (hq : st.calm c key o = some (rv, ok)) (hok : ok)
    {K : Act → World → Prop} {Q : Exit → Act → World → Prop} (hK : ∀ v w', Grow w w' → VR (envOf w' Γ st.obs) rv v → K (a.put o.dst v) w') : o.wp P a w K Q := by
  unfold St.calm at hq
  split at hq
  case h_2 => cases hq
  rename_i g args ts ho
  split at hq
  case h_2 => cases hq
  rename_i f hf
  split at hq
  case h_2 => cases hq
  rename_i fs hfs
  split at hq
  case h_2 => cases hq
  rename_i ds hds
  simp only [Option.map_eq_some_iff, Prod.mk.injEq] at hq
  obtain ⟨r, hr, rfl, rfl⟩ := hq
  obtain ⟨hsn, fn, hfn, hb, hn⟩ := hC.env _ _ hfs
  obtain ⟨vs, ⟨hvs, _⟩, hv⟩ := h.val hk hf
  simp only [RV.agg, Bool.false_eq_true, if_false] at hv
  have hg : a.eval g = .func (.func f) #[] #[] := by
    rw [hvs] at hv; exact (List.cons.inj hv).1.symm
  have hargs := args_sound (okk := fun b => b < w.heap.size) h hk (fun b hb => hb) hds
  have h1 := hsn w (args.toList.map a.eval) ds [] (fun b => b < w.heap.size) (fun b hb => ⟨hb, by simp⟩) (hC.gl h (by simp)) hargs (by simp) (by simp) hok
  have he : (args.toList.map a.eval).toArray = args.map a.eval := by apply Array.ext'; simp
  rw [he] at h1
  unfold Oper.wp
  rw [run_enter ho hg hfn hb hn w]
  simp only [Oper.upon, Array.append_empty]
  refine h1.mono fun e w' ⟨v, hv, haft⟩ => ?_
  subst hv
  obtain ⟨vs, fr, fl, rfl, hres, hlent, hnd, hnew⟩ := haft.ex
  have hgw : Grow w w' := ⟨fun b hb => haft.frame b hb (by simp), haft.grown, haft.same⟩
  refine hK _ w' hgw (oneOrTup_sound ?_)
  refine resCalm_sound (E := envOf w' Γ st.obs) rfl (fun b hb => ?_) hres hr
  have h3 : w.heap.size ≤ b := (hnew b (by simp [hb])).resolve_right (by simp)
  refine ⟨hres.lt b hb, fun hm => ?_, fun hm => ?_⟩
  · have h2 := h.lt b hm
    omega
  · have h4 : Γ.no b := hm
    rw [h.nop.1] at h4
    have h5 := (h.nop.2 b h4).1
    have h6 := h.grown
    omega

theorem nilTest_sound (hC : CfgOk P c w0 mu) (h : Inv w0 mu Γ st a.tmps w) {p : Prop} {neg : Bool} (hq : st.nilTest c o = some (p, neg)) {K : Act → World → Prop} {Q : Exit → Act → World → Prop}
    (hK : ∀ b : Bool, (b = true → p) → K (a.put o.dst (.bool (bif neg then !b else b))) w) : o.wp P a w K Q := by
  unfold St.nilTest at hq
  split at hq
  case h_2 => cases hq
  rename_i op xt x yt ho
  split at hq
  case h_2 => cases hq
  rename_i e rv hty hx
  split at hq
  case h_2 => cases hq
  rename_i xs hm
  obtain ⟨cells, hval, hr⟩ := mat_val (okk := fun b => True) h (fun _ _ => trivial) (h.val (key := []) (by simp) hx) hm
  simp only [valOf, Ty.agg, Bool.false_eq_true, if_false] at hval
  subst hval
  obtain ⟨ad, cap, hv, hc, hlen, hne⟩ := hr
  have hv := (List.cons.inj hv).1
  obtain ⟨te, hu, hte⟩ := tyOf_sl (hC.tys _ _ hty)
  have hb : ad.isNone = true → D.isNil e xs := fun hn => by
    rw [D.isNil_eq]
    by_cases hx : xs = []
    · exact hx
    · obtain ⟨b, o', ha, _⟩ := hne hx
      rw [ha] at hn; cases hn
  have heq : (Op.equal xt (.slice ad xs.length cap) (.slice none 0 0)).run P w = .ok ad.isNone w := run_equal_slice_nil w xt te ad xs.length cap hu
  split at hq
  · simp only [Option.some.injEq, Prod.mk.injEq] at hq
    obtain ⟨rfl, rfl⟩ := hq
    have := hK ad.isNone hb
    simp only [cond_false] at this
    unfold Oper.wp
    have hrun : (execOp a.eval o).run P w = .ok (.value (.bool ad.isNone)) w := by
      simp only [execOp, ho, hv, show a.eval (.const (.slice none 0 0)) = .slice none 0 0 from rfl]
      simp [eqGuard, Go.binOp, heq]
    rw [hrun]; exact this
  · simp only [Option.some.injEq, Prod.mk.injEq] at hq
    obtain ⟨rfl, rfl⟩ := hq
    have := hK ad.isNone hb
    simp only [cond_true] at this
    unfold Oper.wp
    have hrun : (execOp a.eval o).run P w = .ok (.value (.bool (!ad.isNone))) w := by
      simp only [execOp, ho, hv, show a.eval (.const (.slice none 0 0)) = .slice none 0 0 from rfl]
      simp [eqGuard, Go.binOp, heq]
    rw [hrun]; exact this
  · cases hq

/-- One operation, as a step of a walk. -/
theorem top_sound (hC : CfgOk P c w0 mu) (hL : LoudOk P c w0 mu) {K : St → Prop} (ht : top c ops o K st) (h : Inv w0 mu Γ st a.tmps w) {K' : Act → World → Prop} {Q : Exit → Act → World → Prop}
    (hK : ∀ st' Γ' a' w', K st' → Inv w0 mu Γ' st' a'.tmps w' → a'.defers = a.defers → (st.growStep c o = true → Ext w w') → K' a' w') :
    if Region.wanted o (yielded ops a.tmps) then o.wp P a w K' Q ∨ (o.asks P a w ∧ LetsOut Q) else K' (a.put o.dst undef) w := by
  unfold top at ht
  have quietStep : ∀ {K'' : Act → Prop}, o.quiet P a (Grow w) K'' → (∀ a' w', Grow w w' → K'' a' → K' a' w') → o.wp P a w K' Q := fun hq hh =>
    Oper.wp_of_quiet (C := Grow w) (Grow.refl w) hh hq
  cases hg : o.guard with
  | none =>
    rw [hg] at ht
    simp only at ht
    rw [if_pos (by simp [Region.wanted, hg])]
    refine .inl ?_
    split at ht
    · rename_i rv ok hq
      cases hd : dstOk st [] o.dst with
      | false => rw [hd] at ht; exact ht.elim
      | true =>
        rw [hd] at ht
        obtain ⟨hok, hk⟩ := ht
        obtain ⟨v, hv, hr⟩ := quiet_sound (key := []) hC h (by simp) hq hok
        refine quietStep (K'' := fun a' => a' = a.put o.dst v) ⟨v, hv, rfl⟩ ?_
        rintro a' w' hgw rfl
        exact hK _ Γ _ _ hk ((h.put hd (fun _ => hr) (by simp)).grow hgw) (Act.put_defers' _ _ _) fun _ => hgw.ext
    · rename_i hqn
      split at ht
      · rename_i st' ok hq
        cases hd : dstOk st [] o.dst with
        | false => rw [hd] at ht; exact ht.elim
        | true =>
          rw [hd] at ht
          exact hL Γ st a w [] o st' ok h (by simp) hq hd ht.1 K' Q fun Γ' a' w' hi hdd hext => hK _ Γ' _ _ ht.2 hi hdd fun hg2 => hext (by unfold St.growStep at hg2; rw [hg, hqn, hq] at hg2; exact hg2)
      · split at ht
        · rename_i p neg hq
          cases hd : dstOk st [] o.dst with
          | false => rw [hd] at ht; exact ht.elim
          | true =>
            rw [hd] at ht
            exact nilTest_sound hC h hq fun b hb => hK _ Γ _ _ (ht b hb) (h.put hd (fun _ => VR.of_bool) (by simp)) (Act.put_defers' _ _ _) fun _ _ _ => rfl
        · exact ht.elim
  | some gw =>
    obtain ⟨g, want⟩ := gw
    rw [hg] at ht
    simp only at ht
    split at ht
    case h_1 => exact ht.elim
    rename_i r hr
    split at ht
    case h_2 => exact ht.elim
    rename_i k b hl
    split at ht
    · rename_i rv ok hq
      cases hd : dstOk st ((r, want) :: k) o.dst with
      | false => rw [hd] at ht; exact ht.elim
      | true =>
        rw [hd] at ht
        obtain ⟨hok, hk⟩ := ht
        rcases held_of_guard h hr hl hg with ⟨hw, hh⟩ | ⟨hw, hh⟩
        · rw [if_pos hw]
          obtain ⟨v, hv, hr⟩ := quiet_sound (key := (r, want) :: k) hC h hh hq (hok (kc_of_key h hh))
          refine .inl (quietStep (K'' := fun a' => a' = a.put o.dst v) ⟨v, hv, rfl⟩ ?_)
          rintro a' w' hgw rfl
          exact hK _ Γ _ _ hk ((h.put hd (fun _ => hr) (fun ⟨q, hq, hne⟩ => absurd (hh q hq) hne)).grow hgw) (Act.put_defers' _ _ _) fun _ => hgw.ext
        · rw [if_neg (by simp [hw])]
          exact hK _ Γ _ _ hk (h.put hd (fun h1 => by obtain ⟨q, hq, hne⟩ := hh; exact absurd (h1 q hq) hne) (fun _ => rfl)) (Act.put_defers' _ _ _) fun _ _ _ => rfl
    · split at ht
      · rename_i rv ok hq
        cases hd : dstOk st ((r, want) :: k) o.dst with
        | false => rw [hd] at ht; exact ht.elim
        | true =>
          rw [hd] at ht
          obtain ⟨hok, hk⟩ := ht
          rcases held_of_guard h hr hl hg with ⟨hw, hh⟩ | ⟨hw, hh⟩
          · rw [if_pos hw]
            exact .inl (calm_sound hC h hh hq (hok (kc_of_key h hh)) fun v w' hgw hv =>
              hK _ Γ _ _ hk ((h.grow hgw).put hd (fun _ => hv) (fun ⟨q, hq, hne⟩ => absurd (hh q hq) hne)) (Act.put_defers' _ _ _) fun _ => hgw.ext)
          · rw [if_neg (by simp [hw])]
            exact hK _ Γ _ _ hk (h.put hd (fun h1 => by obtain ⟨q, hq, hne⟩ := hh; exact absurd (h1 q hq) hne) (fun _ => rfl)) (Act.put_defers' _ _ _) fun _ _ _ => rfl
      · exact ht.elim

end
end Go.Tm
end
