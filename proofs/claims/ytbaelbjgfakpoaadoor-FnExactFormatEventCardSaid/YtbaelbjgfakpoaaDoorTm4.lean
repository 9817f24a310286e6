/-
  The pure machine, part 4 of 5: a general law that such code as this program's keeps to descriptions in plain Lean. It speaks of no program.
-/
import Derived.Test.YtbaelbjgfakpoaaDoorTm3
import Derived.Great.BuildSlice
import Derived.Laws.MakeOwn

/- (TmAppend5)
  Append is sound: the operation.
-/
section
set_option linter.unusedSimpArgs false
set_option linter.unusedVariables false
namespace Go.Tm

section
variable {P : Program} {c : Cfg} {w0 : World} {mu : Lent} {Γ : Gam} {st : St} {tmps : Array Value} {w w' : World} {key : Key} {o : Oper} {rv : RV} {ok : Prop}

theorem append_mem {okk0 : Nat → Prop} {d : Bool} {e : Ty} {te : TypeId} {ab ad : Option Addr} {n cap m : Nat} {oldc news : List Value} {xs ys : List e.den} {fp0 : List Nat} {fx fy : List (List Nat)} {v' : Value}
    (hpos : 0 < e.size) (hn : xs.length = n) (hcap : n ≤ cap) (hol : oldc.length = n * e.size) (hfx : fx.length = n)
    (hox : ∀ i (h : i < xs.length) (h' : i < fx.length), Own w okk0 d e ((oldc.drop (i * e.size)).take e.size) xs[i] fx[i])
    (hbase : (cap = 0 ∧ fp0 = []) ∨ ∃ g cur ety, ab = some ⟨g, 0, none⟩ ∧ w.heap[g]? = some (.cells cur ety (0, 0)) ∧ cur.size = cap * e.size ∧ cur.toList.take (n * e.size) = oldc ∧ fp0 = g :: fx.flatten)
    (hnews : News w okk0 d e ad m ys news fy) (hokk : ∀ b, okk0 b → b < w.heap.size ∧ b ∉ fp0) (hnd : (fp0 ++ fy.flatten).Nodup) (hlt : ∀ b ∈ fp0 ++ fy.flatten, b < w.heap.size) (hlen : n + m ≤ lenMax)
    (ha : Appended w e.size te ab n cap m oldc news v' w') :
    ∃ F, (∀ okk : Nat → Prop, (∀ b, okk0 b → okk b) → SlotR w' e (fun cs x f => Own w' okk d e cs x f) v' (xs ++ ys) F) ∧ (∀ b ∈ F, b ∈ fp0 ∨ b ∈ fy.flatten ∨ w.heap.size ≤ b) ∧ F.Nodup ∧
      w.heap.size ≤ w'.heap.size ∧ (w'.os = w.os ∧ w'.tape = w.tape ∧ w'.output = w.output) ∧ ∀ b, b < w.heap.size → b ∉ fp0 → w'.heap[b]? = w.heap[b]? := by
  rw [List.nodup_append] at hnd
  have hnl := hnews.cells
  have hyl := hnews.len
  have hfy := hnews.nfps
  cases ha with
  | none hm =>
    subst hm
    have hys : ys = [] := List.eq_nil_of_length_eq_zero hyl
    subst hys
    refine ⟨fp0, fun okk hk => ?_, fun b hb => .inl hb, hnd.1, Nat.le_refl _, ⟨rfl, rfl, rfl⟩, fun _ _ _ => rfl⟩
    rw [List.append_nil]
    refine ⟨ab, cap, by rw [hn], by omega, by omega, ?_⟩
    rcases hbase with ⟨h0, h1⟩ | ⟨g, cur, ety, h1, h2, h3, h4, h5⟩
    · exact .inl ⟨h0, h1⟩
    · refine .inr ⟨g, cur, ety, fx, h1, h2, h3, by omega, h5, fun i h h' => ?_⟩
      have := hox i h h'
      rw [← h4] at this
      have h6 := Nat.mul_le_mul_right e.size (show i + 1 ≤ n by omega)
      rw [Nat.add_mul, Nat.one_mul] at h6
      rw [List.drop_take, List.take_take, Nat.min_eq_left (by omega)] at this
      exact this.mono hk (fun _ _ => rfl) (fun _ _ => rfl)
  | room g cur ety hab hg hs ho h hm =>
    rcases hbase with ⟨h0, h1⟩ | ⟨g', cur', ety', h1, h2, h3, h4, h5⟩
    · omega
    rw [h1] at hab
    simp only [Option.some.injEq, Addr.mk.injEq, and_true] at hab
    subst hab
    rw [h2] at hg
    simp only [Option.some.injEq, Obj.cells.injEq] at hg
    obtain ⟨rfl, rfl, _⟩ := hg
    have hfit : n * e.size + news.length ≤ cur'.size := by rw [hnl, hs, ← Nat.add_mul]; exact Nat.mul_le_mul_right _ h
    have hw := wrote_setRow (w := w) h2 hfit
    have hgo : ∀ b, b ≠ g' → (w.setRow g' (updL cur'.toList (n * e.size) news).toArray).heap[b]? = w.heap[b]? := fun b hb => hw.other b hb
    refine ⟨fp0 ++ fy.flatten, fun okk hk => ?_, fun b hb => (List.mem_append.1 hb).imp id .inl, List.nodup_append.2 hnd, by rw [setRow_size]; exact Nat.le_refl _, ⟨rfl, rfl, rfl⟩, fun b _ hb => hgo b (by rintro rfl; exact hb (by rw [h5]; simp))⟩
    rw [h5] at hnd hokk
    have hg1 : g' ∉ fx.flatten := by have := hnd.1; rw [List.nodup_cons] at this; exact this.1
    refine ⟨some ⟨g', 0, none⟩, cap, by rw [List.length_append, hn, hyl, h1], by rw [List.length_append]; omega, by rw [List.length_append]; omega, .inr ⟨g', (updL cur'.toList (n * e.size) news).toArray, ety', fx ++ fy, rfl, ?_, ?_, by simp; omega, by rw [h5]; simp, ?_⟩⟩
    · exact setRow_heap w g' cur' _ ety' (0, 0) h2
    · have : (updL cur'.toList (n * e.size) news).length = cur'.toList.length := updL_length (by simpa using hfit)
      simp [this, hs]
    · have e1 : (updL cur'.toList (n * e.size) news).toArray.toList = oldc ++ news ++ cur'.toList.drop (n * e.size + news.length) := by simp [updL, ho]
      rw [e1]
      refine pieces (by rw [hol, hn]) (by rw [hnl, hyl]) (by omega) (by omega) (fun i h h' => ?_) (fun i h h' => ?_)
      · refine (hox i h h').mono hk (fun b hb => hgo b fun e' => (hokk b hb).2 (by simp [e'])) fun b hb => hgo b ?_
        rintro rfl
        exact hg1 (List.mem_flatten.2 ⟨_, List.getElem_mem h', hb⟩)
      · refine (hnews.el i h h').mono hk (fun b hb => hgo b fun e' => (hokk b hb).2 (by simp [e'])) fun b hb => hgo b ?_
        rintro rfl
        exact hnd.2.2 b (by simp) b (List.mem_flatten.2 ⟨_, List.getElem_mem h', hb⟩) rfl
  | grow cap' rest h hr hm =>
    have hheap : ∀ b, b < w.heap.size → (w.drew.alloc (.cells (oldc ++ news ++ rest).toArray te (0, 0))).heap[b]? = w.heap[b]? := fun b hb => heap_alloc_old w.drew _ b hb
    have hin : ∀ b ∈ fx.flatten, b ∈ fp0 := fun b hb => by
      rcases hbase with ⟨h0, h1⟩ | ⟨g', cur', ety', h1, h2, h3, h4, h5⟩
      · have : fx = [] := List.eq_nil_of_length_eq_zero (by omega)
        subst this; simp at hb
      · rw [h5]; simp [hb]
    have hfxn : fx.flatten.Nodup := by
      rcases hbase with ⟨h0, h1⟩ | ⟨g', cur', ety', h1, h2, h3, h4, h5⟩
      · have : fx = [] := List.eq_nil_of_length_eq_zero (by omega)
        subst this; simp
      · rw [h5] at hnd
        exact (List.nodup_cons.1 hnd.1).2
    refine ⟨w.heap.size :: (fx ++ fy).flatten, fun okk hk => ?_, fun b hb => ?_, ?_, by simp, ⟨rfl, rfl, rfl⟩, fun b hb _ => hheap b hb⟩
    · refine ⟨some ⟨w.heap.size, 0, none⟩, cap', by rw [List.length_append, hn, hyl], by rw [List.length_append]; omega, by rw [List.length_append]; omega, .inr ⟨w.heap.size, (oldc ++ news ++ rest).toArray, te, fx ++ fy, rfl, ?_, ?_, by simp; omega, rfl, ?_⟩⟩
      · exact heap_alloc_new w.drew _
      · simp only [List.size_toArray, List.length_append, hol, hnl, hr, ← Nat.add_mul]
        congr 1; omega
      · show ∀ i (h : i < (xs ++ ys).length) (h' : i < (fx ++ fy).length), _
        simp only []
        refine pieces (by rw [hol, hn]) (by rw [hnl, hyl]) (by omega) (by omega) (fun i h h' => ?_) (fun i h h' => ?_)
        · exact (hox i h h').mono hk (fun b hb => hheap b (hokk b hb).1) fun b hb => hheap b (hlt b (List.mem_append.2 (.inl (hin b (List.mem_flatten.2 ⟨_, List.getElem_mem h', hb⟩)))))
        · exact (hnews.el i h h').mono hk (fun b hb => hheap b (hokk b hb).1) fun b hb => hheap b (hlt b (List.mem_append.2 (.inr (List.mem_flatten.2 ⟨_, List.getElem_mem h', hb⟩))))
    · rcases List.mem_cons.1 hb with rfl | hb
      · exact .inr (.inr (Nat.le_refl _))
      · rw [List.flatten_append] at hb
        exact (List.mem_append.1 hb).imp (hin b) .inl
    · rw [List.nodup_cons, List.flatten_append, List.nodup_append]
      refine ⟨fun hm => ?_, hfxn, hnd.2.1, fun x hx y hy => hnd.2.2 x (hin x hx) y hy⟩
      have := hlt w.heap.size ((List.mem_append.1 hm).elim (fun h => List.mem_append.2 (.inl (hin _ h))) fun h => List.mem_append.2 (.inr h))
      omega

end
end Go.Tm
end

/- (TmAppend6)
  Append is sound: the operation as the machine has it.
-/
section
set_option linter.unusedSimpArgs false
set_option linter.unusedVariables false
namespace Go.Tm

section
variable {P : Program} {c : Cfg} {w0 : World} {mu : Lent} {Γ : Gam} {st : St} {tmps : Array Value} {w w' : World} {key : Key} {o : Oper} {rv : RV} {ok : Prop}

theorem drops_lent : ∀ {ids : List Nat} {st : St}, (st.drops ids).lent = st.lent
  | [], _ => rfl
  | i :: ids, st => (drops_lent (ids := ids) (st := st.drop i)).trans rfl

theorem drops_n : ∀ {ids : List Nat} {st : St}, (st.drops ids).n = st.n
  | [], _ => rfl
  | i :: ids, st => (drops_n (ids := ids) (st := st.drop i)).trans rfl

theorem elem_facts (hC : CfgOk P c w0 mu) {t : TypeId} {e : Ty} (hty : look c.tys t = some (.sl e)) :
    ∃ te i z, P.underlying t = some (.slice te) ∧ P.info? te = some i ∧ i.zero = some z ∧ z.cells.toList = e.zcells ∧ z.cells.size = i.size ∧ i.size = e.size ∧ i.bytes ≤ 32 * e.size ∧ tyOf P 8 te = some e := by
  obtain ⟨te, hu, he⟩ := tyOf_sl (hC.tys _ _ hty)
  obtain ⟨i, z, hi, hsz, hz, hzo, _⟩ := tyOf_info he
  obtain ⟨i', hi', hb⟩ := tyOf_bytes he
  rw [hi] at hi'
  simp only [Option.some.injEq] at hi'; subst hi'
  have hzc : z.cells.toList = e.zcells := by simpa using zeroOk_sound hzo
  refine ⟨te, i, z, hu, hi, hz, hzc, ?_, hsz, hb, he⟩
  have : z.cells.toList.length = e.zcells.length := by rw [hzc]
  have h2 : e.zcells.length = e.size := (cr_zero (E := ⟨default, fun _ => True, fun _ => undef, fun _ => [], fun _ => 0, fun _ => none⟩) e).1.len.trans (RV.fits_size (cr_zero (E := ⟨default, fun _ => True, fun _ => undef, fun _ => [], fun _ => 0, fun _ => none⟩) e).2)
  rw [← Array.length_toList, this, h2, hsz]

theorem room_bounds {n : Nat} {e : Ty} {b : Nat} (hr : D.room n e) (hb : b ≤ 32 * e.size) (hpos : 0 < e.size) : n ≤ lenMax ∧ n * b ≤ 140737488355328 := by
  rw [D.room_eq] at hr
  have h1 : n * b ≤ n * (32 * e.size) := Nat.mul_le_mul_left _ hb
  have h2 : n * 1 ≤ n * (32 * e.size) := Nat.mul_le_mul_left _ (by omega)
  unfold lenMax at hr ⊢
  omega

theorem loud_append {a : Act} (hC : CfgOk P c w0 mu) (h : Inv w0 mu Γ st a.tmps w) (hk : ∀ q ∈ key, a.tmps.getD q.1 undef = .bool q.2) {t : TypeId} {d : Nat} {s x : Operand} {st' : St}
    (ho : o.op = .call { callee := .builtin .append, args := #[s, x], argTypes := #[t, t] }) (hd : o.dst = some d) (hm : st.canMake d = true) (hq : st.append c key d t s x = some (st', ok)) (hok : ok)
    {K : Act → World → Prop} {Q : Exit → Act → World → Prop} (hK : ∀ Γ' a' w', Inv w0 mu Γ' st' a'.tmps w' → a'.defers = a.defers → K a' w') : o.wp P a w K Q := by
  obtain ⟨hl, hn⟩ := canMake_spec hm
  unfold St.append at hq
  split at hq
  case h_2 => cases hq
  rename_i e hty
  obtain ⟨te, i, z, hu, hi, hz, hzc, hzs, hsz, hby, hte⟩ := elem_facts hC hty
  split at hq
  · -- the base is a slot
    rename_i b e1 n1 xv hs hx
    split at hq
    case h_2 => cases hq
    rename_i e2 m xs hob
    split at hq
    case h_2 => cases hq
    rename_i xs1 ys ids hcast hg
    cases hB : (nodupB (b :: ids) && Nat.ble 1 e.size && st.free b) with
    | false => rw [hB] at hq; cases hq
    | true =>
      rw [hB] at hq
      simp only [cond_true, Option.some.injEq, Prod.mk.injEq] at hq
      obtain ⟨rfl, rfl⟩ := hq
      simp only [Bool.and_eq_true] at hB
      have hnd := nodupB_spec hB.1.1
      rw [List.nodup_cons] at hnd
      have hpos : 0 < e.size := by have := hB.1.2; simp at this; omega
      have hfree := free_spec hB.2
      obtain ⟨e3, hxs⟩ := castTo_inj hcast
      cases e3
      subst hxs
      have hsv := slot_of_slice h (h.val hk hs) hob
      obtain ⟨_, hsl⟩ := h.obs b _ (look_mem hob)
      obtain ⟨ab, cap, hhd⟩ := h.hdr hob
      rw [show (envOf w Γ st.obs).hdr b = .slice ab xs.length cap from hhd] at hsl
      obtain ⟨_, hcap, _, oldc, fx, hol, hfx, hfsub, hox, hbase⟩ := slot_olds hsl
      obtain ⟨ad, k, cap2, news, fy, hxv, hnews, hfy, hids⟩ := giveEl_sound h hpos (h.val hk hx) hg
      have hroom : D.room (xs.length + k) e := by
        have := hok
        rw [D.cnt_eq, D.app_eq] at this
        simpa [hnews.len] using this
      obtain ⟨hlen, hbytes⟩ := room_bounds hroom hby hpos
      obtain ⟨v', w', hrun, hap⟩ := run_append_any (P := P) (t := t) (ty := o.type) (w := w) hu hi hz hzs (by rw [hsz]; exact hpos) (ab := ab) (ad := ad) (n := xs.length) (cap := cap) (m := k) (c := cap2) (oldc := oldc) (news := news)
        (by rw [hsz]; exact hol) hcap (by rw [hsz]; rcases hbase with h1 | ⟨g, cur, ety, h1, h2, h3, h4, _⟩
                                          · exact .inl h1.1
                                          · exact .inr ⟨g, cur, ety, h1, h2, h3, h4⟩) (by rw [hsz]; exact hnews.cells) hnews.src hnews.one (by unfold lenMax at hlen; omega) hbytes
      rw [hsz] at hap
      have hfpn : (Γ.fp b ++ ids.flatMap Γ.fp).Nodup := by
        have := fps_nodup h (ids := b :: ids) (by rw [List.nodup_cons]; exact hnd) (fun s hs => by
          rcases List.mem_cons.1 hs with rfl | hs
          · exact ⟨_, _, _, hob⟩
          · exact hids s hs)
        simpa using this
      have hsub : (Γ.fp b ++ fy.flatten).Sublist (Γ.fp b ++ ids.flatMap Γ.fp) := List.Sublist.append (List.Sublist.refl _) hfy
      have hltA : ∀ y ∈ Γ.fp b ++ ids.flatMap Γ.fp, y < w.heap.size := fun y hy => by
        rcases List.mem_append.1 hy with hy | hy
        · exact h.lt y (mem_owned_slot (look_mem hob) y hy)
        · obtain ⟨s', hs', hy⟩ := List.mem_flatMap.1 hy
          obtain ⟨_, _, _, h3⟩ := hids s' hs'
          exact h.lt y (mem_owned_slot (look_mem h3) y hy)
      obtain ⟨F, hF1, hF2, hF3, hsize, hsame, hheap⟩ := append_mem (okk0 := (envOf w Γ st.obs).ok) (fp0 := Γ.fp b) hpos rfl hcap hol hfx hox hbase hnews (fun y hy => ⟨hy.1, h.dis (a := a) hob y hy⟩) (hfpn.sublist hsub) (fun y hy => hltA y (hsub.subset hy)) hlen hap
      obtain ⟨R, h1, hok1, hl1, hr1, hf1, hs1⟩ := h.drops (ids := ids)
      have hob1 := hl1 b _ _ _ hnd.1 hob
      have hfyR : ∀ y ∈ fy.flatten, y ∈ R := fun y hy => by
        obtain ⟨s', hs', hy⟩ := List.mem_flatMap.1 (hfy.subset hy)
        obtain ⟨e5, k5, x5, h3⟩ := hids s' hs'
        exact hf1 s' hs' e5 k5 x5 h3 y hy
      have hold : oldFp { Γ with rs := R } (st.drops ids) b = Γ.fp b := by simp [oldFp, hob1, obFp]
      obtain ⟨Γ2, g1, g2, h2, _⟩ := h1.newSlot (d := b) (e := e) (k := m) (xs := xs ++ ys) (v := v') (F := F) (w' := w') (by rw [drops_lent]; exact hfree)
        ⟨hsize, hsame, fun y hy hr => hheap y hy fun hf => hr (List.mem_append.2 (.inr (by rw [hold]; exact hf)))⟩ hpos (fun y hy => by
          rcases hF2 y hy with h3 | h3 | h3
          · exact .inl (List.mem_append.2 (.inr (by rw [hold]; exact h3)))
          · exact .inl (List.mem_append.2 (.inl (hfyR y h3)))
          · exact .inr h3) hF3 (fun okk hokk => hF1 okk fun y hy => hokk y (hok1 y hy))
      have happ : D.app e xs ys = xs ++ ys := by rw [D.app_eq]
      rw [happ] at hK
      refine wp_of_value (v := v') (w' := w') ?_ (hK Γ2 _ _ ?_ (Act.put_defers' _ _ _))
      · have hes : a.eval s = .slice ab xs.length cap := by rw [hsv, hhd]
        simp only [hes, hxv, execOp, ho, resolve, invoke, builtin]
        simp [hes, hxv, hrun]
      · rw [hd]
        refine h2.set (r := d) (k := []) (rv := .rf b e _) (v := v') (by show d < ((st.drops ids).addOb b _).n; rw [show ((st.drops ids).addOb b (.slot e m (xs ++ ys))).n = (st.drops ids).n from rfl, drops_n]; exact hn) (by simp) (fun _ => ?_) (by simp)
        refine ⟨[v'], ⟨?_, m, xs ++ ys, ?_, ?_⟩, by simp [RV.agg]⟩
        · show [v'] = [Γ2.hdr b]
          rw [g1]
        · show look ((b, Ob.slot e m (xs ++ ys)) :: ((st.drops ids).drop b).obs) b = _
          simp [look]
        · rw [D.cnt_eq]
  · -- the base is empty
    rename_i e1 xv hs hx
    have core : ∀ {m : Bool} {ys : List e.den} {ids : List Nat}, st.giveEl m e xv = some (ys, ids) → (nodupB ids && Nat.ble 1 e.size) = true → D.room (D.cnt e ys) e →
        (∀ Γ' a' w', Inv w0 mu Γ' ((st.drops ids).newOb d (.slot e m ys) (.rf d e (D.cnt e ys))) a'.tmps w' → a'.defers = a.defers → K a' w') → o.wp P a w K Q := by
      intro m ys ids hg hB hroom0 hK
      simp only [Bool.and_eq_true] at hB
      have hnd := nodupB_spec hB.1
      have hpos : 0 < e.size := by have := hB.2; simp at this; omega
      have hc0 := (VR.to1 (h.val hk hs) (by simp)).cell (by rfl)
      obtain ⟨ab, hsv⟩ := hc0
      have hsv := (List.cons.inj hsv).1
      obtain ⟨ad, k, cap2, news, fy, hxv, hnews, hfy, hids⟩ := giveEl_sound h hpos (h.val hk hx) hg
      have hroom : D.room (0 + k) e := by
        rw [D.cnt_eq] at hroom0
        simpa [hnews.len] using hroom0
      obtain ⟨hlen, hbytes⟩ := room_bounds hroom hby hpos
      obtain ⟨v', w', hrun, hap⟩ := run_append_any (P := P) (t := t) (ty := o.type) (w := w) hu hi hz hzs (by rw [hsz]; exact hpos) (ab := ab) (ad := ad) (n := 0) (cap := 0) (m := k) (c := cap2) (oldc := []) (news := news)
        (by simp) (Nat.le_refl _) (.inl rfl) (by rw [hsz]; exact hnews.cells) hnews.src hnews.one (by unfold lenMax at hlen; omega) hbytes
      rw [hsz] at hap
      have hfpn := fps_nodup h hnd hids
      have hltA : ∀ y ∈ ids.flatMap Γ.fp, y < w.heap.size := fun y hy => by
        obtain ⟨s', hs', hy⟩ := List.mem_flatMap.1 hy
        obtain ⟨_, _, _, h3⟩ := hids s' hs'
        exact h.lt y (mem_owned_slot (look_mem h3) y hy)
      obtain ⟨F, hF1, hF2, hF3, hsize, hsame, hheap⟩ := append_mem (okk0 := (envOf w Γ st.obs).ok) (fp0 := []) (xs := []) (fx := []) hpos rfl (Nat.le_refl _) (by simp) rfl (fun i hi => by simp at hi) (.inl ⟨rfl, rfl⟩) hnews (fun y hy => ⟨hy.1, by simp⟩)
        (by simpa using hfpn.sublist hfy) (fun y hy => hltA y (hfy.subset (by simpa using hy))) hlen hap
      obtain ⟨R, h1, hok1, hl1, hr1, hf1, hs1⟩ := h.drops (ids := ids)
      have hfyR : ∀ y ∈ fy.flatten, y ∈ R := fun y hy => by
        obtain ⟨s', hs', hy⟩ := List.mem_flatMap.1 (hfy.subset hy)
        obtain ⟨e5, k5, x5, h3⟩ := hids s' hs'
        exact hf1 s' hs' e5 k5 x5 h3 y hy
      obtain ⟨Γ2, h2⟩ := h1.newSlotReg (d := d) (e := e) (k := m) (xs := ys) (n := D.cnt e ys) (v := v') (F := F) (w' := w') (by
          simp only [St.canMake, St.free, drops_lent, drops_n]; exact hm)
        ⟨hsize, hsame, fun y hy hr => hheap y hy (by simp)⟩ hpos (fun y hy => by
          rcases hF2 y hy with h3 | h3 | h3
          · simp at h3
          · exact .inl (List.mem_append.2 (.inl (hfyR y h3)))
          · exact .inr h3) hF3 (fun okk hokk => by simpa using hF1 okk fun y hy => hokk y (hok1 y hy)) (by rw [D.cnt_eq])
      refine wp_of_value (v := v') (w' := w') ?_ (hK Γ2 _ _ ?_ (Act.put_defers' _ _ _))
      · simp only [hsv, hxv, execOp, ho, resolve, invoke, builtin]
        simp [hsv, hxv, hrun]
      · rw [hd]; exact h2
    split at hq
    · rename_i ys ids hg
      cases hB : (nodupB ids && Nat.ble 1 e.size) with
      | false => rw [hB] at hq; cases hq
      | true =>
        rw [hB] at hq
        simp only [cond_true, Option.some.injEq, Prod.mk.injEq] at hq
        obtain ⟨rfl, rfl⟩ := hq
        exact core hg hB hok hK
    · split at hq
      · rename_i ys ids hg
        cases hB : (nodupB ids && Nat.ble 1 e.size) with
        | false => rw [hB] at hq; cases hq
        | true =>
          rw [hB] at hq
          simp only [cond_true, Option.some.injEq, Prod.mk.injEq] at hq
          obtain ⟨rfl, rfl⟩ := hq
          exact core hg hB hok hK
      · cases hq
  · cases hq

end
end Go.Tm
end

/- (TmMake)
  make and slice literals are sound.
-/
section
set_option linter.unusedSimpArgs false
set_option linter.unusedVariables false
namespace Go.Tm

section
variable {P : Program} {c : Cfg} {w0 : World} {mu : Lent} {Γ : Gam} {st : St} {tmps : Array Value} {w w' : World} {key : Key} {o : Oper} {rv : RV} {ok : Prop}

theorem own_zero {w : World} {okk : Nat → Prop} {d : Bool} : ∀ (t : Ty), Own w okk d t t.zcells t.dflt []
  | .int k => ⟨rep_zero (w := w) (ok := okk) (.int k), rfl⟩
  | .bool => ⟨rep_zero (w := w) (ok := okk) .bool, rfl⟩
  | .str => ⟨rep_zero (w := w) (ok := okk) .str, rfl⟩
  | .un => ⟨rep_zero (w := w) (ok := okk) .un, rfl⟩
  | .pr a b => ⟨_, _, [], [], rfl, rfl, own_zero a, own_zero b⟩
  | .sl e => by
    cases d with
    | true => exact .inl ⟨rfl, .slice none 0 0, rfl, none, 0, rfl, Nat.le_refl _, Nat.zero_le _, .inl ⟨rfl, rfl⟩⟩
    | false => exact .inr ⟨rfl, rep_zero (.sl e), rfl⟩

theorem zcells_len (e : Ty) : e.zcells.length = e.size :=
  (cr_zero (E := ⟨default, fun _ => True, fun _ => undef, fun _ => [], fun _ => 0, fun _ => none⟩) e).1.len.trans (RV.fits_size (cr_zero (E := ⟨default, fun _ => True, fun _ => undef, fun _ => [], fun _ => 0, fun _ => none⟩) e).2)

theorem made_piece {z : Array Value} {n size : Nat} (hz : z.size = size) {i : Nat} (hi : i < n) : ((madeCells z (n * size)).toList.drop (i * size)).take size = z.toList := by
  apply List.ext_getElem?
  intro j
  rw [List.getElem?_take]
  have h3 := Nat.mul_le_mul_right size (show i + 1 ≤ n by omega)
  rw [Nat.add_mul, Nat.one_mul] at h3
  by_cases hj : j < size
  · rw [if_pos hj, List.getElem?_drop]
    have h1 : i * size + j < n * size := by omega
    have h2 : (i * size + j) % z.size = j := by rw [hz, Nat.add_comm, Nat.add_mul_mod_self_right, Nat.mod_eq_of_lt hj]
    have h4 : j < z.size := by omega
    simp only [madeCells, Array.toList_map, List.getElem?_map, Array.toList_range, List.getElem?_range h1, Option.map_some, h2]
    simp [h4]
  · rw [if_neg hj]
    have : z.toList.length ≤ j := by simp [hz]; omega
    rw [List.getElem?_eq_none this]

theorem loud_make {a : Act} (hC : CfgOk P c w0 mu) (h : Inv w0 mu Γ st a.tmps w) (hk : ∀ q ∈ key, a.tmps.getD q.1 undef = .bool q.2) {t : TypeId} {d : Nat} {l k : Operand} {st' : St}
    (ho : o.op = .makeSlice t l k) (hd : o.dst = some d) (hm : st.canMake d = true) (hq : st.makeSlice c key d t l k = some (st', ok)) (hok : ok)
    {K : Act → World → Prop} {Q : Exit → Act → World → Prop} (hK : ∀ Γ' a' w', Inv w0 mu Γ' st' a'.tmps w' → a'.defers = a.defers → Ext w w' → K a' w') : o.wp P a w K Q := by
  unfold St.makeSlice at hq
  split at hq
  case h_2 => cases hq
  rename_i e n m hty hl hkk
  obtain ⟨te, i, z, hu, hi, hz, hzc, hzs, hsz, hby, hte⟩ := elem_facts hC hty
  cases hB : Nat.ble 1 e.size with
  | false => rw [hB] at hq; cases hq
  | true =>
    rw [hB] at hq
    simp only [cond_true, Option.some.injEq, Prod.mk.injEq] at hq
    obtain ⟨rfl, rfl⟩ := hq
    have hpos : 0 < e.size := by simp at hB; omega
    obtain ⟨hsame, hroom⟩ := hok
    rw [D.same_eq] at hsame
    obtain ⟨rfl, h0⟩ := hsame
    obtain ⟨hlen, hbytes⟩ := room_bounds hroom hby hpos
    rw [D.nat_eq] at hlen hbytes
    simp only at hlen hbytes
    have hvl := (h.val hk hl).int
    have hvk := (h.val hk hkk).int
    have hnn : (n.toNat : Int) = n := Int.toNat_of_nonneg h0
    have hbi : (i.bytes : Int) * n ≤ 140737488355328 := by rw [← hnn, ← Int.natCast_mul, Nat.mul_comm]; omega
    have hrun := run_make (P := P) w t te i z hu hi hz .i64 .i64 n n h0 (Int.le_refl _) (by omega) (by unfold lenMax at hlen; rw [← hnn]; omega)
    rw [hsz] at hrun
    obtain ⟨Γ2, h2⟩ := h.newSlotReg (d := d) (e := e) (k := true) (xs := D.rep e n) (n := D.nat n) (v := .slice (some ⟨w.heap.size, 0, none⟩) n.toNat n.toNat) (F := [w.heap.size]) (w' := w.alloc (.cells (madeCells z.cells (n.toNat * e.size)) te)) hm
      ⟨by simp, ⟨rfl, rfl, rfl⟩, fun b hb _ => heap_alloc_old w _ b hb⟩ hpos (fun b hb => .inr (by simp at hb; omega)) (by simp)
      (fun okk hokk => by
        rw [D.rep_eq]
        refine ⟨some ⟨w.heap.size, 0, none⟩, n.toNat, by simp, by simp, by simpa using hlen, .inr ⟨w.heap.size, _, te, List.replicate n.toNat [], rfl, heap_alloc_new w _, size_madeCells _ _, by simp, by simp, fun j hj hj' => ?_⟩⟩
        simp only [List.length_replicate] at hj
        rw [made_piece (by rw [hzs, hsz]) hj, hzc]
        simp only [List.getElem_replicate]
        exact own_zero e) (by rw [D.rep_eq, D.nat_eq]; simp)
    refine wp_of_value (v := .slice (some ⟨w.heap.size, 0, none⟩) n.toNat n.toNat) (w' := w.alloc (.cells (madeCells z.cells (n.toNat * e.size)) te)) ?_ (hK Γ2 _ _ ?_ (Act.put_defers' _ _ _) fun b hb => heap_alloc_old w _ b hb)
    · simp only [execOp, ho, hvl.1, hvk.1]
      simp [hrun]
    · rw [hd]; exact h2

theorem own_len_le {l : List (Nat × Operand)} {m : Bool} {e : Ty} : ∀ {i : Nat} {ys : List e.den} {ids : List Nat}, st.parts key m e i l = some (ys, ids) → ys.length = l.length := by
  induction l with
  | nil => intro i ys ids h; simp only [St.parts, Option.some.injEq, Prod.mk.injEq] at h; rw [← h.1]; rfl
  | cons p l ih =>
    intro i ys ids h
    obtain ⟨j, x⟩ := p
    simp only [St.parts] at h
    cases hij : Nat.beq i j with
    | false => rw [hij] at h; cases h
    | true =>
      rw [hij] at h
      simp only [cond_true] at h
      split at h
      · split at h
        · rename_i y ids1 ys2 ids2 hg hp
          simp only [Option.some.injEq, Prod.mk.injEq] at h
          rw [← h.1, List.length_cons, ih hp, List.length_cons]
        · cases h
      · cases h

theorem parts_sound {a : Act} (h : Inv w0 mu Γ st a.tmps w) (hk : ∀ q ∈ key, a.tmps.getD q.1 undef = .bool q.2) {m : Bool} {e : Ty} :
    ∀ {l : List (Nat × Operand)} {i : Nat} {ys : List e.den} {ids : List Nat} {cells : Array Value}, st.parts key m e i l = some (ys, ids) → (i + l.length) * e.size ≤ cells.size →
      ∃ (cells' : Array Value) (news : List Value) (fps : List (List Nat)), Instr.fill (fun i => some (i * e.size, e.size)) cells (l.map fun p => (p.1, a.eval p.2)) = some cells' ∧ cells'.toList = updL cells.toList (i * e.size) news ∧
        news.length = ys.length * e.size ∧ fps.length = ys.length ∧ fps.flatten = ids.flatMap Γ.fp ∧ (∀ s ∈ ids, ∃ e k xs, look st.obs s = some (.slot e k xs)) ∧
        ∀ j (h : j < ys.length) (h' : j < fps.length), Own w (envOf w Γ st.obs).ok m e ((news.drop (j * e.size)).take e.size) ys[j] fps[j]
  | [], i, ys, ids, cells, hq, _ => by
    simp only [St.parts, Option.some.injEq, Prod.mk.injEq] at hq
    obtain ⟨rfl, rfl⟩ := hq
    exact ⟨cells, [], [], rfl, by simp [updL], by simp, rfl, by simp, by simp, fun j h => by simp at h⟩
  | (j, x) :: l, i, ys, ids, cells, hq, hsz => by
    simp only [St.parts] at hq
    cases hij : Nat.beq i j with
    | false => rw [hij] at hq; cases hq
    | true =>
      rw [hij] at hq
      have := Nat.eq_of_beq_eq_true hij
      subst this
      simp only [cond_true] at hq
      split at hq
      case h_2 => cases hq
      rename_i rv hx
      split at hq
      case h_2 => cases hq
      rename_i y ids1 ys2 ids2 hg hp
      simp only [Option.some.injEq, Prod.mk.injEq] at hq
      obtain ⟨rfl, rfl⟩ := hq
      obtain ⟨hown, hslots, hone⟩ := give_sound h (h.val hk hx) hg
      have hlv : (a.eval x).cells.toList.length = e.size := hown.len
      have hlv' : (a.eval x).cells.size = e.size := by simpa using hlv
      simp only [List.length_cons] at hsz
      have hs1 : i * e.size + e.size ≤ cells.size := by
        have := Nat.mul_le_mul_right e.size (show i + 1 ≤ i + (l.length + 1) by omega)
        rw [Nat.add_mul, Nat.one_mul] at this; omega
      have hin : i * e.size + (a.eval x).cells.toList.length ≤ cells.toList.length := by rw [hlv]; simpa using hs1
      have hcells : ((a.eval x).cells.zipIdx.foldl (fun cs (p : Value × Nat) => cs.setIfInBounds (i * e.size + p.2) p.1) cells).toList = updL cells.toList (i * e.size) (a.eval x).cells.toList := by
        have := foldl_updL (i * e.size) (a.eval x).cells.toList 0 cells (by simpa using hin)
        rw [← Array.foldl_toList]
        simpa using this
      have hul : (updL cells.toList (i * e.size) (a.eval x).cells.toList).length = cells.toList.length := updL_length hin
      have hsz2 : ((a.eval x).cells.zipIdx.foldl (fun cs (p : Value × Nat) => cs.setIfInBounds (i * e.size + p.2) p.1) cells).size = cells.size := by
        rw [← Array.length_toList, hcells, hul, Array.length_toList]
      obtain ⟨cells', news, fps, h1, h2, h3, h4, h5, h6, h7⟩ := parts_sound h hk (cells := (a.eval x).cells.zipIdx.foldl (fun cs (p : Value × Nat) => cs.setIfInBounds (i * e.size + p.2) p.1) cells) hp (by rw [hsz2]; rw [show i + 1 + l.length = i + (l.length + 1) by omega]; exact hsz)
      refine ⟨cells', (a.eval x).cells.toList ++ news, ids1.flatMap Γ.fp :: fps, ?_, ?_, by rw [List.length_append, hlv, h3, List.length_cons, Nat.add_mul, Nat.one_mul]; omega, by simp [h4], by simp [h5], fun s hs => (List.mem_append.1 hs).elim (hslots s) (h6 s), fun q hq hq' => ?_⟩
      · rw [List.map_cons, Instr.fill]
        simp only []
        rw [if_neg (by
          simp only [Bool.or_eq_true, decide_eq_true_eq, not_or]
          exact ⟨fun hh => hh hlv', by rw [hlv']; omega⟩)]
        exact h1
      · rw [h2, hcells]
        have hnl : news.length = l.length * e.size := by rw [h3, own_len_le hp]
        have e1 : (i + 1) * e.size = i * e.size + (a.eval x).cells.toList.length := by rw [hlv, Nat.add_mul, Nat.one_mul]
        have hfit2 : i * e.size + (a.eval x).cells.toList.length + news.length ≤ cells.toList.length := by
          rw [hlv, hnl]
          have : (i + (l.length + 1)) * e.size = i * e.size + e.size + l.length * e.size := by rw [Nat.add_mul, Nat.add_mul]; omega
          have h9 : cells.toList.length = cells.size := by simp
          omega
        rw [e1]
        apply List.ext_getElem?
        intro q
        rw [updL_get (by rw [hul]; exact hfit2), updL_get hin, updL_get (by rw [List.length_append]; omega)]
        rw [List.length_append]
        by_cases c1 : q < i * e.size
        · rw [if_neg (by omega), if_neg (by omega), if_neg (by omega)]
        · by_cases c2 : q < i * e.size + (a.eval x).cells.toList.length
          · rw [if_neg (by omega), if_pos (by omega), if_pos (by omega), List.getElem?_append_left (by omega)]
          · by_cases c3 : q < i * e.size + (a.eval x).cells.toList.length + news.length
            · rw [if_pos (by omega), if_pos (by omega), List.getElem?_append_right (by omega)]
              congr 1; omega
            · rw [if_neg (by omega), if_neg (by omega), if_neg (by omega)]
      · cases q with
        | zero =>
          simp only [Nat.zero_mul, List.drop_zero, List.getElem_cons_zero]
          rw [List.take_append_of_le_length (by omega), List.take_of_length_le (by omega)]
          exact hown
        | succ q =>
          simp only [List.getElem_cons_succ]
          rw [piece_right (by rw [hlv, Nat.add_mul]; omega), hlv, show (q + 1) * e.size - e.size = q * e.size by rw [Nat.add_mul]; omega]
          exact h7 q (by simpa using hq) (by simpa using hq')

theorem loud_build {a : Act} (hC : CfgOk P c w0 mu) (h : Inv w0 mu Γ st a.tmps w) (hk : ∀ q ∈ key, a.tmps.getD q.1 undef = .bool q.2) {t : TypeId} {d n : Nat} {ps : Array (Nat × Operand)} {st' : St}
    (ho : o.op = .buildSlice t n ps) (hd : o.dst = some d) (hm : st.canMake d = true) (hq : st.buildSlice c key d t n ps.toList = some (st', ok)) (hok : ok)
    {K : Act → World → Prop} {Q : Exit → Act → World → Prop} (hK : ∀ Γ' a' w', Inv w0 mu Γ' st' a'.tmps w' → a'.defers = a.defers → Ext w w' → K a' w') : o.wp P a w K Q := by
  obtain ⟨hl, hdn⟩ := canMake_spec hm
  unfold St.buildSlice at hq
  split at hq
  case h_2 => cases hq
  rename_i e hty
  obtain ⟨te, i, z, hu, hi, hz, hzc, hzs, hsz, hby, hte⟩ := elem_facts hC hty
  have core : ∀ {m : Bool} {ys : List e.den} {ids : List Nat}, st.parts key m e 0 ps.toList = some (ys, ids) → (nodupB ids && Nat.ble 1 e.size && Nat.beq (List.length ys) n && Nat.ble (n * e.size) 16777216) = true → Nat.beq n 0 = false →
      (∀ Γ' a' w', Inv w0 mu Γ' ((st.drops ids).newOb d (.slot e m ys) (.rf d e n)) a'.tmps w' → a'.defers = a.defers → Ext w w' → K a' w') → o.wp P a w K Q := by
    intro m ys ids hp hB hn0 hK
    simp only [Bool.and_eq_true] at hB
    have hnd := nodupB_spec hB.1.1.1
    have hpos : 0 < e.size := by have := hB.1.1.2; simp at this; omega
    have hyn : ys.length = n := Nat.eq_of_beq_eq_true hB.1.2
    have hsmall : n * e.size ≤ 16777216 := by have := hB.2; simpa using this
    have hnp : 0 < n := by
      rcases Nat.eq_zero_or_pos n with rfl | h
      · simp at hn0
      · exact h
    have hpl := own_len_le hp
    obtain ⟨cells', news, fps, h1, h2, h3, h4, h5, h6, h7⟩ := parts_sound h hk (cells := (Array.range (n * e.size)).map (z.cells[· % z.cells.size]!)) hp (by simp [← hpl, hyn])
    have hcl : cells'.toList = news := by
      rw [h2, Nat.zero_mul]
      simp only [updL, List.take_zero, List.nil_append, Nat.zero_add]
      rw [List.drop_eq_nil_of_le (by simp [h3, hyn]), List.append_nil]
    have hne : 0 < n * e.size := Nat.mul_pos hnp hpos
    have hrun := run_buildSlice (P := P) w t te n (ps.map fun p => (p.1, a.eval p.2)) cells' i z hu hi hz (by rw [hsz]; omega) (by rw [hsz]; omega) (by rw [hsz]; simpa using h1)
    obtain ⟨R, i1, hok1, hl1, hr1, hf1, hs1⟩ := h.drops (ids := ids)
    have hfpn := fps_nodup h hnd h6
    have hltA : ∀ y ∈ ids.flatMap Γ.fp, y < w.heap.size := fun y hy => by
      obtain ⟨s', hs', hy⟩ := List.mem_flatMap.1 hy
      obtain ⟨_, _, _, h3⟩ := h6 s' hs'
      exact h.lt y (mem_owned_slot (look_mem h3) y hy)
    have hfyR : ∀ y ∈ fps.flatten, y ∈ R := fun y hy => by
      rw [h5] at hy
      obtain ⟨s', hs', hy⟩ := List.mem_flatMap.1 hy
      obtain ⟨e5, k5, x5, h3⟩ := h6 s' hs'
      exact hf1 s' hs' e5 k5 x5 h3 y hy
    have hheap : ∀ b, b < w.heap.size → (w.alloc (.cells cells' te)).heap[b]? = w.heap[b]? := fun b hb => heap_alloc_old w _ b hb
    obtain ⟨Γ2, i2⟩ := i1.newSlotReg (d := d) (e := e) (k := m) (xs := ys) (n := n) (v := .slice (some ⟨w.heap.size, 0, none⟩) n n) (F := w.heap.size :: fps.flatten) (w' := w.alloc (.cells cells' te)) (by
        simp only [St.canMake, St.free, drops_lent, drops_n]; exact hm)
      ⟨by simp, ⟨rfl, rfl, rfl⟩, fun b hb _ => hheap b hb⟩ hpos (fun b hb => by
        rcases List.mem_cons.1 hb with rfl | hb
        · exact .inr (Nat.le_refl _)
        · exact .inl (List.mem_append.2 (.inl (hfyR b hb)))) (by
        rw [List.nodup_cons, h5]
        exact ⟨fun hm => by have := hltA _ hm; omega, hfpn⟩)
      (fun okk hokk => by
        refine ⟨some ⟨w.heap.size, 0, none⟩, n, by rw [hyn], by omega, by unfold lenMax; rw [hyn]; have := Nat.mul_le_mul_left n hpos; omega, .inr ⟨w.heap.size, cells', te, fps, rfl, heap_alloc_new w _, ?_, h4, rfl, fun j hj hj' => ?_⟩⟩
        · rw [← Array.length_toList, hcl, h3, hyn]
        · rw [hcl]
          refine (h7 j hj hj').mono (fun b hb => hokk b (hok1 b hb)) (fun b hb => hheap b hb.1) fun b hb => hheap b (hltA b ?_)
          rw [← h5]
          exact List.mem_flatten.2 ⟨_, List.getElem_mem hj', hb⟩) hyn
    refine wp_of_value (v := .slice (some ⟨w.heap.size, 0, none⟩) n n) (w' := w.alloc (.cells cells' te)) ?_ (hK Γ2 _ _ ?_ (Act.put_defers' _ _ _) fun b hb => heap_alloc_old w _ b hb)
    · simp only [execOp, ho]
      simp [hrun]
    · rw [hd]; exact i2
  cases hn0 : Nat.beq n 0 with
  | true =>
    rw [hn0] at hq
    simp only [cond_true] at hq
    have hn := Nat.eq_of_beq_eq_true hn0
    subst hn
    cases hps : ps.toList.isEmpty with
    | false => rw [hps] at hq; cases hq
    | true =>
      rw [hps] at hq
      simp only [cond_true, Option.some.injEq, Prod.mk.injEq] at hq
      obtain ⟨rfl, rfl⟩ := hq
      have hps' : ps = #[] := by apply Array.ext'; simpa using hps
      subst hps'
      have hg : Grow w (w.alloc (.cells #[] te)) := ⟨fun b hb => heap_alloc_old w _ b hb, by simp, rfl, rfl, rfl⟩
      refine wp_of_value (v := .slice (some ⟨w.heap.size, 0, none⟩) 0 0) (w' := w.alloc (.cells #[] te)) ?_ (hK Γ _ _ ?_ (Act.put_defers' _ _ _) fun b hb => heap_alloc_old w _ b hb)
      · simp [execOp, ho, Instr.buildSlice, run_underlying hu, sizeOf, typeInfo, hi, Instr.fill, newRow, Array.range_zero']
      · rw [hd]
        exact (h.grow hg).set (r := d) (k := []) (rv := .nl e) hdn (by simp) (fun _ => ⟨[.slice (some ⟨w.heap.size, 0, none⟩) 0 0], ⟨some ⟨w.heap.size, 0, none⟩, rfl⟩, by simp [RV.agg]⟩) (by simp)
  | false =>
    rw [hn0] at hq
    simp only [cond_false] at hq
    split at hq
    · rename_i ys ids hp
      cases hB : (nodupB ids && Nat.ble 1 e.size && Nat.beq (List.length ys) n && Nat.ble (n * e.size) 16777216) with
      | false => rw [hB] at hq; cases hq
      | true =>
        rw [hB] at hq
        simp only [cond_true, Option.some.injEq, Prod.mk.injEq] at hq
        obtain ⟨rfl, rfl⟩ := hq
        exact core hp hB hn0 hK
    · split at hq
      · rename_i ys ids hp
        cases hB : (nodupB ids && Nat.ble 1 e.size && Nat.beq (List.length ys) n && Nat.ble (n * e.size) 16777216) with
        | false => rw [hB] at hq; cases hq
        | true =>
          rw [hB] at hq
          simp only [cond_true, Option.some.injEq, Prod.mk.injEq] at hq
          obtain ⟨rfl, rfl⟩ := hq
          exact core hp hB hn0 hK
      · cases hq

end
end Go.Tm
end

/- (TmLent1)
  Calls with data that is given away or lent: the arguments.
-/
section
set_option linter.unusedSimpArgs false
set_option linter.unusedVariables false
namespace Go.Tm

/-- A lent thing: a pointer to a variable, or data. -/
inductive LV where
  | box (v : Value) (t : Ty) (m : Md)
  | dat (v : Value) (t : Ty)

def LentA (w : World) (ok : Nat → Prop) : List LV → List DV → List Nat → Prop
  | [], [], fp => fp = []
  | .box v t m :: l, d :: ds, fp => ∃ x f1 f2, d = ⟨t, x⟩ ∧ BoxR w ok m t v x f1 ∧ LentA w ok l ds f2 ∧ fp = f1 ++ f2
  | .dat v t :: l, d :: ds, fp => ∃ x cells f1 f2, d = ⟨t, x⟩ ∧ valOf t cells v ∧ Own w ok true t cells x f1 ∧ LentA w ok l ds f2 ∧ fp = f1 ++ f2
  | _, _, _ => False

theorem LentA.append {w : World} {ok : Nat → Prop} : ∀ {l1 l2 : List LV} {d1 d2 : List DV} {f1 f2 : List Nat}, LentA w ok l1 d1 f1 → LentA w ok l2 d2 f2 → LentA w ok (l1 ++ l2) (d1 ++ d2) (f1 ++ f2)
  | [], l2, d1, d2, f1, f2, h1, h2 => by
    cases d1 <;> simp only [LentA] at h1
    subst h1; exact h2
  | .box v t m :: l1, l2, d1, d2, f1, f2, h1, h2 => by
    cases d1 <;> simp only [LentA] at h1
    obtain ⟨x, g1, g2, rfl, hb, hr, rfl⟩ := h1
    exact ⟨x, g1, g2 ++ f2, rfl, hb, hr.append h2, by simp⟩
  | .dat v t :: l1, l2, d1, d2, f1, f2, h1, h2 => by
    cases d1 <;> simp only [LentA] at h1
    obtain ⟨x, cells, g1, g2, rfl, hv, hb, hr, rfl⟩ := h1
    exact ⟨x, cells, g1, g2 ++ f2, rfl, hv, hb, hr.append h2, by simp⟩

/-- One argument. -/
def Arg1 (w : World) (ok : Nat → Prop) : PK → Value → List DV → List Nat → Prop
  | .sh t, v, ds, fp => ∃ x cells, ds = [⟨t, x⟩] ∧ valOf t cells v ∧ Rep w ok t cells x ∧ fp = []
  | .mv t, v, ds, fp => ∃ x cells, ds = [⟨t, x⟩] ∧ valOf t cells v ∧ Own w ok true t cells x fp
  | .mu t, v, ds, fp => ∃ x cells, ds = [⟨t, x⟩] ∧ valOf t cells v ∧ Own w ok true t cells x fp
  | .bx t m, v, ds, fp => ∃ x, ds = [⟨t, x⟩] ∧ BoxR w ok m t v x fp
  | .fn f caps, v, ds, fp => ∃ ptrs, v = .func (.func f) #[] (List.toArray ptrs) ∧ CapsR w ok caps ptrs ds fp

theorem ArgsR.cons {w : World} {ok : Nat → Prop} {p : PK} {ps : List PK} {v : Value} {vs : List Value} {d1 d2 : List DV} {f1 f2 : List Nat} (h1 : Arg1 w ok p v d1 f1) (h2 : ArgsR w ok ps vs d2 f2) : ArgsR w ok (p :: ps) (v :: vs) (d1 ++ d2) (f1 ++ f2) := by
  cases p with
  | sh t => obtain ⟨x, cells, rfl, hv, hr, rfl⟩ := h1; exact ⟨x, d2, cells, rfl, hv, hr, h2⟩
  | mv t => obtain ⟨x, cells, rfl, hv, hr⟩ := h1; exact ⟨x, d2, cells, f1, f2, rfl, hv, hr, h2, rfl⟩
  | mu t => obtain ⟨x, cells, rfl, hv, hr⟩ := h1; exact ⟨x, d2, cells, f1, f2, rfl, hv, hr, h2, rfl⟩
  | bx t m => obtain ⟨x, rfl, hr⟩ := h1; exact ⟨x, d2, f1, f2, rfl, hr, h2, rfl⟩
  | fn f caps => obtain ⟨ptrs, rfl, hr⟩ := h1; exact ⟨ptrs, d1, d2, f1, f2, rfl, rfl, hr, h2, rfl⟩

def capsLV : List (Ty × Md) → List Value → List LV
  | (t, m) :: cs, v :: vs => .box v t m :: capsLV cs vs
  | _, _ => []

/-- What of an argument is lent. -/
def lv1 : PK → Value → List LV
  | .mu t, v => [.dat v t]
  | .bx t m, v => [.box v t m]
  | .fn _ caps, .func _ _ ptrs => capsLV caps ptrs.toList
  | _, _ => []

def lvs : List PK → List Value → List LV
  | p :: ps, v :: vs => lv1 p v ++ lvs ps vs
  | _, _ => []

theorem capsR_lent {w : World} {ok : Nat → Prop} : ∀ {cs : List (Ty × Md)} {vs : List Value} {ds : List DV} {fp : List Nat}, CapsR w ok cs vs ds fp → LentA w ok (capsLV cs vs) ds fp
  | [], vs, ds, fp, h => by
    cases vs <;> cases ds <;> simp only [CapsR] at h
    exact h
  | (t, m) :: cs, vs, ds, fp, h => by
    cases vs <;> cases ds <;> simp only [CapsR] at h
    obtain ⟨x, f1, f2, rfl, hb, hr, rfl⟩ := h
    exact ⟨x, f1, f2, rfl, hb, capsR_lent hr, rfl⟩

theorem lentR_lent {w : World} {ok : Nat → Prop} : ∀ {ps : List PK} {vs : List Value} {ds : List DV} {fp : List Nat}, LentR w ok ps vs ds fp → LentA w ok (lvs ps vs) ds fp
  | [], vs, ds, fp, h => by
    cases vs <;> cases ds <;> simp only [LentR] at h
    · exact h.2
    · exact absurd h.1 (by simp)
  | .sh t :: ps, vs, ds, fp, h => by
    cases vs <;> simp only [LentR] at h
    simpa [lvs, lv1] using lentR_lent h
  | .mv t :: ps, vs, ds, fp, h => by
    cases vs <;> simp only [LentR] at h
    simpa [lvs, lv1] using lentR_lent h
  | .mu t :: ps, vs, ds, fp, h => by
    cases vs <;> simp only [LentR] at h
    obtain ⟨x, rest, cells, f1, f2, rfl, hv, ho, hr, rfl⟩ := h
    exact ⟨x, cells, f1, f2, rfl, hv, ho, lentR_lent hr, rfl⟩
  | .bx t m :: ps, vs, ds, fp, h => by
    cases vs <;> simp only [LentR] at h
    obtain ⟨x, rest, f1, f2, rfl, hb, hr, rfl⟩ := h
    exact ⟨x, f1, f2, rfl, hb, lentR_lent hr, rfl⟩
  | .fn f caps :: ps, vs, ds, fp, h => by
    cases vs <;> simp only [LentR] at h
    obtain ⟨ptrs, d1, rest, f1, f2, rfl, rfl, hc, hr, rfl⟩ := h
    exact (capsR_lent hc).append (lentR_lent hr)

theorem shr_mat {st : St} : ∀ {t : Ty} {rv : RV} {x : t.den}, rv.shr t = some x → st.mat t rv = some x
  | t, .v u y, x, h => by
    have h' : castTo t y = some x := by cases t <;> simpa only [RV.shr] using h
    cases t <;> simpa only [St.mat] using h'
  | .sl e, .nl e', x, h => by simp only [RV.shr] at h; simp only [St.mat]; exact h
  | .pr a b, .pr p q, x, h => by
    simp only [RV.shr] at h
    split at h
    · rename_i y z hy hz
      simp only [Option.some.injEq] at h; subst h
      simp only [St.mat, shr_mat hy, shr_mat hz]
    · cases h
  | .un, .un, x, h => by simp only [St.mat]
  | .int _, .nl _, _, h | .bool, .nl _, _, h | .str, .nl _, _, h | .un, .nl _, _, h | .pr _ _, .nl _, _, h => by simp [RV.shr] at h
  | .int _, .pr _ _, _, h | .bool, .pr _ _, _, h | .str, .pr _ _, _, h | .un, .pr _ _, _, h | .sl _, .pr _ _, _, h => by simp [RV.shr] at h
  | .int _, .un, _, h | .bool, .un, _, h | .str, .un, _, h | .pr _ _, .un, _, h | .sl _, .un, _, h => by simp [RV.shr] at h
  | t, .rf _ _ _, _, h => by cases t <;> simp [RV.shr] at h
  | t, .vw _ _ _ _, _, h => by cases t <;> simp [RV.shr] at h
  | t, .bi _ _, _, h => by cases t <;> simp [RV.shr] at h
  | t, .ptr _ _, _, h => by cases t <;> simp [RV.shr] at h
  | t, .pv _ _, _, h => by cases t <;> simp [RV.shr] at h
  | t, .fn _ _, _, h => by cases t <;> simp [RV.shr] at h
  | t, .dd _, _, h => by cases t <;> simp [RV.shr] at h
  | t, .tp _, _, h => by cases t <;> simp [RV.shr] at h

section
variable {P : Program} {c : Cfg} {w0 : World} {mu : Lent} {Γ : Gam} {st : St} {a : Act} {tmps : Array Value} {w : World} {key : Key} {o : Oper} {rv : RV} {ok : Prop}

/-- Data for reading: it lies in shared blocks and in those of the slots that it comes from. -/
theorem mat_used (h : Inv w0 mu Γ st tmps w) : ∀ {t : Ty} {rv : RV} {x : t.den} {vs : List Value}, CR (envOf w Γ st.obs) rv vs → st.mat t rv = some x →
    Rep w (fun b => (envOf w Γ st.obs).ok b ∨ ∃ s ∈ rv.ids, b ∈ Γ.fp s) t vs x
  | t, .v u y, x, vs, hc, hm => by
    have h' : castTo t y = some x := by cases t <;> simpa only [St.mat] using hm
    obtain ⟨e, he⟩ := castTo_inj h'
    subst e; subst he
    exact Rep.mono (fun b hb => .inl hb) (fun _ _ => rfl) hc
  | t, .vw s p u y, x, vs, hc, hm => by
    have h' : castTo t y = some x := by cases t <;> simpa only [St.mat] using hm
    obtain ⟨e, he⟩ := castTo_inj h'
    subst e; subst he
    exact Rep.mono (fun b hb => hb.imp id fun hb => ⟨s, by simp [RV.ids], hb⟩) (fun _ _ => rfl) hc.1
  | .sl e, .nl e', x, vs, hc, hm => by
    simp only [St.mat, Option.some.injEq] at hm; subst hm
    obtain ⟨ad, rfl⟩ := hc
    exact ⟨ad, 0, rfl, Nat.le_refl _, Nat.zero_le _, fun h => absurd rfl h⟩
  | .sl e, .rf s e' n, x, vs, hc, hm => by
    simp only [St.mat] at hm
    split at hm
    · rename_i e2 d xs ho
      obtain ⟨e3, he⟩ := castTo_inj hm
      cases e3
      subst he
      rw [hc.1]
      obtain ⟨_, hsl⟩ := h.obs s _ (look_mem ho)
      exact hsl.rep_of (fun b hb => .inr ⟨s, by simp [RV.ids], hb⟩) fun cs x f hf ho => ho.rep (fun b hb => .inl hb) (fun b hb => .inr ⟨s, by simp [RV.ids], hf b hb⟩)
    · cases hm
  | .pr a' b', .pr p q, x, vs, hc, hm => by
    simp only [St.mat] at hm
    split at hm
    · rename_i y z hy hz
      simp only [Option.some.injEq] at hm; subst hm
      obtain ⟨v1, v2, rfl, h1, h2⟩ := hc
      exact ⟨v1, v2, rfl, (mat_used h h1 hy).mono (fun b hb => hb.imp id fun ⟨s, hs, hb⟩ => ⟨s, by simp [RV.ids, hs], hb⟩) (fun _ _ => rfl),
        (mat_used h h2 hz).mono (fun b hb => hb.imp id fun ⟨s, hs, hb⟩ => ⟨s, by simp [RV.ids, hs], hb⟩) (fun _ _ => rfl)⟩
    · cases hm
  | .un, .un, _, vs, hc, _ => hc
  | .int _, .nl _, _, _, _, h | .bool, .nl _, _, _, _, h | .str, .nl _, _, _, _, h | .un, .nl _, _, _, _, h | .pr _ _, .nl _, _, _, _, h => by simp [St.mat] at h
  | .int _, .rf s _ _, x, _, _, h | .bool, .rf s _ _, x, _, _, h | .str, .rf s _ _, x, _, _, h | .un, .rf s _ _, x, _, _, h | .pr _ _, .rf s _ _, x, _, _, h => by
    simp only [St.mat] at h
    split at h
    · obtain ⟨e, _⟩ := castTo_inj h; cases e
    · cases h
  | .int _, .pr _ _, _, _, _, h | .bool, .pr _ _, _, _, _, h | .str, .pr _ _, _, _, _, h | .un, .pr _ _, _, _, _, h | .sl _, .pr _ _, _, _, _, h => by simp [St.mat] at h
  | .int _, .un, _, _, _, h | .bool, .un, _, _, _, h | .str, .un, _, _, _, h | .pr _ _, .un, _, _, _, h | .sl _, .un, _, _, _, h => by simp [St.mat] at h
  | t, .bi _ _, _, _, _, h => by cases t <;> simp [St.mat] at h
  | t, .ptr _ _, _, _, _, h => by cases t <;> simp [St.mat] at h
  | t, .pv _ _, _, _, _, h => by cases t <;> simp [St.mat] at h
  | t, .fn _ _, _, _, _, h => by cases t <;> simp [St.mat] at h
  | t, .dd _, _, _, _, h => by cases t <;> simp [St.mat] at h
  | t, .tp _, _, _, _, h => by cases t <;> simp [St.mat] at h

theorem own_agg : ∀ {t : Ty} {rv : RV} {x : t.den} {ids : List Nat}, st.own t rv = some (x, ids) → rv.agg = t.agg
  | t, .v u y, x, ids, hm => by
    have h' : (bif u.flat then (castTo t y).map (·, ([] : List Nat)) else none) = some (x, ids) := by cases t <;> simpa only [St.own] using hm
    cases hf : u.flat with
    | false => rw [hf] at h'; cases h'
    | true =>
      rw [hf] at h'
      simp only [cond_true, Option.map_eq_some_iff] at h'
      obtain ⟨z, hz, _⟩ := h'
      obtain ⟨e, _⟩ := castTo_inj hz
      subst e; rfl
  | .sl _, .nl _, _, _, _ => rfl
  | .sl _, .rf _ _ _, _, _, _ => rfl
  | .pr _ _, .pr _ _, _, _, _ => rfl
  | .un, .un, _, _, _ => rfl
  | .int _, .nl _, _, _, h | .bool, .nl _, _, _, h | .str, .nl _, _, _, h | .un, .nl _, _, _, h | .pr _ _, .nl _, _, _, h => by simp [St.own] at h
  | .int _, .rf _ _ _, _, _, h | .bool, .rf _ _ _, _, _, h | .str, .rf _ _ _, _, _, h | .un, .rf _ _ _, _, _, h | .pr _ _, .rf _ _ _, _, _, h => by simp [St.own] at h
  | .int _, .pr _ _, _, _, h | .bool, .pr _ _, _, _, h | .str, .pr _ _, _, _, h | .un, .pr _ _, _, _, h | .sl _, .pr _ _, _, _, h => by simp [St.own] at h
  | .int _, .un, _, _, h | .bool, .un, _, _, h | .str, .un, _, _, h | .pr _ _, .un, _, _, h | .sl _, .un, _, _, h => by simp [St.own] at h
  | t, .vw _ _ _ _, _, _, h => by cases t <;> simp [St.own] at h
  | t, .bi _ _, _, _, h => by cases t <;> simp [St.own] at h
  | t, .ptr _ _, _, _, h => by cases t <;> simp [St.own] at h
  | t, .pv _ _, _, _, h => by cases t <;> simp [St.own] at h
  | t, .fn _ _, _, _, h => by cases t <;> simp [St.own] at h
  | t, .dd _, _, _, h => by cases t <;> simp [St.own] at h
  | t, .tp _, _, _, h => by cases t <;> simp [St.own] at h

theorem oldFp_slot {s : Nat} {e : Ty} {k : Bool} {xs : List e.den} (h : look st.obs s = some (.slot e k xs)) : oldFp Γ st s = Γ.fp s := by simp [oldFp, h, obFp]
theorem oldFp_box {s : Nat} {t : Ty} {c : RV} (h : look st.obs s = some (.box t c)) : oldFp Γ st s = [Γ.bx s] := by simp [oldFp, h, obFp]

theorem flatMap_oldFp {ids : List Nat} (h : ∀ s ∈ ids, ∃ e k xs, look st.obs s = some (.slot e k xs)) : ids.flatMap (oldFp Γ st) = ids.flatMap Γ.fp := by
  induction ids with
  | nil => rfl
  | cons i ids ih =>
    obtain ⟨e, k, xs, ho⟩ := h i (by simp)
    simp only [List.flatMap_cons, oldFp_slot ho, ih fun s hs => h s (by simp [hs])]

/-- What is lent, matched with the values. -/
def LMatch (Γ : Gam) (st : St) (E : Env) : List LI → List LV → Prop
  | [], [] => True
  | .box o t m :: ls, .box v t' m' :: vs => (t' = t ∧ m' = m ∧ v = .pointer (some ⟨Γ.bx o, 0, none⟩) ∧ ∃ c x g, look st.obs o = some (.box t c) ∧ st.inBox m t c = some (x, g)) ∧ LMatch Γ st E ls vs
  | .dat t rv :: ls, .dat v t' :: vs => (t' = t ∧ VR E rv v ∧ ∃ x g, st.own t rv = some (x, g)) ∧ LMatch Γ st E ls vs
  | _, _ => False

theorem LMatch.append {Γ : Gam} {E : Env} : ∀ {l1 l2 : List LI} {v1 v2 : List LV}, LMatch Γ st E l1 v1 → LMatch Γ st E l2 v2 → LMatch Γ st E (l1 ++ l2) (v1 ++ v2)
  | [], l2, v1, v2, h1, h2 => by
    cases v1 <;> simp only [LMatch] at h1
    exact h2
  | .box o t m :: l1, l2, v1, v2, h1, h2 => by
    cases v1 with
    | nil => simp [LMatch] at h1
    | cons v v1 => cases v with
      | box v t' m' => exact ⟨h1.1, h1.2.append h2⟩
      | dat v t' => simp [LMatch] at h1
  | .dat t rv :: l1, l2, v1, v2, h1, h2 => by
    cases v1 with
    | nil => simp [LMatch] at h1
    | cons v v1 => cases v with
      | box v t' m' => simp [LMatch] at h1
      | dat v t' => exact ⟨h1.1, h1.2.append h2⟩

def liIds (st : St) : LI → List Nat
  | .box o _ _ => [o]
  | .dat t rv => match st.own t rv with | some (_, g) => g | none => []

/-- What is known of arguments. -/
structure LArg (w : World) (Γ : Gam) (st : St) (la : LA) : Prop where
  lid : la.ids = la.lent.flatMap (liIds st)
  slots : ∀ s ∈ la.gone, ∃ e k xs, look st.obs s = some (.slot e k xs)
  here : ∀ s ∈ la.ids, ∃ ob, look st.obs s = some ob

theorem LArg.app {x y : LA} (h1 : LArg w Γ st x) (h2 : LArg w Γ st y) : LArg w Γ st (x.app y) :=
  ⟨by simp only [LA.app, List.flatMap_append, h1.lid, h2.lid], fun s hs => (List.mem_append.1 hs).elim (h1.slots s) (h2.slots s), fun s hs => (List.mem_append.1 hs).elim (h1.here s) (h2.here s)⟩

def LA.fp (Γ : Gam) (st : St) (la : LA) : List Nat := (la.gone ++ la.ids).flatMap (oldFp Γ st)

theorem LA.fp_app {x y : LA} {f1 f2 : List Nat} (h1 : f1.Perm (x.fp Γ st)) (h2 : f2.Perm (y.fp Γ st)) : (f1 ++ f2).Perm ((x.app y).fp Γ st) := by
  refine (h1.append h2).trans ?_
  simp only [LA.fp, LA.app, List.flatMap_append, List.append_assoc]
  refine List.Perm.append_left _ ?_
  rw [← List.append_assoc, ← List.append_assoc]
  exact List.Perm.append_right _ List.perm_append_comm

theorem lbox_sound (h : Inv w0 mu Γ st tmps w) {okin : Nat → Prop} (hok : ∀ b, (envOf w Γ st.obs).ok b → okin b) {t : Ty} {m : Md} {o : Nat} {la : LA} (hq : st.lbox t m o = some la) :
    ∃ x f, la.ds = [⟨t, x⟩] ∧ BoxR w okin m t (.pointer (some ⟨Γ.bx o, 0, none⟩)) x f ∧ f.Perm (la.fp Γ st) ∧ LArg w Γ st la ∧ la.used = [] ∧
      LMatch Γ st (envOf w Γ st.obs) la.lent [.box (.pointer (some ⟨Γ.bx o, 0, none⟩)) t m] := by
  unfold St.lbox at hq
  split at hq
  case h_2 => cases hq
  rename_i t' c ho
  cases ht : decide (t' = t) with
  | false => rw [ht] at hq; cases hq
  | true =>
    rw [ht] at hq
    have := of_decide_eq_true ht
    subst this
    simp only [cond_true] at hq
    split at hq
    case h_2 => cases hq
    rename_i x g hin
    simp only [Option.some.injEq] at hq; subst hq
    obtain ⟨hft, cs, ety, hheap, hc⟩ := h.obs o _ (look_mem ho)
    have hheap' : w.heap[Γ.bx o]? = some (.cells cs ety (0, 0)) := hheap
    have hm : LMatch Γ st (envOf w Γ st.obs) [LI.box o t' m] [.box (.pointer (some ⟨Γ.bx o, 0, none⟩)) t' m] := ⟨⟨rfl, rfl, rfl, c, x, g, ho, hin⟩, trivial⟩
    unfold St.inBox at hin
    cases m with
    | sh =>
      simp only [Option.map_eq_some_iff, Prod.mk.injEq] at hin
      obtain ⟨y, hy, rfl, rfl⟩ := hin
      refine ⟨y, _, rfl, ⟨Γ.bx o, cs, ety, [], rfl, hheap', ⟨(shr_sound hc hy).mono hok (fun _ _ => rfl), rfl⟩, rfl⟩, ?_, ⟨by simp [liIds], by simp, by simp [ho]⟩, rfl, hm⟩
      simp [LA.fp, oldFp_box ho]
    | ow =>
      simp only at hin
      obtain ⟨h1, h2⟩ := own_sound h hc hin
      refine ⟨x, _, rfl, ⟨Γ.bx o, cs, ety, _, rfl, hheap', h1.mono hok (fun _ _ => rfl) (fun _ _ => rfl), rfl⟩, ?_, ⟨by simp [liIds], h2, by simp [ho]⟩, rfl, hm⟩
      simp only [LA.fp, List.flatMap_append, List.flatMap_cons, List.flatMap_nil, List.append_nil, oldFp_box ho, flatMap_oldFp h2]
      exact (List.perm_append_comm (l₁ := [Γ.bx o]))
    | de => cases hin

theorem lcaps_sound (h : Inv w0 mu Γ st tmps w) {okin : Nat → Prop} (hok : ∀ b, (envOf w Γ st.obs).ok b → okin b) : ∀ {cs : List (Ty × Md)} {os : List Nat} {la : LA}, st.lcaps cs os = some la →
    ∃ f, CapsR w okin cs (os.map fun o => .pointer (some ⟨Γ.bx o, 0, none⟩)) la.ds f ∧ f.Perm (la.fp Γ st) ∧ LArg w Γ st la ∧ la.used = [] ∧
      LMatch Γ st (envOf w Γ st.obs) la.lent (capsLV cs (os.map fun o => .pointer (some ⟨Γ.bx o, 0, none⟩)))
  | [], [], la, hq => by
    simp only [St.lcaps, Option.some.injEq] at hq; subst hq
    exact ⟨[], rfl, by simp [LA.fp, LA.nil], ⟨by simp [LA.nil], by simp [LA.nil], by simp [LA.nil]⟩, rfl, trivial⟩
  | (t, m) :: cs, o :: os, la, hq => by
    simp only [St.lcaps] at hq
    split at hq
    · rename_i x y hx hy
      simp only [Option.some.injEq] at hq; subst hq
      obtain ⟨d, f1, h1, h2, h3, h4, h5, h6⟩ := lbox_sound h hok hx
      obtain ⟨f2, g2, g3, g4, g5, g6⟩ := lcaps_sound h hok hy
      refine ⟨f1 ++ f2, ?_, LA.fp_app h3 g3, h4.app g4, by simp [LA.app, h5, g5], h6.append g6⟩
      simp only [LA.app, h1, List.map_cons]
      exact ⟨d, f1, f2, rfl, h2, g2, rfl⟩
    · cases hq
  | [], _ :: _, la, hq => by simp [St.lcaps] at hq
  | _ :: _, [], la, hq => by simp [St.lcaps] at hq

theorem larg_sound (h : Inv w0 mu Γ st tmps w) {okin : Nat → Prop} (hok : ∀ b, (envOf w Γ st.obs).ok b → okin b) {p : PK} {rv : RV} {v : Value} {la : LA} (hv : VR (envOf w Γ st.obs) rv v) (hq : st.larg p rv = some la)
    (hu : ∀ s ∈ la.used, ∀ b ∈ Γ.fp s, okin b) :
    ∃ f, Arg1 w okin p v la.ds f ∧ f.Perm (la.fp Γ st) ∧ LArg w Γ st la ∧ LMatch Γ st (envOf w Γ st.obs) la.lent (lv1 p v) := by
  cases p with
  | sh t =>
    simp only [St.larg] at hq
    split at hq
    case h_2 => cases hq
    rename_i d hd
    simp only [Option.some.injEq] at hq; subst hq
    obtain ⟨hnd, hn, ha⟩ := mat_agg hd
    obtain ⟨vs, hc, hvs⟩ := hv.to1 hn
    refine ⟨[], ⟨d, vs, rfl, by unfold valOf; rw [ha] at hvs; exact hvs, ?_, rfl⟩, by simp [LA.fp], ⟨by simp, by simp, by simp⟩, trivial⟩
    have hm := mat_used h hc hd
    cases hf : (t.flat || (rv.shr t).isSome) with
    | false =>
      rw [hf] at hu
      refine hm.mono (fun b hb => ?_) (fun _ _ => rfl)
      rcases hb with hb | ⟨s, hs, hb⟩
      · exact hok b hb
      · exact hu s hs b hb
    | true =>
      simp only [Bool.or_eq_true] at hf
      rcases hf with hf | hf
      · exact Rep.flat_any hf hm
      · obtain ⟨y, hy⟩ := Option.isSome_iff_exists.1 hf
        have := shr_mat (st := st) hy
        rw [hd] at this
        simp only [Option.some.injEq] at this; subst this
        exact (shr_sound hc hy).mono hok (fun _ _ => rfl)
  | mv t =>
    simp only [St.larg] at hq
    split at hq
    case h_2 => cases hq
    rename_i d g hd
    simp only [Option.some.injEq] at hq; subst hq
    obtain ⟨hnd, hn⟩ := own_live hd
    obtain ⟨vs, hc, hvs⟩ := hv.to1 hn
    obtain ⟨h1, h2⟩ := own_sound h hc hd
    exact ⟨_, ⟨d, vs, rfl, by unfold valOf; rw [own_agg hd] at hvs; exact hvs, h1.mono hok (fun _ _ => rfl) (fun _ _ => rfl)⟩, by simp [LA.fp, flatMap_oldFp h2], ⟨by simp, h2, by simp⟩, trivial⟩
  | mu t =>
    simp only [St.larg] at hq
    split at hq
    case h_2 => cases hq
    rename_i d g hd
    simp only [Option.some.injEq] at hq; subst hq
    obtain ⟨hnd, hn⟩ := own_live hd
    obtain ⟨vs, hc, hvs⟩ := hv.to1 hn
    obtain ⟨h1, h2⟩ := own_sound h hc hd
    refine ⟨_, ⟨d, vs, rfl, by unfold valOf; rw [own_agg hd] at hvs; exact hvs, h1.mono hok (fun _ _ => rfl) (fun _ _ => rfl)⟩, by simp [LA.fp, flatMap_oldFp h2], ⟨by simp [liIds, hd], by simp, fun s hs => ?_⟩, ⟨⟨rfl, hv, d, g, hd⟩, trivial⟩⟩
    obtain ⟨e, k, xs, ho⟩ := h2 s hs
    exact ⟨_, ho⟩
  | bx t m =>
    cases rv <;> simp only [St.larg, reduceCtorEq] at hq
    rename_i o p
    cases p with
    | nil =>
      simp only at hq
      obtain ⟨x, f, h1, h2, h3, h4, h5, h6⟩ := lbox_sound h hok hq
      obtain ⟨vs, ⟨t', c', t2, k, ho, hp, hvs⟩, hv2⟩ := hv.to1 (by simp)
      simp only [RV.agg, Bool.false_eq_true, if_false] at hv2
      unfold Ty.offB at hp
      simp only [Option.some.injEq, Prod.mk.injEq] at hp
      obtain ⟨_, rfl⟩ := hp
      have hve : v = .pointer (some ⟨Γ.bx o, 0, none⟩) := by rw [hvs] at hv2; exact (List.cons.inj hv2).1.symm
      subst hve
      exact ⟨f, ⟨x, h1, h2⟩, h3, h4, h6⟩
    | cons _ _ => cases hq
  | fn f caps =>
    cases rv <;> simp only [St.larg, reduceCtorEq] at hq
    rename_i f' os
    cases hf : Nat.beq f f' with
    | false => rw [hf] at hq; cases hq
    | true =>
      rw [hf] at hq
      have := Nat.eq_of_beq_eq_true hf
      subst this
      simp only [cond_true] at hq
      obtain ⟨f1, h1, h2, h3, h4, h5⟩ := lcaps_sound h hok hq
      obtain ⟨vs, ⟨hvs, _⟩, hv2⟩ := hv.to1 (by simp)
      simp only [RV.agg, Bool.false_eq_true, if_false] at hv2
      have hve : v = .func (.func f) #[] (os.map fun o => Value.pointer (some ⟨Γ.bx o, 0, none⟩)).toArray := by rw [hvs] at hv2; exact (List.cons.inj hv2).1.symm
      subst hve
      exact ⟨f1, ⟨_, rfl, h1⟩, h2, h3, by simpa [lv1] using h5⟩

theorem largs_sound (h : Inv w0 mu Γ st tmps w) {okin : Nat → Prop} (hok : ∀ b, (envOf w Γ st.obs).ok b → okin b) : ∀ {ps : List PK} {rvs : List RV} {vs : List Value} {la : LA}, (List.length vs = rvs.length) →
    (∀ (i : Nat) rv v, rvs[i]? = some rv → vs[i]? = some v → VR (envOf w Γ st.obs) rv v) → st.largs ps rvs = some la → (∀ s ∈ la.used, ∀ b ∈ Γ.fp s, okin b) →
    ∃ f, ArgsR w okin ps vs la.ds f ∧ f.Perm (la.fp Γ st) ∧ LArg w Γ st la ∧ LMatch Γ st (envOf w Γ st.obs) la.lent (lvs ps vs)
  | [], [], vs, la, hl, hv, hq, hu => by
    simp only [St.largs, Option.some.injEq] at hq; subst hq
    have : vs = [] := by simpa using hl
    subst this
    exact ⟨[], ⟨rfl, rfl⟩, by simp [LA.fp, LA.nil], ⟨by simp [LA.nil], by simp [LA.nil], by simp [LA.nil]⟩, trivial⟩
  | p :: ps, rv :: rvs, vs, la, hl, hv, hq, hu => by
    simp only [St.largs] at hq
    split at hq
    · rename_i x y hx hy
      simp only [Option.some.injEq] at hq; subst hq
      cases vs with
      | nil => simp at hl
      | cons v vs =>
        obtain ⟨f1, h1, h2, h3, h4⟩ := larg_sound h hok (hv 0 rv v rfl rfl) hx (fun s hs => hu s (List.mem_append.2 (.inl hs)))
        obtain ⟨f2, g1, g2, g3, g4⟩ := largs_sound h hok (vs := vs) (by simpa using hl) (fun i rv v hi hj => hv (i + 1) rv v (by simpa using hi) (by simpa using hj)) hy (fun s hs => hu s (List.mem_append.2 (.inr hs)))
        exact ⟨f1 ++ f2, ArgsR.cons h1 g1, LA.fp_app h2 g2, h3.app g3, h4.append g4⟩
    · cases hq
  | [], _ :: _, vs, la, _, _, hq, _ => by simp [St.largs] at hq
  | _ :: _, [], vs, la, _, _, hq, _ => by simp [St.largs] at hq

end
end Go.Tm
end

/- (TmLent2)
  Calls with data that is given away or lent: what comes back.
-/
section
set_option linter.unusedSimpArgs false
set_option linter.unusedVariables false
namespace Go.Tm

/-- A slot with its memory. -/
structure Item where
  id : Nat
  e : Ty
  xs : List e.den
  v : Value
  F : List Nat

def Item.ob (i : Item) : Ob := .slot i.e true i.xs
def Item.ok (w : World) (i : Item) : Prop := 0 < i.e.size ∧ ∀ okk : Nat → Prop, SlotR w i.e (fun cs x f => Own w okk true i.e cs x f) i.v i.xs i.F
def Item.pair (i : Item) : Nat × Ob := (i.id, i.ob)
def Item.at (E : Env) (i : Item) : Prop := E.hdr i.id = i.v ∧ E.ob i.id = some i.ob

/-- A variable with its memory. -/
structure BItem where
  id : Nat
  t : Ty
  c : RV
  b : Nat
  cs : Array Value

def BItem.triple (i : BItem) : Nat × Ty × RV := (i.id, i.t, i.c)
def BItem.pair (i : BItem) : Nat × Ob := (i.id, .box i.t i.c)
def BItem.ok (w : World) (i : BItem) : Prop := (i.c.fits i.t = true ∧ i.c.reads = [] ∧ i.cs.toList.length = i.t.size) ∧ ∃ ety, w.heap[i.b]? = some (.cells i.cs ety (0, 0))
def BItem.at (E : Env) (i : BItem) : Prop := E.bx i.id = i.b ∧ E.ob i.id = some (.box i.t i.c)

theorem Own.any {w : World} {ok ok' : Nat → Prop} {t : Ty} {vs : List Value} {x : t.den} {fp : List Nat} (h : Own w ok true t vs x fp) : Own w ok' true t vs x fp := by
  revert vs x fp
  induction t with
  | int k => intro vs x fp h; exact h
  | bool => intro vs x fp h; exact h
  | str => intro vs x fp h; exact h
  | un => intro vs x fp h; exact h
  | pr a b iha ihb =>
    rintro vs x fp ⟨v1, v2, f1, f2, e, rfl, h1, h2⟩
    exact ⟨v1, v2, f1, f2, e, rfl, iha h1, ihb h2⟩
  | sl e ih =>
    intro vs x fp h
    rcases h with ⟨hd, h, rfl, hh⟩ | ⟨hd, _⟩
    · exact .inl ⟨hd, h, rfl, hh.conv fun cs x f ho => ih ho⟩
    · cases hd

/-- The cells of a value depend on the heads of its slots only. -/
def HCells (hdr : Nat → Value) : RV → List Value → Prop
  | .rf s _ n, vs => vs = [hdr s] ∧ ∃ a cap, hdr s = .slice a n cap
  | .v t x, vs => t.flat = true ∧ ∀ w ok, Rep w ok t vs x
  | .pr a b, vs => ∃ v1 v2, vs = v1 ++ v2 ∧ HCells hdr a v1 ∧ HCells hdr b v2
  | _, _ => False

theorem imp_sound {w : World} {n : Nat} {okk : Nat → Prop} : ∀ {t : Ty} {id : Nat} {x : t.den} {cells : List Value} {F : List Nat} {rv : RV} {obs : List (Nat × Ob)} {id' : Nat}, Own w okk true t cells x F → t.impOk = true → imp n id t x = (rv, obs, id') →
    ∃ its : List Item, obs = its.map Item.pair ∧ (∀ i ∈ its, i.ok w) ∧ F = its.flatMap Item.F ∧ rv.fits t = true ∧ (∀ E : Env, E.w = w → (∀ i ∈ its, i.at E) → CR E rv cells) ∧ ∀ hdr : Nat → Value, (∀ i ∈ its, hdr i.id = i.v) → HCells hdr rv cells
  | .int k, id, x, cells, F, rv, obs, id', h, _, hi => by
    simp only [imp, Prod.mk.injEq] at hi
    obtain ⟨rfl, rfl, _⟩ := hi
    exact ⟨[], rfl, by simp, by rw [h.2]; rfl, by simp [RV.fits], fun E _ _ => h.1, fun _ _ => ⟨rfl, fun w ok => h.1⟩⟩
  | .bool, id, x, cells, F, rv, obs, id', h, _, hi => by
    simp only [imp, Prod.mk.injEq] at hi
    obtain ⟨rfl, rfl, _⟩ := hi
    exact ⟨[], rfl, by simp, by rw [h.2]; rfl, by simp [RV.fits], fun E _ _ => h.1, fun _ _ => ⟨rfl, fun w ok => h.1⟩⟩
  | .str, id, x, cells, F, rv, obs, id', h, _, hi => by
    simp only [imp, Prod.mk.injEq] at hi
    obtain ⟨rfl, rfl, _⟩ := hi
    exact ⟨[], rfl, by simp, by rw [h.2]; rfl, by simp [RV.fits], fun E _ _ => h.1, fun _ _ => ⟨rfl, fun w ok => h.1⟩⟩
  | .un, id, x, cells, F, rv, obs, id', h, _, hi => by
    simp only [imp, Prod.mk.injEq] at hi
    obtain ⟨rfl, rfl, _⟩ := hi
    exact ⟨[], rfl, by simp, by rw [h.2]; rfl, by simp [RV.fits], fun E _ _ => h.1, fun _ _ => ⟨rfl, fun w ok => h.1⟩⟩
  | .sl e, id, x, cells, F, rv, obs, id', h, hp, hi => by
    simp only [imp, Prod.mk.injEq] at hi
    obtain ⟨rfl, rfl, _⟩ := hi
    rcases h with ⟨hd, v, rfl, hh⟩ | ⟨hd, _⟩
    case inr => cases hd
    have hpos : 0 < e.size := by simp [Ty.impOk] at hp; omega
    refine ⟨[⟨id, e, x, v, F⟩], rfl, fun i hi => ?_, by simp, by simp [RV.fits], fun E _ hE => ⟨?_, true, x, ?_, ?_⟩, fun hdr hh1 => ?_⟩
    rotate_left 4
    · have e1 := hh1 ⟨id, e, x, v, F⟩ (by simp)
      simp only at e1
      obtain ⟨a, cap, hv, _⟩ := hh
      exact ⟨by rw [e1], a, cap, by rw [e1, hv, D.cnt_eq]⟩
    · simp only [List.mem_singleton] at hi; subst hi
      exact ⟨hpos, fun okk' => hh.conv fun cs x f ho => Own.any ho⟩
    · have := (hE ⟨id, e, x, v, F⟩ (by simp)).1
      simp only at this
      rw [this]
    · exact (hE ⟨id, e, x, v, F⟩ (by simp)).2
    · rw [D.cnt_eq]
  | .pr a b, id, x, cells, F, rv, obs, id', h, hp, hi => by
    obtain ⟨v1, v2, f1, f2, rfl, rfl, h1, h2⟩ := h
    simp only [imp] at hi
    cases hf : (Ty.pr a b).flat with
    | true =>
      rw [hf] at hi
      simp only [cond_true, Prod.mk.injEq] at hi
      obtain ⟨rfl, rfl, _⟩ := hi
      have hfl : a.flat = true ∧ b.flat = true := by simpa [Ty.flat] using hf
      have e1 := Own.flat_fp hfl.1 h1
      have e2 := Own.flat_fp hfl.2 h2
      subst e1; subst e2
      refine ⟨[], rfl, by simp, rfl, by simp [RV.fits], fun E hE _ => ?_, fun _ _ => ⟨hf, fun w' ok' => ⟨v1, v2, rfl, Rep.flat_any hfl.1 (Own.flat_rep hfl.1 h1), Rep.flat_any hfl.2 (Own.flat_rep hfl.2 h2)⟩⟩⟩
      exact ⟨v1, v2, rfl, Rep.flat_any hfl.1 (Own.flat_rep hfl.1 h1), Rep.flat_any hfl.2 (Own.flat_rep hfl.2 h2)⟩
    | false =>
      rw [hf] at hi
      simp only [cond_false] at hi
      rcases hr1 : imp n id a x.1 with ⟨r1, o1, id1⟩
      rw [hr1] at hi
      simp only at hi
      rcases hr2 : imp n id1 b x.2 with ⟨r2, o2, id2⟩
      rw [hr2] at hi
      simp only [Prod.mk.injEq] at hi
      obtain ⟨rfl, rfl, _⟩ := hi
      simp only [Ty.impOk, Bool.and_eq_true] at hp
      obtain ⟨i1, a1, a2, a3, a4, a5, a6⟩ := imp_sound h1 hp.1 hr1
      obtain ⟨i2, b1, b2, b3, b4, b5, b6⟩ := imp_sound h2 hp.2 hr2
      refine ⟨i1 ++ i2, by rw [a1, b1, List.map_append], fun i hi => (List.mem_append.1 hi).elim (a2 i) (b2 i), by rw [a3, b3, List.flatMap_append], by simp [RV.fits, a4, b4], fun E hE hall => ?_, fun hdr hall => ⟨v1, v2, rfl, a6 hdr fun i hi => hall i (by simp [hi]), b6 hdr fun i hi => hall i (by simp [hi])⟩⟩
      exact ⟨v1, v2, rfl, a5 E hE fun i hi => hall i (by simp [hi]), b5 E hE fun i hi => hall i (by simp [hi])⟩

theorem impM_sound {w : World} {n : Nat} {okk : Nat → Prop} {shr : Bool} {m : Md} {t : Ty} {id : Nat} {x : t.den} {cells : List Value} {F : List Nat} {rv : RV} {obs : List (Nat × Ob)} {id' : Nat} (h : Held w okk m t cells x F) (hi : impM shr n id m t x = some (rv, obs, id')) :
    ∃ its : List Item, obs = its.map Item.pair ∧ (∀ i ∈ its, i.ok w) ∧ F = its.flatMap Item.F ∧ rv.fits t = true ∧ ∀ E : Env, E.w = w → (shr = true → ∀ b, okk b → E.ok b) → (∀ i ∈ its, i.at E) → CR E rv cells := by
  unfold impM at hi
  cases m with
  | sh =>
    simp only at hi
    cases hc : (shr || t.flat) with
    | false => rw [hc] at hi; cases hi
    | true =>
      rw [hc] at hi
      simp only [cond_true, Option.some.injEq, Prod.mk.injEq] at hi
      obtain ⟨rfl, rfl, _⟩ := hi
      refine ⟨[], rfl, by simp, h.2, by simp [RV.fits], fun E hE hs _ => ?_⟩
      simp only [Bool.or_eq_true] at hc
      rcases hc with hc | hc
      · exact h.1.mono (hs hc) (fun b _ => by rw [hE])
      · exact Rep.flat_any hc h.1
  | ow =>
    simp only at hi
    cases hc : t.impOk with
    | false => rw [hc] at hi; cases hi
    | true =>
      rw [hc] at hi
      simp only [cond_true, Option.some.injEq] at hi
      obtain ⟨its, a1, a2, a3, a4, a5, _⟩ := imp_sound h hc hi
      exact ⟨its, a1, a2, a3, a4, fun E hE _ => a5 E hE⟩
  | de =>
    simp only [Option.some.injEq, Prod.mk.injEq] at hi
    obtain ⟨rfl, rfl, _⟩ := hi
    exact ⟨[], rfl, by simp, h.2, by simp [RV.fits], fun E _ _ _ => h.1.1⟩

theorem Held.len {w : World} {ok : Nat → Prop} {m : Md} {t : Ty} {vs : List Value} {x : t.den} {fp : List Nat} (h : Held w ok m t vs x fp) : vs.length = t.size := by
  cases m with
  | sh => exact h.1.len
  | ow => exact Own.len h
  | de => exact h.1.1

theorem imp_reads {n : Nat} : ∀ {t : Ty} {id : Nat} {x : t.den}, (imp n id t x).1.reads = []
  | .int k, id, x | .bool, id, x | .str, id, x | .un, id, x | .sl e, id, x => by simp [imp, RV.reads]
  | .pr a b, id, x => by
    simp only [imp]
    cases (Ty.pr a b).flat with
    | true => rfl
    | false =>
      simp only [cond_false]
      rcases h1 : imp n id a x.1 with ⟨r1, o1, id1⟩
      rcases h2 : imp n id1 b x.2 with ⟨r2, o2, id2⟩
      have e1 := imp_reads (n := n) (t := a) (id := id) (x := x.1)
      have e2 := imp_reads (n := n) (t := b) (id := id1) (x := x.2)
      rw [h1] at e1; rw [h2] at e2
      simp only at e1 e2
      simp [RV.reads, e1, e2, h2]

theorem imp_ids {n : Nat} : ∀ {t : Ty} {id : Nat} {x : t.den}, ∀ m ∈ (imp n id t x).1.ids, m ∈ (imp n id t x).2.1.map (·.1)
  | .int k, id, x, m, h | .bool, id, x, m, h | .str, id, x, m, h | .un, id, x, m, h => by simp [imp, RV.ids] at h
  | .sl e, id, x, m, h => by simpa [imp, RV.ids] using h
  | .pr a b, id, x, m, h => by
    simp only [imp] at h ⊢
    cases hf : (Ty.pr a b).flat with
    | true => rw [hf] at h; simp [RV.ids] at h
    | false =>
      rw [hf] at h
      simp only [cond_false] at h ⊢
      rcases h1 : imp n id a x.1 with ⟨r1, o1, id1⟩
      rcases h2 : imp n id1 b x.2 with ⟨r2, o2, id2⟩
      have e1 := imp_ids (n := n) (t := a) (id := id) (x := x.1)
      have e2 := imp_ids (n := n) (t := b) (id := id1) (x := x.2)
      rw [h1] at e1 h; rw [h2] at e2
      simp only [h2] at e1 e2 h ⊢
      simp only [RV.ids, List.mem_append] at h
      rw [List.map_append]
      exact List.mem_append.2 (h.imp (e1 m) (e2 m))

theorem impM_ids {n : Nat} {shr : Bool} {m : Md} {t : Ty} {id : Nat} {x : t.den} {rv : RV} {obs : List (Nat × Ob)} {id' : Nat} (hi : impM shr n id m t x = some (rv, obs, id')) : ∀ m ∈ rv.ids, m ∈ obs.map (·.1) := by
  unfold impM at hi
  cases m with
  | sh =>
    simp only at hi
    cases hc : (shr || t.flat) with
    | false => rw [hc] at hi; cases hi
    | true =>
      rw [hc] at hi
      simp only [cond_true, Option.some.injEq, Prod.mk.injEq] at hi
      rw [← hi.1]; simp [RV.ids]
  | ow =>
    simp only at hi
    cases hc : t.impOk with
    | false => rw [hc] at hi; cases hi
    | true =>
      rw [hc] at hi
      simp only [cond_true, Option.some.injEq] at hi
      have := imp_ids (n := n) (t := t) (id := id) (x := x)
      rw [hi] at this; exact this
  | de =>
    simp only [Option.some.injEq, Prod.mk.injEq] at hi
    rw [← hi.1]; simp [RV.ids]

theorem impM_reads {n : Nat} {shr : Bool} {m : Md} {t : Ty} {id : Nat} {x : t.den} {rv : RV} {obs : List (Nat × Ob)} {id' : Nat} (hi : impM shr n id m t x = some (rv, obs, id')) : rv.reads = [] := by
  unfold impM at hi
  cases m with
  | sh =>
    simp only at hi
    cases hc : (shr || t.flat) with
    | false => rw [hc] at hi; cases hi
    | true =>
      rw [hc] at hi
      simp only [cond_true, Option.some.injEq, Prod.mk.injEq] at hi
      rw [← hi.1]; rfl
  | ow =>
    simp only at hi
    cases hc : t.impOk with
    | false => rw [hc] at hi; cases hi
    | true =>
      rw [hc] at hi
      simp only [cond_true, Option.some.injEq] at hi
      have := imp_reads (n := n) (t := t) (id := id) (x := x)
      rw [hi] at this; exact this
  | de =>
    simp only [Option.some.injEq, Prod.mk.injEq] at hi
    rw [← hi.1]; rfl

theorem imps_sound {w : World} {n : Nat} {okk : Nat → Prop} {shr : Bool} : ∀ {rs : List RK} {id : Nat} {res : List DV} {vs : List Value} {fr : List Nat} {r : RV} {obs : List (Nat × Ob)} {bxs : List (Nat × Ty × RV)},
    ResL w okk rs vs res fr → imps shr n id rs res = some (r, obs, bxs) →
    ∃ (its : List Item) (bits : List BItem), obs = its.map Item.pair ∧ bxs = bits.map BItem.triple ∧ (∀ i ∈ its, i.ok w) ∧ (∀ i ∈ bits, i.ok w ∧ ∀ m ∈ i.c.ids, m ∈ its.map Item.id) ∧ fr.Perm (its.flatMap Item.F ++ bits.map BItem.b) ∧
      (∀ E : Env, E.w = w → (shr = true → ∀ b, okk b → E.ok b) → (∀ i ∈ its, i.at E) → ∀ i ∈ bits, CR E i.c i.cs.toList) ∧
      ∀ E : Env, E.w = w → (shr = true → ∀ b, okk b → E.ok b) → (∀ i ∈ its, i.at E) → (∀ i ∈ bits, i.at E) → TR E r vs
  | [], id, res, vs, fr, r, obs, bxs, h, hi => by
    cases res <;> cases vs <;> simp only [ResL] at h
    simp only [imps, Option.some.injEq, Prod.mk.injEq] at hi
    obtain ⟨rfl, rfl, rfl⟩ := hi
    subst h
    exact ⟨[], [], rfl, rfl, by simp, by simp, by simp, fun E _ _ _ i hi => by simp at hi, fun E _ _ _ _ => rfl⟩
  | .val t m :: rs, id, res, vs, fr, r, obs, bxs, h, hi => by
    cases res <;> cases vs <;> simp only [ResL] at h
    rename_i d res v vs
    obtain ⟨x, cells, f1, f2, rfl, hval, hh, hrest, rfl⟩ := h
    simp only [imps, castTo_self] at hi
    split at hi
    case h_2 => cases hi
    rename_i r1 o1 id1 hi1
    split at hi
    case h_2 => cases hi
    rename_i r2 obs2 bxs2 hi2
    simp only [Option.some.injEq, Prod.mk.injEq] at hi
    obtain ⟨rfl, rfl, rfl⟩ := hi
    obtain ⟨i1, a1, a2, a3, a4, a5⟩ := impM_sound hh hi1
    obtain ⟨i2, bits, b1, b2, b3, b4, b5, b6, b7⟩ := imps_sound hrest hi2
    refine ⟨i1 ++ i2, bits, by rw [a1, b1, List.map_append], b2, fun i hi => (List.mem_append.1 hi).elim (a2 i) (b3 i), fun i hi => ⟨(b4 i hi).1, fun m hm => by rw [List.map_append]; exact List.mem_append.2 (.inr ((b4 i hi).2 m hm))⟩, ?_, fun E hE hs hall => b6 E hE hs fun i hi => hall i (by simp [hi]), fun E hE hs hall hbs => ?_⟩
    · rw [a3, List.flatMap_append, List.append_assoc]
      exact List.Perm.append_left _ b5
    · refine ⟨v, vs, rfl, ⟨cells, a5 E hE hs fun i hi => hall i (by simp [hi]), ?_⟩, b7 E hE hs (fun i hi => hall i (by simp [hi])) hbs⟩
      rw [RV.fits_agg a4]; exact hval
  | .box t m :: rs, id, res, vs, fr, r, obs, bxs, h, hi => by
    cases res <;> cases vs <;> simp only [ResL] at h
    rename_i d res v vs
    obtain ⟨x, f1, f2, rfl, ⟨b, cs, ety, f, rfl, hb, hh, rfl⟩, hrest, rfl⟩ := h
    simp only [imps, castTo_self] at hi
    split at hi
    case h_2 => cases hi
    rename_i r1 o1 id1 hi1
    split at hi
    case h_2 => cases hi
    rename_i r2 obs2 bxs2 hi2
    simp only [Option.some.injEq, Prod.mk.injEq] at hi
    obtain ⟨rfl, rfl, rfl⟩ := hi
    obtain ⟨i1, a1, a2, a3, a4, a5⟩ := impM_sound hh hi1
    obtain ⟨i2, bits, b1, b2, b3, b4, b5, b6, b7⟩ := imps_sound hrest hi2
    refine ⟨i1 ++ i2, ⟨id, t, r1, b, cs⟩ :: bits, by rw [a1, b1, List.map_append], by rw [b2]; rfl, fun i hi => (List.mem_append.1 hi).elim (a2 i) (b3 i), fun i hi => ?_, ?_, fun E hE hs hall i hi => ?_, fun E hE hs hall hbs => ?_⟩
    · rcases List.mem_cons.1 hi with rfl | hi
      · refine ⟨⟨⟨a4, impM_reads hi1, hh.len⟩, ety, hb⟩, fun m hm => ?_⟩
        rw [List.map_append]
        refine List.mem_append.2 (.inl ?_)
        have := impM_ids hi1 m hm
        rw [a1] at this
        simpa [Item.pair] using this
      · exact ⟨(b4 i hi).1, fun m hm => by rw [List.map_append]; exact List.mem_append.2 (.inr ((b4 i hi).2 m hm))⟩
    · rw [a3, List.flatMap_append]
      simp only [List.map_cons, List.cons_append]
      refine (List.Perm.cons b ((List.Perm.append_left _ b5).trans ?_)).trans List.perm_middle.symm
      rw [List.append_assoc]
    · rcases List.mem_cons.1 hi with rfl | hi
      · exact a5 E hE hs fun i hi => hall i (by simp [hi])
      · exact b6 E hE hs (fun i hi => hall i (by simp [hi])) i hi
    · refine ⟨_, vs, rfl, ⟨[.pointer (some ⟨b, 0, none⟩)], ?_, by simp [RV.agg]⟩, b7 E hE hs (fun i hi => hall i (by simp [hi])) fun i hi => hbs i (by simp [hi])⟩
      obtain ⟨h1, h2⟩ := hbs _ (List.mem_cons_self ..)
      simp only at h1 h2
      refine ⟨t, r1, t, 0, h2, by unfold Ty.offB; rfl, by rw [h1]⟩

theorem upds_sound {w w' : World} {w0 : World} {mu : Lent} {Γ : Gam} {st : St} {tmps : Array Value} (h : Inv w0 mu Γ st tmps w) {okk : Nat → Prop} : ∀ {t : Ty} {rv : RV} {x x' : t.den} {g : List Nat} {cells : List Value} {f : List Nat}, CR (envOf w Γ st.obs) rv cells → st.own t rv = some (x, g) → Own w' okk true t cells x' f →
    ∃ its : List Item, upds t rv x' = its.map Item.pair ∧ (∀ i ∈ its, i.ok w' ∧ i.v = Γ.hdr i.id ∧ ∃ k xs, look st.obs i.id = some (.slot i.e k xs) ∧ i.xs.length = xs.length) ∧ (its.flatMap Item.F).Sublist f ∧ g = its.map Item.id
  | t, .v u y, x, x', g, cells, f, hc, hm, ho => by
    have h' : (bif u.flat then (castTo t y).map (·, ([] : List Nat)) else none) = some (x, g) := by cases t <;> simpa only [St.own] using hm
    cases hf : u.flat with
    | false => rw [hf] at h'; cases h'
    | true =>
      rw [hf] at h'
      simp only [cond_true, Option.map_eq_some_iff, Prod.mk.injEq] at h'
      obtain ⟨z, hz, _, rfl⟩ := h'
      obtain ⟨e, _⟩ := castTo_inj hz
      subst e
      refine ⟨[], ?_, by simp, by simp, rfl⟩
      cases u <;> simp [upds]
  | .sl e, .nl e', x, x', g, cells, f, hc, hm, ho => by
    simp only [St.own, Option.some.injEq, Prod.mk.injEq] at hm
    obtain ⟨_, rfl⟩ := hm
    exact ⟨[], by simp [upds], by simp, by simp, rfl⟩
  | .sl e, .rf s e' n, x, x', g, cells, f, hc, hm, ho => by
    simp only [St.own] at hm
    split at hm
    · rename_i e2 d xs hob
      cases hd : (d || e2.flat) with
      | false => rw [hd] at hm; cases hm
      | true =>
        rw [hd] at hm
        simp only [cond_true, Option.map_eq_some_iff, Prod.mk.injEq] at hm
        obtain ⟨z, hz, _, rfl⟩ := hm
        obtain ⟨e3, _⟩ := castTo_inj hz
        cases e3
        obtain ⟨hpos, _⟩ := h.obs s _ (look_mem hob)
        rcases ho with ⟨_, v, hv, hsl⟩ | ⟨hh, _⟩
        case inr => cases hh
        have hve : v = Γ.hdr s := by
          have h1 := hc.1
          rw [hv] at h1
          exact (List.cons.inj h1).1
        obtain ⟨ad, cap, hhd⟩ := h.hdr hob
        have hl : x'.length = xs.length := by
          obtain ⟨a, cap', h1, _⟩ := hsl
          rw [hve, hhd] at h1
          simp only [Value.slice.injEq] at h1
          exact h1.2.1.symm
        refine ⟨[⟨s, e, x', v, f⟩], by simp [upds, Item.pair, Item.ob], fun i hi => ?_, by simp, rfl⟩
        simp only [List.mem_singleton] at hi; subst hi
        exact ⟨⟨hpos, fun okk' => hsl.conv fun cs x f ho => Own.any ho⟩, hve, d, xs, hob, hl⟩
    · cases hm
  | .pr a b, .pr p q, x, x', g, cells, f, hc, hm, ho => by
    simp only [St.own] at hm
    split at hm
    · rename_i y i z j hy hz
      simp only [Option.some.injEq, Prod.mk.injEq] at hm
      obtain ⟨_, rfl⟩ := hm
      obtain ⟨v1, v2, rfl, h1, h2⟩ := hc
      obtain ⟨u1, u2, f1, f2, he, rfl, o1, o2⟩ := ho
      have hl : v1.length = u1.length := by
        have c1 := (own_sound h h1 hy).1.len
        rw [c1, o1.len]
      obtain ⟨rfl, rfl⟩ := List.append_inj he hl
      obtain ⟨i1, a1, a2, a3, a4⟩ := upds_sound h h1 hy o1
      obtain ⟨i2, b1, b2, b3, b4⟩ := upds_sound h h2 hz o2
      exact ⟨i1 ++ i2, by simp only [upds]; rw [a1, b1, List.map_append], fun i hi => (List.mem_append.1 hi).elim (a2 i) (b2 i), by rw [List.flatMap_append]; exact a3.append b3, by rw [a4, b4, List.map_append]⟩
    · cases hm
  | .un, .un, x, x', g, cells, f, hc, hm, ho => by
    simp only [St.own, Option.some.injEq, Prod.mk.injEq] at hm
    obtain ⟨_, rfl⟩ := hm
    exact ⟨[], by simp [upds], by simp, by simp, rfl⟩
  | .int _, .nl _, _, _, _, _, _, _, h, _ | .bool, .nl _, _, _, _, _, _, _, h, _ | .str, .nl _, _, _, _, _, _, _, h, _ | .un, .nl _, _, _, _, _, _, _, h, _ | .pr _ _, .nl _, _, _, _, _, _, _, h, _ => by simp [St.own] at h
  | .int _, .rf s _ _, x, _, _, _, _, _, h, _ | .bool, .rf s _ _, x, _, _, _, _, _, h, _ | .str, .rf s _ _, x, _, _, _, _, _, h, _ | .un, .rf s _ _, x, _, _, _, _, _, h, _ | .pr _ _, .rf s _ _, x, _, _, _, _, _, h, _ => by simp [St.own] at h
  | .int _, .pr _ _, _, _, _, _, _, _, h, _ | .bool, .pr _ _, _, _, _, _, _, _, h, _ | .str, .pr _ _, _, _, _, _, _, _, h, _ | .un, .pr _ _, _, _, _, _, _, _, h, _ | .sl _, .pr _ _, _, _, _, _, _, _, h, _ => by simp [St.own] at h
  | .int _, .un, _, _, _, _, _, _, h, _ | .bool, .un, _, _, _, _, _, _, h, _ | .str, .un, _, _, _, _, _, _, h, _ | .pr _ _, .un, _, _, _, _, _, _, h, _ | .sl _, .un, _, _, _, _, _, _, h, _ => by simp [St.own] at h
  | t, .vw _ _ _ _, _, _, _, _, _, _, h, _ => by cases t <;> simp [St.own] at h
  | t, .bi _ _, _, _, _, _, _, _, h, _ => by cases t <;> simp [St.own] at h
  | t, .ptr _ _, _, _, _, _, _, _, h, _ => by cases t <;> simp [St.own] at h
  | t, .pv _ _, _, _, _, _, _, _, h, _ => by cases t <;> simp [St.own] at h
  | t, .fn _ _, _, _, _, _, _, _, h, _ => by cases t <;> simp [St.own] at h
  | t, .dd _, _, _, _, _, _, _, h, _ => by cases t <;> simp [St.own] at h
  | t, .tp _, _, _, _, _, _, _, h, _ => by cases t <;> simp [St.own] at h

/-- The variables and data that were lent, as they come back. -/
theorem backs_sound {w w' : World} {w0 : World} {mu : Lent} {Γ : Gam} {st : St} {tmps : Array Value} (h : Inv w0 mu Γ st tmps w) {okk : Nat → Prop} {shr : Bool} {n : Nat} : ∀ {ls : List LI} {lv : List LV} {upd : List DV} {fl : List Nat} {ps : List (Nat × Ob)} {bs : List (Nat × Ty × RV)} {obs : List (Nat × Ob)},
    LMatch Γ st (envOf w Γ st.obs) ls lv → LentA w' okk lv upd fl → backs shr n ls upd = some (ps, bs, obs) →
    ∃ (its pits : List Item) (bits : List BItem), obs = its.map Item.pair ∧ ps = pits.map Item.pair ∧ bs = bits.map BItem.triple ∧ (∀ i ∈ its, i.ok w') ∧
      (∀ i ∈ pits, i.ok w' ∧ i.v = Γ.hdr i.id ∧ ∃ k xs, look st.obs i.id = some (.slot i.e k xs) ∧ i.xs.length = xs.length) ∧
      (∀ i ∈ bits, i.ok w' ∧ i.b = Γ.bx i.id ∧ ∃ c, look st.obs i.id = some (.box i.t c)) ∧
      (∃ f, (its.flatMap Item.F ++ pits.flatMap Item.F ++ bits.map BItem.b).Perm f ∧ f.Sublist fl) ∧ (pits.map Item.id ++ bits.map BItem.id).Perm (ls.flatMap (liIds st)) ∧
      (∀ E : Env, E.w = w' → (shr = true → ∀ b, okk b → E.ok b) → (∀ i ∈ its, i.at E) → ∀ i ∈ bits, CR E i.c i.cs.toList)
  | [], lv, upd, fl, ps, bs, obs, hm, hl, hb => by
    cases upd <;> simp only [backs, reduceCtorEq, Option.some.injEq, Prod.mk.injEq] at hb
    obtain ⟨rfl, rfl, rfl⟩ := hb
    exact ⟨[], [], [], rfl, rfl, rfl, by simp, by simp, by simp, ⟨[], by simp, by simp⟩, by simp, fun E _ _ _ i hi => by simp at hi⟩
  | .box o t m :: ls, lv, upd, fl, ps, bs, obs, hm, hl, hb => by
    cases lv with
    | nil => simp [LMatch] at hm
    | cons v lv =>
      cases v with
      | dat v t' => simp [LMatch] at hm
      | box v t' m' =>
        obtain ⟨⟨rfl, rfl, rfl, c, x0, g0, ho, hin⟩, hm⟩ := hm
        cases upd with
        | nil => simp [LentA] at hl
        | cons d upd =>
          obtain ⟨x, f1, f2, rfl, ⟨b, cs, ety, f, hve, hheap, hh, rfl⟩, hrest, rfl⟩ := hl
          simp only [Value.pointer.injEq, Option.some.injEq, Addr.mk.injEq, and_true] at hve
          subst hve
          simp only [backs, castTo_self] at hb
          split at hb
          case h_2 => cases hb
          rename_i r o1 id1 hiM
          split at hb
          case h_2 => cases hb
          rename_i ps2 bs2 obs2 hb2
          simp only [Option.some.injEq, Prod.mk.injEq] at hb
          obtain ⟨rfl, rfl, rfl⟩ := hb
          obtain ⟨i1, a1, a2, a3, a4, a5⟩ := impM_sound hh hiM
          obtain ⟨i2, pits, bits, b1, b2, b3, b4, b5, b6, ⟨f', b7, b7'⟩, b9, b8⟩ := backs_sound h hm hrest hb2
          refine ⟨i1 ++ i2, pits, ⟨o, t', r, Γ.bx o, cs⟩ :: bits, by rw [a1, b1, List.map_append], b2, by rw [b3]; rfl, fun i hi => (List.mem_append.1 hi).elim (a2 i) (b4 i), b5, fun i hi => ?_, ⟨Γ.bx o :: f ++ f', ?_, List.Sublist.append (List.Sublist.refl _) b7'⟩, ?_, fun E hE hs hall i hi => ?_⟩
          · rcases List.mem_cons.1 hi with rfl | hi
            · exact ⟨⟨⟨a4, impM_reads hiM, hh.len⟩, ety, hheap⟩, rfl, c, ho⟩
            · exact b6 i hi
          · rw [a3, List.flatMap_append]
            simp only [List.map_cons, List.append_assoc, List.cons_append]
            have e1 : (i1.flatMap Item.F ++ (i2.flatMap Item.F ++ (pits.flatMap Item.F ++ Γ.bx o :: bits.map BItem.b))).Perm (Γ.bx o :: (i1.flatMap Item.F ++ (i2.flatMap Item.F ++ (pits.flatMap Item.F ++ bits.map BItem.b)))) := by
              have := List.perm_middle (a := Γ.bx o) (l₁ := i1.flatMap Item.F ++ (i2.flatMap Item.F ++ pits.flatMap Item.F)) (l₂ := bits.map BItem.b)
              simpa [List.append_assoc] using this
            refine e1.trans (List.Perm.cons _ (List.Perm.append_left _ ?_))
            simpa [List.append_assoc] using b7
          · simp only [List.map_cons, List.flatMap_cons, liIds]
            exact List.perm_middle.trans (List.Perm.cons _ b9)
          · rcases List.mem_cons.1 hi with rfl | hi
            · exact a5 E hE hs fun i hi => hall i (by simp [hi])
            · exact b8 E hE hs (fun i hi => hall i (by simp [hi])) i hi
  | .dat t rv :: ls, lv, upd, fl, ps, bs, obs, hm, hl, hb => by
    cases lv with
    | nil => simp [LMatch] at hm
    | cons v lv =>
      cases v with
      | box v t' m' => simp [LMatch] at hm
      | dat v t' =>
        obtain ⟨⟨rfl, hv, x0, g0, hown⟩, hm⟩ := hm
        cases upd with
        | nil => simp [LentA] at hl
        | cons d upd =>
          obtain ⟨x, cells, f1, f2, rfl, hval, ho, hrest, rfl⟩ := hl
          simp only [backs, castTo_self] at hb
          split at hb
          case h_2 => cases hb
          rename_i ps2 bs2 obs2 hb2
          simp only [Option.some.injEq, Prod.mk.injEq] at hb
          obtain ⟨rfl, rfl, rfl⟩ := hb
          obtain ⟨hnd, hn⟩ := own_live hown
          obtain ⟨vs, hc, hvs⟩ := hv.to1 hn
          have hcells : vs = cells := by
            rw [own_agg hown] at hvs
            unfold valOf at hval
            cases ht : t'.agg with
            | true =>
              rw [ht] at hvs hval
              simp only [if_true] at hvs hval
              rw [hvs] at hval
              simpa using hval
            | false =>
              rw [ht] at hvs hval
              simp only [Bool.false_eq_true, if_false] at hvs hval
              rw [hvs, hval]
          subst hcells
          obtain ⟨p1, a1, a2, a3, a4⟩ := upds_sound h hc hown ho
          obtain ⟨its, pits, bits, b1, b2, b3, b4, b5, b6, ⟨f', b7, b7'⟩, b9, b8⟩ := backs_sound h hm hrest hb2
          refine ⟨its, p1 ++ pits, bits, b1, by rw [a1, b2, List.map_append], b3, b4, fun i hi => (List.mem_append.1 hi).elim (a2 i) (b5 i), b6, ⟨p1.flatMap Item.F ++ f', ?_, List.Sublist.append a3 b7'⟩, ?_, b8⟩
          rotate_left
          · rw [List.map_append, List.append_assoc, ← a4]
            simp only [List.flatMap_cons, liIds, hown]
            exact List.Perm.append_left _ b9
          rw [List.flatMap_append]
          refine List.Perm.trans ?_ (List.Perm.append_left _ b7)
          simp only [List.append_assoc]
          rw [← List.append_assoc, ← List.append_assoc (as := p1.flatMap Item.F)]
          exact List.Perm.append_right _ List.perm_append_comm

end Go.Tm
end

/- (TmLent3)
  Calls with data that is given away or lent: objects that come anew, names that are taken anew.
-/
section
set_option linter.unusedSimpArgs false
set_option linter.unusedVariables false
namespace Go.Tm

section
variable {P : Program} {c : Cfg} {w0 : World} {mu : Lent} {Γ : Gam} {st : St} {tmps : Array Value} {w w' : World} {rv : RV}

theorem nodup_flat {α : Type} {g : Nat × α → List Nat} : ∀ {l : List (Nat × α)}, (l.map (·.1)).Nodup → (∀ p ∈ l, (g p).Nodup) → (∀ p ∈ l, ∀ q ∈ l, p.1 ≠ q.1 → ∀ b ∈ g p, b ∉ g q) → (l.flatMap g).Nodup
  | [], _, _, _ => by simp
  | x :: l, hi, h1, h2 => by
    simp only [List.map_cons, List.nodup_cons] at hi
    simp only [List.flatMap_cons, List.nodup_append]
    refine ⟨h1 x (by simp), nodup_flat hi.2 (fun p hp => h1 p (by simp [hp])) (fun p hp q hq => h2 p (by simp [hp]) q (by simp [hq])), fun b hb y hy e => ?_⟩
    subst e
    obtain ⟨p, hp, hbp⟩ := List.mem_flatMap.1 hy
    exact h2 x (by simp) p (by simp [hp]) (fun e => hi.1 (List.mem_map.2 ⟨p, hp, e.symm⟩)) b hb hbp

/-! ### dropped names -/

theorem drop_vals_sub {s : Nat} (h : (st.drop s).vals rv) : ∃ rv', st.vals rv' ∧ rv = rv'.kil (RV.hasId s) := by
  rcases h with ⟨r, k, h⟩ | ⟨o, t, h⟩
  · simp only [St.drop, St.kil, List.mem_map, Prod.mk.injEq] at h
    obtain ⟨e, he, rfl, rfl, rfl⟩ := h
    exact ⟨_, .inl ⟨_, _, he⟩, rfl⟩
  · simp only [St.drop, St.kil, List.mem_filter, List.mem_map, Prod.mk.injEq] at h
    obtain ⟨⟨e, he, _, h⟩, _⟩ := h
    cases ho : e.2 with
    | box t' c => rw [ho] at h; simp only [Ob.kil, Ob.box.injEq] at h; exact ⟨c, .inr ⟨e.1, t', by rw [← ho]; exact he⟩, h.2.symm⟩
    | slot e' d xs => rw [ho] at h; simp [Ob.kil] at h

theorem drops_vals : ∀ {ids : List Nat} {st : St} {rv : RV}, (st.drops ids).vals rv → ∀ m ∈ ids, m ∉ rv.ids
  | [], _, _, _, m, hm => by simp at hm
  | s :: ids, st, rv, h, m, hm => by
    rcases List.mem_cons.1 hm with rfl | hm
    · have key : ∀ {ids : List Nat} {st : St} {rv : RV}, (∀ rv, st.vals rv → m ∉ rv.ids) → (st.drops ids).vals rv → m ∉ rv.ids := by
        intro ids
        induction ids with
        | nil => intro st rv h0 h; exact h0 rv h
        | cons i ids ih =>
          intro st rv h0 h
          refine ih (st := st.drop i) (fun rv h => ?_) h
          obtain ⟨rv', h1, rfl⟩ := drop_vals_sub h
          exact fun hm => h0 rv' h1 (RV.kil_sub hm)
      exact key (st := st.drop m) (fun rv h => vals_drop h) h
    · exact drops_vals (ids := ids) (st := st.drop s) h m hm

theorem drops_obs : ∀ {ids : List Nat} {st : St} {p : Nat × Ob}, p ∈ (st.drops ids).obs → p.1 ∉ ids ∧ p.1 ∈ st.obs.map (·.1)
  | [], st, p, h => ⟨by simp, List.mem_map.2 ⟨p, h, rfl⟩⟩
  | s :: ids, st, p, h => by
    obtain ⟨h1, h2⟩ := drops_obs (ids := ids) (st := st.drop s) h
    obtain ⟨q, hq, he⟩ := List.mem_map.1 h2
    simp only [St.drop, St.kil, List.mem_filter, List.mem_map] at hq
    obtain ⟨⟨e, he1, he2⟩, hn⟩ := hq
    refine ⟨fun hm => ?_, List.mem_map.2 ⟨e, he1, ?_⟩⟩
    · rcases List.mem_cons.1 hm with hm | hm
      · rw [he, hm] at hn; simp at hn
      · exact h1 hm
    · rw [← he, ← he2]

theorem drops_box : ∀ {ids : List Nat} {st : St} {m : Nat} {t : Ty} {c : RV}, m ∉ ids → look st.obs m = some (.box t c) → ∃ c', look (st.drops ids).obs m = some (.box t c')
  | [], st, m, t, c, _, h => ⟨c, h⟩
  | s :: ids, st, m, t, c, hm, h => by
    simp only [List.mem_cons, not_or] at hm
    refine drops_box (ids := ids) (st := st.drop s) (c := c.kil (RV.hasId s)) hm.2 ?_
    have : (st.drop s).obs = (st.kil (RV.hasId s)).obs.filter fun e => !(Nat.beq e.1 s) := rfl
    rw [this, look_filter hm.1]
    simp only [St.kil, look_kil, h]; rfl

/-! ### new objects -/

/-- New slots, in blocks that are kept aside. -/
theorem Inv.addItems : ∀ {its : List Item} {st : St} {Γ : Gam}, Inv w0 mu Γ st tmps w → (its.map Item.id).Nodup → (∀ i ∈ its, i.id ∉ st.obs.map (·.1) ∧ i.id ∉ st.lent ∧ ∀ rv, st.vals rv → i.id ∉ rv.ids) → (∀ i ∈ its, i.ok w) →
    (∀ b ∈ its.flatMap Item.F, b ∈ Γ.rs) → (its.flatMap Item.F).Nodup →
    ∃ Γ', Inv w0 mu Γ' { st with obs := its.map Item.pair ++ st.obs } tmps w ∧ (∀ i ∈ its, Γ'.hdr i.id = i.v ∧ Γ'.fp i.id = i.F) ∧ (∀ m, m ∉ its.map Item.id → Γ'.hdr m = Γ.hdr m ∧ Γ'.fp m = Γ.fp m ∧ Γ'.bx m = Γ.bx m) ∧
      (∀ b ∈ Γ.rs, b ∉ its.flatMap Item.F → b ∈ Γ'.rs) ∧ (∀ b, b ∈ owned Γ' (its.map Item.pair ++ st.obs) → b ∈ owned Γ st.obs) ∧ Γ'.no = Γ.no
  | [], st, Γ, h, _, _, _, _, _ => ⟨Γ, h, by simp, fun m _ => ⟨rfl, rfl, rfl⟩, fun b hb _ => hb, fun b hb => hb, rfl⟩
  | i :: its, st, Γ, h, hn, hf, hok, hr, hnd => by
    simp only [List.map_cons, List.nodup_cons] at hn
    simp only [List.flatMap_cons, List.nodup_append] at hnd
    obtain ⟨Γ1, h1, a1, a2, a3, a4, a5⟩ := Inv.addItems (its := its) h hn.2 (fun j hj => hf j (by simp [hj])) (fun j hj => hok j (by simp [hj])) (fun b hb => hr b (by simp [hb])) hnd.2.1
    obtain ⟨f1, f2, f3⟩ := hf i (by simp)
    have hfree : i.id ∉ (its.map Item.pair ++ st.obs).map (·.1) := by
      rw [List.map_append, List.mem_append, not_or]
      refine ⟨fun hm => hn.1 ?_, f1⟩
      simp only [List.map_map, List.mem_map] at hm ⊢
      obtain ⟨j, hj, e⟩ := hm
      exact ⟨j, hj, e⟩
    have hFr : ∀ b ∈ i.F, b ∈ Γ1.rs := fun b hb => a3 b (hr b (by simp [hb])) fun hm => hnd.2.2 b hb b hm rfl
    have hfp : obFp (Γ1.add i.id i.v i.F w.heap.size) i.id i.ob = i.F := by simp [obFp, Item.ob, Gam.add, upd_self]
    have h2 := h1.add (d := i.id) (ob := i.ob) (F := i.F) (hd := i.v) (bx := w.heap.size) (G := i.F) hfree (fun rv hv => by
        rcases hv with ⟨r, k, hv⟩ | ⟨o, t, hv⟩
        · exact f3 rv (.inl ⟨r, k, hv⟩)
        · rcases List.mem_append.1 hv with hv | hv
          · obtain ⟨j, hj, e⟩ := List.mem_map.1 hv
            simp [Item.pair, Item.ob] at e
          · exact f3 rv (.inr ⟨o, t, hv⟩)) f2 Made.refl hfp (fun b hb => .inl (hFr b hb)) (fun b hb => .inl hb) hnd.1 fun A => by
      obtain ⟨g1, g2⟩ := hok i (by simp)
      refine ⟨g1, ?_⟩
      show SlotR w i.e _ (upd Γ1.hdr i.id i.v i.id) i.xs (upd Γ1.fp i.id i.F i.id)
      rw [upd_self, upd_self]
      exact g2 _
    refine ⟨_, h2, fun j hj => ?_, fun m hm => ?_, fun b hb hbF => ?_, fun b hb => ?_, a5⟩
    · rcases List.mem_cons.1 hj with rfl | hj
      · exact ⟨upd_self, upd_self⟩
      · have hne : j.id ≠ i.id := fun e => hn.1 (List.mem_map.2 ⟨j, hj, e⟩)
        exact ⟨(upd_ne hne).trans (a1 j hj).1, (upd_ne hne).trans (a1 j hj).2⟩
    · simp only [List.map_cons, List.mem_cons, not_or] at hm
      obtain ⟨b1, b2, b3⟩ := a2 m hm.2
      exact ⟨(upd_ne hm.1).trans b1, (upd_ne hm.1).trans b2, (upd_ne hm.1).trans b3⟩
    · simp only [List.flatMap_cons, List.mem_append, not_or] at hbF
      have hb1 := a3 b hb hbF.2
      simp only [Gam.add, List.mem_filter, Bool.and_eq_true, Bool.not_eq_true', List.contains_eq_mem, decide_eq_false_iff_not]
      refine ⟨hb1, hbF.1, ?_⟩
      have := h1.rlt b hb1
      cases hbb : Nat.beq b w.heap.size with
      | false => rfl
      | true => have := Nat.eq_of_beq_eq_true hbb; omega
    · refine a4 b ?_
      rw [owned_eq]
      rcases (add_owned (st := { st with obs := its.map Item.pair ++ st.obs }) hfree hfp).1 hb with ⟨g1, _⟩ | g1 | ⟨p, hp, g1⟩
      · exact List.mem_append.2 (.inl g1)
      · exact List.mem_append.2 (.inl (hFr b g1))
      · exact List.mem_append.2 (.inr (List.mem_flatMap.2 ⟨p, hp, g1⟩))

/-- New variables, in blocks that are kept aside. -/
theorem Inv.addBoxes : ∀ {its : List BItem} {st : St} {Γ : Gam}, Inv w0 mu Γ st tmps w → (its.map BItem.id).Nodup → (∀ i ∈ its, i.id ∉ st.obs.map (·.1) ∧ i.id ∉ st.lent ∧ ∀ rv, st.vals rv → i.id ∉ rv.ids) → (∀ i ∈ its, i.ok w) →
    (∀ i ∈ its, ∀ j ∈ its, j.id ∉ i.c.ids) → (∀ b ∈ its.map BItem.b, b ∈ Γ.rs) → (its.map BItem.b).Nodup → (∀ i ∈ its, ∀ Γ' obs', (∀ b, b ∈ owned Γ' obs' → b ∈ owned Γ st.obs) → (∀ m, m ∉ its.map BItem.id → Γ'.hdr m = Γ.hdr m ∧ look obs' m = look st.obs m) → Γ'.no = Γ.no → CR (envOf w Γ' obs') i.c i.cs.toList) →
    ∃ Γ', Inv w0 mu Γ' { st with obs := its.map BItem.pair ++ st.obs } tmps w ∧ (∀ i ∈ its, Γ'.bx i.id = i.b) ∧ (∀ m, m ∉ its.map BItem.id → Γ'.hdr m = Γ.hdr m ∧ Γ'.fp m = Γ.fp m ∧ Γ'.bx m = Γ.bx m) ∧
      (∀ b ∈ Γ.rs, b ∉ its.map BItem.b → b ∈ Γ'.rs) ∧ (∀ b, b ∈ owned Γ' (its.map BItem.pair ++ st.obs) → b ∈ owned Γ st.obs) ∧ Γ'.no = Γ.no
  | [], st, Γ, h, _, _, _, _, _, _, _ => ⟨Γ, h, by simp, fun m _ => ⟨rfl, rfl, rfl⟩, fun b hb _ => hb, fun b hb => hb, rfl⟩
  | i :: its, st, Γ, h, hn, hf, hok, hself, hr, hnd, hcr => by
    simp only [List.map_cons, List.nodup_cons] at hn hnd
    obtain ⟨Γ1, h1, a1, a2, a3, a4, a5⟩ := Inv.addBoxes (its := its) h hn.2 (fun j hj => hf j (by simp [hj])) (fun j hj => hok j (by simp [hj])) (fun j hj k hk => hself j (by simp [hj]) k (by simp [hk])) (fun b hb => hr b (by simp only [List.map_cons, List.mem_cons]; exact .inr hb)) hnd.2
      (fun j hj Γ' obs' q1 q2 q3 => hcr j (by simp [hj]) Γ' obs' q1 (fun m hm => q2 m fun hh => hm (by simp only [List.map_cons, List.mem_cons]; exact .inr hh)) q3)
    obtain ⟨f1, f2, f3⟩ := hf i (by simp)
    have hfree : i.id ∉ (its.map BItem.pair ++ st.obs).map (·.1) := by
      rw [List.map_append, List.mem_append, not_or]
      refine ⟨fun hm => hn.1 ?_, f1⟩
      simp only [List.map_map, List.mem_map] at hm ⊢
      obtain ⟨j, hj, e⟩ := hm
      exact ⟨j, hj, e⟩
    have hbr : i.b ∈ Γ1.rs := a3 i.b (hr i.b (by simp)) fun hm => hnd.1 hm
    have hfp : obFp (Γ1.add i.id undef [] i.b) i.id (.box i.t i.c) = [i.b] := by simp [obFp, Gam.add, upd_self]
    have hown : ∀ b, b ∈ owned (Γ1.add i.id undef [] i.b) ((i.id, .box i.t i.c) :: (its.map BItem.pair ++ st.obs)) → b ∈ owned Γ st.obs := fun b hb => by
      refine a4 b ?_
      rw [owned_eq]
      rcases (add_owned (st := { st with obs := its.map BItem.pair ++ st.obs }) hfree hfp).1 hb with ⟨g1, _⟩ | g1 | ⟨p, hp, g1⟩
      · exact List.mem_append.2 (.inl g1)
      · simp only [List.mem_singleton] at g1; subst g1; exact List.mem_append.2 (.inl hbr)
      · exact List.mem_append.2 (.inr (List.mem_flatMap.2 ⟨p, hp, g1⟩))
    have hlk : ∀ m, m ∉ (i :: its).map BItem.id → look ((i.id, Ob.box i.t i.c) :: (its.map BItem.pair ++ st.obs)) m = look st.obs m := fun m hm => by
      simp only [List.map_cons, List.mem_cons, not_or] at hm
      have h0 : Nat.beq i.id m = false := by
        cases hb : Nat.beq i.id m with
        | false => rfl
        | true => exact absurd (Nat.eq_of_beq_eq_true hb).symm hm.1
      simp only [look, h0, cond_false]
      have hgen : ∀ (l : List BItem), m ∉ l.map BItem.id → look (l.map BItem.pair ++ st.obs) m = look st.obs m := by
        intro l
        induction l with
        | nil => intro _; rfl
        | cons j l ih =>
          intro hm
          simp only [List.map_cons, List.mem_cons, not_or] at hm
          have h0 : Nat.beq j.id m = false := by
            cases hb : Nat.beq j.id m with
            | false => rfl
            | true => exact absurd (Nat.eq_of_beq_eq_true hb).symm hm.1
          simp only [List.map_cons, List.cons_append, BItem.pair, look, h0, cond_false]
          exact ih hm.2
      exact hgen its hm.2
    have h2 := h1.add (d := i.id) (ob := .box i.t i.c) (F := []) (hd := undef) (bx := i.b) (G := [i.b]) hfree (fun rv hv => by
        rcases hv with ⟨r, k, hv⟩ | ⟨o, t, hv⟩
        · exact f3 rv (.inl ⟨r, k, hv⟩)
        · rcases List.mem_append.1 hv with hv | hv
          · obtain ⟨j, hj, e⟩ := List.mem_map.1 hv
            simp only [BItem.pair, Prod.mk.injEq, Ob.box.injEq] at e
            rw [← e.2.2]
            exact hself j (by simp [hj]) i (by simp)
          · exact f3 rv (.inr ⟨o, t, hv⟩)) f2 Made.refl hfp (fun b hb => by simp only [List.mem_singleton] at hb; subst hb; exact .inl hbr) (fun b hb => .inr (by simpa using hb)) (by simp) fun A => by
      obtain ⟨⟨g1, _⟩, ety, g2⟩ := hok i (by simp)
      refine ⟨g1, i.cs, ety, ?_, ?_⟩
      · show w.heap[upd Γ1.bx i.id i.b i.id]? = _
        rw [upd_self]; exact g2
      · refine hcr i (by simp) _ _ hown (fun m hm => ⟨?_, hlk m hm⟩) a5
        simp only [List.map_cons, List.mem_cons, not_or] at hm
        exact (upd_ne hm.1).trans (a2 m hm.2).1
    refine ⟨_, h2, fun j hj => ?_, fun m hm => ?_, fun b hb hbF => ?_, hown, a5⟩
    · rcases List.mem_cons.1 hj with rfl | hj
      · exact upd_self
      · have hne : j.id ≠ i.id := fun e => hn.1 (List.mem_map.2 ⟨j, hj, e⟩)
        exact (upd_ne hne).trans (a1 j hj)
    · simp only [List.map_cons, List.mem_cons, not_or] at hm
      obtain ⟨b1, b2, b3⟩ := a2 m hm.2
      exact ⟨(upd_ne hm.1).trans b1, (upd_ne hm.1).trans b2, (upd_ne hm.1).trans b3⟩
    · simp only [List.map_cons, List.mem_cons, not_or] at hbF
      have hb1 := a3 b hb hbF.2
      simp only [Gam.add, List.mem_filter, Bool.and_eq_true, Bool.not_eq_true', List.contains_eq_mem, decide_eq_false_iff_not]
      refine ⟨hb1, by simp, ?_⟩
      cases hbb : Nat.beq b i.b with
      | false => rfl
      | true => exact absurd (Nat.eq_of_beq_eq_true hbb) hbF.1

end
end Go.Tm
end

/- (TmLent4)
  Calls with data that is given away or lent: the state behind the call.
-/
section
set_option linter.unusedSimpArgs false
set_option linter.unusedVariables false
namespace Go.Tm

theorem lany_iff {l : List Nat} {m : Nat} : lany l m = true ↔ m ∈ l := by
  unfold lany
  rw [List.any_eq_true]
  constructor
  · rintro ⟨x, hx, he⟩
    have := Nat.eq_of_beq_eq_true he
    subst this; exact hx
  · intro h; exact ⟨m, h, by simp⟩

theorem RV.kil_readsAny {l : List Nat} : ∀ (c : RV), ∀ m ∈ (c.kil fun c => c.reads.any (lany l)).reads, m ∉ l
  | .pr a b, m, hm => by
    simp only [RV.kil, RV.reads, List.mem_append] at hm
    rcases hm with hm | hm
    · exact RV.kil_readsAny a m hm
    · exact RV.kil_readsAny b m hm
  | .tp a, m, hm => RV.kil_readsAny a m hm
  | .un, m, hm => by simp [RV.kil, RV.reads] at hm
  | .dd _, m, hm => by simp [RV.kil, RV.reads] at hm
  | .v .., m, hm | .nl .., m, hm | .rf .., m, hm | .vw .., m, hm | .bi .., m, hm | .ptr .., m, hm | .pv .., m, hm | .fn .., m, hm => by
    simp only [RV.kil] at hm
    split at hm
    · simp [RV.reads] at hm
    · rename_i h
      intro hl
      exact h (List.any_eq_true.2 ⟨m, hm, lany_iff.2 hl⟩)

theorem kil_vals {f : RV → Bool} {st : St} {rv : RV} (h : (st.kil f).vals rv) : ∃ rv', st.vals rv' ∧ rv = rv'.kil f := by
  rcases h with ⟨r, k, h⟩ | ⟨o, t, h⟩
  · simp only [St.kil, List.mem_map, Prod.mk.injEq] at h
    obtain ⟨e, he, rfl, rfl, rfl⟩ := h
    exact ⟨_, .inl ⟨_, _, he⟩, rfl⟩
  · simp only [St.kil, List.mem_map, Prod.mk.injEq] at h
    obtain ⟨e, he, _, h⟩ := h
    cases ho : e.2 with
    | box t' c => rw [ho] at h; simp only [Ob.kil, Ob.box.injEq] at h; exact ⟨c, .inr ⟨e.1, t', by rw [← ho]; exact he⟩, h.2.symm⟩
    | slot e' d xs => rw [ho] at h; simp [Ob.kil] at h

section
variable {P : Program} {c : Cfg} {w0 : World} {mu : Lent} {Γ : Gam} {st : St} {tmps : Array Value} {w w' : World} {rv : RV}

theorem look_app {α : Type} : ∀ {l1 l2 : List (Nat × α)} {m : Nat}, look (l1 ++ l2) m = (look l1 m).or (look l2 m)
  | [], l2, m => rfl
  | (k, a) :: l1, l2, m => by
    simp only [List.cons_append, look]
    cases Nat.beq k m with
    | true => rfl
    | false => simpa using look_app (l1 := l1) (l2 := l2)

/-- The second half: everything has been made ready (names dropped, reads struck). -/
theorem lret_core (h : Inv w0 mu Γ st tmps w) {fp : List Nat} {its pits : List Item} {bits nbits : List BItem} {okk : Nat → Prop}
    (hfpR : ∀ b ∈ fp, b ∈ Γ.rs ∨ (∃ i ∈ pits, b ∈ Γ.fp i.id) ∨ ∃ i ∈ bits, b = Γ.bx i.id)
    (hfpP : ∀ i ∈ pits, ∀ b ∈ Γ.fp i.id, b ∈ fp) (hfpB : ∀ i ∈ bits, Γ.bx i.id ∈ fp)
    (hreads : ∀ rv, st.vals rv → ∀ m ∈ rv.reads, m ∉ pits.map Item.id ∧ m ∉ bits.map BItem.id)
    (hpn : (pits.map Item.id ++ bits.map BItem.id).Nodup)
    (hp : ∀ i ∈ pits, i.ok w' ∧ i.v = Γ.hdr i.id ∧ ∃ k xs, look st.obs i.id = some (.slot i.e k xs) ∧ i.xs.length = xs.length)
    (hb : ∀ i ∈ bits, i.ok w' ∧ i.b = Γ.bx i.id ∧ ∃ c, look st.obs i.id = some (.box i.t c))
    (hnn : (its.map Item.id ++ nbits.map BItem.id).Nodup)
    (hnew : ∀ m ∈ its.map Item.id ++ nbits.map BItem.id, m ∉ st.obs.map (·.1) ∧ m ∉ st.lent ∧ ∀ rv, st.vals rv → m ∉ rv.ids)
    (hik : ∀ i ∈ its, i.ok w') (hnb : ∀ i ∈ nbits, i.ok w' ∧ ∀ m ∈ i.c.ids, m ∈ its.map Item.id)
    (hall : ((its.flatMap Item.F ++ nbits.map BItem.b) ++ (pits.flatMap Item.F ++ bits.map BItem.b)).Nodup)
    (hsrc : ∀ b ∈ (its.flatMap Item.F ++ nbits.map BItem.b) ++ (pits.flatMap Item.F ++ bits.map BItem.b), (w.heap.size ≤ b ∨ b ∈ fp) ∧ b < w'.heap.size)
    (hframe : ∀ b, b < w.heap.size → b ∉ fp → w'.heap[b]? = w.heap[b]?) (hgrown : w.heap.size ≤ w'.heap.size) (hsame : w'.os = w.os ∧ w'.tape = w.tape ∧ w'.output = w.output)
    {shr : Bool} (hokk : shr = true → ∀ b, okk b → b < w'.heap.size ∧ b ∉ (its.flatMap Item.F ++ nbits.map BItem.b) ++ (pits.flatMap Item.F ++ bits.map BItem.b) ∧ ¬ Γ.no b ∧ (b < w.heap.size → b ∉ owned Γ st.obs ∨ b ∈ fp))
    (hcrB : ∀ E : Env, E.w = w' → (shr = true → ∀ b, okk b → E.ok b) → (∀ i ∈ its, i.at E) → ∀ i ∈ bits, CR E i.c i.cs.toList)
    (hcrN : ∀ E : Env, E.w = w' → (shr = true → ∀ b, okk b → E.ok b) → (∀ i ∈ its, i.at E) → ∀ i ∈ nbits, CR E i.c i.cs.toList) :
    ∃ Γ' obs', obs' = putAll (bits.map BItem.pair) (nbits.map BItem.pair ++ (its.map Item.pair ++ putAll (pits.map Item.pair ++ bits.map fun i => (i.id, .box i.t (.dd i.t))) st.obs)) ∧
      Inv w0 mu Γ' { st with obs := obs' } tmps w' ∧ (shr = true → ∀ b, okk b → (envOf w' Γ' obs').ok b) ∧ (∀ i ∈ its, i.at (envOf w' Γ' obs')) ∧ ∀ i ∈ nbits, i.at (envOf w' Γ' obs') := by
  -- what the change is
  let dds : List (Nat × Ob) := bits.map fun i => (i.id, .box i.t (.dd i.t))
  let f : Nat → Option Ob := fun m => look (pits.map Item.pair ++ dds) m
  have hkeys : ((pits.map Item.pair ++ dds).map (·.1)).Nodup := by
    simp only [dds, List.map_append, List.map_map]
    exact hpn
  have fP : ∀ i ∈ pits, f i.id = some i.ob := fun i hi => mem_look hkeys (List.mem_append.2 (.inl (List.mem_map.2 ⟨i, hi, rfl⟩)))
  have fB : ∀ i ∈ bits, f i.id = some (.box i.t (.dd i.t)) := fun i hi => mem_look hkeys (List.mem_append.2 (.inr (List.mem_map.2 ⟨i, hi, rfl⟩)))
  have fS : ∀ m ob, f m = some ob → (∃ i ∈ pits, m = i.id ∧ ob = i.ob) ∨ ∃ i ∈ bits, m = i.id ∧ ob = .box i.t (.dd i.t) := fun m ob hf => by
    rcases List.mem_append.1 (look_mem hf) with hm | hm
    · obtain ⟨i, hi, e⟩ := List.mem_map.1 hm
      simp only [Item.pair, Prod.mk.injEq] at e
      exact .inl ⟨i, hi, e.1.symm, e.2.symm⟩
    · obtain ⟨i, hi, e⟩ := List.mem_map.1 hm
      simp only [Prod.mk.injEq] at e
      exact .inr ⟨i, hi, e.1.symm, e.2.symm⟩
  have fN : ∀ m, f m = none → m ∉ pits.map Item.id ∧ m ∉ bits.map BItem.id := fun m hf => by
    constructor
    · intro hm
      obtain ⟨i, hi, rfl⟩ := List.mem_map.1 hm
      rw [fP i hi] at hf; cases hf
    · intro hm
      obtain ⟨i, hi, rfl⟩ := List.mem_map.1 hm
      rw [fB i hi] at hf; cases hf
  have fO : ∀ m, m ∉ pits.map Item.id → m ∉ bits.map BItem.id → f m = none := fun m h1 h2 => by
    cases hf : f m with
    | none => rfl
    | some ob =>
      rcases fS m ob hf with ⟨i, hi, rfl, _⟩ | ⟨i, hi, rfl, _⟩
      · exact absurd (List.mem_map.2 ⟨i, hi, rfl⟩) h1
      · exact absurd (List.mem_map.2 ⟨i, hi, rfl⟩) h2
  rw [List.nodup_append] at hpn hall
  have hallN := hall.1
  have hallP := hall.2.1
  rw [List.nodup_append] at hallN hallP
  let NB : List Nat := its.flatMap Item.F ++ nbits.map BItem.b
  let fpL : List (Nat × List Nat) := pits.map fun i => (i.id, i.F)
  have hfpk : (fpL.map (·.1)).Nodup := by simp only [fpL, List.map_map]; exact hpn.1
  let Γ1 : Gam := { hdr := Γ.hdr, fp := fun m => (look fpL m).getD (Γ.fp m), bx := Γ.bx, rs := (Γ.rs.filter fun b => !(fp.contains b)) ++ NB, no := Γ.no }
  have gP : ∀ i ∈ pits, Γ1.fp i.id = i.F := fun i hi => by
    show (look fpL i.id).getD _ = _
    rw [mem_look hfpk (List.mem_map.2 ⟨i, hi, rfl⟩)]; rfl
  have gO : ∀ m, m ∉ pits.map Item.id → Γ1.fp m = Γ.fp m := fun m hm => by
    show (look fpL m).getD _ = _
    rw [look_none (by simp only [fpL, List.map_map]; exact hm)]; rfl
  -- the blocks of objects
  have hown : ∀ b ∈ fp, b ∈ owned Γ st.obs := fun b hb0 => by
    rw [owned_eq]
    rcases hfpR b hb0 with h1 | ⟨i, hi, h1⟩ | ⟨i, hi, h1⟩
    · exact List.mem_append.2 (.inl h1)
    · obtain ⟨_, _, k, xs, ho, _⟩ := hp i hi
      exact List.mem_append.2 (.inr (List.mem_flatMap.2 ⟨_, look_mem ho, by simpa [obFp] using h1⟩))
    · obtain ⟨_, _, c, ho⟩ := hb i hi
      exact List.mem_append.2 (.inr (List.mem_flatMap.2 ⟨_, look_mem ho, by simp [obFp, h1]⟩))
  have hother : ∀ m ob, (m, ob) ∈ st.obs → f m = none → ∀ b ∈ obFp Γ m ob, b ∉ fp := fun m ob hm hf b hb0 hbf => by
    obtain ⟨n1, n2⟩ := fN m hf
    rcases hfpR b hbf with h1 | ⟨i, hi, h1⟩ | ⟨i, hi, h1⟩
    · exact rs_not_fp h hm b hb0 h1
    · obtain ⟨_, _, k, xs, ho, _⟩ := hp i hi
      exact ob_disj h (look_mem ho) hm (fun e => n1 (List.mem_map.2 ⟨i, hi, e⟩)) b (by simpa [obFp] using h1) hb0
    · obtain ⟨_, _, c, ho⟩ := hb i hi
      exact ob_disj h (look_mem ho) hm (fun e => n2 (List.mem_map.2 ⟨i, hi, e⟩)) b (by simp [obFp, h1]) hb0
  have hlookmem : ∀ m ob, (m, ob) ∈ st.obs → look st.obs m = some ob := fun m ob hm => mem_look h.ids hm
  -- footprints after the change
  have hfpA : ∀ p ∈ st.obs, (f p.1 = none ∧ obFp Γ1 p.1 ((f p.1).getD p.2) = obFp Γ p.1 p.2) ∨ (∃ i ∈ pits, p.1 = i.id ∧ obFp Γ1 p.1 ((f p.1).getD p.2) = i.F) ∨ (∃ i ∈ bits, p.1 = i.id ∧ obFp Γ1 p.1 ((f p.1).getD p.2) = [i.b]) := by
    rintro ⟨m, ob⟩ hm
    cases hf : f m with
    | none =>
      left
      refine ⟨rfl, ?_⟩
      simp only [Option.getD_none]
      cases ob with
      | box t c => rfl
      | slot e d xs => exact gO m (fN m hf).1
    | some ob' =>
      rcases fS m ob' hf with ⟨i, hi, rfl, rfl⟩ | ⟨i, hi, rfl, rfl⟩
      · exact .inr (.inl ⟨i, hi, rfl, by simpa [obFp, Item.ob] using gP i hi⟩)
      · exact .inr (.inr ⟨i, hi, rfl, by simp only [Option.getD_some, obFp]; rw [(hb i hi).2.1]⟩)
  have hmemA : ∀ b, b ∈ owned Γ1 (st.puts f).obs → (b ∈ Γ.rs ∧ b ∉ fp) ∨ b ∈ NB ∨ (∃ p ∈ st.obs, f p.1 = none ∧ b ∈ obFp Γ p.1 p.2) ∨ b ∈ pits.flatMap Item.F ++ bits.map BItem.b := fun b hb0 => by
    rw [owned_eq] at hb0
    simp only [St.puts, List.flatMap_map, List.mem_append, List.mem_flatMap] at hb0
    rcases hb0 with hb0 | ⟨p, hp0, hb0⟩
    · simp only [Γ1, List.mem_append, List.mem_filter, Bool.not_eq_true', List.contains_eq_mem, decide_eq_false_iff_not] at hb0
      rcases hb0 with hb0 | hb0
      · exact .inl hb0
      · exact .inr (.inl hb0)
    · rcases hfpA p hp0 with ⟨h1, h2⟩ | ⟨i, hi, _, h2⟩ | ⟨i, hi, _, h2⟩
      · rw [h2] at hb0; exact .inr (.inr (.inl ⟨p, hp0, h1, hb0⟩))
      · rw [h2] at hb0; exact .inr (.inr (.inr (List.mem_append.2 (.inl (List.mem_flatMap.2 ⟨i, hi, hb0⟩)))))
      · rw [h2] at hb0; exact .inr (.inr (.inr (List.mem_append.2 (.inr (List.mem_map.2 ⟨i, hi, (List.mem_singleton.1 hb0).symm⟩)))))
  have hnodup := h.nodup
  rw [owned_eq, List.nodup_append] at hnodup
  have hsubA : ∀ b ∈ owned Γ1 (st.puts f).obs, b ∈ owned Γ st.obs ∨ w.heap.size ≤ b := fun b hb0 => by
    rcases hmemA b hb0 with h1 | h1 | ⟨p, hp0, _, h1⟩ | h1
    · exact .inl (by rw [owned_eq]; exact List.mem_append.2 (.inl h1.1))
    · rcases (hsrc b (List.mem_append.2 (.inl h1))).1 with h2 | h2
      · exact .inr h2
      · exact .inl (hown b h2)
    · exact .inl (by rw [owned_eq]; exact List.mem_append.2 (.inr (List.mem_flatMap.2 ⟨p, hp0, h1⟩)))
    · rcases (hsrc b (List.mem_append.2 (.inr h1))).1 with h2 | h2
      · exact .inr h2
      · exact .inl (hown b h2)
  have hndA : (owned Γ1 (st.puts f).obs).Nodup := by
    rw [owned_eq, List.nodup_append]
    refine ⟨?_, ?_, ?_⟩
    · show ((Γ.rs.filter fun b => !(fp.contains b)) ++ NB).Nodup
      rw [List.nodup_append]
      refine ⟨hnodup.1.filter _, hall.1, fun x hx y hy e => ?_⟩
      subst e
      simp only [List.mem_filter, Bool.not_eq_true', List.contains_eq_mem, decide_eq_false_iff_not] at hx
      rcases (hsrc x (List.mem_append.2 (.inl hy))).1 with h1 | h1
      · have := h.rlt x hx.1; omega
      · exact hx.2 h1
    · simp only [St.puts, List.flatMap_map]
      refine nodup_flat h.ids ?_ ?_
      · intro p hp0
        rcases hfpA p hp0 with ⟨h1, h2⟩ | ⟨i, hi, _, h2⟩ | ⟨i, hi, _, h2⟩
        · rw [h2]; exact nodup_at (g := fun p => obFp Γ p.1 p.2) hnodup.2.1 hp0
        · rw [h2]; exact nodup_at (g := Item.F) hallP.1 hi
        · rw [h2]; simp
      · intro p hp0 q hq0 hne b hbp hbq
        have key : ∀ p ∈ st.obs, ∀ q ∈ st.obs, p.1 ≠ q.1 → f p.1 = none → b ∈ obFp Γ p.1 p.2 → b ∈ obFp Γ1 q.1 ((f q.1).getD q.2) → False := by
          intro p hp0 q hq0 hne h1 hbp hbq
          have hbnf := hother p.1 p.2 hp0 h1 b hbp
          have hblt := ob_lt h (show (p.1, p.2) ∈ st.obs from hp0) b hbp
          rcases hfpA q hq0 with ⟨g1, g2⟩ | ⟨j, hj, _, g2⟩ | ⟨j, hj, _, g2⟩
          · rw [g2] at hbq
            exact ob_disj h (show (p.1, p.2) ∈ st.obs from hp0) (show (q.1, q.2) ∈ st.obs from hq0) hne b hbp hbq
          · rw [g2] at hbq
            rcases (hsrc b (List.mem_append.2 (.inr (List.mem_append.2 (.inl (List.mem_flatMap.2 ⟨j, hj, hbq⟩)))))).1 with h3 | h3
            · omega
            · exact hbnf h3
          · rw [g2] at hbq
            rcases (hsrc b (List.mem_append.2 (.inr (List.mem_append.2 (.inr (List.mem_map.2 ⟨j, hj, (List.mem_singleton.1 hbq).symm⟩)))))).1 with h3 | h3
            · omega
            · exact hbnf h3
        rcases hfpA p hp0 with ⟨h1, h2⟩ | ⟨i, hi, ei, h2⟩ | ⟨i, hi, ei, h2⟩
        · rw [h2] at hbp; exact key p hp0 q hq0 hne h1 hbp hbq
        · rcases hfpA q hq0 with ⟨g1, g2⟩ | ⟨j, hj, ej, g2⟩ | ⟨j, hj, ej, g2⟩
          · rw [g2] at hbq; exact key q hq0 p hp0 (Ne.symm hne) g1 hbq hbp
          · rw [h2] at hbp; rw [g2] at hbq
            have hij : i ≠ j := by rintro rfl; exact hne (ei.trans ej.symm)
            -- two different items
            have : ∀ (l : List Item), (l.flatMap Item.F).Nodup → i ∈ l → j ∈ l → False := by
              intro l
              induction l with
              | nil => intro _ h; simp at h
              | cons a l ih =>
                intro hn h1 h2
                simp only [List.flatMap_cons, List.nodup_append] at hn
                rcases List.mem_cons.1 h1 with k1 | k1 <;> rcases List.mem_cons.1 h2 with k2 | k2
                · exact hij (k1.trans k2.symm)
                · rw [← k1] at hn; exact hn.2.2 b hbp b (List.mem_flatMap.2 ⟨j, k2, hbq⟩) rfl
                · rw [← k2] at hn; exact hn.2.2 b hbq b (List.mem_flatMap.2 ⟨i, k1, hbp⟩) rfl
                · exact ih hn.2.1 k1 k2
            exact this pits hallP.1 hi hj
          · rw [h2] at hbp; rw [g2] at hbq
            exact hallP.2.2 b (List.mem_flatMap.2 ⟨i, hi, hbp⟩) b (List.mem_map.2 ⟨j, hj, (List.mem_singleton.1 hbq).symm⟩) rfl
        · rcases hfpA q hq0 with ⟨g1, g2⟩ | ⟨j, hj, ej, g2⟩ | ⟨j, hj, ej, g2⟩
          · rw [g2] at hbq; exact key q hq0 p hp0 (Ne.symm hne) g1 hbq hbp
          · rw [h2] at hbp; rw [g2] at hbq
            exact hallP.2.2 b (List.mem_flatMap.2 ⟨j, hj, hbq⟩) b (List.mem_map.2 ⟨i, hi, (List.mem_singleton.1 hbp).symm⟩) rfl
          · rw [h2] at hbp; rw [g2] at hbq
            have e1 : b = i.b := by simpa using hbp
            have e2 : b = j.b := by simpa using hbq
            have hij : i ≠ j := by rintro rfl; exact hne (ei.trans ej.symm)
            have : ∀ (l : List BItem), (l.map BItem.b).Nodup → i ∈ l → j ∈ l → False := by
              intro l
              induction l with
              | nil => intro _ h; simp at h
              | cons a l ih =>
                intro hn h1 h2
                simp only [List.map_cons, List.nodup_cons] at hn
                rcases List.mem_cons.1 h1 with k1 | k1 <;> rcases List.mem_cons.1 h2 with k2 | k2
                · exact hij (k1.trans k2.symm)
                · rw [← k1] at hn; exact hn.1 (List.mem_map.2 ⟨j, k2, e2.symm.trans e1⟩)
                · rw [← k2] at hn; exact hn.1 (List.mem_map.2 ⟨i, k1, e1.symm.trans e2⟩)
                · exact ih hn.2 k1 k2
            exact this bits hallP.2.1 hi hj
    · rintro x hx y hy rfl
      simp only [St.puts, List.flatMap_map, List.mem_flatMap] at hy
      obtain ⟨p, hp0, hy⟩ := hy
      have hx' : (x ∈ Γ.rs ∧ x ∉ fp) ∨ x ∈ NB := by
        simp only [Γ1, List.mem_append, List.mem_filter, Bool.not_eq_true', List.contains_eq_mem, decide_eq_false_iff_not] at hx
        rcases hx with hx | hx
        · exact .inl hx
        · exact .inr hx
      rcases hfpA p hp0 with ⟨h1, h2⟩ | ⟨i, hi, _, h2⟩ | ⟨i, hi, _, h2⟩
      · rw [h2] at hy
        rcases hx' with hx | hx
        · exact rs_not_fp h (show (p.1, p.2) ∈ st.obs from hp0) x hy hx.1
        · rcases (hsrc x (List.mem_append.2 (.inl hx))).1 with h3 | h3
          · have := ob_lt h (show (p.1, p.2) ∈ st.obs from hp0) x hy; omega
          · exact hother p.1 p.2 hp0 h1 x hy h3
      · rw [h2] at hy
        have hyP : x ∈ pits.flatMap Item.F ++ bits.map BItem.b := List.mem_append.2 (.inl (List.mem_flatMap.2 ⟨i, hi, hy⟩))
        rcases hx' with hx | hx
        · rcases (hsrc x (List.mem_append.2 (.inr hyP))).1 with h3 | h3
          · have := h.rlt x hx.1; omega
          · exact hx.2 h3
        · exact hall.2.2 x hx x hyP rfl
      · rw [h2] at hy
        have hyP : x ∈ pits.flatMap Item.F ++ bits.map BItem.b := List.mem_append.2 (.inr (List.mem_map.2 ⟨i, hi, (List.mem_singleton.1 hy).symm⟩))
        rcases hx' with hx | hx
        · rcases (hsrc x (List.mem_append.2 (.inr hyP))).1 with h3 | h3
          · have := h.rlt x hx.1; omega
          · exact hx.2 h3
        · exact hall.2.2 x hx x hyP rfl
  -- the change
  have hA : Inv w0 mu Γ1 (st.puts f) tmps w' := by
    refine h.puts (Γ' := Γ1) f rfl rfl rfl (fun m hm => gO m (fN m hm).1) ?_ hgrown hsame ?_ ?_ hsubA hndA ?_ ?_ ?_ ?_
    · intro m ob ob' hm hf
      rcases fS m ob' hf with ⟨i, hi, rfl, rfl⟩ | ⟨i, hi, rfl, rfl⟩
      · obtain ⟨_, _, k, xs, ho, hl⟩ := hp i hi
        rw [hm] at ho; simp only [Option.some.injEq] at ho; subst ho
        exact ⟨rfl, hl⟩
      · obtain ⟨_, _, c, ho⟩ := hb i hi
        rw [hm] at ho; simp only [Option.some.injEq] at ho; subst ho
        exact (rfl : i.t = i.t)
    · intro b hb1 hb2
      exact hframe b hb1 fun hf => hb2 (hown b hf)
    · intro m ob hm hf b hb0
      exact hframe b (ob_lt h (look_mem hm) b hb0) (hother m ob (look_mem hm) hf b hb0)
    · intro b hb0
      simp only [Γ1, List.mem_append, List.mem_filter] at hb0
      rcases hb0 with hb0 | hb0
      · exact Nat.lt_of_lt_of_le (h.rlt b hb0.1) hgrown
      · exact (hsrc b (List.mem_append.2 (.inl (by simp only [NB, List.mem_append] at hb0 ⊢; exact hb0)))).2
    · intro rv hv m hm
      exact fO m (hreads rv hv m hm).1 (hreads rv hv m hm).2
    · intro m e k xs b o len cap hm hh hpos hb0
      by_cases hmp : m ∈ pits.map Item.id
      · obtain ⟨i, hi, rfl⟩ := List.mem_map.1 hmp
        rw [gP i hi]
        obtain ⟨⟨_, hs⟩, hv, _⟩ := hp i hi
        obtain ⟨a1, cap1, h4, h5, h6, h7⟩ := hs fun _ => True
        rw [hv, hh] at h4
        simp only [Value.slice.injEq] at h4
        obtain ⟨rfl, hlen, rfl⟩ := h4
        rcases h7 with ⟨h8, _⟩ | ⟨b2, cs, ety, fps, h8, _, _, _, h9, _⟩
        · omega
        · simp only [Option.some.injEq, Addr.mk.injEq] at h8
          rw [h9, h8.1]; simp
      · rw [gO m hmp]; exact hb0
    · intro E m ob ob' hm hf
      rcases fS m ob' hf with ⟨i, hi, rfl, rfl⟩ | ⟨i, hi, rfl, rfl⟩
      · obtain ⟨⟨hpos, hs⟩, hv, _⟩ := hp i hi
        refine ⟨hpos, ?_⟩
        show SlotR w' i.e _ (Γ.hdr i.id) i.xs (Γ1.fp i.id)
        rw [gP i hi, ← hv]; exact hs _
      · obtain ⟨⟨⟨hft, _, hlen⟩, ety, hh⟩, hbx, _⟩ := hb i hi
        refine ⟨by simp [RV.fits], i.cs, ety, ?_, hlen⟩
        show w'.heap[Γ.bx i.id]? = _
        rw [← hbx]; exact hh
  -- new slots
  have hobsA : (st.puts f).obs.map (·.1) = st.obs.map (·.1) := by simp only [St.puts, List.map_map]; rfl
  have hvalsA : ∀ rv, (st.puts f).vals rv → st.vals rv ∨ rv.ids = [] ∧ rv.reads = [] := fun rv hv => by
    rcases hv with ⟨r, k, hv⟩ | ⟨o, t, hv⟩
    · exact .inl (.inl ⟨r, k, hv⟩)
    · simp only [St.puts, List.mem_map, Prod.mk.injEq] at hv
      obtain ⟨⟨m, ob⟩, hm, rfl, he⟩ := hv
      cases hf : f m with
      | none => rw [hf] at he; simp only [Option.getD_none] at he; subst he; exact .inl (.inr ⟨m, t, hm⟩)
      | some ob' =>
        rw [hf] at he
        simp only [Option.getD_some] at he
        rcases fS m ob' hf with ⟨i, hi, _, rfl⟩ | ⟨i, hi, _, rfl⟩
        · simp [Item.ob] at he
        · simp only [Ob.box.injEq] at he
          rw [← he.2]; exact .inr ⟨rfl, rfl⟩
  rw [List.nodup_append] at hnn
  obtain ⟨Γ2, hB, b1, b2, b3, b4, b5⟩ := hA.addItems (its := its) hnn.1 (fun i hi => by
      obtain ⟨q1, q2, q3⟩ := hnew i.id (List.mem_append.2 (.inl (List.mem_map.2 ⟨i, hi, rfl⟩)))
      refine ⟨by rw [hobsA]; exact q1, q2, fun rv hv => ?_⟩
      rcases hvalsA rv hv with h1 | ⟨h1, _⟩
      · exact q3 rv h1
      · rw [h1]; simp) hik (fun b hb0 => by simp only [Γ1, List.mem_append]; exact .inr (by simp only [NB, List.mem_append]; exact .inl hb0)) hallN.1
  -- what is shared stays readable
  have hokA : shr = true → ∀ b, okk b → b < w'.heap.size ∧ b ∉ owned Γ1 (st.puts f).obs ∧ ¬ Γ1.no b := fun hs b hb0 => by
    obtain ⟨q1, q2, q3, q4⟩ := hokk hs b hb0
    refine ⟨q1, fun hm => ?_, q3⟩
    rcases hmemA b hm with h1 | h1 | ⟨p, hp0, hf0, h1⟩ | h1
    · rcases q4 (h.rlt b h1.1) with h2 | h2
      · exact h2 (by rw [owned_eq]; exact List.mem_append.2 (.inl h1.1))
      · exact h1.2 h2
    · exact q2 (List.mem_append.2 (.inl h1))
    · rcases q4 (ob_lt h (show (p.1, p.2) ∈ st.obs from hp0) b h1) with h2 | h2
      · exact h2 (by rw [owned_eq]; exact List.mem_append.2 (.inr (List.mem_flatMap.2 ⟨p, hp0, h1⟩)))
      · exact hother p.1 p.2 hp0 hf0 b h1 h2
    · exact q2 (List.mem_append.2 (.inr h1))
  let obsB := its.map Item.pair ++ (st.puts f).obs
  have hidsB : ∀ m, m ∈ nbits.map BItem.id → m ∉ its.map Item.id := fun m hm hm2 => hnn.2.2 m hm2 m hm rfl
  have hlookB : ∀ i ∈ its, look obsB i.id = some i.ob := fun i hi => mem_look hB.ids (List.mem_append.2 (.inl (List.mem_map.2 ⟨i, hi, rfl⟩)))
  obtain ⟨Γ3, hC, c1, c2, c3, c4, c5⟩ := hB.addBoxes (its := nbits) hnn.2.1 (fun i hi => by
      have him : i.id ∈ nbits.map BItem.id := List.mem_map.2 ⟨i, hi, rfl⟩
      obtain ⟨q1, q2, q3⟩ := hnew i.id (List.mem_append.2 (.inr him))
      refine ⟨?_, q2, fun rv hv => ?_⟩
      · rw [List.map_append, List.mem_append, not_or]
        refine ⟨fun hm => hidsB i.id him ?_, by rw [hobsA]; exact q1⟩
        simpa [Item.pair] using hm
      · have : (st.puts f).vals rv := by
          rcases hv with ⟨r, k, hv⟩ | ⟨o, t, hv⟩
          · exact .inl ⟨r, k, hv⟩
          · rcases List.mem_append.1 hv with hv | hv
            · obtain ⟨j, hj, e⟩ := List.mem_map.1 hv
              simp [Item.pair, Item.ob] at e
            · exact .inr ⟨o, t, hv⟩
        rcases hvalsA rv this with h1 | ⟨h1, _⟩
        · exact q3 rv h1
        · rw [h1]; simp) (fun i hi => (hnb i hi).1) (fun i hi j hj hm => hidsB j.id (List.mem_map.2 ⟨j, hj, rfl⟩) ((hnb i hi).2 _ hm))
      (fun b hb0 => b3 b (by simp only [Γ1, List.mem_append]; exact .inr (by simp only [NB, List.mem_append]; exact .inr hb0)) fun hm => hallN.2.2 b hm b hb0 rfl) hallN.2.1
      (fun i hi Γ' obs' q1 q2 q3 => hcrN (envOf w' Γ' obs') rfl (fun hs b hb0 => by
        obtain ⟨r1, r2, r3⟩ := hokA hs b hb0
        exact ⟨r1, fun hm => r2 (b4 b (q1 b hm)), by show ¬ Γ'.no b; rw [q3, b5]; exact r3⟩) (fun j hj => by
        have hjm : j.id ∉ nbits.map BItem.id := fun hm => hidsB j.id hm (List.mem_map.2 ⟨j, hj, rfl⟩)
        obtain ⟨s1, s2⟩ := q2 j.id hjm
        refine ⟨s1.trans (b1 j hj).1, ?_⟩
        show look obs' j.id = _
        rw [s2]; exact hlookB j hj) i hi)
  -- the variables' contents
  let obsC := nbits.map BItem.pair ++ obsB
  let g : Nat → Option Ob := fun m => look (bits.map BItem.pair) m
  have gk : ((bits.map BItem.pair).map (·.1)).Nodup := by simp only [List.map_map]; exact hpn.2.1
  have gB : ∀ i ∈ bits, g i.id = some (.box i.t i.c) := fun i hi => mem_look gk (List.mem_map.2 ⟨i, hi, rfl⟩)
  have gS : ∀ m ob, g m = some ob → ∃ i ∈ bits, m = i.id ∧ ob = .box i.t i.c := fun m ob hg => by
    obtain ⟨i, hi, e⟩ := List.mem_map.1 (look_mem hg)
    simp only [BItem.pair, Prod.mk.injEq] at e
    exact ⟨i, hi, e.1.symm, e.2.symm⟩
  have gN : ∀ m, m ∉ bits.map BItem.id → g m = none := fun m hm => look_none (by simp only [List.map_map]; exact hm)
  have hbitsOld : ∀ i ∈ bits, i.id ∈ st.obs.map (·.1) := fun i hi => by
    obtain ⟨_, _, c, ho⟩ := hb i hi
    exact List.mem_map.2 ⟨_, look_mem ho, rfl⟩
  have hbitsNew : ∀ i ∈ bits, i.id ∉ its.map Item.id ∧ i.id ∉ nbits.map BItem.id := fun i hi =>
    ⟨fun hm => (hnew i.id (List.mem_append.2 (.inl hm))).1 (hbitsOld i hi), fun hm => (hnew i.id (List.mem_append.2 (.inr hm))).1 (hbitsOld i hi)⟩
  have hlookC : ∀ i ∈ bits, look obsC i.id = some (.box i.t (.dd i.t)) := fun i hi => by
    refine mem_look hC.ids (List.mem_append.2 (.inr (List.mem_append.2 (.inr ?_))))
    obtain ⟨_, _, c, ho⟩ := hb i hi
    simp only [St.puts, List.mem_map, Prod.mk.injEq]
    exact ⟨_, look_mem ho, rfl, by rw [fB i hi]; rfl⟩
  have hbx3 : ∀ i ∈ bits, Γ3.bx i.id = i.b := fun i hi => by
    obtain ⟨n1, n2⟩ := hbitsNew i hi
    rw [(c2 i.id n2).2.2, (b2 i.id n1).2.2, (hb i hi).2.1]
  have hown3 : ∀ obs', obs' = obsC.map (fun e => (e.1, (g e.1).getD e.2)) → owned Γ3 obs' = owned Γ3 obsC := by
    rintro _ rfl
    rw [owned_eq, owned_eq, List.flatMap_map]
    congr 1
    rw [List.flatMap_def, List.flatMap_def]
    congr 1
    apply List.map_congr_left
    rintro ⟨m, ob⟩ hm
    simp only
    cases hg : g m with
    | none => rfl
    | some ob' =>
      obtain ⟨i, hi, rfl, rfl⟩ := gS m ob' hg
      have h1 := hlookC i hi
      rw [mem_look hC.ids hm] at h1
      simp only [Option.some.injEq] at h1; subst h1
      rfl
  let st3 : St := { st with obs := obsC }
  have hC' : Inv w0 mu Γ3 st3 tmps w' := hC
  have hokC : shr = true → ∀ b, okk b → b < w'.heap.size ∧ b ∉ owned Γ3 obsC ∧ ¬ Γ3.no b := fun hs b hb0 => by
    obtain ⟨r1, r2, r3⟩ := hokA hs b hb0
    exact ⟨r1, fun hm => r2 (b4 b (c4 b hm)), by rw [c5, b5]; exact r3⟩
  have hfin : ∀ m, look (st3.puts g).obs m = (look obsC m).map fun ob => (g m).getD ob := fun m => look_map obsC
  have hitF : ∀ i ∈ its, i.at (envOf w' Γ3 (st3.puts g).obs) := fun i hi => by
    have him : i.id ∈ its.map Item.id := List.mem_map.2 ⟨i, hi, rfl⟩
    have hin : i.id ∉ nbits.map BItem.id := fun hm => hidsB i.id hm him
    have hib : i.id ∉ bits.map BItem.id := fun hm => by
      obtain ⟨j, hj, e⟩ := List.mem_map.1 hm
      exact (hbitsNew j hj).1 (by rw [e]; exact him)
    refine ⟨?_, ?_⟩
    · show Γ3.hdr i.id = _
      rw [(c2 i.id hin).1]; exact (b1 i hi).1
    · show look (st3.puts g).obs i.id = _
      rw [hfin, gN i.id hib, mem_look hC.ids (show (i.id, i.ob) ∈ obsC from List.mem_append.2 (.inr (List.mem_append.2 (.inl (List.mem_map.2 ⟨i, hi, rfl⟩)))))]
      rfl
  have hnbF : ∀ i ∈ nbits, i.at (envOf w' Γ3 (st3.puts g).obs) := fun i hi => by
    have him : i.id ∈ nbits.map BItem.id := List.mem_map.2 ⟨i, hi, rfl⟩
    have hib : i.id ∉ bits.map BItem.id := fun hm => by
      obtain ⟨j, hj, e⟩ := List.mem_map.1 hm
      exact (hbitsNew j hj).2 (by rw [e]; exact him)
    refine ⟨c1 i hi, ?_⟩
    show look (st3.puts g).obs i.id = _
    rw [hfin, gN i.id hib, mem_look hC.ids (show (i.id, Ob.box i.t i.c) ∈ obsC from List.mem_append.2 (.inl (List.mem_map.2 ⟨i, hi, rfl⟩)))]
    rfl
  have hownF := hown3 (st3.puts g).obs rfl
  have hokF : shr = true → ∀ b, okk b → (envOf w' Γ3 (st3.puts g).obs).ok b := fun hs b hb0 => by
    obtain ⟨r1, r2, r3⟩ := hokC hs b hb0
    exact ⟨r1, by rw [hownF]; exact r2, r3⟩
  refine ⟨Γ3, (st3.puts g).obs, rfl, ?_, hokF, hitF, hnbF⟩
  refine hC'.puts (Γ' := Γ3) g rfl rfl rfl (fun m _ => rfl) ?_ (Nat.le_refl _) ⟨rfl, rfl, rfl⟩ (fun _ _ _ => rfl) (fun _ _ _ _ _ _ => rfl) (fun b hb0 => .inl (by rw [hownF] at hb0; exact hb0)) (by rw [hownF]; exact hC.nodup) hC.rlt ?_ (fun _ _ _ _ _ _ _ _ _ _ _ hb0 => hb0) ?_
  · intro m ob ob' hm hg
    obtain ⟨i, hi, rfl, rfl⟩ := gS m ob' hg
    have h1 := hlookC i hi
    rw [show look st3.obs i.id = look obsC i.id from rfl] at hm
    rw [hm] at h1; simp only [Option.some.injEq] at h1; subst h1
    exact (rfl : i.t = i.t)
  · intro rv hv m hm
    refine gN m fun hmb => ?_
    have : st.vals rv ∨ rv.reads = [] := by
      have hv2 : (∃ i ∈ nbits, rv = i.c) ∨ (st.puts f).vals rv := by
        rcases hv with ⟨r, k, hv⟩ | ⟨o, t, hv⟩
        · exact .inr (.inl ⟨r, k, hv⟩)
        · rcases List.mem_append.1 hv with hv | hv
          · obtain ⟨j, hj, e⟩ := List.mem_map.1 hv
            simp only [BItem.pair, Prod.mk.injEq, Ob.box.injEq] at e
            exact .inl ⟨j, hj, e.2.2.symm⟩
          · rcases List.mem_append.1 hv with hv | hv
            · obtain ⟨j, hj, e⟩ := List.mem_map.1 hv
              simp [Item.pair, Item.ob] at e
            · exact .inr (.inr ⟨o, t, hv⟩)
      rcases hv2 with ⟨i, hi, rfl⟩ | hv2
      · exact .inr (hnb i hi).1.1.2.1
      · rcases hvalsA rv hv2 with h1 | ⟨_, h1⟩
        · exact .inl h1
        · exact .inr h1
    rcases this with h1 | h1
    · exact (hreads rv h1 m hm).2 hmb
    · rw [h1] at hm; simp at hm
  · intro E m ob ob' hm hg
    obtain ⟨i, hi, rfl, rfl⟩ := gS m ob' hg
    obtain ⟨⟨⟨hft, _, _⟩, ety, hh⟩, _, _⟩ := hb i hi
    refine ⟨hft, i.cs, ety, ?_, hcrB _ rfl hokF hitF i hi⟩
    show w'.heap[Γ3.bx i.id]? = _
    rw [hbx3 i hi]; exact hh

end
end Go.Tm
end

/- (TmLent5)
  Calls with data that is given away or lent: the operation. All operations together.
-/
section
set_option linter.unusedSimpArgs false
set_option linter.unusedVariables false
namespace Go.Tm

section
variable {P : Program} {c : Cfg} {w0 : World} {mu : Lent} {Γ : Gam} {st : St} {tmps : Array Value} {w w' : World} {rv : RV} {key : Key} {o : Oper} {ok : Prop}

theorem kil_lookS {f : RV → Bool} {m : Nat} {e : Ty} {k : Bool} {xs : List e.den} (h : look st.obs m = some (.slot e k xs)) : look (st.kil f).obs m = some (.slot e k xs) := by
  simp only [St.kil, look_kil, h]; rfl
theorem kil_lookB {f : RV → Bool} {m : Nat} {t : Ty} {c : RV} (h : look st.obs m = some (.box t c)) : look (st.kil f).obs m = some (.box t (c.kil f)) := by
  simp only [St.kil, look_kil, h]; rfl
theorem kil_ids {f : RV → Bool} : (st.kil f).obs.map (·.1) = st.obs.map (·.1) := by simp [St.kil]

theorem perm_subset_sublist {α : Type} {a b c : List α} (h : a.Perm b) (h' : b.Sublist c) (hn : c.Nodup) : a.Nodup ∧ ∀ x ∈ a, x ∈ c :=
  ⟨h.symm.nodup (hn.sublist h'), fun x hx => h'.subset (h.mem_iff.1 hx)⟩

theorem boxObs_map {l : List BItem} : boxObs (l.map BItem.triple) = l.map BItem.pair := by simp [boxObs, BItem.triple, BItem.pair, List.map_map, Function.comp_def]
theorem ddBoxes_map {l : List BItem} : ddBoxes (l.map BItem.triple) = l.map fun i => (i.id, .box i.t (.dd i.t)) := by simp [ddBoxes, BItem.triple, List.map_map, Function.comp_def]

theorem lent_no (h : Inv w0 mu Γ st tmps w) {b : Nat} (hb : b ∈ owned Γ st.obs) : ¬ Γ.no b := fun hn => by
  rw [h.nop.1] at hn
  obtain ⟨h1, h2⟩ := h.nop.2 b hn
  rcases h.low b hb with h3 | h3
  · omega
  · exact h2 h3

theorem lret_sound (h : Inv w0 mu Γ st tmps w) {la : LA} {lv : List LV} (hA : LArg w Γ st la) (hM : LMatch Γ st (envOf w Γ st.obs) la.lent lv) (hn1 : nodupB (la.gone ++ la.ids) = true) {fp : List Nat} (hperm : fp.Perm (la.fp Γ st)) {okin : Nat → Prop}
    (hokin : ∀ b, okin b → (envOf w Γ st.obs).ok b ∨ ∃ s ∈ la.used, b ∈ Γ.fp s) {rs : List RK} {res upd : List DV} {vs : List Value} {fr fl : List Nat}
    (hres : ResL w' (okOut w w' okin fp (fr ++ fl)) rs vs res fr) (hlent : LentA w' (okOut w w' okin fp (fr ++ fl)) lv upd fl) (hnd : (fr ++ fl).Nodup) (hnew : ∀ b ∈ fr ++ fl, w.heap.size ≤ b ∨ b ∈ fp) (hlt : ∀ b ∈ fr ++ fl, b < w'.heap.size)
    (hframe : ∀ b, b < w.heap.size → b ∉ fp → w'.heap[b]? = w.heap[b]?) (hgrown : w.heap.size ≤ w'.heap.size) (hsame : w'.os = w.os ∧ w'.tape = w.tape ∧ w'.output = w.output)
    {dst : Option Nat} {st' : St} (hd : dstOk st [] dst = true) (hq : st.lret dst rs la res upd = some st') :
    ∃ Γ', Inv w0 mu Γ' st' (Act.put ⟨tmps, []⟩ dst (oneVal vs)).tmps w' := by
  unfold St.lret at hq
  split at hq
  case h_2 => cases hq
  rename_i ps bs obs1 r obs2 bxs hb hi
  obtain ⟨its1, pits, bits, e1, e2, e3, o1, hp, hbt, ⟨f1, p1, s1⟩, hidp, hcrB⟩ := backs_sound h hM hlent hb
  have himp : ∃ (its2 : List Item) (nbits : List BItem), obs2 = its2.map Item.pair ∧ bxs = nbits.map BItem.triple ∧ (∀ i ∈ its2, i.ok w') ∧ (∀ i ∈ nbits, i.ok w' ∧ ∀ m ∈ i.c.ids, m ∈ its2.map Item.id) ∧ (∃ f, (its2.flatMap Item.F ++ nbits.map BItem.b).Perm f ∧ f.Sublist fr) ∧
      (∀ E : Env, E.w = w' → (la.used.isEmpty = true → ∀ b, okOut w w' okin fp (fr ++ fl) b → E.ok b) → (∀ i ∈ its2, i.at E) → ∀ i ∈ nbits, CR E i.c i.cs.toList) ∧
      ∀ d, dst = some d → ∀ E : Env, E.w = w' → (la.used.isEmpty = true → ∀ b, okOut w w' okin fp (fr ++ fl) b → E.ok b) → (∀ i ∈ its2, i.at E) → (∀ i ∈ nbits, i.at E) → TR E r vs := by
    unfold impsD at hi
    cases dst with
    | none =>
      simp only [Option.some.injEq, Prod.mk.injEq] at hi
      obtain ⟨rfl, rfl, rfl⟩ := hi
      exact ⟨[], [], rfl, rfl, by simp, by simp, ⟨[], by simp, by simp⟩, fun _ _ _ _ i hi => by simp at hi, fun d hd => by cases hd⟩
    | some d =>
      simp only at hi
      obtain ⟨its2, nbits, a1, a2, a3, a4, a5, a6, a7⟩ := imps_sound hres hi
      exact ⟨its2, nbits, a1, a2, a3, a4, ⟨fr, a5.symm, List.Sublist.refl _⟩, a6, fun _ _ => a7⟩
  obtain ⟨its2, nbits, e4, e5, o2, hnb, ⟨f2, p2, s2⟩, hcrN, hTR⟩ := himp
  have hitsE : obs1 ++ obs2 = (its1 ++ its2).map Item.pair := by rw [e1, e4, List.map_append]
  have hN : (obs1 ++ obs2).map (·.1) ++ bxs.map (·.1) = (its1 ++ its2).map Item.id ++ nbits.map BItem.id := by
    rw [hitsE, e5, List.map_map, List.map_map]; rfl
  rw [hN, hitsE, e2, e3, e5, boxObs_map, boxObs_map, ddBoxes_map] at hq
  cases hB : (nodupB (la.ids ++ ((its1 ++ its2).map Item.id ++ nbits.map BItem.id)) && ((its1 ++ its2).map Item.id ++ nbits.map BItem.id).all st.free) with
  | false => rw [hB] at hq; cases hq
  | true =>
    rw [hB] at hq
    simp only [cond_true, Option.some.injEq] at hq
    subst hq
    simp only [Bool.and_eq_true] at hB
    have hnd2 := nodupB_spec hB.1
    have hnd1 := nodupB_spec hn1
    rw [List.nodup_append] at hnd2 hnd1
    have hfree : ∀ m ∈ (its1 ++ its2).map Item.id ++ nbits.map BItem.id, m ∉ st.lent := fun m hm => free_spec (List.all_eq_true.1 hB.2 m hm)
    rw [← hA.lid] at hidp
    have hidm : ∀ m, m ∈ la.ids ↔ m ∈ pits.map Item.id ∨ m ∈ bits.map BItem.id := fun m => by rw [← hidp.mem_iff, List.mem_append]
    -- names are dropped, reads are struck
    obtain ⟨R, h0, hok0, hl0, hr0, hf0, hs0⟩ := h.drops (ids := la.gone ++ ((its1 ++ its2).map Item.id ++ nbits.map BItem.id))
    have h1 := h0.kil fun c => c.reads.any (lany la.ids)
    have hkeep : ∀ m ∈ la.ids, m ∉ la.gone ++ ((its1 ++ its2).map Item.id ++ nbits.map BItem.id) := fun m hm hmm => by
      rcases List.mem_append.1 hmm with hmm | hmm
      · exact hnd1.2.2 m hmm m hm rfl
      · exact hnd2.2.2 m hm m hmm rfl
    have hallF : ((((its1 ++ its2).flatMap Item.F ++ nbits.map BItem.b) ++ (pits.flatMap Item.F ++ bits.map BItem.b))).Perm (f2 ++ f1) := by
      refine List.Perm.trans ?_ (p2.append p1)
      rw [List.flatMap_append]
      have q1 : (its1.flatMap Item.F ++ its2.flatMap Item.F ++ nbits.map BItem.b).Perm ((its2.flatMap Item.F ++ nbits.map BItem.b) ++ its1.flatMap Item.F) := by
        rw [List.append_assoc]; exact List.perm_append_comm
      refine (q1.append_right _).trans ?_
      rw [List.append_assoc, List.append_assoc (as := its1.flatMap Item.F)]
    obtain ⟨hall, hsub⟩ := perm_subset_sublist hallF (List.Sublist.append s2 s1) hnd
    have hgone : ∀ s ∈ la.gone, ∀ b ∈ Γ.fp s, b ∈ R := fun s hs b hb0 => by
      obtain ⟨e, k, xs, ho⟩ := hA.slots s hs
      exact hf0 s (List.mem_append.2 (.inl hs)) e k xs ho b hb0
    have hfpm : ∀ b, b ∈ fp ↔ (∃ s ∈ la.gone, b ∈ Γ.fp s) ∨ (∃ i ∈ pits, b ∈ Γ.fp i.id) ∨ ∃ i ∈ bits, b = Γ.bx i.id := fun b => by
      rw [hperm.mem_iff]
      simp only [LA.fp, List.flatMap_append, List.mem_append, List.mem_flatMap]
      constructor
      · rintro (⟨s, hs, hb0⟩ | ⟨s, hs, hb0⟩)
        · obtain ⟨e, k, xs, ho⟩ := hA.slots s hs
          rw [oldFp_slot ho] at hb0
          exact .inl ⟨s, hs, hb0⟩
        · rcases (hidm s).1 hs with hm | hm
          · obtain ⟨i, hi0, rfl⟩ := List.mem_map.1 hm
            obtain ⟨_, _, k, xs, ho, _⟩ := hp i hi0
            rw [oldFp_slot ho] at hb0
            exact .inr (.inl ⟨i, hi0, hb0⟩)
          · obtain ⟨i, hi0, rfl⟩ := List.mem_map.1 hm
            obtain ⟨_, _, c0, ho⟩ := hbt i hi0
            rw [oldFp_box ho] at hb0
            exact .inr (.inr ⟨i, hi0, by simpa using hb0⟩)
      · rintro (⟨s, hs, hb0⟩ | ⟨i, hi0, hb0⟩ | ⟨i, hi0, hb0⟩)
        · obtain ⟨e, k, xs, ho⟩ := hA.slots s hs
          exact .inl ⟨s, hs, by rw [oldFp_slot ho]; exact hb0⟩
        · obtain ⟨_, _, k, xs, ho, _⟩ := hp i hi0
          exact .inr ⟨i.id, (hidm _).2 (.inl (List.mem_map.2 ⟨i, hi0, rfl⟩)), by rw [oldFp_slot ho]; exact hb0⟩
        · obtain ⟨_, _, c0, ho⟩ := hbt i hi0
          exact .inr ⟨i.id, (hidm _).2 (.inr (List.mem_map.2 ⟨i, hi0, rfl⟩)), by rw [oldFp_box ho, hb0]; simp⟩
    obtain ⟨Γ', obs', hobs', hI, hokF, hitF, hnbF⟩ := lret_core (its := its1 ++ its2) (pits := pits) (bits := bits) (nbits := nbits) (okk := okOut w w' okin fp (fr ++ fl)) (shr := la.used.isEmpty) (w' := w') (fp := fp) h1
      (fun b hb0 => by
        rcases (hfpm b).1 hb0 with ⟨s, hs, h3⟩ | h3 | h3
        · exact .inl (hgone s hs b h3)
        · exact .inr (.inl h3)
        · exact .inr (.inr h3))
      (fun i hi0 b hb0 => (hfpm b).2 (.inr (.inl ⟨i, hi0, hb0⟩))) (fun i hi0 => (hfpm _).2 (.inr (.inr ⟨i, hi0, rfl⟩)))
      (fun rv hv m hm => by
        obtain ⟨rv', _, rfl⟩ := kil_vals hv
        have := RV.kil_readsAny rv' m hm
        exact ⟨fun hm2 => this ((hidm m).2 (.inl hm2)), fun hm2 => this ((hidm m).2 (.inr hm2))⟩)
      (hidp.symm.nodup hnd2.1)
      (fun i hi0 => by
        obtain ⟨a1, a2, k, xs, ho, a3⟩ := hp i hi0
        exact ⟨a1, a2, k, xs, kil_lookS (hl0 _ _ _ _ (hkeep _ ((hidm _).2 (.inl (List.mem_map.2 ⟨i, hi0, rfl⟩)))) ho), a3⟩)
      (fun i hi0 => by
        obtain ⟨a1, a2, c0, ho⟩ := hbt i hi0
        obtain ⟨c', hc'⟩ := drops_box (hkeep _ ((hidm _).2 (.inr (List.mem_map.2 ⟨i, hi0, rfl⟩)))) ho
        exact ⟨a1, a2, _, kil_lookB hc'⟩)
      hnd2.2.1
      (fun m hm => by
        refine ⟨fun hmm => ?_, by show m ∉ (st.drops _).lent; rw [drops_lent]; exact hfree m hm, fun rv hv hmi => ?_⟩
        · rw [kil_ids] at hmm
          obtain ⟨p, hp0, rfl⟩ := List.mem_map.1 hmm
          exact (drops_obs hp0).1 (List.mem_append.2 (.inr hm))
        · obtain ⟨rv', hv', rfl⟩ := kil_vals hv
          exact drops_vals hv' m (List.mem_append.2 (.inr hm)) (RV.kil_sub hmi))
      (fun i hi0 => (List.mem_append.1 hi0).elim (o1 i) (o2 i))
      (fun i hi0 => ⟨(hnb i hi0).1, fun m hm => by rw [List.map_append]; exact List.mem_append.2 (.inr ((hnb i hi0).2 m hm))⟩)
      hall (fun b hb0 => ⟨hnew b (hsub b hb0), hlt b (hsub b hb0)⟩) hframe hgrown hsame
      (fun hs b hb0 => by
        obtain ⟨q1, q2, q3⟩ := hb0
        refine ⟨q1, fun hm => q2 (hsub b hm), fun hno => ?_, fun hb1 => ?_⟩
        · have hno' : Γ.no b := hno
          have h5 := hno'
          rw [h.nop.1] at h5
          have h6 := (h.nop.2 b h5).1
          rcases q3 (Nat.lt_of_lt_of_le h6 h.grown) with h7 | h7
          · rcases hokin b h7 with h8 | ⟨s, hs0, _⟩
            · exact h8.2.2 hno'
            · simp only [List.isEmpty_iff] at hs; rw [hs] at hs0; simp at hs0
          · -- a block that was given is not one that nothing refers to
            have hno0 := hno'
            rcases (hfpm b).1 h7 with ⟨s, hs0, h8⟩ | ⟨i, hi0, h8⟩ | ⟨i, hi0, h8⟩
            · exact lent_no h (by obtain ⟨e, k, xs, ho⟩ := hA.slots s hs0; exact mem_owned_slot (look_mem ho) b h8) hno0
            · exact lent_no h (by obtain ⟨_, _, k, xs, ho, _⟩ := hp i hi0; exact mem_owned_slot (look_mem ho) b h8) hno0
            · exact lent_no h (by obtain ⟨_, _, c0, ho⟩ := hbt i hi0; rw [h8]; exact mem_owned_box (look_mem ho)) hno0
        · rcases q3 hb1 with h7 | h7
          · rcases hokin b h7 with h8 | ⟨s, hs0, _⟩
            · exact .inl (by simp only [St.kil]; rw [owned_kil]; exact (hok0 b h8).2.1)
            · simp only [List.isEmpty_iff] at hs; rw [hs] at hs0; simp at hs0
          · exact .inr h7)
      (fun E hE hs hat => hcrB E hE hs fun i hi0 => hat i (List.mem_append.2 (.inl hi0)))
      (fun E hE hs hat => hcrN E hE hs fun i hi0 => hat i (List.mem_append.2 (.inr hi0)))
    cases dst with
    | none =>
      refine ⟨Γ', ?_⟩
      simp only [St.setD]
      rw [← hobs']; exact hI
    | some d =>
      refine ⟨Γ', ?_⟩
      simp only [St.setD]
      rw [← hobs']
      simp only [dstOk, St.fits, Bool.and_eq_true] at hd
      have hlt : d < st.n := by simpa using hd.1
      refine hI.set (r := d) (k := []) ?_ (by simp) (fun _ => oneOrTup_sound (hTR d rfl (envOf w' Γ' obs') rfl hokF (fun i hi0 => hitF i (List.mem_append.2 (.inr hi0))) hnbF)) (by simp)
      show d < (st.drops _).n
      rw [drops_n]; exact hlt

end
end Go.Tm
end
