/- Programs of the machine, as the laws handle them. -/
import Derived.Test.YtkkmmfgncdfcfaaKindN
import Derived.Test.YtkkmmfgncdfcfaaKindI
import Derived.Test.YtkkmmfgncdfcfaaKit
import Derived.Deep.Slices
namespace Go.Proofs.Ytkkmmfgncdfcfaa
open Go.RowKit

structure Prg where
  code : List Ins
  entries : List Int
def RawP (w : World) (v : Value) (p : Prg) : Prop := ∃ vc ve, v = .agg #[vc, ve] ∧ RawN w vc p.code ∧ RawI w ve p.entries
def OkP (w : World) (lo hi : Nat) (v : Value) (p : Prg) : Prop := ∃ vc ve m, v = .agg #[vc, ve] ∧ OkN w lo m vc p.code ∧ OkI w m hi ve p.entries ∧ lo ≤ m ∧ m ≤ hi
def WfP (p : Prg) : Prop := (∀ i ∈ p.code, InsOk i) ∧ ∀ e ∈ p.entries, I64 e
def LgP (p : Prg) : Prop := LgN p.code ∧ LgI p.entries
structure SzP (p : Prg) : Prop where
  wf : WfP p
  len : p.code.length + p.entries.length ≤ 1048576
theorem SzP.lg {p : Prg} (h : SzP p) : LgP p := by have := h.len; unfold LgP LgN LgI; omega
theorem P_form {w : World} {v : Value} {p : Prg} (h : RawP w v p) : ∃ A n c A' n' c', v = .agg #[.slice A n c, .slice A' n' c'] := by
  obtain ⟨a, b, e, ⟨A, n, c, h1, _⟩, ⟨A', n', c', h2, _⟩⟩ := h
  exact ⟨A, n, c, A', n', c', by rw [e, h1, h2]⟩
theorem RawP.below {w w' : World} {v : Value} {p : Prg} (h : RawP w v p) (hb : Below w.heap.size w w') : RawP w' v p := by
  obtain ⟨vc, ve, e, h1, h2⟩ := h; exact ⟨vc, ve, e, h1.below hb, h2.below hb⟩
theorem OkP.raw {w : World} {lo hi : Nat} {v : Value} {p : Prg} (h : OkP w lo hi v p) : RawP w v p := by
  obtain ⟨vc, ve, m, e, h1, h2, _⟩ := h; exact ⟨vc, ve, e, h1.raw, h2.raw⟩
theorem OkP.stays (lo hi : Nat) (v : Value) (p : Prg) : Stays lo hi (fun w => OkP w lo hi v p) := by
  rintro w w' hs ⟨vc, ve, m, e, h1, h2, h3, h4⟩
  exact ⟨vc, ve, m, e, OkN.stays lo m vc _ w w' (fun b a1 a2 => hs b a1 (by omega)) h1, OkI.stays m hi ve _ w w' (fun b a1 a2 => hs b (by omega) a2) h2, h3, h4⟩
theorem OkP.wider {w : World} {lo hi lo' hi' : Nat} {v : Value} {p : Prg} (h : OkP w lo hi v p) (h1 : lo' ≤ lo) (h2 : hi ≤ hi') : OkP w lo' hi' v p := by
  obtain ⟨vc, ve, m, e, a1, a2, a3, a4⟩ := h; exact ⟨vc, ve, m, e, a1.wider h1 (Nat.le_refl _), a2.wider (Nat.le_refl _) h2, by omega, by omega⟩

theorem szIntS_any (w : World) (v : Value) (zs : List Int) (h : RawI w v zs) (hl : zs.length ≤ maxLen) (left : Int) (h0 : 0 ≤ left) (h1 : left ≤ 1048576) :
    Calls Try.prog 56 #[v, .int .i64 left] w fun e w' => e = .returned (.int .i64 (if left < zs.length then -1 else left - zs.length)) ∧ w = w' := by
  obtain ⟨A, n, c, rfl, hr, _, hc⟩ := h
  obtain rfl : n = zs.length := hr.len.symm
  unfold maxLen at hl
  clear hr hc
  by_cases hlt : left < zs.length
  all_goals
    simp only [hlt, if_true, if_false]
    go_enter Try.func56, Try.ntmps56
    go_wp2
    go_ret
    exact ⟨rfl, rfl⟩
theorem szInstructionS_any (w : World) (v : Value) (zs : List Ins) (h : RawN w v zs) (hl : zs.length ≤ maxLen) (left : Int) (h0 : 0 ≤ left) (h1 : left ≤ 1048576) :
    Calls Try.prog 61 #[v, .int .i64 left] w fun e w' => e = .returned (.int .i64 (if left < zs.length then -1 else left - zs.length)) ∧ w = w' := by
  obtain ⟨A, n, c, rfl, hr, _, hc⟩ := h
  obtain rfl : n = zs.length := hr.len.symm
  unfold maxLen at hl
  clear hr hc
  by_cases hlt : left < zs.length
  all_goals
    simp only [hlt, if_true, if_false]
    go_enter Try.func61, Try.ntmps61
    go_wp2
    go_ret
    exact ⟨rfl, rfl⟩
theorem rawI_len {w : World} {v : Value} {zs : List Int} (h : RawI w v zs) : zs.length ≤ maxLen := by
  obtain ⟨A, n, c, rfl, hr, h1, h2⟩ := h; have := hr.len; omega
theorem rawN_len {w : World} {v : Value} {zs : List Ins} (h : RawN w v zs) : zs.length ≤ maxLen := by
  obtain ⟨A, n, c, rfl, hr, h1, h2⟩ := h; have := hr.len; omega
set_option maxHeartbeats 1000000 in
theorem P_sz (w : World) (v : Value) (p : Prg) (left : Int) (h : RawP w v p) (wf : WfP p) (h0 : 0 ≤ left) (h1 : left ≤ 1048576) :
    Calls Try.prog 27 #[v, .int .i64 left] w fun e w' => ∃ t, e = .returned (.int .i64 t) ∧ (t < 0 ∨ (0 ≤ t ∧ t ≤ left ∧ SzP p)) ∧ Below w.heap.size w w' := by
  obtain ⟨vc, ve, rfl, hN, hI⟩ := h
  have HN := Lib.hid hN; have HI := Lib.hid hI; have HW := Lib.hid wf; clear hN hI wf
  have hcl := rawN_len HN.out
  have hel := rawI_len HI.out
  by_cases hlt : left < p.code.length
  · go_enter Try.func27, Try.ntmps27
    go_wp2_with fail
    refine (szInstructionS_any _ vc p.code (HN.out.below (below_one _ _)) hcl left h0 h1).mono ?_
    rintro e w' ⟨rfl, rfl⟩
    rw [if_pos hlt]
    go_wp2_with fail
    go_ret
    exact ⟨-1, rfl, .inl (by omega), below_one _ _⟩
  · by_cases hlt2 : left - p.code.length < p.entries.length
    all_goals
      go_enter Try.func27, Try.ntmps27
      go_wp2_with fail
      refine (szInstructionS_any _ vc p.code (HN.out.below (below_one _ _)) hcl left h0 h1).mono ?_
      rintro e w' ⟨rfl, rfl⟩
      rw [if_neg (by omega)]
      go_wp2_with fail
      refine (szIntS_any _ ve p.entries (HI.out.below (below_one _ _)) hel (left - p.code.length) (by omega) (by omega)).mono ?_
      rintro e w' ⟨rfl, rfl⟩
      first | rw [if_pos hlt2] | rw [if_neg (by omega)]
      go_wp2_with fail
      go_ret
      first
        | exact ⟨-1, rfl, .inl (by omega), below_one _ _⟩
        | exact ⟨_, rfl, .inr ⟨by omega, by omega, HW.out, by omega⟩, below_one _ _⟩

set_option maxHeartbeats 1000000 in
theorem P_to (w : World) (v : Value) (p : Prg) (h : RawP w v p) (hl : LgP p) :
    Calls Try.prog 29 #[v] w fun e w' => ∃ v', e = .returned v' ∧ OkP w' w.heap.size w'.heap.size v' p ∧ Below w.heap.size w w' := by
  obtain ⟨vc, ve, rfl, hN, hI⟩ := h
  have HN := Lib.hid hN; have HI := Lib.hid hI; have HL := Lib.hid hl; clear hN hI hl
  go_enter Try.func29, Try.ntmps29
  go_wp2_with fail
  have B0 := Lib.hid (below_al (below_al (below_al (Below.refl w.heap.size w) (.cells #[vc, ve] 44)) (.cells #[.slice none 0 0, .slice none 0 0] 49)) (.cells #[.slice none 0 0, .slice none 0 0] 49))
  have KA := Lib.hid (((Blk.new w 44 #[vc, ve]).alloc (.cells #[.slice none 0 0, .slice none 0 0] 49)).alloc (.cells #[.slice none 0 0, .slice none 0 0] 49))
  have KR := Lib.hid ((Blk.new (w.alloc (.cells #[vc, ve] 44)) 49 #[.slice none 0 0, .slice none 0 0]).alloc (.cells #[.slice none 0 0, .slice none 0 0] 49))
  have KO := Lib.hid (Blk.new ((w.alloc (.cells #[vc, ve] 44)).alloc (.cells #[.slice none 0 0, .slice none 0 0] 49)) 49 #[.slice none 0 0, .slice none 0 0])
  simp only [World.size_alloc] at KA KR KO
  generalize hW : ((w.alloc (.cells #[vc, ve] 44)).alloc (.cells #[.slice none 0 0, .slice none 0 0] 49)).alloc (.cells #[.slice none 0 0, .slice none 0 0] 49) = W at B0 KA KR KO ⊢
  have s0 : w.heap.size + 3 ≤ W.heap.size := by rw [← hW]; simp
  clear hW
  refine (N_to W vc p.code (HN.out.below B0.out) HL.out.1).mono ?_
  rintro e w1 ⟨v1, rfl, h1, b1⟩
  obtain ⟨A1, n1, c1, rfl, _⟩ := h1.raw
  have s1 := b1.size
  have B1 := Lib.hid (B0.out.trans (b1.mono B0.out.size)); have H1 := Lib.hid h1
  have KA1 := Lib.hid (KA.out.below b1); have KR1 := Lib.hid (KR.out.below b1); have KO1 := Lib.hid (KO.out.below b1); clear b1 h1 KA KR KO
  have ca1 := KA1.out.cell 1 (by simp)
  have co0 := KO1.out.cell 0 (by simp)
  have fo0 := KO1.out.frozen 0
  go_wp2_with fail
  have B2 := Lib.hid (below_set B1.out (p := ⟨w.heap.size + 1 + 1, 0, none⟩) (by simp; omega) (.slice A1 n1 c1))
  have H2 := Lib.hid ((OkN.stays _ _ _ _).set (p := ⟨w.heap.size + 1 + 1, 0, none⟩) (.slice A1 n1 c1) (.inl (by simp; omega)) H1.out)
  have KR2 := Lib.hid (KR1.out.far (p := ⟨w.heap.size + 1 + 1, 0, none⟩) (by simp) (.slice A1 n1 c1)); have KO2 := Lib.hid (KO1.out.set 0 (.slice A1 n1 c1))
  clear ca1 co0 fo0
  refine (I_to _ ve p.entries (HI.out.below B2.out) HL.out.2).mono ?_
  rintro e w3 ⟨v3, rfl, h3, b3⟩
  obtain ⟨A3, n3, c3, rfl, _⟩ := h3.raw
  have s3 := b3.size
  simp only [World.size_setCell] at s3
  have B3 := Lib.hid (B2.out.trans (b3.mono B2.out.size)); have H3 := Lib.hid h3; have H23 := Lib.hid ((OkN.stays _ _ _ _).below b3 (by simp) H2.out)
  have KR3 := Lib.hid (KR2.out.below b3); have KO3 := Lib.hid (KO2.out.below b3); clear b3 h3
  have co0 := KO3.out.cell 0 (by simp)
  have co1 := KO3.out.cell 1 (by simp)
  have fo1 := KO3.out.frozen 1
  have cr0 := KR3.out.cell 0 (by simp)
  have cr1 := KR3.out.cell 1 (by simp)
  have fr0 := KR3.out.frozen 0
  have fr1 := KR3.out.frozen 1
  go_wp2_with fail
  have HF : ∀ (R : World → Prop) (lo hi : Nat), Stays lo hi R → w.heap.size + 3 ≤ lo → R w3 → R (((w3.setCell ⟨w.heap.size + 1 + 1, 1, none⟩ (.slice A3 n3 c3)).setCell ⟨w.heap.size + 1, 0, none⟩ (.slice A1 n1 c1)).setCell ⟨w.heap.size + 1, 1, none⟩ (.slice A3 n3 c3)) :=
    fun R lo hi st h hR => st.set _ (.inl (by simp; omega)) (st.set _ (.inl (by simp; omega)) (st.set _ (.inl (by simp; omega)) hR))
  refine bodyPost_ret (v := .agg #[.slice A1 n1 c1, .slice A3 n3 c3]) (by simp [results, Try.results29, go_sem, cr0, cr1, co0, co1]) rfl ⟨_, rfl, ⟨_, _, w1.heap.size, rfl, ?_, ?_, by omega, by simp; omega⟩, ?_⟩
  · exact (HF _ _ _ (OkN.stays W.heap.size w1.heap.size (.slice A1 n1 c1) p.code) s0 H23.out).wider (by omega) (Nat.le_refl _)
  · have h := H3.out
    simp only [World.size_setCell] at h
    simp only [World.size_setCell]
    exact HF _ _ _ (OkI.stays w1.heap.size w3.heap.size (.slice A3 n3 c3) p.entries) (by omega) h
  · exact below_set (below_set (below_set B3.out (by simp; omega) _) (by simp) _) (by simp) _
set_option maxHeartbeats 1000000 in
theorem P_eq (w : World) (a b : Value) (p : Prg) (ha : RawP w a p) (hb : RawP w b p) (hl : LgP p) :
    Calls Try.prog 31 #[a, b] w fun e w' => e = .returned (.bool true) ∧ Below w.heap.size w w' := by
  obtain ⟨vc, ve, rfl, hN, hI⟩ := ha
  obtain ⟨vc', ve', rfl, hN', hI'⟩ := hb
  have HN := Lib.hid hN; have HI := Lib.hid hI; have HN' := Lib.hid hN'; have HI' := Lib.hid hI'; have HL := Lib.hid hl; clear hN hI hl hN' hI'
  go_enter Try.func31, Try.ntmps31
  go_wp2_with fail
  have B0 := Lib.hid (below_al (below_al (Below.refl w.heap.size w) (.cells #[vc, ve] 49)) (.cells #[vc', ve'] 49))
  refine (N_eq _ vc vc' p.code (HN.out.below B0.out) (HN'.out.below B0.out) HL.out.1).mono ?_
  rintro e w1 ⟨rfl, b1⟩
  obtain ⟨hc, hf⟩ := bcell b1
  have hz := b1.size
  simp only [World.size_alloc] at hz hc hf
  have B1 := Lib.hid (B0.out.trans (b1.mono B0.out.size)); clear b1
  go_wp2_with fail
  refine (I_eq _ ve ve' p.entries (HI.out.below B1.out) (HI'.out.below B1.out) HL.out.2).mono ?_
  rintro e w2 ⟨rfl, b2⟩
  have B2 := Lib.hid (B1.out.trans (b2.mono B1.out.size)); clear b2
  go_wp2_with fail
  go_ret
  exact ⟨rfl, B2.out⟩
end Go.Proofs.Ytkkmmfgncdfcfaa
