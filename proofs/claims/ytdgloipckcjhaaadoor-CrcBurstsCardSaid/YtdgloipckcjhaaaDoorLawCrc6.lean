/- CrcBursts returns true; memory that lay stays. Conditions: the listed tables; the bytes lie in memory. -/
import Derived.Test.YtdgloipckcjhaaaDoorLawCrc5
import Derived.RegionTactic
import Derived.ChangeAlike
namespace Go.Proofs.YtdgloipckcjhaaaDoor
open Go.RowKit
attribute [local go_sem ↓] Go.wp_at_zero Go.wp_at_succ

theorem xor_mul (p q n : Nat) : (p ^^^ q) * 2 ^ n = p * 2 ^ n ^^^ q * 2 ^ n := by
  have := @Nat.shiftLeft_xor_distrib n p q
  simpa [Nat.shiftLeft_eq] using this
/-- One more changed bit. -/
theorem big_bit {m l : List Nat} {r bit k : Nat} (hbig : Crc.big m = Crc.big l ^^^ (r % 2 ^ k) * 2 ^ bit) (hj : (bit + k) / 8 < m.length) (hr : r / 2 ^ k % 2 = 1) :
    Crc.big (m.set ((bit + k) / 8) (m.getD ((bit + k) / 8) 0 ^^^ 2 ^ ((bit + k) % 8))) = Crc.big l ^^^ (r % 2 ^ (k + 1)) * 2 ^ bit := by
  have e : 2 ^ ((bit + k) % 8) * 2 ^ (8 * ((bit + k) / 8)) = 2 ^ k * 2 ^ bit := by
    rw [← Nat.pow_add, ← Nat.pow_add]
    congr 1
    omega
  rw [Crc.big_set _ _ _ hj, hbig, Crc.mod_succ, hr, Nat.one_mul, xor_mul, e, Nat.xor_assoc]
theorem big_none {m l : List Nat} {r bit k : Nat} (hbig : Crc.big m = Crc.big l ^^^ (r % 2 ^ k) * 2 ^ bit) (hr : r / 2 ^ k % 2 = 0) : Crc.big m = Crc.big l ^^^ (r % 2 ^ (k + 1)) * 2 ^ bit := by
  rw [hbig, Crc.mod_succ, hr, Nat.zero_mul, Nat.xor_zero]
theorem mod_grow {r k : Nat} : r % 2 ^ (k + 1) = r % 2 ^ k + (r / 2 ^ k % 2) * 2 ^ k := by
  rw [Nat.pow_succ, Nat.mod_mul, Nat.mul_comm]
theorem encB_set (m : List Nat) (j v : Nat) : encB (m.set j v) = (encB m).set j (.int .u8 (v : Int)) := by
  unfold encB; rw [List.map_set]
theorem set_lt {m : List Nat} {j v : Nat} (h : ∀ c ∈ m, c < 256) (hv : v < 256) : ∀ c ∈ m.set j v, c < 256 := by
  intro c hc
  rcases List.mem_or_eq_of_mem_set hc with h1 | h1
  · exact h c h1
  · rw [h1]; exact hv
theorem pow8 {e : Nat} (h : e < 8) : 2 ^ e < 256 := (Nat.pow_lt_pow_right (by decide) h : 2 ^ e < 2 ^ 8)
theorem shl8 {e : Nat} (h : e < 8) : IntKind.u8.wrap (2 ^ e) = ((2 ^ e : Nat) : Int) := by
  have := pow8 h
  rw [IntKind.wrap_u8', show ((2 : Int) ^ e) = ((2 ^ e : Nat) : Int) by rw [Int.natCast_pow]; rfl]
  exact Int.emod_eq_of_lt (Int.natCast_nonneg _) (Int.ofNat_lt.2 this)

/-- The kit's law for a region whose last operations alone write, its world as one letter's draw. -/
theorem still_tail {P : Program} {id : Nat} {Q : Exit → Act → World → Prop} {a : Act} {w : World} {l : List Oper} (n : Nat) (hm : P.follows .mixedOrders = true) (hB : Region.lexTailB .any l.toArray n = true)
    (h : wpStill P l.toArray w.drew (fun a' => wpList P l.toArray Q (l.drop n) a' w.drew) (l.take n) a) : (Code.region id l.toArray true).wp P Q a w := wp_region_still_tail n hm hB h

set_option maxRecDepth 100000 in
set_option maxHeartbeats 4000000 in
theorem bursts_walk (v : Value) (l : List Nat) (t r : Nat) (w : World) (hv : BytesAt w v l) (hr : r < 4294967296) (ht : t < 65536) (hT : Tabs w) :
    Calls Tryd.prog 12 #[v, .int .u16 (t : Int), .int .u32 (r : Int)] w fun e w' => e = .returned (.bool true) ∧ Below w.heap.size w w' := by
  obtain ⟨p, c, rfl⟩ := hv.slice
  have HT := Lib.hid hT
  have HV := Lib.hid hv
  clear hT hv
  by_cases h2000 : l.length ≤ 2000 ∧ 0 < l.length
  · obtain ⟨h1, h2⟩ := h2000
    -- the copy
    have hb0 : Below w.heap.size w (w.alloc (.cells #[] 5)) := (Below.refl _ _).alloc (Nat.le_refl _) _
    have own0 : (w.alloc (.cells #[] 5)).ownsRow w.heap.size 5 1 (.slice (some ⟨w.heap.size, 0, none⟩) 0 0) 0 [] := World.ownsRow_lit w #[] 0 (Nat.le_refl _) (by unfold maxLen; omega) rfl
    obtain ⟨v1, w1, r1, own1, g1⟩ := run_append_bytes _ _ _ _ _ own0 _ l (HV.out.keep hb0) (by omega) (by simp)
    have hb1 : Below w.heap.size w w1 := hb0.grown g1 hb0.size (fun k hk => by cases hk; exact Nat.le_refl _)
    rw [Nat.zero_add, List.nil_append] at own1
    obtain ⟨g, cap, rfl, hcn, hcm⟩ : ∃ g cap, v1 = .slice (some ⟨g, 0, none⟩) l.length cap ∧ l.length ≤ cap ∧ cap ≤ 9223372036854775807 := by
      rcases own1.2 with ⟨_, h0⟩ | ⟨g, cap, cur, hv, _, _, hc1, hc2, _⟩
      · omega
      · exact ⟨g, cap, hv, hc1, by unfold maxLen at hc2; exact hc2⟩
    have hgb := (own1.lt g rfl).1
    obtain ⟨n, hn⟩ : ∃ n, l.length = n := ⟨_, rfl⟩
    rw [hn] at own1 r1 h1 h2 hcn ⊢
    obtain ⟨bit, hbit, hbn⟩ : ∃ bit : Nat, (t : Int) % (8 * (n : Int)) = bit ∧ bit < 8 * n := by
      refine ⟨t % (8 * n), ?_, Nat.mod_lt _ (by omega)⟩
      rw [Int.natCast_emod]
      rfl
    have R1 := Lib.hid r1
    have O1 := Lib.hid own1
    have B1 := Lib.hid hb1
    have HN := Lib.hid hn
    clear r1 own1 own0 g1 hb0 hb1 hn
    have z1 : (n : Int) ≤ 2000 := by omega
    have z2 : ((n : Int) == 0) = false := by simp only [beq_eq_false_iff_ne]; omega
    have z3 : (0 : Int) < (n : Int) := by omega
    have z4 : decide (2000 < (n : Int)) = false := by simp; omega
    go_enter Tryd.func12, Tryd.ntmps12
    go_wp2_with (at_builtin; refine wpList_append_run rfl (.tmp 20) (.tmp 21) 33 rfl rfl rfl R1.out ?_)
    rw [hbit]
    clear hbit R1
    have hgl := (O1.out.lt g rfl).2
    go_loopw [9, 10] (fun vc i wr => ∃ (k : Nat) (ch : Bool) (m : List Nat), k ≤ 32 ∧ i = .int .i64 k ∧ vc = .bool ch ∧ Hid (ch = decide (r % 2 ^ k ≠ 0)) ∧ Below w.heap.size w wr ∧ wr.ownsRow w.heap.size 5 1 (.slice (some ⟨g, 0, none⟩) n cap) n (encB m) ∧ m.length = n ∧ (∀ c ∈ m, c < 256) ∧ Hid (Crc.big m = Crc.big l ^^^ (r % 2 ^ k) * 2 ^ bit)) (fun _ i _ => 32 - (intOf i).toNat)
    case atStart => exact ⟨0, false, l, Nat.zero_le _, rfl, rfl, Lib.hid (by simp [Nat.mod_one]), B1.out, O1.out, HN.out, HV.out.byte, Lib.hid (by rw [Nat.pow_zero, Nat.mod_one, Nat.zero_mul, Nat.xor_zero])⟩
    case round =>
      obtain ⟨k, ch, m, hk, rfl, rfl, HCH, hbel, hown, hml, hmb, HBIG⟩ := hrel
      by_cases hlt : k < 32 ∧ bit + k < 8 * n
      · obtain ⟨hk32, hbk⟩ := hlt
        have hbt := bit_eq hr k
        have zz : (bit : Int) + (k : Int) < 8 * (n : Int) := by omega
        rcases Nat.mod_two_eq_zero_or_one (r / 2 ^ k) with e | e
        · have HB2 := Lib.hid (big_none HBIG.out e)
          have HC2 : Hid (ch = decide (r % 2 ^ (k + 1) ≠ 0)) := Lib.hid (by rw [HCH.out, mod_grow, e, Nat.zero_mul, Nat.add_zero])
          have HO := Lib.hid hown
          have HL := Lib.hid hbel
          have HM := Lib.hid hml
          have HMB := Lib.hid hmb
          rw [e] at hbt
          clear e hown hbel hml hmb
          go_wp2
          go_roundw
          case rel => exact ⟨k + 1, ch, m, by omega, by go_num, rfl, HC2, HL.out, HO.out, HM.out, HMB.out, HB2⟩
          case measure => simp [intOf]; omega
        · obtain ⟨j, hj⟩ : ∃ j, (bit + k) / 8 = j := ⟨_, rfl⟩
          obtain ⟨e8, he8⟩ : ∃ e8, (bit + k) % 8 = e8 := ⟨_, rfl⟩
          have lj : j < n := by omega
          have le8 : e8 < 8 := by omega
          have hset := big_bit HBIG.out (by rw [hj, hml]; exact lj) e
          rw [hj, he8] at hset
          have xlt : m.getD j 0 < 256 := getD_lt hmb j
          have hcell := hown.cellAt j (by omega)
          rw [show (encB m)[j]? = some (.int .u8 ((m.getD j 0 : Nat) : Int)) by unfold encB; rw [List.getElem?_map, List.getElem?_eq_getElem (by omega), List.getD_eq_getElem?_getD, List.getElem?_eq_getElem (by omega)]; rfl] at hcell
          have hfr := hown.frozenAt j
          obtain ⟨q, hq⟩ : ∃ q, q = m.getD j 0 ^^^ 2 ^ e8 := ⟨_, rfl⟩
          rw [← hq] at hset
          have lq : q < 256 := by rw [hq]; exact Nat.xor_lt_two_pow (n := 8) xlt (pow8 le8)
          have hx := u8_xor_nat (m.getD j 0) (2 ^ e8) xlt (pow8 le8)
          rw [← hq] at hx
          have hsh := shl8 le8
          have hownD : wr.drew.ownsRow w.heap.size 5 1 (.slice (some ⟨g, 0, none⟩) n cap) n (encB m) := hown
          have hst := (hownD.stored j (.int .u8 (q : Int))).1
          rw [← encB_set] at hst
          have HST := Lib.hid hst
          clear hownD
          have HB2 := Lib.hid hset
          have HC2 : Hid (true = decide (r % 2 ^ (k + 1) ≠ 0)) := Lib.hid (by
            rw [mod_grow, e, Nat.one_mul]
            have := Nat.two_pow_pos k
            rw [decide_eq_true (by omega)])
          have HL := Lib.hid hbel.drew
          have HM : Hid ((m.set j q).length = n) := Lib.hid (by rw [List.length_set]; exact hml)
          have HMB := Lib.hid (set_lt (j := j) hmb lq)
          have d0 : IntKind.i64.wrap ((bit : Int) + (k : Int)) = (bit : Int) + (k : Int) := IntWalk.i64_in _ (by omega)
          have d1 : ((bit : Int) + (k : Int)) / 8 = (j : Int) := by omega
          have d2 : ((bit : Int) + (k : Int)) % 8 = (e8 : Int) := by omega
          have d3 : ((bit : Int) + (k : Int)).tdiv 8 = (j : Int) := by rw [Int.tdiv_eq_ediv_of_nonneg (by omega)]; exact d1
          have d4 : ((bit : Int) + (k : Int)).tmod 8 = (e8 : Int) := by rw [Int.tmod_eq_emod_of_nonneg (by omega)]; exact d2
          have ljc : j < cap := by omega
          have d5 : IntKind.i64.wrap (j : Int) = (j : Int) := IntWalk.i64_in _ (by omega)
          have d6 : IntKind.i64.wrap (e8 : Int) = (e8 : Int) := IntWalk.i64_in _ (by omega)
          rw [e] at hbt
          generalize m.getD j 0 = x at *
          generalize hp2 : (2 ^ e8 : Nat) = pw at *
          clear e hown hbel hml hmb hset hq hj he8 hst
          go_wp2_with fail
          refine still_tail 14 (by kernel_rfl) (by kernel_rfl) ?_
          have hcell' : wr.drew.cell? ⟨g, j, none⟩ = some (.int .u8 (x : Int)) := hcell
          have hfr' : wr.drew.frozen? ⟨g, j, none⟩ = false := hfr
          obtain ⟨wd, hwd⟩ : ∃ wd, wd = wr.drew := ⟨_, rfl⟩
          rw [← hwd] at hcell' hfr' HST HL ⊢
          have HWD := Lib.hid hwd
          clear hcell hfr hwd
          simp only [List.take_succ_cons, List.take_zero, List.drop_succ_cons, List.drop_zero]
          repeat still_step
          refine wpStill_nil ?_
          go_wp2
          refine ⟨⟨k + 1, true, _, by omega, by go_num, rfl, HC2, HL.out.setCell hgb _, HST.out, HM.out, HMB.out, HB2⟩, ?_⟩
          simp [intOf]
          omega
      · have hbu := Crc.burst l m (r % 2 ^ k) bit (Nat.lt_of_le_of_lt (Nat.mod_le _ _) hr) (by rw [hml, HN.out]) (by rw [HN.out]; omega) HBIG.out
        have hm' := bytes_own hown hml.symm hmb (by omega)
        have TW := HT.out.below hbel
        have s1 := sum_any _ l wr (HV.out.keep hbel) TW.crc
        have s2 := sum_any _ m wr hm' TW.crc
        have s3 := check_any _ m (Crc.sum l) wr hm' TW.crc
        rw [HN.out] at s1
        have hne : (((Crc.sum l : Nat) : Int) != ((Crc.sum m : Nat) : Int)) = ch := by
          rw [HCH.out, bne, u32_beq]
          by_cases h0 : r % 2 ^ k = 0
          · rw [decide_eq_true (hbu.2 h0), decide_eq_false (by simpa using h0)]; rfl
          · rw [decide_eq_false (fun e => h0 (hbu.1 e)), decide_eq_true h0]; rfl
        have hck : decide (Crc.sum m = Crc.sum l) = !ch := by
          rw [HCH.out]
          by_cases h0 : r % 2 ^ k = 0
          · rw [decide_eq_true (hbu.2 h0).symm, decide_eq_false (by simpa using h0)]; rfl
          · rw [decide_eq_false (fun e => h0 (hbu.1 e.symm)), decide_eq_true h0]; rfl
        rw [hck] at s3
        generalize Crc.sum l = xl at *
        generalize Crc.sum m = xm at *
        have hex : ¬ ((k : Int) < 32 ∧ (bit : Int) + (k : Int) < 8 * (n : Int)) := by omega
        have hdx : (decide ((k : Int) < 32) && decide ((bit : Int) + (k : Int) < 8 * (n : Int))) = false := by
          rw [← Bool.decide_and]; exact decide_eq_false hex
        have S1 := Lib.hid s1
        have S2 := Lib.hid s2
        have S3 := Lib.hid s3
        have TT := Lib.hid TW
        have BB := Lib.hid hbel
        clear s1 s2 s3 TW hbel hown hm' hml hmb hbu hck
        by_cases hk32 : k < 32
        · have hq1 : ¬ (bit : Int) + (k : Int) < 8 * (n : Int) := by omega
          have hq0 : (k : Int) < 32 := by omega
          cases ch
          all_goals
            go_wp2_with fail
            refine S1.out.mono ?_
            rintro e w5 ⟨rfl, rfl⟩
            go_wp2_with fail
            refine S2.out.mono ?_
            rintro e w5 ⟨rfl, rfl⟩
            go_wp2_with fail
            refine S1.out.mono ?_
            rintro e w5 ⟨rfl, rfl⟩
            go_wp2_with fail
            refine S3.out.mono ?_
            rintro e w5 ⟨rfl, rfl⟩
            go_wp2_with fail
            refine (works_any _ TT.out).mono ?_
            rintro e w5 ⟨rfl, hb5⟩
            go_wp2
            go_ret
            exact ⟨rfl, BB.out.trans (hb5.mono BB.out.size)⟩
        · obtain rfl : k = 32 := by omega
          rw [show ((32 : Nat) : Int) = 32 from rfl] at *
          cases ch
          all_goals
            go_wp2_with fail
            refine S1.out.mono ?_
            rintro e w5 ⟨rfl, rfl⟩
            go_wp2_with fail
            refine S2.out.mono ?_
            rintro e w5 ⟨rfl, rfl⟩
            go_wp2_with fail
            refine S1.out.mono ?_
            rintro e w5 ⟨rfl, rfl⟩
            go_wp2_with fail
            refine S3.out.mono ?_
            rintro e w5 ⟨rfl, rfl⟩
            go_wp2_with fail
            refine (works_any _ TT.out).mono ?_
            rintro e w5 ⟨rfl, hb5⟩
            go_wp2
            go_ret
            exact ⟨rfl, BB.out.trans (hb5.mono BB.out.size)⟩
  · by_cases hbg : 2000 < l.length
    · have hd : ¬ (l.length : Int) ≤ 2000 := by omega
      clear HV h2000
      go_enter Tryd.func12, Tryd.ntmps12
      go_wp2_with (go_at_call 15; refine (works_any _ HT.out).mono ?_; rintro e w1 ⟨rfl, hb1⟩)
      go_ret
      exact ⟨rfl, hb1⟩
    · have hz : l.length = 0 := by omega
      rw [hz]
      clear HV h2000 hbg
      go_enter Tryd.func12, Tryd.ntmps12
      go_wp2_with (go_at_call 15; refine (works_any _ HT.out).mono ?_; rintro e w1 ⟨rfl, hb1⟩)
      go_ret
      exact ⟨rfl, hb1⟩
end Go.Proofs.YtdgloipckcjhaaaDoor
