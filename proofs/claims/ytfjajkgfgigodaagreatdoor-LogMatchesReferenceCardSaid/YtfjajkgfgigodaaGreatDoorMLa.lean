/-
  The log: numbers with leading zeros, texts of digits. The log: writes to sectors, one after the other. The log: heads and bodies are written. The log: bodies are written. The log: copies of lists, and what forbids an operation. The log: an operation that is attempted.
-/
import Derived.Test.YtfjajkgfgigodaaGreatDoorStructs
import Derived.Test.YtfjajkgfgigodaaGreatDoorVcFork
import Derived.Test.YtfjajkgfgigodaaGreatDoorVcSep
import Derived.Test.YtfjajkgfgigodaaGreatDoorMSe
import Derived.Test.YtfjajkgfgigodaaGreatDoorMPl
import Derived.Laws.RangeString
import Derived.Laws.RangeAny
import Derived.Lib.ItoaNum
import Derived.Lib.AtoiErrMem
import Derived.Test.YtfjajkgfgigodaaGreatDoorMDi
import Derived.Test.YtfjajkgfgigodaaGreatDoorVcMap
import Derived.Test.YtfjajkgfgigodaaGreatDoorVcDrawP
/- The log: numbers with leading zeros, texts of digits. -/
namespace Go.Proofs.YtfjajkgfgigodaaGreatDoor
open Go

/- PLAIN FACTS -/
theorem decD_dig : ∀ (n : Nat), ∀ c ∈ Lib.decDigits n, isDig c = true := by
  intro n
  induction n using Nat.strongRecOn with
  | _ n ih =>
    intro c hc
    have key : ∀ m : Nat, m < 10 → isDig (UInt8.ofNat (48 + m)) = true := fun m hm => by
      have e : (UInt8.ofNat (48 + m)).toNat = 48 + m := by rw [UInt8.toNat_ofNat']; omega
      simp only [isDig, e, Bool.and_eq_true, decide_eq_true_eq]
      omega
    rw [Lib.decDigits] at hc
    split at hc
    · rename_i h
      rw [List.mem_singleton.1 hc]
      exact key n h
    · rcases List.mem_append.1 hc with hc | hc
      · exact ih (n / 10) (by omega) c hc
      · rw [List.mem_singleton.1 hc]
        exact key (n % 10) (by omega)

theorem decD_len : ∀ (w n : Nat), n < 10 ^ (w + 1) → (Lib.decDigits n).length ≤ w + 1
  | 0, n, h => by
    rw [Lib.decDigits, dif_pos (by simpa using h)]
    simp
  | w + 1, n, h => by
    rw [Lib.decDigits]
    split
    · simp
    · have := decD_len w (n / 10) (by rw [Nat.pow_succ] at h; omega)
      simp only [List.length_append, List.length_singleton]
      omega

theorem numL_zeros (l : List UInt8) : ∀ (k : Nat), numL (List.replicate k 48 ++ l) = numL l
  | 0 => rfl
  | k + 1 => by
    have := numL_zeros l k
    unfold numL at this ⊢
    rw [List.replicate_succ, List.cons_append, List.foldl_cons]
    exact this

theorem pad_dig {w n : Nat} (h : n < 10 ^ (w + 1)) : List.replicate (w + 1 - (Lib.decDigits n).length) 48 ++ Lib.decDigits n = dig (w + 1) n := by
  have h1 := decD_len w n h
  have h2 := num_lt (List.replicate (w + 1 - (Lib.decDigits n).length) 48 ++ Lib.decDigits n) fun c hc => by
    rcases List.mem_append.1 hc with hc | hc
    · rw [(List.mem_replicate.1 hc).2]; decide
    · exact decD_dig n c hc
  have h3 : (List.replicate (w + 1 - (Lib.decDigits n).length) (48 : UInt8) ++ Lib.decDigits n).length = w + 1 := by
    rw [List.length_append, List.length_replicate]; omega
  rw [h3, numL_zeros, decD_num] at h2
  exact h2.2.symm

theorem repeat_eq (c : Nat) : Lib.repeatL [48] c = List.replicate c 48 := by
  induction c with
  | zero => rfl
  | succ n ih => rw [List.replicate_succ, ← ih]; rfl

/-- No digit. -/
def noDig (x : Nat) : Bool := decide (x < 48) || decide (57 < x)

theorem noDig_byte (c : UInt8) : noDig c.toNat = !isDig c := by
  unfold noDig isDig
  by_cases h1 : 48 ≤ c.toNat <;> by_cases h2 : c.toNat ≤ 57 <;> simp [h1, h2] <;> omega

theorem idx_from (l : List UInt8) : ∀ (f pos : Nat), l.length ≤ f + pos → (Lib.idxFuncFrom noDig true ⟨⟨l⟩⟩ f pos = -1 ↔ ∀ c ∈ l.drop pos, isDig c = true)
  | 0, pos, h => by
    rw [List.drop_eq_nil_of_le (by omega)]
    simp [Lib.idxFuncFrom]
  | f + 1, pos, h => by
    unfold Lib.idxFuncFrom
    have hsz : (⟨⟨l⟩⟩ : ByteArray).size = l.length := rfl
    by_cases hp : pos < l.length
    · rw [if_pos (by rw [hsz]; exact hp), List.drop_eq_getElem_cons hp]
      by_cases ha : l[pos].toNat < 128
      · have hd : Utf8.decode ⟨⟨l⟩⟩ pos = (l[pos].toNat, 1) := decode_ascii ⟨⟨l⟩⟩ pos hp ha
        rw [hd, noDig_byte]
        have ih := idx_from l f (pos + 1) (by omega)
        cases hb : isDig l[pos] with
        | true =>
          rw [if_neg (by decide), ih, List.forall_mem_cons]
          exact ⟨fun h => ⟨hb, h⟩, fun h => h.2⟩
        | false =>
          rw [if_pos (by decide)]
          constructor
          · intro h; omega
          · intro h
            have := h l[pos] List.mem_cons_self
            rw [hb] at this
            cases this
      · have hd : 128 ≤ (Utf8.decode ⟨⟨l⟩⟩ pos).1 := (decode_high ⟨⟨l⟩⟩ pos hp (Nat.le_of_not_lt ha)).1
        have h1 : noDig (Utf8.decode ⟨⟨l⟩⟩ pos).1 = true := by simp [noDig]; omega
        rw [if_pos h1]
        constructor
        · intro h; omega
        · intro h
          have := h l[pos] List.mem_cons_self
          simp only [isDig, Bool.and_eq_true, decide_eq_true_eq] at this
          omega
    · rw [if_neg (by rw [hsz]; exact hp), List.drop_eq_nil_of_le (by omega)]
      simp

theorem idx_digits (l : List UInt8) : decide (Lib.idxFunc noDig true ⟨⟨l⟩⟩ < 0) = l.all isDig := by
  have h1 := idx_from l l.length 0 (by omega)
  have h2 := Lib.idxFunc_range noDig true ⟨⟨l⟩⟩
  have h3 : Lib.idxFunc noDig true ⟨⟨l⟩⟩ = Lib.idxFuncFrom noDig true ⟨⟨l⟩⟩ l.length 0 := rfl
  rw [← h3, List.drop_zero] at h1
  cases hb : l.all isDig with
  | true =>
    rw [h1.2 (List.all_eq_true.1 hb)]
    rfl
  | false =>
    refine decide_eq_false fun h => ?_
    have : Lib.idxFunc noDig true ⟨⟨l⟩⟩ = -1 := by omega
    rw [List.all_eq_true.2 (h1.1 this)] at hb
    cases hb

theorem putR_head (s : St) {a : Nat} (ha : a < 4000) : putR 0 a (digS s ++ digS s) = (headL a s, 0) := by
  unfold putR
  rw [if_pos (placed0 ha), if_pos (by simp [digS_len])]
  rfl

theorem parse_none' {a half : Nat} {sec : List UInt8} (h : ¬ ((getR 0 a sec).2 = 0 ∧ headB (getR 0 a sec).1 = true ∧ (stOf (getR 0 a sec).1).len ≤ half)) : parseH a sec half = none := if_neg h

theorem parse_some' {a half : Nat} {sec : List UInt8} (h : (getR 0 a sec).2 = 0 ∧ headB (getR 0 a sec).1 = true ∧ (stOf (getR 0 a sec).1).len ≤ half) : parseH a sec half = some (stOf (getR 0 a sec).1) := if_pos h

/- THE LIBRARY -/
theorem repeat_spec (c : Nat) (h : Heap) (hc : c ≤ 1000) : SpecR Tryz.prog 133 [.string ⟨⟨[48]⟩⟩, .int .i64 c] h fun r h' => r = .string ⟨⟨List.replicate c 48⟩⟩ ∧ Own h [] h' := by
  refine ⟨⟨_, Tryz.func133, rfl, by kernel_rfl⟩, fun w hw => ?_⟩
  subst hw
  refine (Tryz.strings_Repeat ⟨⟨[48]⟩⟩ c w (by omega) (by show 1 * c ≤ _; omega)).mono ?_
  rintro e w' ⟨rfl, hb⟩
  refine ⟨⟨hb.os, hb.tape, hb.output, hb.size⟩, ?_, Own.of_ext ⟨hb.size, hb.block⟩⟩
  show Value.string ⟨(Lib.repeatL [48] c).toArray⟩ = _
  rw [repeat_eq]

theorem noDigit_fn (w : World) : PredAtRunes Tryz.prog 104 #[] noDig w := fun W r _ _ => by
  unfold FnGives
  by_cases h1 : r < 48 <;> by_cases h2 : 57 < r
  all_goals
    have z1 : (r : Int) < 48 ↔ r < 48 := by omega
    have z2 : (r : Int) > 57 ↔ 57 < r := by omega
    go_enter Tryz.func104, Tryz.ntmps104
    go_wp2
    all_goals first | (exfalso; omega) | (go_ret; exact ⟨by simp [noDig, h1, h2], 0, rfl⟩)

theorem indexFunc_spec (l : List UInt8) (h : Heap) : SpecR Tryz.prog 103 [.string ⟨⟨l⟩⟩, .func (.func 104) #[] #[]] h fun r h' => r = .int .i64 (Lib.idxFunc noDig true ⟨⟨l⟩⟩) ∧ Own h [] h' := by
  refine ⟨⟨_, Tryz.func103, rfl, by kernel_rfl⟩, fun w hw => ?_⟩
  subst hw
  refine (Tryz.strings_IndexFunc_runes 104 #[] (enters_of Tryz.func104 (by kernel_rfl) rfl) noDig ⟨⟨l⟩⟩ w (noDigit_fn w)).mono ?_
  rintro e w' ⟨rfl, hb⟩
  exact ⟨⟨hb.os, hb.tape, hb.output, hb.size⟩, rfl, Own.of_ext ⟨hb.size, hb.block⟩⟩

theorem isDig_iff {c : UInt8} (h : isDig c = true) : 48 ≤ c.toNat ∧ c.toNat ≤ 57 := by simpa [isDig] using h

theorem decFrom_digits : ∀ (l : List UInt8) (acc : Nat), (∀ c ∈ l, isDig c = true) → Lib.decFrom acc l = some (l.foldl (fun n c => n * 10 + (c.toNat - 48)) acc)
  | [], acc, _ => rfl
  | c :: l, acc, h => by
    have hv : Lib.digitVal c = some (c.toNat - 48) := if_pos (isDig_iff (h c List.mem_cons_self))
    rw [Lib.decFrom, hv]
    exact decFrom_digits l _ (fun d hd => h d (List.mem_cons_of_mem _ hd))

theorem atoi_dig {l : List UInt8} (hl : l ≠ []) (h : ∀ c ∈ l, isDig c = true) : Lib.atoi l = some ((numL l : Nat) : Int) := by
  cases l with
  | nil => exact absurd rfl hl
  | cons b r =>
    have hb := isDig_iff (h b List.mem_cons_self)
    have h45 : (b == 45) = false := by
      rw [beq_eq_false_iff_ne]
      rintro rfl
      simp at hb
    have h43 : (b == 43) = false := by
      rw [beq_eq_false_iff_ne]
      rintro rfl
      simp at hb
    rw [Lib.atoi, h45, h43]
    simp only [Bool.false_eq_true, if_false, Lib.decNat, List.isEmpty_cons]
    rw [decFrom_digits _ _ h]
    rfl

theorem atoi_spec (l : List UInt8) (h : Heap) (h0 : l ≠ []) (hd : ∀ c ∈ l, isDig c = true) (hl : l.length ≤ 18) : SpecR Tryz.prog 78 [.string ⟨⟨l⟩⟩] h fun r h' => r = .tuple ⟨[.int .i64 (numL l), .nilIface]⟩ ∧ Own h [] h' := by
  refine ⟨⟨_, Tryz.func78, rfl, by kernel_rfl⟩, fun w hw => ?_⟩
  subst hw
  refine (Tryz.strconv_Atoi ⟨⟨l⟩⟩ (numL l) hl (atoi_dig h0 hd) w).mono ?_
  rintro e w' ⟨rfl, t, rfl⟩
  have hb := Lib.bytesWorld_below w 5 t
  exact ⟨⟨hb.os, hb.tape, hb.output, hb.size⟩, rfl, Own.of_ext ⟨hb.size, hb.block⟩⟩

/- THE WALKS -/
set_option maxHeartbeats 4000000 in
set_option maxRecDepth 100000 in
theorem pad_spec (n w : Nat) (h : Heap) (ht : TabH h) (hn : n < 10 ^ (w + 1)) (hw : w ≤ 10) : SpecR Tryz.prog 116 [.int .i64 n, .int .i64 ((w + 1 : Nat) : Int)] h fun r h' => r = .string ⟨⟨dig (w + 1) n⟩⟩ ∧ Own h [] h' := by
  refine Spec.enter Tryz.func116 rfl Tryz.ntmps116 (by kernel_rfl) ?_
  have o0 := Own.refl h
  refine CallVC.ret (itoa_spec n _ (by omega) (by have : n < 10 ^ 11 := Nat.lt_of_lt_of_le hn (Nat.pow_le_pow_right (by omega) (by omega)); omega) ht) ?_
  rintro _ h1 ⟨rfl, oc⟩
  rw [itoa_nat]
  have hdl := decD_len w n hn
  refine StillVC.run (StillVC.lenS rfl str9 ?_)
  refine Ar.i64 (by omega) (by omega) ?_
  refine StillVC.run (StillVC.max2 rfl rfl ?_)
  rw [show max 0 (((w + 1 : Nat) : Int) - ((Lib.decDigits n).length : Int)) = ((w + 1 - (Lib.decDigits n).length : Nat) : Int) from by omega]
  refine CallVC.ret (repeat_spec _ _ (by omega)) ?_
  rintro _ h2 ⟨rfl, oc2⟩
  have o2 := oc.ext' oc2
  clear oc oc2
  have hr : (List.replicate (w + 1 - (Lib.decDigits n).length) (48 : UInt8)).length ≤ 100 := by rw [List.length_replicate]; omega
  refine StillVC.run (StillVC.strAdd rfl rfl (by first | omega | (simp; omega)) ?_)
  refine RetVC.one rfl ?_
  exact ⟨by rw [pad_dig hn], o2⟩

theorem plain_spec (l : List UInt8) (h : Heap) : SpecR Tryz.prog 76 [.string ⟨⟨l⟩⟩] h fun r h' => r = .bool (l.all isDig) ∧ Own h [] h' := by
  refine Spec.enter Tryz.func76 rfl Tryz.ntmps76 (by kernel_rfl) ?_
  have o0 := Own.refl h
  refine CallVC.ret (indexFunc_spec l _) ?_
  rintro _ h1 ⟨rfl, oc⟩
  refine RetVC.one rfl ?_
  exact ⟨by rw [idx_digits], oc⟩

set_option maxHeartbeats 4000000 in
set_option maxRecDepth 100000 in
theorem sector_spec (s : St) (a : Nat) (h : Heap) (ht : TabH h) (hs : s.Fits) (ha : a < 2) : SpecR Tryz.prog 93 [.agg ⟨[.int .i64 s.num, .int .i64 s.gen, .int .i64 s.len]⟩, .int .i64 a] h fun r h' => r = .string ⟨⟨headL a s⟩⟩ ∧ Own h [] h' := by
  refine Spec.enter Tryz.func93 rfl Tryz.ntmps93 (by kernel_rfl) ?_
  have o0 := Own.refl h
  have d9 := dig_len 9 s.num
  have d6 := dig_len 6 s.gen
  have d4 := dig_len 4 s.len
  have hdl := digS_len s
  (refine RunVC.boxO o0 rfl ?_; intro b20 m20 o20)
  refine DrawVC.intro [0, 3, 6, 7, 10, 11] [1, 4, 8] [9] [0, 1, 3, 4, 7, 8, 2, 5, 6, 9, 10, 11] mixed (by kernel_rfl) rfl (fun _ _ _ _ h => h) ?_
  refine StillVC.fieldAddr st72 rfl rfl rfl ?_
  refine StillVC.loadO o20 0 rfl ty3 rfl rfl ?_
  refine StillVC.fieldAddr st72 rfl rfl rfl ?_
  refine StillVC.loadO o20 0 rfl ty3 rfl rfl ?_
  refine StillVC.fieldAddr st72 rfl rfl rfl ?_
  refine StillVC.loadO o20 0 rfl ty3 rfl rfl ?_
  refine CallVC.ret (pad_spec s.num 8 _ (ht.ext o20.ext) hs.num (by omega)) ?_
  rintro _ h2 ⟨rfl, oc⟩
  (refine And.intro oc.ext ?_; have o30 := Own.call o20 oc; simp only [List.cons_append, List.nil_append] at o30; clear oc)
  refine CallVC.ret (pad_spec s.gen 5 _ (ht.ext (Own.ext (B := ⟨h, []⟩) (by assumption))) hs.gen (by omega)) ?_
  rintro _ h3 ⟨rfl, oc⟩
  (refine And.intro oc.ext ?_; have o40 := Own.call o30 oc; simp only [List.cons_append, List.nil_append] at o40; clear oc)
  refine StillVC.strAdd rfl rfl (by first | omega | (simp; omega)) ?_
  refine CallVC.ret (pad_spec s.len 3 _ (ht.ext (Own.ext (B := ⟨h, []⟩) (by assumption))) hs.len (by omega)) ?_
  rintro _ h4 ⟨rfl, oc⟩
  refine StillVC.strAdd rfl rfl (by first | omega | (simp; omega)) ?_
  refine StillVC.run (StillVC.strAdd rfl rfl (by first | omega | (simp; omega)) ?_)
  refine CallVC.ret (put_spec 0 a (digS s ++ digS s) _ (by simp [hdl])) ?_
  rw [putR_head s (by omega : a < 4000)]
  rintro _ h5 ⟨rfl, oc5⟩
  refine RetVC.one rfl ?_
  exact ⟨rfl, (oc5.thenE (oc.thenE (by assumption : Own ⟨h, []⟩ _ _))).sel [] rfl⟩

set_option maxHeartbeats 4000000 in
set_option maxRecDepth 100000 in
theorem number_fn (l : List UInt8) (h : Heap) (h0 : l ≠ []) (hd : ∀ c ∈ l, isDig c = true) (hl : l.length ≤ 18) : SpecR Tryz.prog 77 [.string ⟨⟨l⟩⟩] h fun r h' => r = .int .i64 (numL l) ∧ Own h [] h' := by
  refine Spec.enter Tryz.func77 rfl Tryz.ntmps77 (by kernel_rfl) ?_
  have o0 := Own.refl h
  refine CallVC.ret (atoi_spec l _ h0 hd hl) ?_
  rintro _ h1 ⟨rfl, oc⟩
  refine RetVC.one rfl ?_
  exact ⟨rfl, oc⟩

/-- A state in memory. -/
def stV (s : St) : Value := .agg ⟨[.int .i64 s.num, .int .i64 s.gen, .int .i64 s.len]⟩

def parseV (o : Option St) : List Value → Prop
  | [x, y] => match o with
    | some s => x = stV s ∧ y = .bool true
    | none => ∃ s : St, x = stV s ∧ y = .bool false
  | _ => False

theorem parse_eqs {a half : Nat} {sec b : List UInt8} (hg : getR 0 a sec = (b, 0)) (hB : headB b = true) : parseH a sec half = if (stOf b).len ≤ half then some (stOf b) else none := by
  unfold parseH
  rw [hg]
  simp only [hB, true_and]

theorem parse_end {a half : Nat} {sec b : List UInt8} {e : Int} (hg : getR 0 a sec = (b, e)) (he : e = 0) (hB : headB b = true) : parseV (parseH a sec half) [stV (stOf b), .bool (decide (((stOf b).len : Int) ≤ half))] := by
  subst he
  rw [parse_eqs hg hB]
  generalize stOf b = s
  rcases Nat.lt_or_ge half s.len with hl | hl
  · rw [if_neg (Nat.not_le.2 hl)]
    exact ⟨s, rfl, congrArg Value.bool (decide_eq_false fun hx => Nat.not_le.2 hl (Int.ofNat_le.1 hx))⟩
  · rw [if_pos hl]
    exact ⟨rfl, congrArg Value.bool (decide_eq_true (Int.ofNat_le.2 hl))⟩

set_option maxHeartbeats 4000000 in
set_option maxRecDepth 100000 in
theorem parse_spec (a half : Nat) (sec : List UInt8) (h : Heap) (_ha : a < 4000) (hl : sec.length ≤ 1000) (_hh : half ≤ 4000) : SpecR Tryz.prog 45 [.int .i64 a, .string ⟨⟨sec⟩⟩, .int .i64 half] h fun r h' => ∃ x y, r = .tuple ⟨[x, y]⟩ ∧ parseV (parseH a sec half) [x, y] ∧ Own h [] h' := by
  refine Spec.enter Tryz.func45 rfl Tryz.ntmps45 (by kernel_rfl) ?_
  have o0 := Own.refl h
  (refine RunVC.alloc o0 ty72 ?_; intro b20 m20 o20)
  refine CallVC.ret (get_spec 0 a sec _ (by omega)) ?_
  generalize hg : getR 0 a sec = g
  obtain ⟨b, e⟩ := g
  rintro _ h1 ⟨rfl, oc⟩
  have o1 := oc.thenE (by assumption)
  clear oc
  simp only
  by_cases he : e = 0
  · by_cases h38 : b.length = 38
    · by_cases h19 : b.take 19 = b.drop 19
      · have c35 : List.drop (Int.toNat 0) (List.take (Int.toNat 19) b) = List.drop (Int.toNat 19) (List.take ((b.length : Nat) : Int).toNat b) := by simpa using h19
        refine DrawVC.intro [0, 1, 2, 3, 4, 5, 6, 7, 8, 9, 10, 11, 12, 13, 14, 15, 17, 18] [] [16] [0, 1, 2, 3, 4, 5, 6, 7, 8, 9, 10, 11, 12, 13, 14, 15, 16, 17, 18] mixed (by kernel_rfl) rfl (fun _ _ _ _ h => h) ?_
        refine Br.ndec (fun hc => absurd (by first | omega | assumption | decide | exact rfl) hc) (fun c30 => ?_)
        refine StillVC.lenS rfl str9 ?_
        refine Br.ndec (fun hc => absurd (by first | omega | assumption | decide | exact rfl) hc) (fun c32 => ?_)
        refine StillVC.sliceS str9 rfl rfl ⟨_, rfl⟩ (by omega) (by omega) (by omega) ?_
        refine StillVC.sliceS str9 rfl ⟨_, rfl⟩ rfl (by omega) (by omega) (by omega) ?_
        refine Br.ndec (fun hc => absurd (by first | omega | assumption | decide | exact rfl) hc) (fun c35 => ?_)
        refine CallVC.ret (plain_spec b _) ?_
        rintro _ h2 ⟨rfl, oc⟩
        have o9 := oc.thenE (by assumption : Own ⟨h, []⟩ _ _)
        clear oc
        cases hpl : b.all isDig with
        | false =>
          refine Br.tt ?_
          refine StillVC.run (StillVC.buildK st72 ?_)
          (refine RunVC.storeL o9 0 rfl ty72 rfl (by decide) (And.intro ⟨rfl, rfl⟩ ?_); intro m51 o51)
          first | refine RetVC.cell2 rfl o51 0 rfl ty72 rfl rfl ?_ | refine RetVC.cell1 rfl o51 0 rfl ty72 rfl rfl ?_ | refine RetVC.cellTT rfl o51 0 rfl ty72 rfl rfl ?_
          exact ⟨_, _, rfl, by rw [parse_none' (hg ▸ fun hx => by rw [headB, hpl, Bool.and_false] at hx; exact Bool.noConfusion hx.2.1)]; exact ⟨⟨0, 0, 0⟩, rfl, rfl⟩, Own.sel (by assumption) [] rfl⟩
        | true =>
          have hall := List.all_eq_true.1 hpl
          have hB : headB b = true := by rw [headB, hpl, decide_eq_true h38, decide_eq_true h19]; rfl
          have hd9 : ∀ c ∈ List.drop (Int.toNat 0) (List.take (Int.toNat 9) b), isDig c = true := fun c hc => hall c (List.mem_of_mem_take (List.mem_of_mem_drop hc))
          have hd15 : ∀ c ∈ List.drop (Int.toNat 9) (List.take (Int.toNat 15) b), isDig c = true := fun c hc => hall c (List.mem_of_mem_take (List.mem_of_mem_drop hc))
          have hd19 : ∀ c ∈ List.drop (Int.toNat 15) (List.take (Int.toNat 19) b), isDig c = true := fun c hc => hall c (List.mem_of_mem_take (List.mem_of_mem_drop hc))
          have n9 : List.drop (Int.toNat 0) (List.take (Int.toNat 9) b) ≠ [] := fun hx => by have := congrArg List.length hx; rw [List.length_drop, List.length_take, List.length_nil, h38] at this; exact absurd this (by decide)
          have n15 : List.drop (Int.toNat 9) (List.take (Int.toNat 15) b) ≠ [] := fun hx => by have := congrArg List.length hx; rw [List.length_drop, List.length_take, List.length_nil, h38] at this; exact absurd this (by decide)
          have n19 : List.drop (Int.toNat 15) (List.take (Int.toNat 19) b) ≠ [] := fun hx => by have := congrArg List.length hx; rw [List.length_drop, List.length_take, List.length_nil, h38] at this; exact absurd this (by decide)
          refine Br.ff ?_
          refine DrawVC.introBT 0 [0, 1, 2, 4, 5, 6, 8, 9, 10, 12] [] [3, 7, 11, 13, 14] (.one 0 (.one 1 (.one 2 (.one 4 (.one 5 (.one 6 (.one 8 (.one 9 (.one 10 (.fork 3 13 (.fork 7 13 (.fork 11 13 (.one 12 (.one 13 (.one 14 .done))) (.one 11 (.one 12 (.one 14 .done)))) (.one 7 (.one 11 (.one 12 (.one 14 .done))))) (.one 3 (.one 7 (.one 11 (.one 12 (.one 14 .done))))))))))))))) mixed (by kernel_rfl) rfl (fun _ _ _ _ h => h) ?_
          refine StillVC.sliceS str9 rfl rfl ⟨_, rfl⟩ (by omega) (by omega) (by omega) ?_
          refine StillVC.sliceS str9 rfl ⟨_, rfl⟩ ⟨_, rfl⟩ (by omega) (by omega) (by omega) ?_
          refine StillVC.sliceS str9 rfl ⟨_, rfl⟩ ⟨_, rfl⟩ (by omega) (by omega) (by omega) ?_
          --BEGIN
          refine And.intro ?_ ?_
          · skip
            refine CallVC.ret (number_fn (List.drop (Int.toNat 0) (List.take (Int.toNat 9) b)) _ n9 hd9 (by simp; omega)) ?_
            rintro _ hx0 ⟨rfl, ox0⟩
            have oj0 := ox0.thenE (by assumption : Own ⟨h, []⟩ _ _)
            clear ox0
            refine And.intro ?_ ?_
            · skip
              refine CallVC.ret (number_fn (List.drop (Int.toNat 9) (List.take (Int.toNat 15) b)) _ n15 hd15 (by simp; omega)) ?_
              rintro _ hx1 ⟨rfl, ox1⟩
              have oj1 := ox1.thenE (by assumption : Own ⟨h, []⟩ _ _)
              clear ox1
              refine And.intro ?_ ?_
              · skip
                refine CallVC.ret (number_fn (List.drop (Int.toNat 15) (List.take (Int.toNat 19) b)) _ n19 hd19 (by simp; omega)) ?_
                rintro _ hx2 ⟨rfl, ox2⟩
                have oj2 := ox2.thenE (by assumption : Own ⟨h, []⟩ _ _)
                clear ox2
                refine StillVC.buildK st72 ?_
                refine And.intro rfl ?_
                refine And.intro rfl ?_
                refine And.intro rfl ?_
                (refine RunVC.alloc oj2 ty72 ?_; intro b111 m111 o111)
                (refine RunVC.storeL o111 1 rfl ty72 rfl (by decide) (And.intro ⟨rfl, rfl⟩ ?_); intro m112 o112)
                refine DrawVC.introB b111 [1, 3, 4, 6] [0, 2] [] [0, 1, 2, 3, 4, 5, 6] mixed (by kernel_rfl) rfl (fun _ _ _ _ h => h) ?_
                refine StillVCA.loadB o112 1 rfl ty72 rfl rfl ?_
                refine StillVC.fieldAddr st72 rfl rfl rfl ?_
                refine StillVCA.load1 ty3 rfl rfl ((o112.cellB 1 rfl _).trans rfl) ?_
                (refine RunVC.storeL o112 0 rfl ty72 rfl (by decide) (And.intro ⟨rfl, rfl⟩ ?_); intro m203 o203)
                refine And.intro ((o203.boxBlk 1 rfl).trans (o112.boxBlk 1 rfl).symm) ?_
                first | refine RetVC.cell2 rfl o203 0 rfl ty72 rfl rfl ?_ | refine RetVC.cell1 rfl o203 0 rfl ty72 rfl rfl ?_ | refine RetVC.cellTT rfl o203 0 rfl ty72 rfl rfl ?_
                exact ⟨_, _, rfl, parse_end hg he hB, Own.sel (by assumption) [] rfl⟩
              · skip
                (refine RunVC.alloc oj1 ty72 ?_; intro b100 m100 o100)
                refine CallVC.ret (number_fn (List.drop (Int.toNat 15) (List.take (Int.toNat 19) b)) _ n19 hd19 (by simp; omega)) ?_
                rintro _ hx2 ⟨rfl, ox2⟩
                have oj2 := ox2.thenE (by assumption : Own ⟨h, []⟩ _ _)
                clear ox2
                refine StillVC.buildK st72 ?_
                refine And.intro rfl ?_
                refine And.intro rfl ?_
                refine And.intro rfl ?_
                (refine RunVC.storeL oj2 1 rfl ty72 rfl (by decide) (And.intro ⟨rfl, rfl⟩ ?_); intro m111 o111)
                refine DrawVC.introB b100 [1, 3, 4, 6] [0, 2] [] [0, 1, 2, 3, 4, 5, 6] mixed (by kernel_rfl) rfl (fun _ _ _ _ h => h) ?_
                refine StillVCA.loadB o111 1 rfl ty72 rfl rfl ?_
                refine StillVC.fieldAddr st72 rfl rfl rfl ?_
                refine StillVCA.load1 ty3 rfl rfl ((o111.cellB 1 rfl _).trans rfl) ?_
                (refine RunVC.storeL o111 0 rfl ty72 rfl (by decide) (And.intro ⟨rfl, rfl⟩ ?_); intro m203 o203)
                refine And.intro ((o203.boxBlk 1 rfl).trans (o111.boxBlk 1 rfl).symm) ?_
                first | refine RetVC.cell2 rfl o203 0 rfl ty72 rfl rfl ?_ | refine RetVC.cell1 rfl o203 0 rfl ty72 rfl rfl ?_ | refine RetVC.cellTT rfl o203 0 rfl ty72 rfl rfl ?_
                exact ⟨_, _, rfl, parse_end hg he hB, Own.sel (by assumption) [] rfl⟩
            · skip
              (refine RunVC.alloc oj0 ty72 ?_; intro b80 m80 o80)
              refine CallVC.ret (number_fn (List.drop (Int.toNat 9) (List.take (Int.toNat 15) b)) _ n15 hd15 (by simp; omega)) ?_
              rintro _ hx1 ⟨rfl, ox1⟩
              have oj1 := ox1.thenE (by assumption : Own ⟨h, []⟩ _ _)
              clear ox1
              refine CallVC.ret (number_fn (List.drop (Int.toNat 15) (List.take (Int.toNat 19) b)) _ n19 hd19 (by simp; omega)) ?_
              rintro _ hx2 ⟨rfl, ox2⟩
              have oj2 := ox2.thenE (by assumption : Own ⟨h, []⟩ _ _)
              clear ox2
              refine StillVC.buildK st72 ?_
              refine And.intro rfl ?_
              refine And.intro rfl ?_
              refine And.intro rfl ?_
              (refine RunVC.storeL oj2 1 rfl ty72 rfl (by decide) (And.intro ⟨rfl, rfl⟩ ?_); intro m101 o101)
              refine DrawVC.introB b80 [1, 3, 4, 6] [0, 2] [] [0, 1, 2, 3, 4, 5, 6] mixed (by kernel_rfl) rfl (fun _ _ _ _ h => h) ?_
              refine StillVCA.loadB o101 1 rfl ty72 rfl rfl ?_
              refine StillVC.fieldAddr st72 rfl rfl rfl ?_
              refine StillVCA.load1 ty3 rfl rfl ((o101.cellB 1 rfl _).trans rfl) ?_
              (refine RunVC.storeL o101 0 rfl ty72 rfl (by decide) (And.intro ⟨rfl, rfl⟩ ?_); intro m203 o203)
              refine And.intro ((o203.boxBlk 1 rfl).trans (o101.boxBlk 1 rfl).symm) ?_
              first | refine RetVC.cell2 rfl o203 0 rfl ty72 rfl rfl ?_ | refine RetVC.cell1 rfl o203 0 rfl ty72 rfl rfl ?_ | refine RetVC.cellTT rfl o203 0 rfl ty72 rfl rfl ?_
              exact ⟨_, _, rfl, parse_end hg he hB, Own.sel (by assumption) [] rfl⟩
          · skip
            (refine RunVC.alloc o9 ty72 ?_; intro b60 m60 o60)
            refine CallVC.ret (number_fn (List.drop (Int.toNat 0) (List.take (Int.toNat 9) b)) _ n9 hd9 (by simp; omega)) ?_
            rintro _ hx0 ⟨rfl, ox0⟩
            have oj0 := ox0.thenE (by assumption : Own ⟨h, []⟩ _ _)
            clear ox0
            refine CallVC.ret (number_fn (List.drop (Int.toNat 9) (List.take (Int.toNat 15) b)) _ n15 hd15 (by simp; omega)) ?_
            rintro _ hx1 ⟨rfl, ox1⟩
            have oj1 := ox1.thenE (by assumption : Own ⟨h, []⟩ _ _)
            clear ox1
            refine CallVC.ret (number_fn (List.drop (Int.toNat 15) (List.take (Int.toNat 19) b)) _ n19 hd19 (by simp; omega)) ?_
            rintro _ hx2 ⟨rfl, ox2⟩
            have oj2 := ox2.thenE (by assumption : Own ⟨h, []⟩ _ _)
            clear ox2
            refine StillVC.buildK st72 ?_
            refine And.intro rfl ?_
            refine And.intro rfl ?_
            refine And.intro rfl ?_
            (refine RunVC.storeL oj2 1 rfl ty72 rfl (by decide) (And.intro ⟨rfl, rfl⟩ ?_); intro m91 o91)
            refine DrawVC.introB b60 [1, 3, 4, 6] [0, 2] [] [0, 1, 2, 3, 4, 5, 6] mixed (by kernel_rfl) rfl (fun _ _ _ _ h => h) ?_
            refine StillVCA.loadB o91 1 rfl ty72 rfl rfl ?_
            refine StillVC.fieldAddr st72 rfl rfl rfl ?_
            refine StillVCA.load1 ty3 rfl rfl ((o91.cellB 1 rfl _).trans rfl) ?_
            (refine RunVC.storeL o91 0 rfl ty72 rfl (by decide) (And.intro ⟨rfl, rfl⟩ ?_); intro m203 o203)
            refine And.intro ((o203.boxBlk 1 rfl).trans (o91.boxBlk 1 rfl).symm) ?_
            first | refine RetVC.cell2 rfl o203 0 rfl ty72 rfl rfl ?_ | refine RetVC.cell1 rfl o203 0 rfl ty72 rfl rfl ?_ | refine RetVC.cellTT rfl o203 0 rfl ty72 rfl rfl ?_
            exact ⟨_, _, rfl, parse_end hg he hB, Own.sel (by assumption) [] rfl⟩
          --END
      · have c35 : ¬ List.drop (Int.toNat 0) (List.take (Int.toNat 19) b) = List.drop (Int.toNat 19) (List.take ((b.length : Nat) : Int).toNat b) := by simpa using h19
        refine DrawVC.intro [0, 1, 2, 3, 4, 5, 6, 7, 8, 9, 10, 11, 12, 13, 14, 15, 17, 18] [] [16] [0, 1, 2, 3, 4, 5, 6, 7, 8, 9, 10, 11, 12, 13, 14, 15, 16, 17, 18] mixed (by kernel_rfl) rfl (fun _ _ _ _ h => h) ?_
        refine Br.ndec (fun hc => absurd (by first | omega | assumption | decide | exact rfl) hc) (fun c30 => ?_)
        refine StillVC.lenS rfl str9 ?_
        refine Br.ndec (fun hc => absurd (by first | omega | assumption | decide | exact rfl) hc) (fun c32 => ?_)
        refine StillVC.sliceS str9 rfl rfl ⟨_, rfl⟩ (by omega) (by omega) (by omega) ?_
        refine StillVC.sliceS str9 rfl ⟨_, rfl⟩ rfl (by omega) (by omega) (by omega) ?_
        refine Br.ndec (fun c35 => ?_) (fun hc => absurd hc (by first | omega | assumption | decide | exact rfl))
        refine Br.tt ?_
        refine StillVC.run (StillVC.buildK st72 ?_)
        (refine RunVC.storeL o1 0 rfl ty72 rfl (by decide) (And.intro ⟨rfl, rfl⟩ ?_); intro m37 o37)
        first | refine RetVC.cell2 rfl o37 0 rfl ty72 rfl rfl ?_ | refine RetVC.cell1 rfl o37 0 rfl ty72 rfl rfl ?_ | refine RetVC.cellTT rfl o37 0 rfl ty72 rfl rfl ?_
        exact ⟨_, _, rfl, by rw [parse_none' (hg ▸ fun hx => h19 (headB_iff.1 hx.2.1).2.1)]; exact ⟨⟨0, 0, 0⟩, rfl, rfl⟩, Own.sel (by assumption) [] rfl⟩
    · refine DrawVC.intro [0, 1, 2, 3, 4, 5, 6, 7, 8, 9, 10, 11, 12, 13, 14, 15, 17, 18] [] [16] [0, 1, 2, 3, 4, 5, 6, 7, 8, 9, 10, 11, 12, 13, 14, 15, 16, 17, 18] mixed (by kernel_rfl) rfl (fun _ _ _ _ h => h) ?_
      refine Br.ndec (fun hc => absurd (by first | omega | assumption | decide | exact rfl) hc) (fun c30 => ?_)
      refine StillVC.lenS rfl str9 ?_
      refine Br.ndec (fun c32 => ?_) (fun hc => absurd hc (by first | omega | assumption | decide | exact rfl))
      refine Br.tt ?_
      refine StillVC.run (StillVC.buildK st72 ?_)
      (refine RunVC.storeL o1 0 rfl ty72 rfl (by decide) (And.intro ⟨rfl, rfl⟩ ?_); intro m34 o34)
      first | refine RetVC.cell2 rfl o34 0 rfl ty72 rfl rfl ?_ | refine RetVC.cell1 rfl o34 0 rfl ty72 rfl rfl ?_ | refine RetVC.cellTT rfl o34 0 rfl ty72 rfl rfl ?_
      exact ⟨_, _, rfl, by rw [parse_none' (hg ▸ fun hx => h38 (headB_iff.1 hx.2.1).1)]; exact ⟨⟨0, 0, 0⟩, rfl, rfl⟩, Own.sel (by assumption) [] rfl⟩
  · refine DrawVC.intro [0, 1, 2, 3, 4, 5, 6, 7, 8, 9, 10, 11, 12, 13, 14, 15, 17, 18] [] [16] [0, 1, 2, 3, 4, 5, 6, 7, 8, 9, 10, 11, 12, 13, 14, 15, 16, 17, 18] mixed (by kernel_rfl) rfl (fun _ _ _ _ h => h) ?_
    refine Br.ndec (fun c30 => ?_) (fun hc => absurd hc (by first | omega | assumption | decide | exact rfl))
    refine Br.tt ?_
    refine StillVC.run (StillVC.buildK st72 ?_)
    (refine RunVC.storeL o1 0 rfl ty72 rfl (by decide) (And.intro ⟨rfl, rfl⟩ ?_); intro m32 o32)
    first | refine RetVC.cell2 rfl o32 0 rfl ty72 rfl rfl ?_ | refine RetVC.cell1 rfl o32 0 rfl ty72 rfl rfl ?_ | refine RetVC.cellTT rfl o32 0 rfl ty72 rfl rfl ?_
    exact ⟨_, _, rfl, by rw [parse_none' (hg ▸ fun hx => he hx.1)]; exact ⟨⟨0, 0, 0⟩, rfl, rfl⟩, Own.sel (by assumption) [] rfl⟩

end Go.Proofs.YtfjajkgfgigodaaGreatDoor

/- The log: writes to sectors, one after the other. -/
namespace Go.Proofs.YtfjajkgfgigodaaGreatDoor
open Go

/-- Numbers of sectors, in memory. -/
abbrev natsV (l : List Nat) : List Value := l.map fun (s : Nat) => Value.int .i64 (s : Int)

/-- The panic by which an error of the disk ends an operation. -/
def mustC (e : Int) : List PanicEntry := [{ v := .iface 27 (.int .i64 e), recovered := false }]

set_option maxHeartbeats 4000000 in
set_option maxRecDepth 100000 in
theorem must_spec (e : Int) (h : Heap) : Spec Tryz.prog 90 [.int .i64 e] h (Ends (fun v h' => e = 0 ∧ v = .tuple #[] ∧ Own h [] h') fun c h' => e ≠ 0 ∧ c = mustC e ∧ Own h [] h') := by
  refine Spec.enter Tryz.func90 rfl Tryz.ntmps90 (by kernel_rfl) ?_
  have o0 := Own.refl h
  by_cases he : e = 0
  · refine Br.ndec (fun hc => absurd (by first | omega | assumption | decide | exact rfl) hc) (fun c20 => ?_)
    refine RetVC.zero rfl ?_
    exact ⟨he, rfl, o0⟩
  · refine Br.ndec (fun c20 => ?_) (fun hc => absurd hc (by first | omega | assumption | decide | exact rfl))
    refine StillVC.run (StillVC.mkIface (by kernel_rfl) rfl ?_)
    refine RunVC.panicI rfl ?_
    exact ⟨he, rfl, o0⟩

set_option maxHeartbeats 4000000 in
set_option maxRecDepth 100000 in
theorem half_spec (lp n : Nat) (h : Heap) (hc : cellAt h ⟨lp, 4, none⟩ = some (.int .i64 n)) (h2 : 2 ≤ n) (h4 : n ≤ 4000) : SpecR Tryz.prog 46 [.pointer (some ⟨lp, 0, none⟩)] h fun v h' => v = .int .i64 (halfN n) ∧ Own h [] h' := by
  refine Spec.enter Tryz.func46 rfl Tryz.ntmps46 (by kernel_rfl) ?_
  have o0 := Own.refl h
  refine StillVC.run (StillVC.nilCheck rfl ?_)
  refine StillVC.run (StillVC.fieldAddr st74 rfl rfl rfl ?_)
  refine StillVC.run (StillVC.load1 ty3 rfl (by assumption) ?_)
  refine Ar.i64 (by omega) (by omega) ?_
  refine StillVC.run (StillVC.quoE rfl rfl (by omega) (by omega) (by simp [IntKind.max, IntKind.signed, IntKind.bits] <;> omega) ?_)
  refine RetVC.one rfl ?_
  exact ⟨congrArg (Value.int .i64) (by unfold halfN; omega), o0⟩

set_option maxHeartbeats 4000000 in
set_option maxRecDepth 100000 in
theorem start_spec' (lp n gen : Nat) (h : Heap) (hc : cellAt h ⟨lp, 4, none⟩ = some (.int .i64 n)) (h2 : 2 ≤ n) (h4 : n ≤ 4000) (hg : gen ≤ 1000000) : SpecR Tryz.prog 47 [.pointer (some ⟨lp, 0, none⟩), .int .i64 gen] h fun v h' => v = .int .i64 (startN n gen) ∧ Own h [] h' := by
  refine Spec.enter Tryz.func47 rfl Tryz.ntmps47 (by kernel_rfl) ?_
  have o0 := Own.refl h
  have hh : halfN n ≤ 2000 := by unfold halfN; omega
  refine StillVC.run (StillVC.remE rfl rfl (by omega) (by omega) ?_)
  refine CallVC.ret (half_spec lp n _ hc h2 h4) ?_
  rintro _ h1 ⟨rfl, oc⟩
  have hm : (gen : Int) % 2 = 0 ∨ (gen : Int) % 2 = 1 := by omega
  have hmul : 0 ≤ (gen : Int) % 2 * (halfN n : Int) ∧ (gen : Int) % 2 * (halfN n : Int) ≤ 2000 := by
    rcases hm with hm | hm <;> rw [hm] <;> omega
  refine Ar.i64 (by omega) (by omega) ?_
  refine Ar.i64 (by omega) (by omega) ?_
  refine RetVC.one rfl ?_
  refine ⟨congrArg (Value.int .i64) ?_, oc⟩
  unfold startN
  rw [Int.natCast_add, Int.natCast_mul, Int.natCast_emod]
  rfl

theorem blank_spec (lp : Nat) (i : Int) (h : Heap) : SpecR Tryz.prog 58 [.pointer (some ⟨lp, 0, none⟩), .int .i64 i] h fun v h' => v = .string ⟨⟨zS⟩⟩ ∧ Own h [] h' := by
  refine Spec.enter Tryz.func58 rfl Tryz.ntmps58 (by kernel_rfl) ?_
  have o0 := Own.refl h
  refine RetVC.one rfl ?_
  exact ⟨rfl, o0⟩

theorem write_q (d : Dk) (s : Int) (t : List UInt8) : (d.write s t).2.q.length ≤ d.q.length + 1 ∧ ((d.write s t).2.q.length = 0 ∨ d.q.length ≤ (d.write s t).2.q.length) := by
  unfold Dk.write
  split
  · exact ⟨by simp, .inr (Nat.le_refl _)⟩
  · split
    · exact ⟨by simp, .inr (Nat.le_refl _)⟩
    · unfold Dk.count
      split
      · simp
      · simp only
        split
        · simp
        · simp only [Dk.fail]
          split <;> simp

theorem eachD_cons (p : Nat × List UInt8) (r : List (Nat × List UInt8)) (d : Dk) : eachD (p :: r) d = if (d.write p.1 p.2).1 ≠ 0 then d.write p.1 p.2 else eachD r (d.write p.1 p.2).2 := rfl

theorem eachD_nil (d : Dk) : eachD [] d = d.sync := rfl

/-- What a closure that gives the sectors' texts has to do. -/
def TextOK (B : Base) (X : Item) (g : FuncId) (first cap : List Value) (ts : List (List UInt8)) : Prop :=
  ∀ (h : Heap), Own B [X] h → ∀ (i : Nat) (t : List UInt8), ts[i]? = some t → SpecR Tryz.prog g (first ++ ([.int .i64 i] ++ cap)) h fun v h' => v = .string ⟨⟨t⟩⟩ ∧ Own h [] h'

theorem sync_q (d : Dk) (h : d.sync.1 = 0) : d.sync.2.q = [] := by
  unfold Dk.sync at h ⊢
  by_cases ho : d.off = true
  · rw [if_pos ho] at h
    simp at h
  · rw [if_neg ho] at h ⊢
    generalize d.count = c at h ⊢
    obtain ⟨e, d1⟩ := c
    simp only at h ⊢
    by_cases he : e = 0
    · rw [if_neg (by simpa using he)]
    · rw [if_pos he] at h
      exact absurd h he

theorem eachD_q : ∀ (ws : List (Nat × List UInt8)) (d : Dk), (eachD ws d).1 = 0 → (eachD ws d).2.q = []
  | [], d, h => sync_q d h
  | p :: r, d, h => by
    rw [eachD_cons] at h ⊢
    by_cases he : (d.write p.1 p.2).1 = 0
    · rw [if_neg (by simpa using he)] at h ⊢
      exact eachD_q r _ h
    · rw [if_pos he] at h
      exact absurd h he

def EachEnds (B : Base) (dp : Nat) (X : Item) (r : Int × Dk) : Ending → Heap → Prop :=
  Ends (fun v h' => r.1 = 0 ∧ v = .tuple #[] ∧ ∃ I', IsDisk dp r.2 I' ∧ Own B [I', X] h') (fun c h' => r.1 ≠ 0 ∧ c = mustC r.1 ∧ ∃ I', IsDisk dp r.2 I' ∧ Own B [I', X] h')

set_option maxHeartbeats 4000000 in
set_option maxRecDepth 100000 in
theorem each_spec (B : Base) (lp dp : Nat) (d : Dk) (I X : Item) (sv : Value) (g : FuncId) (first cap : List Value) (ss : List Nat) (ts : List (List UInt8)) (h : Heap)
    (hI : IsDisk dp d I) (o : Own B [I, X] h) (hd : ∀ h, X.sat h → cellAt h ⟨lp, 3, none⟩ = some (.pointer (some ⟨dp, 0, none⟩))) (hS : Reads X 1 sv ss.length (natsV ss))
    (hT : TextOK B X g first cap ts) (hl : ss.length = ts.length) (hn : ss.length ≤ 5000) (hq : d.q.length ≤ 1000) (ht : ∀ t ∈ ts, t.length ≤ 1000000) :
    Spec Tryz.prog 57 [.pointer (some ⟨lp, 0, none⟩), sv, .func (.func g) ⟨first⟩ ⟨cap⟩] h (EachEnds B dp X (eachD (ss.zip ts) d)) := by
  obtain ⟨sa, sc, rfl⟩ := hS.isS (o.satK 1 rfl)
  refine Spec.enter Tryz.func57 rfl Tryz.ntmps57 (by kernel_rfl) ?_
  generalize hRR : eachD (ss.zip ts) d = R
  refine StillVC.run (StillVC.lenV rfl sl84 ?_)
  refine LoopVC.intro [6, 7, 10, 11, 12, 13, 14, 15, 16, 17, 18, 19, 20, 21, 22, 23, 24, 25] [10] (fun vs hh => ∃ (i : Nat) (d1 : Dk) (I1 : Item), i ≤ ss.length ∧ vs = [.int .i64 i] ∧ eachD ((ss.zip ts).drop i) d1 = R ∧ d1.q.length ≤ 1000 + i ∧ IsDisk dp d1 I1 ∧ Own B [I1, X] hh) (fun vs _ => match vs with | [.int _ i] => ss.length - i.toNat | _ => 0) ?_ ?_
  · exact ⟨0, d, I, by omega, rfl, hRR, by omega, hI, o⟩
  · clear o hI
    rintro vs junk hh ⟨i, d1, I1, hi, rfl, hE, hq1, hI1, o⟩
    have h3 := hd _ (o.satK 1 rfl)
    have hR := (o.reads 1 hS rfl).to1
    have hnl : (natsV ss).length = ss.length := by simp
    by_cases hlt : i < ss.length
    · obtain ⟨s, hs⟩ := getx hlt
      obtain ⟨t, ht'⟩ := getx (show i < ts.length by omega)
      have hzl : i < (ss.zip ts).length := by rw [List.length_zip]; omega
      have hze : (ss.zip ts)[i]'hzl = (s, t) := by
        have h1 : (ss.zip ts)[i]? = some (s, t) := List.getElem?_zip_eq_some.2 ⟨hs, ht'⟩
        rw [List.getElem?_eq_getElem hzl] at h1
        exact Option.some.inj h1
      rw [List.drop_eq_getElem_cons hzl, hze] at hE
      have htl := ht t (List.mem_of_getElem? ht')
      obtain ⟨wq1, _⟩ := write_q d1 s t
      rw [eachD_cons] at hE
      refine Br.dec (fun c40 => ?_) (fun hc => absurd (by omega) hc)
      refine StillVC.run (StillVC.idx sl84 ty3 hR rfl (by omega) (by omega) ?_)
      refine StillVC.run (StillVC.loadM hR ty3 rfl (by first | assumption | rfl) ?_)
      refine DrawVC.intro [0, 1, 2, 4, 5, 6] [3] [8, 9] [0, 1, 2, 3, 4, 5, 6, 7, 8, 9] mixed (by kernel_rfl) rfl (fun _ _ _ _ h => h) ?_
      refine StillVC.nilCheck rfl ?_
      refine StillVC.fieldAddr st74 rfl rfl rfl ?_
      refine StillVC.load1 ty24 rfl (by assumption) ?_
      refine CallVC.ret (hT _ (o.sel [1] rfl) i t ht') ?_
      rintro _ h2 ⟨rfl, oc⟩
      (refine And.intro oc.ext ?_; have o50 := Own.call o oc; simp only [List.cons_append, List.nil_append] at o50; clear oc)
      refine CallVC.ret (write_disk _ dp d1 I1 s t _ hI1 (Own.lend (by assumption : Own B [I1, X] h2) [0] [1] rfl) (by omega) (by omega)) ?_
      rintro _ h5 ⟨rfl, I2, hI2, oc2⟩
      have o5 : Own B [I2, X] h5 := oc2.back
      clear oc2
      generalize hw : d1.write s t = wr at hE hI2 wq1
      obtain ⟨e, d2⟩ := wr
      simp only at hE hI2 wq1 ⊢
      refine CallVC.ends (must_spec _ _) ?_ ?_
      · rintro v h6 ⟨he, rfl, oc6⟩
        subst he
        simp only [ne_eq, not_true_eq_false, if_false] at hE
        have o6 := o5.ext' oc6
        clear oc6
        refine Ar.i64 (by omega) (by omega) ?_
        refine ⟨rfl, ?_⟩
        exact ⟨⟨i + 1, d2, I2, by omega, by simp, hE, by omega, hI2, o6⟩, by simp only; omega⟩
      · rintro c h6 ⟨he, rfl, oc6⟩
        rw [if_pos he] at hE
        rw [← hE]
        exact ⟨he, rfl, I2, hI2, o5.ext' oc6⟩
    · have hdr : (ss.zip ts).drop i = [] := List.drop_eq_nil_of_le (by rw [List.length_zip]; omega)
      rw [hdr] at hE
      rw [eachD_nil] at hE
      refine Br.dec (fun hc => absurd hc (by omega)) (fun c60 => ?_)
      refine StillVC.run (StillVC.nilCheck rfl ?_)
      refine StillVC.run (StillVC.fieldAddr st74 rfl rfl rfl ?_)
      refine StillVC.run (StillVC.load1 ty24 rfl (by assumption) ?_)
      refine CallVC.ret (sync_disk _ dp d1 I1 _ hI1 (o.lend [0] [1] rfl) (by omega)) ?_
      rintro _ h5 ⟨rfl, I2, hI2, oc2⟩
      have o5 : Own B [I2, X] h5 := oc2.back
      clear oc2
      rw [hE] at hI2 ⊢
      refine CallVC.ends (must_spec _ _) ?_ ?_
      · rintro v h6 ⟨he, rfl, oc6⟩
        have o6 := o5.ext' oc6
        clear oc6
        refine RetVC.zero rfl ?_
        exact ⟨he, rfl, I2, hI2, o6⟩
      · rintro c h6 ⟨he, rfl, oc6⟩
        exact ⟨he, rfl, I2, hI2, o5.ext' oc6⟩

end Go.Proofs.YtfjajkgfgigodaaGreatDoor

/- The log: heads and bodies are written. -/
namespace Go.Proofs.YtfjajkgfgigodaaGreatDoor
open Go

/-- A log's cells. -/
abbrev logC (dp : Nat) (L : Lg) (lv : Value) : List Value := [.int .i64 L.s.num, .int .i64 L.s.gen, .int .i64 L.s.len, .pointer (some ⟨dp, 0, none⟩), .int .i64 L.n, .int .i64 L.at_, lv, .bool L.broken]

def LogEnds (B : Base) (dp lp : Nat) (Ks : List Item) (r : Int × Dk) (cs : List Value) : Ending → Heap → Prop :=
  Ends (fun v h' => r.1 = 0 ∧ v = .tuple #[] ∧ ∃ I', IsDisk dp r.2 I' ∧ Own B (I' :: box lp cs 74 :: Ks) h') (fun c h' => r.1 ≠ 0 ∧ c = mustC r.1 ∧ ∃ I' cs', cs'.length = 8 ∧ IsDisk dp r.2 I' ∧ Own B (I' :: box lp cs' 74 :: Ks) h')

set_option maxHeartbeats 4000000 in
set_option maxRecDepth 100000 in
theorem head1_spec (B : Base) (lp dp b1 b2 a : Nat) (L : Lg) (lv : Value) (i : Int) (Ks : List Item) (h : Heap) (ht : TabH B.h) (hs : L.s.Fits) (ha : a < 2)
    (o : Own B (box lp (logC dp L lv) 74 :: box b1 [.pointer (some ⟨lp, 0, none⟩)] 29 :: box b2 [.int .i64 a] 3 :: Ks) h) :
    SpecR Tryz.prog 92 [.int .i64 i, .pointer (some ⟨b1, 0, none⟩), .pointer (some ⟨b2, 0, none⟩)] h fun v h' => v = .string ⟨⟨headL a L.s⟩⟩ ∧ Own h [] h' := by
  refine Spec.enter Tryz.func92 rfl Tryz.ntmps92 (by kernel_rfl) ?_
  refine DrawVC.intro [1, 2, 6] [0, 3, 4] [5] [0, 1, 2, 3, 4, 5, 6] mixed (by kernel_rfl) rfl (fun _ _ _ _ h => h) ?_
  refine StillVC.loadO o 1 rfl ty29 rfl rfl ?_
  refine StillVC.nilCheck rfl ?_
  refine StillVC.fieldAddr st74 rfl rfl rfl ?_
  refine StillVC.loadON o 0 rfl ty72 rfl rfl rfl ?_
  refine StillVC.loadO o 2 rfl ty3 rfl rfl ?_
  refine CallVC.ret (sector_spec L.s a _ (ht.ext o.ext) hs ha) ?_
  rintro _ h1 ⟨rfl, oc⟩
  refine RetVC.one rfl ?_
  exact ⟨rfl, oc⟩

set_option maxHeartbeats 4000000 in
set_option maxRecDepth 100000 in
theorem head_spec (B : Base) (lp dp a : Nat) (d : Dk) (I : Item) (L : Lg) (lv : Value) (h : Heap) (ht : TabH B.h) (hs : L.s.Fits) (ha : a < 2) (hI : IsDisk dp d I) (hq : d.q.length ≤ 1000)
    (o : Own B [I, box lp (logC dp L lv) 74] h) :
    Spec Tryz.prog 59 [.pointer (some ⟨lp, 0, none⟩), .int .i64 a] h (LogEnds B dp lp [] (eachD (headW a L.s) d) (logC dp L lv)) := by
  refine Spec.enter Tryz.func59 rfl Tryz.ntmps59 (by kernel_rfl) ?_
  (refine RunVC.boxO o rfl ?_; intro b20 m20 o20)
  (refine RunVC.boxO o20 rfl ?_; intro b21 m21 o21)
  refine StillVC.run (StillVC.loadO o21 2 rfl ty29 rfl rfl ?_)
  refine StillVC.run (StillVC.loadO o21 3 rfl ty3 rfl rfl ?_)
  (refine RunVC.lit o21 sl84 ty3 rfl rfl (by decide) (And.intro rfl ?_); intro b24 m24 o24)
  refine StillVC.run (StillVC.makeFn ?_)
  have o1 : Own B [I, box lp (logC dp L lv) 74, box b20 [.pointer (some ⟨lp, 0, none⟩)] 29, box b21 [.int .i64 a] 3, box b24 [.int .i64 a] 3] m24 := o24
  clear o24 o
  generalize hXe : sepI [box lp (logC dp L lv) 74, box b20 [.pointer (some ⟨lp, 0, none⟩)] 29, box b21 [.int .i64 a] 3, box b24 [.int .i64 a] 3] = X
  have oX : Own B [I, X] m24 := by rw [← hXe]; exact (Own.sep (M := [I]) (o1.sel [1, 2, 3, 4, 0] rfl)).sel [1, 0] rfl
  have back : ∀ {I' : Item} {h' : Heap}, Own B [I', X] h' → Own B [I', box lp (logC dp L lv) 74] h' := fun {I' h'} oo => by
    rw [← hXe] at oo
    exact (Own.unsep (M := [I']) (oo.sel [1, 0] rfl)).sel [4, 0] rfl
  refine CallVC.ends (each_spec B lp dp d I X _ 92 [] [.pointer (some ⟨b20, 0, none⟩), .pointer (some ⟨b21, 0, none⟩)] [a] [headL a L.s] _ hI oX ?_ ?_ ?_ rfl (by simp) hq (by simp [headL_len])) ?_ ?_
  · intro h hx
    rw [← hXe] at hx
    have hb : h[lp]? = some (.cells (logC dp L lv).toArray 74 (0, 0)) := hx.1 _ List.mem_cons_self
    simp [cellAt, hb]
  · rw [← hXe]
    exact Reads.sep (I := box b24 [.int .i64 a] 3) (by simp) (box_reads rfl (by decide))
  · intro h oo i t ht'
    have hi : i = 0 ∧ t = headL a L.s := by
      cases i with
      | zero => simp at ht'; exact ⟨rfl, ht'.symm⟩
      | succ i => simp at ht'
    obtain ⟨rfl, rfl⟩ := hi
    rw [← hXe] at oo
    exact head1_spec B lp dp b20 b21 a L lv _ _ h ht hs ha oo.unsep1
  · rintro v h2 ⟨he, rfl, I', hI', oo⟩
    refine RetVC.zero rfl ?_
    exact ⟨he, rfl, I', hI', back oo⟩
  · rintro c h2 ⟨he, rfl, I', hI', oo⟩
    exact ⟨he, rfl, I', _, rfl, hI', back oo⟩

theorem eachD_len : ∀ (ws : List (Nat × List UInt8)) (d : Dk), (eachD ws d).2.st.length = d.st.length := by
  have hc : ∀ d : Dk, d.count.2.st.length = d.st.length := fun d => by
    unfold Dk.count
    split
    · rfl
    · split
      · rfl
      · unfold Dk.fail Dk.tear
        split
        · rfl
        · simp only
          split
          · split
            · simp [Dk.set, settle_len]
            · simp [settle_len]
          · simp [settle_len]
  have hs : ∀ d : Dk, d.sync.2.st.length = d.st.length := fun d => by
    unfold Dk.sync
    split
    · rfl
    · have := hc d
      split
      rename_i e d1 he
      rw [he] at this
      split
      · exact this
      · exact (settle_len _ _).trans this
  intro ws
  induction ws with
  | nil => exact hs
  | cons p r ih =>
    intro d
    rw [eachD_cons]
    have hw : (d.write p.1 p.2).2.st.length = d.st.length := by
      unfold Dk.write
      split
      · rfl
      · split
        · rfl
        · exact hc _
    split
    · exact hw
    · exact (ih _).trans hw

theorem runD_two (a b : List (Nat × List UInt8)) (d : Dk) : runD [a, b] d = if (eachD a d).1 ≠ 0 then eachD a d else if (eachD b (eachD a d).2).1 ≠ 0 then eachD b (eachD a d).2 else (0, (eachD b (eachD a d).2).2) := rfl

/-- A state that is not yet written. -/
def Lg.with (L : Lg) (gen len : Nat) : Lg := { L with s := ⟨L.s.num + 1, gen, len⟩ }

set_option maxHeartbeats 4000000 in
set_option maxRecDepth 100000 in
theorem commit_spec (B : Base) (lp dp gen len : Nat) (d : Dk) (I : Item) (L : Lg) (lv : Value) (h : Heap) (ht : TabH B.h) (hs : (L.with gen len).s.Fits) (ha : L.at_ < 2) (hI : IsDisk dp d I) (hq : d.q.length ≤ 1000)
    (o : Own B [I, box lp (logC dp L lv) 74] h) :
    Spec Tryz.prog 56 [.pointer (some ⟨lp, 0, none⟩), .int .i64 gen, .int .i64 len] h (LogEnds B dp lp [] (runD [headW (1 - L.at_) (L.with gen len).s, headW L.at_ (L.with gen len).s] d) (logC dp { L.with gen len with at_ := 0 } lv)) := by
  have hnum := hs.num
  simp only [Lg.with] at hnum
  refine Spec.enter Tryz.func56 rfl Tryz.ntmps56 (by kernel_rfl) ?_
  rw [runD_two]
  refine StillVC.run (StillVC.nilCheck rfl ?_)
  refine StillVC.run (StillVC.fieldAddr st74 rfl rfl rfl ?_)
  refine StillVC.run (StillVC.fieldAddr st72 rfl rfl rfl ?_)
  refine StillVC.run (StillVC.loadO o 1 rfl ty3 rfl rfl ?_)
  refine Ar.i64 (by omega) (by omega) ?_
  refine StillVC.run (StillVC.buildK st72 ?_)
  refine And.intro rfl ?_
  refine And.intro rfl ?_
  refine And.intro rfl ?_
  refine StillVC.run (StillVC.nilCheck rfl ?_)
  refine StillVC.run (StillVC.fieldAddr st74 rfl rfl rfl ?_)
  (refine RunVC.store o 1 rfl ty72 rfl (by simp) (And.intro ⟨rfl, rfl⟩ ?_); intro m27 o27)
  refine StillVC.run (StillVC.nilCheck rfl ?_)
  refine StillVC.run (StillVC.fieldAddr st74 rfl rfl rfl ?_)
  refine StillVC.run (StillVC.loadO o27 1 rfl ty3 rfl rfl ?_)
  refine Ar.i64 (by omega) (by omega) ?_
  have e1 : (1 : Int) - (L.at_ : Int) = ((1 - L.at_ : Nat) : Int) := by omega
  rw [e1]
  have o1 : Own B [I, box lp (logC dp (L.with gen len) lv) 74] m27 := o27
  clear o27 o
  refine CallVC.ends (head_spec B lp dp (1 - L.at_) d I (L.with gen len) lv _ ht hs (by omega) hI hq o1) ?_ ?_
  · rintro v h2 ⟨he, rfl, I2, hI2, o2⟩
    rw [if_neg (by simpa using he)]
    have hq2 := eachD_q _ _ he
    generalize (eachD (headW (1 - L.at_) (L.with gen len).s) d).2 = d2 at hI2 hq2 ⊢
    refine StillVC.run (StillVC.nilCheck rfl ?_)
    refine StillVC.run (StillVC.fieldAddr st74 rfl rfl rfl ?_)
    refine StillVC.run (StillVC.loadO o2 1 rfl ty3 rfl rfl ?_)
    refine CallVC.ends (head_spec B lp dp L.at_ d2 I2 (L.with gen len) lv _ ht hs ha hI2 (by rw [hq2]; simp) o2) ?_ ?_
    · rintro v h3 ⟨he3, rfl, I3, hI3, o3⟩
      rw [if_neg (by simpa using he3)]
      refine StillVC.run (StillVC.nilCheck rfl ?_)
      refine StillVC.run (StillVC.fieldAddr st74 rfl rfl rfl ?_)
      (refine RunVC.store o3 1 rfl ty3 rfl (by simp) (And.intro ⟨rfl, rfl⟩ ?_); intro m62 o62)
      refine RetVC.zero rfl ?_
      exact ⟨rfl, rfl, I3, hI3, o62⟩
    · rintro c h3 ⟨he3, rfl, I3, cs, hcs, hI3, o3⟩
      rw [if_pos he3]
      exact ⟨he3, rfl, I3, cs, hcs, hI3, o3⟩
  · rintro c h2 ⟨he, rfl, I2, cs, hcs, hI2, o2⟩
    rw [if_pos he]
    exact ⟨he, rfl, I2, cs, hcs, hI2, o2⟩

end Go.Proofs.YtfjajkgfgigodaaGreatDoor

/- The log: bodies are written. -/
namespace Go.Proofs.YtfjajkgfgigodaaGreatDoor
open Go

theorem zip_blanks (frm k : Nat) : (List.range' frm k).zip (List.replicate k zS) = blanks (List.range' frm k) := by
  refine List.ext_getElem? fun i => ?_
  unfold blanks
  rw [List.getElem?_map]
  by_cases hi : i < k
  · have h1 : (List.range' frm k)[i]? = some (frm + i) := by simp [hi]
    have h2 : (List.replicate k zS)[i]? = some zS := by simp [hi]
    rw [h1, (List.getElem?_zip_eq_some (z := (frm + i, zS))).2 ⟨h1, h2⟩]
    rfl
  · rw [List.getElem?_eq_none (by simp; omega), List.getElem?_eq_none (by simp; omega)]
    rfl

/-- The sectors of bodies. -/
def textsD (gen frm : Nat) (parts : List (List UInt8)) : List (List UInt8) := parts.zipIdx.map fun p => putL gen (frm + p.2) p.1

theorem textsD_len (gen frm : Nat) (parts : List (List UInt8)) : (textsD gen frm parts).length = parts.length := by simp [textsD]

theorem textsD_get {gen frm i : Nat} {parts : List (List UInt8)} {b : List UInt8} (h : parts[i]? = some b) : (textsD gen frm parts)[i]? = some (putL gen (frm + i) b) := by
  simp [textsD, List.getElem?_map, h]

theorem zip_datas (gen frm : Nat) (parts : List (List UInt8)) : (List.range' frm parts.length).zip (textsD gen frm parts) = datas gen frm parts := by
  refine List.ext_getElem? fun i => ?_
  by_cases hi : i < parts.length
  · obtain ⟨b, hb⟩ := getx hi
    have h1 : (List.range' frm parts.length)[i]? = some (frm + i) := by simp [hi]
    rw [(List.getElem?_zip_eq_some (z := (frm + i, putL gen (frm + i) b))).2 ⟨h1, textsD_get hb⟩]
    simp [datas, List.getElem?_map, hb]
  · rw [List.getElem?_eq_none (by simp [textsD_len]; omega), List.getElem?_eq_none (by simp [datas]; omega)]

theorem putR_part {gen pos : Nat} {b : List UInt8} (hg : gen ≤ 1000000000) (hp : pos < 4000) (hb : b.length ≤ 40) : putR gen pos b = (putL gen pos b, 0) := by
  unfold putR
  have : placedB (gen : Int) (pos : Int) = true := by simp [placedB]; omega
  rw [if_pos this, if_pos hb]
  rfl

set_option maxHeartbeats 4000000 in
set_option maxRecDepth 100000 in
theorem write1_spec (B : Base) (b1 b2 b3 gen frm i : Nat) (bv : Value) (K : Item) (parts : List (List UInt8)) (b : List UInt8) (Ks : List Item) (h : Heap) (hg : gen ≤ 1000000000) (hp : frm + i < 4000) (hb : parts[i]? = some b) (hb4 : b.length ≤ 40)
    (hK : Reads K 1 bv parts.length (strs parts))
    (o : Own B (K :: box b1 [.int .i64 gen] 3 :: box b2 [.int .i64 frm] 3 :: box b3 [bv] 22 :: Ks) h) :
    SpecR Tryz.prog 89 [.int .i64 i, .pointer (some ⟨b1, 0, none⟩), .pointer (some ⟨b2, 0, none⟩), .pointer (some ⟨b3, 0, none⟩)] h fun v h' => v = .string ⟨⟨putL gen (frm + i) b⟩⟩ ∧ Own h [] h' := by
  obtain ⟨sa, sc, rfl⟩ := hK.isS (o.satK 0 rfl)
  have hR := (o.reads 0 hK rfl).to1
  have hsl : (strs parts).length = parts.length := by simp
  have hil : i < parts.length := (List.getElem?_eq_some_iff.1 hb).1
  refine Spec.enter Tryz.func89 rfl Tryz.ntmps89 (by kernel_rfl) ?_
  refine DrawVC.intro [2, 3, 5, 6, 9, 10, 11, 12, 13] [0, 1, 4, 7] [8] [0, 1, 2, 3, 4, 5, 6, 7, 8, 9, 10, 11, 12, 13] mixed (by kernel_rfl) rfl (fun _ _ _ _ h => h) ?_
  refine StillVC.loadO o 1 rfl ty3 rfl rfl ?_
  refine StillVC.loadO o 2 rfl ty3 rfl rfl ?_
  refine Ar.i64 (by omega) (by omega) ?_
  refine StillVC.loadO o 3 rfl ty22 rfl rfl ?_
  refine StillVC.idx sl22 ty9 hR rfl (by omega) (by omega) ?_
  refine StillVC.loadM hR ty9 rfl (by first | assumption | rfl) ?_
  have e1 : (frm : Int) + (i : Int) = ((frm + i : Nat) : Int) := by omega
  rw [e1]
  refine CallVC.ret (put_spec gen ((frm + i : Nat) : Int) b _ (by omega)) ?_
  rw [putR_part hg hp hb4]
  rintro _ h1 ⟨rfl, oc⟩
  refine RetVC.one rfl ?_
  exact ⟨rfl, oc⟩

set_option maxHeartbeats 4000000 in
set_option maxRecDepth 100000 in
theorem write_spec' (B : Base) (lp dp gen frm : Nat) (d : Dk) (I K : Item) (L : Lg) (lv bv : Value) (parts : List (List UInt8)) (h : Heap) (hg : gen ≤ 1000000000) (hp : frm + parts.length ≤ 4000) (hb4 : ∀ (i : Nat) (b : List UInt8), parts[i]? = some b → b.length ≤ 40)
    (hK : Reads K 1 bv parts.length (strs parts)) (hI : IsDisk dp d I) (hq : d.q.length ≤ 1000)
    (o : Own B [I, box lp (logC dp L lv) 74, K] h) :
    Spec Tryz.prog 55 [.pointer (some ⟨lp, 0, none⟩), .int .i64 frm, .int .i64 gen, bv] h (LogEnds B dp lp [K] (runD [blanks (List.range' frm parts.length), datas gen frm parts] d) (logC dp L lv)) := by
  obtain ⟨sa, sc, rfl⟩ := hK.isS (o.satK 2 rfl)
  rw [runD_two, ← zip_blanks, ← zip_datas]
  refine Spec.enter Tryz.func55 rfl Tryz.ntmps55 (by kernel_rfl) ?_
  (refine RunVC.boxO o rfl ?_; intro b20 m20 o20)
  (refine RunVC.boxO o20 rfl ?_; intro b21 m21 o21)
  (refine RunVC.boxO o21 rfl ?_; intro b22 m22 o22)
  refine StillVC.run (StillVC.loadO o22 5 rfl ty22 rfl rfl ?_)
  refine StillVC.run (StillVC.lenV rfl sl22 ?_)
  have o1 : Own B [I, box lp (logC dp L lv) 74, K, box b20 [.int .i64 frm] 3, box b21 [.int .i64 gen] 3, box b22 [.slice sa parts.length sc] 22, row (.slice none 0 0) 3 1 0 []] m22 := Own.nilRow o22 3 1
  clear o22 o
  refine LoopVC.intro [8, 9, 12, 13, 14, 15, 16, 17, 18, 19, 20, 21] [8, 12] (fun vs hh => ∃ (i : Nat) (v8 : Value), i ≤ parts.length ∧ vs = [v8, .int .i64 i] ∧ Own B [I, box lp (logC dp L lv) 74, K, box b20 [.int .i64 frm] 3, box b21 [.int .i64 gen] 3, box b22 [.slice sa parts.length sc] 22, row v8 3 1 i (natsV (List.range' frm i))] hh) (fun vs _ => match vs with | [_, .int _ i] => parts.length - i.toNat | _ => 0) ?_ ?_
  · exact ⟨0, _, by omega, rfl, o1⟩
  · clear o1
    rintro vs junk hh ⟨i, v8, hi, rfl, o⟩
    obtain ⟨xa, xc, rfl⟩ := o.rowIs 6 rfl
    by_cases hlt : i < parts.length
    · refine Br.dec (fun c40 => ?_) (fun hc => absurd (by omega) hc)
      refine StillVC.run (StillVC.loadO o 3 rfl ty3 rfl rfl ?_)
      refine Ar.i64 (by omega) (by omega) ?_
      (refine RunVC.lit o sl84 ty3 rfl rfl (by decide) (And.intro rfl ?_); intro b42 m42 o42)
      (refine RunVC.append o42 6 rfl sl84 ty3 (by decide) (o42.boxArr 7 rfl (by simp) (by simp)).toN (by simp [Value.oneCell']) (by simp only [maxLen]; first | omega | (simp; omega)) (by first | omega | (simp; omega)) ?_; intro v43 m43 o43)
      refine Ar.i64 (by omega) (by omega) ?_
      refine ⟨rfl, ?_⟩
      have e1 : natsV (List.range' frm (i + 1)) = natsV (List.range' frm i) ++ [Value.int IntKind.i64 ((frm : Int) + (i : Int))] := by
        rw [List.range'_1_concat]
        simp
      refine ⟨⟨i + 1, v43, by omega, by simp, ?_⟩, by simp only; omega⟩
      rw [e1]
      exact Own.sel o43 [0, 1, 2, 3, 4, 5, 6] rfl
    · obtain rfl : i = parts.length := by omega
      have hlen : (List.range' frm parts.length).length = parts.length := by simp
      generalize hXe : sepI [box lp (logC dp L lv) 74, K, box b20 [.int .i64 frm] 3, box b21 [.int .i64 gen] 3, box b22 [.slice sa parts.length sc] 22, row (.slice xa parts.length xc) 3 1 parts.length (natsV (List.range' frm parts.length))] = X
      have oX : Own B [I, X] hh := by rw [← hXe]; exact (Own.sep (M := [I]) (o.sel [1, 2, 3, 4, 5, 6, 0] rfl)).sel [1, 0] rfl
      clear o
      have back : ∀ {I' : Item} {h' : Heap}, Own B [I', X] h' → Own B [I', box lp (logC dp L lv) 74, K] h' := fun {I' h'} oo => by
        rw [← hXe] at oo
        exact (Own.unsep (M := [I']) (oo.sel [1, 0] rfl)).sel [6, 0, 1] rfl
      have hcd : ∀ h, X.sat h → cellAt h ⟨lp, 3, none⟩ = some (.pointer (some ⟨dp, 0, none⟩)) := by
        intro h hx
        rw [← hXe] at hx
        have hb : h[lp]? = some (.cells (logC dp L lv).toArray 74 (0, 0)) := hx.1 _ List.mem_cons_self
        simp [cellAt, hb]
      have hSr : Reads X 1 (.slice xa parts.length xc) (List.range' frm parts.length).length (natsV (List.range' frm parts.length)) := by
        rw [← hXe, hlen]
        exact Reads.sep (I := row (.slice xa parts.length xc) 3 1 parts.length (natsV (List.range' frm parts.length))) (by simp) row_reads
      refine Br.dec (fun hc => absurd hc (by omega)) (fun c60 => ?_)
      refine StillVC.run (StillVC.makeFn ?_)
      refine CallVC.ends (each_spec B lp dp d I X _ 58 [.pointer (some ⟨lp, 0, none⟩)] [] (List.range' frm parts.length) (List.replicate parts.length zS) _ hI oX hcd hSr ?_ (by simp) (by omega) hq ?_) ?_ ?_
      · intro h oo i t ht'
        have ht2 : t = zS := by
          have := List.mem_of_getElem? ht'
          exact (List.mem_replicate.1 this).2
        rw [ht2]
        exact blank_spec lp i h
      · intro t ht'
        rw [(List.mem_replicate.1 ht').2]
        decide
      · rintro v h2 ⟨he, rfl, I2, hI2, o2⟩
        rw [if_neg (by simpa using he)]
        have hq2 := eachD_q _ _ he
        generalize (eachD ((List.range' frm parts.length).zip (List.replicate parts.length zS)) d).2 = d2 at hI2 hq2 ⊢
        refine StillVC.run (StillVC.makeFn ?_)
        refine CallVC.ends (each_spec B lp dp d2 I2 X _ 89 [] [.pointer (some ⟨b21, 0, none⟩), .pointer (some ⟨b20, 0, none⟩), .pointer (some ⟨b22, 0, none⟩)] (List.range' frm parts.length) (textsD gen frm parts) _ hI2 o2 hcd hSr ?_ (by simp [textsD_len]) (by omega) (by rw [hq2]; simp) ?_) ?_ ?_
        · intro h oo i t ht'
          have hil : i < parts.length := by rw [← textsD_len gen frm parts]; exact (List.getElem?_eq_some_iff.1 ht').1
          obtain ⟨b, hb⟩ := getx hil
          rw [textsD_get hb] at ht'
          cases ht'
          rw [← hXe] at oo
          exact write1_spec B b21 b20 b22 gen frm i _ K parts b [] h hg (by omega) hb (hb4 i b hb) hK (oo.unsep1.sel [1, 3, 2, 4] rfl)
        · intro t ht'
          obtain ⟨i, hi⟩ := List.mem_iff_getElem?.1 ht'
          have hil : i < parts.length := by rw [← textsD_len gen frm parts]; exact (List.getElem?_eq_some_iff.1 hi).1
          obtain ⟨b, hb⟩ := getx hil
          rw [textsD_get hb] at hi
          cases hi
          rw [putL_len (hb4 i b hb)]
          decide
        · rintro v h3 ⟨he3, rfl, I3, hI3, o3⟩
          rw [if_neg (by simpa using he3)]
          refine RetVC.zero rfl ?_
          exact ⟨rfl, rfl, I3, hI3, back o3⟩
        · rintro c h3 ⟨he3, rfl, I3, hI3, o3⟩
          rw [if_pos he3]
          exact ⟨he3, rfl, I3, _, rfl, hI3, back o3⟩
      · rintro c h2 ⟨he, rfl, I2, hI2, o2⟩
        rw [if_pos he]
        exact ⟨he, rfl, I2, _, rfl, hI2, back o2⟩

end Go.Proofs.YtfjajkgfgigodaaGreatDoor

/- The log: copies of lists, and what forbids an operation. -/
namespace Go.Proofs.YtfjajkgfgigodaaGreatDoor
open Go

set_option maxHeartbeats 4000000 in
set_option maxRecDepth 100000 in
theorem clone_spec (l : List (List UInt8)) (v : Value) (h : Heap) (hA : Arr h v (strs l)) (hl : l.length ≤ 100000) :
    SpecR Tryz.prog 50 [v] h fun r h' => Own h [row r 9 1 l.length (strs l)] h' := by
  have o0 := Own.refl h
  have hsl : (strs l).length = l.length := by simp
  have hA' := hA
  obtain ⟨a, c, hv, hc, hr⟩ := hA
  rw [hsl] at hv
  subst hv
  refine Spec.enter Tryz.func50 rfl Tryz.ntmps50 (by kernel_rfl) ?_
  cases a with
  | none =>
    have hl0 : l = [] := by
      rcases hr with hr | ⟨b, o, hx, _⟩
      · simpa using hr
      · cases hx
    subst hl0
    refine StillVC.run (StillVC.eqNil sl22 rfl rfl ?_)
    refine Br.tt ?_
    refine RetVC.one rfl ?_
    exact Own.nilRow o0 9 1
  | some ad =>
    refine StillVC.run (StillVC.eqNil sl22 rfl rfl ?_)
    refine Br.ff ?_
    (refine RunVC.lit o0 sl22 ty9 rfl rfl (by decide) (And.intro rfl ?_); intro b21 m21 o21)
    have o22 : Own ⟨h, []⟩ [row (.slice (some ⟨b21, 0, none⟩) 0 0) 9 1 0 []] m21 := Own.boxRow o21 0 rfl 1 0 0 rfl (Nat.le_refl _) (by decide)
    clear o21
    (refine RunVC.append o22 0 rfl sl22 ty9 (by decide) (hA'.ext o22.ext).toN (by simp [Value.oneCell']) (by simp only [maxLen]; first | omega | (simp; omega)) (by first | omega | (simp; omega)) ?_; intro v30 m30 o30)
    refine RetVC.one rfl ?_
    have e1 : 0 + (strs l).length = l.length := by simp
    have e2 : [] ++ strs l = strs l := rfl
    rw [e1] at o30
    exact o30

set_option maxHeartbeats 4000000 in
set_option maxRecDepth 100000 in
theorem long_fn (r : List UInt8) (h : Heap) : SpecR Tryz.prog 86 [.string ⟨⟨r⟩⟩] h fun v h' => v = .bool (decide (2000 < r.length)) ∧ Own h [] h' := by
  refine Spec.enter Tryz.func86 rfl Tryz.ntmps86 (by kernel_rfl) ?_
  have o0 := Own.refl h
  refine StillVC.run (StillVC.lenS rfl str9 ?_)
  refine RetVC.one rfl ?_
  exact ⟨congrArg Value.bool (by simp; omega), o0⟩

set_option maxHeartbeats 4000000 in
set_option maxRecDepth 100000 in
theorem indexLong_spec (l : List (List UInt8)) (v : Value) (h : Heap) (hA : Arr h v (strs l)) (hl : l.length ≤ 100000) :
    SpecR Tryz.prog 113 [v, .func (.func 86) #[] #[]] h fun r h' => ∃ i : Int, r = .int .i64 i ∧ (0 ≤ i ↔ (l.any fun r => decide (2000 < r.length)) = true) ∧ Own h [] h' := by
  have o0 := Own.refl h
  have hsl : (strs l).length = l.length := by simp
  have hA' := hA
  obtain ⟨a, c, hv, hc, hr⟩ := hA
  rw [hsl] at hv
  subst hv
  refine Spec.enter Tryz.func113 rfl Tryz.ntmps113 (by kernel_rfl) ?_
  refine StillVC.run (StillVC.lenV rfl sl22 ?_)
  refine LoopVC.intro [4, 5, 8, 9, 10, 11, 12, 13, 14, 15, 16, 17, 18] [8] (fun vs hh => ∃ (i : Nat), i ≤ l.length ∧ vs = [.int .i64 i] ∧ (∀ r ∈ l.take i, r.length ≤ 2000) ∧ Own h [] hh) (fun vs _ => match vs with | [.int _ i] => l.length - i.toNat | _ => 0) ?_ ?_
  · exact ⟨0, by omega, rfl, by simp, o0⟩
  · rintro vs junk hh ⟨i, hi, rfl, hno, o⟩
    by_cases hlt : i < l.length
    · obtain ⟨x, hx⟩ := getx hlt
      have ht : l.take (i + 1) = l.take i ++ [x] := by rw [List.take_add_one, hx]; rfl
      refine Br.dec (fun c40 => ?_) (fun hc => absurd (by omega) hc)
      refine RegVC.plain ?_
      refine StillVC.run (StillVC.idx sl22 ty9 (hA'.ext o.ext) rfl (by omega) (by omega) ?_)
      refine StillVC.run (StillVC.loadM (hA'.ext o.ext) ty9 rfl (by first | assumption | rfl) ?_)
      refine CallVC.ret (long_fn x _) ?_
      rintro _ h2 ⟨rfl, oc⟩
      have o2 := o.ext' oc
      clear oc
      by_cases hxl : 2000 < x.length
      · refine Br.dec (fun c60 => ?_) (fun hc => absurd (by omega) hc)
        refine RetVC.one rfl ?_
        exact ⟨i, rfl, ⟨fun _ => List.any_eq_true.2 ⟨x, List.mem_of_getElem? hx, by simpa using hxl⟩, fun _ => by omega⟩, o2⟩
      · refine Br.dec (fun hc => absurd hc (by omega)) (fun c60 => ?_)
        refine Ar.i64 (by omega) (by omega) ?_
        refine ⟨rfl, ?_⟩
        refine ⟨⟨i + 1, by omega, rfl, ?_, o2⟩, by simp only; omega⟩
        rw [ht]
        intro r hr
        rcases List.mem_append.1 hr with hr | hr
        · exact hno r hr
        · rw [List.mem_singleton.1 hr]; omega
    · refine Br.dec (fun hc => absurd hc (by omega)) (fun c80 => ?_)
      refine RetVC.one rfl ?_
      rw [List.take_of_length_le (by omega)] at hno
      refine ⟨-1, rfl, ⟨fun hx => absurd hx (by decide), fun hx => ?_⟩, o⟩
      obtain ⟨x, hx, hx2⟩ := List.any_eq_true.1 hx
      have := hno x hx
      simp at hx2
      omega

theorem contains_spec (l : List (List UInt8)) (v : Value) (h : Heap) (hA : Arr h v (strs l)) (hl : l.length ≤ 100000) :
    SpecR Tryz.prog 85 [v, .func (.func 86) #[] #[]] h fun r h' => r = .bool (l.any fun r => decide (2000 < r.length)) ∧ Own h [] h' := by
  refine Spec.enter Tryz.func85 rfl Tryz.ntmps85 (by kernel_rfl) ?_
  refine CallVC.ret (indexLong_spec l v _ hA hl) ?_
  rintro _ h2 ⟨i, rfl, hi, oc⟩
  refine RetVC.one rfl ?_
  refine ⟨congrArg Value.bool ?_, oc⟩
  cases hb : (l.any fun r => decide (2000 < r.length)) with
  | true => exact decide_eq_true (hi.2 hb)
  | false => exact decide_eq_false fun hx => by rw [hi.1 hx] at hb; cases hb

set_option maxHeartbeats 4000000 in
set_option maxRecDepth 100000 in
theorem check_spec (lp : Nat) (broken : Bool) (l : List (List UInt8)) (v : Value) (h : Heap) (hc : cellAt h ⟨lp, 7, none⟩ = some (.bool broken)) (hA : Arr h v (strs l)) (hl : l.length ≤ 100000) :
    SpecR Tryz.prog 51 [.pointer (some ⟨lp, 0, none⟩), v] h fun r h' => r = .int .i64 (if broken = true then 12 else if (l.any fun r => decide (2000 < r.length)) = true then 3 else 0) ∧ Own h [] h' := by
  refine Spec.enter Tryz.func51 rfl Tryz.ntmps51 (by kernel_rfl) ?_
  have o0 := Own.refl h
  cases broken with
  | true =>
    refine RunVC.eqP (by kernel_rfl) rfl rfl ?_
    refine Br.ff ?_
    refine StillVC.run (StillVC.nilCheck rfl ?_)
    refine StillVC.run (StillVC.fieldAddr st74 rfl rfl rfl ?_)
    refine StillVC.run (StillVC.load1 ty4 rfl (by assumption) ?_)
    refine Br.tt ?_
    refine RetVC.one rfl ?_
    exact ⟨rfl, o0⟩
  | false =>
    refine RunVC.eqP (by kernel_rfl) rfl rfl ?_
    refine Br.ff ?_
    refine StillVC.run (StillVC.nilCheck rfl ?_)
    refine StillVC.run (StillVC.fieldAddr st74 rfl rfl rfl ?_)
    refine StillVC.run (StillVC.load1 ty4 rfl (by assumption) ?_)
    refine Br.ff ?_
    refine CallVC.ret (contains_spec l v _ hA hl) ?_
    rintro _ h2 ⟨rfl, oc⟩
    rw [if_neg (show ¬ (false = true) by decide)]
    cases hb : (l.any fun r => decide (2000 < r.length)) with
    | true =>
      refine Br.tt ?_
      refine RetVC.one rfl ?_
      exact ⟨rfl, oc⟩
    | false =>
      refine Br.ff ?_
      refine RetVC.one rfl ?_
      exact ⟨rfl, oc⟩

theorem check_nil (v : Value) (h : Heap) : SpecR Tryz.prog 51 [.pointer none, v] h fun r h' => r = .int .i64 1 ∧ Own h [] h' := by
  refine Spec.enter Tryz.func51 rfl Tryz.ntmps51 (by kernel_rfl) ?_
  have o0 := Own.refl h
  refine RunVC.eqP (by kernel_rfl) rfl rfl ?_
  refine Br.tt ?_
  refine RetVC.one rfl ?_
  exact ⟨rfl, o0⟩

end Go.Proofs.YtfjajkgfgigodaaGreatDoor

/- The log: an operation that is attempted. -/
namespace Go.Proofs.YtfjajkgfgigodaaGreatDoor
open Go

def recSlotsA (p q r v : Value) : List Value := [p, q, r, v, undef, undef, v, undef, undef, undef, undef, undef, undef, undef, undef, undef, undef, undef, undef, undef, undef, undef, undef, undef]

theorem len8 {cs : List Value} (h : cs.length = 8) : ∃ a b c d e f g i, cs = [a, b, c, d, e, f, g, i] := by
  match cs, h with
  | [a, b, c, d, e, f, g, i], _ => exact ⟨a, b, c, d, e, f, g, i, rfl⟩

set_option maxRecDepth 100000 in
theorem attempt_recovers (p q r : Value) : Recovers Tryz.prog (match Tryz.f88.body with | some (.seq (.region _ ops _) _) => ops | _ => #[]) ([p, q, r] ++ List.replicate (24 - [p, q, r].length) undef) (recSlotsA p q r) := by
  intro cs w Q hQ
  unfold wpOpsS
  simp [Tryz.f88, List.range, List.range.loop, wpOpsS, Region.wanted, execOp, resolve, invoke, builtin, act, Act.put]
  cases hrec : recoverD cs with
  | none => exact hQ _ _ (.inr ⟨hrec, rfl, rfl⟩)
  | some x => exact hQ _ _ (.inl hrec)

set_option maxRecDepth 100000 in
/-- No panic: the result stays as it is. -/
theorem aleave_ok (s : List Value) (h : Heap) (R : Ending → Heap → Prop) (p q r : Value)
    (hr : RetVC Tryz.prog Tryz.f53 s h fun v h => R (.returned v) h) :
    LeaveVC Tryz.prog Tryz.f53 ⟨.fn (.func 88) ⟨[p, q, r]⟩, #[]⟩ .returning s h R := by
  refine LeaveVC.recovers (f := recSlotsA p q r) .nilIface Tryz.func88 rfl (n := 24) (by kernel_rfl) (by kernel_rfl) rfl (.inl ⟨rfl, rfl⟩) (attempt_recovers p q r) ?_
  refine StillVC.run (StillVC.neI ifc20 (by first | assumption | rfl) ?_)
  refine Br.ff ?_
  exact hr

set_option maxHeartbeats 4000000 in
set_option maxRecDepth 100000 in
/-- A panic: the log is as it was, but broken. -/
theorem aleave_err (s : List Value) (h : Heap) (R : Ending → Heap → Prop) (B : Base) (b9 b4 b8 lp dp : Nat) (L : Lg) (la : Option Addr) (ln lc : Nat) (x : Value) (cs : List Value) (e : Int) (Ks : List Item) (hcs : cs.length = 8)
    (o0 : Own B (box b9 (logC dp L (.slice la ln lc)) 74 :: box b4 [.pointer (some ⟨lp, 0, none⟩)] 29 :: box b8 [x] 27 :: box lp cs 74 :: Ks) h)
    (h8 : sget s 8 = .pointer (some ⟨b8, 0, none⟩))
    (hR : ∀ h', Own B (box lp (logC dp { L with broken := true } (.slice la ln lc)) 74 :: Ks) h' → R (.returned (.int .i64 e)) h') :
    LeaveVC Tryz.prog Tryz.f53 ⟨.fn (.func 88) ⟨[.pointer (some ⟨b9, 0, none⟩), .pointer (some ⟨b4, 0, none⟩), .pointer (some ⟨b8, 0, none⟩)]⟩, #[]⟩ (.panicking (mustC e)) s h R := by
  refine LeaveVC.recovers (f := recSlotsA (.pointer (some ⟨b9, 0, none⟩)) (.pointer (some ⟨b4, 0, none⟩)) (.pointer (some ⟨b8, 0, none⟩))) (.iface 27 (.int .i64 e)) Tryz.func88 rfl (n := 24) (by kernel_rfl) (by kernel_rfl) rfl (.inr rfl) (attempt_recovers _ _ _) ?_
  obtain ⟨a0, a1, a2, a3, a4, a5, a6, a7, rfl⟩ := len8 hcs
  refine StillVC.run (StillVC.neI ifc20 (by first | assumption | rfl) ?_)
  refine Br.tt ?_
  refine StillVC.run (StillVC.assertOk (by kernel_rfl) rfl ?_)
  refine Br.ff ?_
  refine StillVC.run (StillVC.loadO o0 1 rfl ty29 rfl rfl ?_)
  refine StillVC.run (StillVC.loadON o0 0 rfl ty74 rfl rfl rfl ?_)
  refine StillVC.run (StillVC.nilCheck rfl ?_)
  (refine RunVC.store o0 3 rfl ty74 rfl (by simp) (And.intro ⟨rfl, rfl⟩ ?_); intro m15 o15)
  refine StillVC.run (StillVC.loadO o15 1 rfl ty29 rfl rfl ?_)
  refine StillVC.run (StillVC.nilCheck rfl ?_)
  refine StillVC.run (StillVC.fieldAddr st74 rfl rfl rfl ?_)
  (refine RunVC.store o15 3 rfl ty4 rfl (by simp) (And.intro ⟨rfl, rfl⟩ ?_); intro m19 o19)
  (refine RunVC.store o19 2 rfl ty27 rfl (by simp) (And.intro ⟨rfl, rfl⟩ ?_); intro m20 o20)
  exact RetVC.cellS rfl ty27 h8 (o20.cellB 2 rfl 0) (hR _ o20.tail.tail.tail)

/-- How an operation of the log ends that writes. -/
def AEnds (B : Base) (dp lp : Nat) (K : Item) (L L' : Lg) (lv : Value) (r : Int × Dk) : Ending → Heap → Prop :=
  Ends (fun v h' => r.1 = 0 ∧ v = .tuple #[] ∧ ∃ I' lv', IsDisk dp r.2 I' ∧ Own B [I', box lp (logC dp L' lv') 74, row lv' 9 1 L'.list.length (strs L'.list), K] h')
    (fun c h' => r.1 ≠ 0 ∧ c = mustC r.1 ∧ ∃ I' cs', cs'.length = 8 ∧ IsDisk dp r.2 I' ∧ Own B [I', box lp cs' 74, row lv 9 1 L.list.length (strs L.list), K] h')

/-- What an attempt comes to. -/
def attR (parts used : Nat) (L L' : Lg) (d : Dk) (r : Int × Dk) : Int × Lg × Dk := if halfN L.n < used + parts ∨ L.s.num = 999999999 then (18, L, d) else if r.1 ≠ 0 then (r.1, { L with broken := true }, r.2) else (0, L', r.2)

set_option maxHeartbeats 4000000 in
set_option maxRecDepth 100000 in
theorem attempt_spec (B : Base) (dp lp parts used : Nat) (d : Dk) (I : Item) (L L' : Lg) (lv : Value) (fg : FuncId) (fcap : List Value) (K : Item) (r : Int × Dk) (h : Heap) (hI : IsDisk dp d I)
    (o : Own B [I, box lp (logC dp L lv) 74, row lv 9 1 L.list.length (strs L.list), K] h) (hp : parts ≤ 1000000) (hu : used ≤ 1000000) (h2 : 2 ≤ L.n) (h4 : L.n ≤ 4000)
    (hf : used + parts ≤ halfN L.n → L.s.num ≠ 999999999 → ∀ (B' : Base) (h : Heap), B'.h = B.h → Own B' [I, box lp (logC dp L lv) 74, row lv 9 1 L.list.length (strs L.list), K] h → Spec Tryz.prog fg fcap h (AEnds B' dp lp K L L' lv r)) :
    SpecR Tryz.prog 53 [.pointer (some ⟨lp, 0, none⟩), .int .i64 parts, .int .i64 used, .func (.func fg) #[] ⟨fcap⟩] h fun v h' => v = .int .i64 (attR parts used L L' d r).1 ∧
      ∃ I' lv', IsDisk dp (attR parts used L L' d r).2.2 I' ∧ Own B [I', box lp (logC dp (attR parts used L L' d r).2.1 lv') 74, row lv' 9 1 (attR parts used L L' d r).2.1.list.length (strs (attR parts used L L' d r).2.1.list), K] h' := by
  obtain ⟨la, lc, rfl⟩ := o.rowIs 2 rfl
  refine Spec.enterD2 Tryz.func53 rfl (n := 30) (by kernel_rfl) (by kernel_rfl) ?_
  have hh : halfN L.n ≤ 2000 := by unfold halfN; omega
  (refine RunVC.boxO o rfl ?_; intro b10 m10 o10)
  (refine RunVC.alloc o10 ty27 ?_; intro b11 m11 o11)
  refine Ar.i64 (by omega) (by omega) ?_
  refine StillVC.run (StillVC.loadO o11 4 rfl ty29 rfl rfl ?_)
  refine CallVC.ret (half_spec lp L.n _ (o11.cellB 1 rfl 4) h2 h4) ?_
  rintro _ h1 ⟨rfl, oc⟩
  have o1 : Own B [I, box lp (logC dp L (.slice la L.list.length lc)) 74, row (.slice la L.list.length lc) 9 1 L.list.length (strs L.list), K, box b10 [.pointer (some ⟨lp, 0, none⟩)] 29, box b11 [.int .i64 0] 27] h1 := o11.ext' oc
  clear oc o11 o
  have full : (halfN L.n < used + parts ∨ L.s.num = 999999999) → ∀ m, Own B [I, box lp (logC dp L (.slice la L.list.length lc)) 74, row (.slice la L.list.length lc) 9 1 L.list.length (strs L.list), K] m → (.int .i64 18 : Value) = .int .i64 (attR parts used L L' d r).1 ∧ ∃ I' lv', IsDisk dp (attR parts used L L' d r).2.2 I' ∧ Own B [I', box lp (logC dp (attR parts used L L' d r).2.1 lv') 74, row lv' 9 1 (attR parts used L L' d r).2.1.list.length (strs (attR parts used L L' d r).2.1.list), K] m := fun hx m om => by
    unfold attR
    rw [if_pos hx]
    exact ⟨rfl, I, _, hI, om⟩
  by_cases hfull : halfN L.n < used + parts
  · refine Br.dec (fun c20 => ?_) (fun hc => absurd (by omega) hc)
    refine Br.tt ?_
    (refine RunVC.storeL o1 5 rfl ty27 rfl (by decide) (And.intro ⟨rfl, rfl⟩ ?_); intro m21 o21)
    exact RetVC.cellS rfl ty27 rfl (o21.cellB 5 rfl 0) (full (.inl (by omega)) _ (o21.sel [0, 1, 2, 3] rfl))
  · by_cases hnum : L.s.num = 999999999
    · refine Br.dec (fun hc => absurd hc (by omega)) (fun c20 => ?_)
      refine StillVC.run (StillVC.loadO o1 4 rfl ty29 rfl rfl ?_)
      refine StillVC.run (StillVC.nilCheck rfl ?_)
      refine StillVC.run (StillVC.fieldAddr st74 rfl rfl rfl ?_)
      refine StillVC.run (StillVC.fieldAddr st72 rfl rfl rfl ?_)
      refine StillVC.run (StillVC.loadO o1 1 rfl ty3 rfl rfl ?_)
      refine Br.dec (fun c26 => ?_) (fun hc => absurd (by omega) hc)
      (refine RunVC.storeL o1 5 rfl ty27 rfl (by decide) (And.intro ⟨rfl, rfl⟩ ?_); intro m27 o27)
      exact RetVC.cellS rfl ty27 rfl (o27.cellB 5 rfl 0) (full (.inr hnum) _ (o27.sel [0, 1, 2, 3] rfl))
    · have hat : attR parts used L L' d r = if r.1 ≠ 0 then (r.1, { L with broken := true }, r.2) else (0, L', r.2) := by
        unfold attR
        rw [if_neg (by omega)]
      rw [hat]
      clear hat full
      refine Br.dec (fun hc => absurd hc (by omega)) (fun c20 => ?_)
      refine StillVC.run (StillVC.loadO o1 4 rfl ty29 rfl rfl ?_)
      refine StillVC.run (StillVC.nilCheck rfl ?_)
      refine StillVC.run (StillVC.fieldAddr st74 rfl rfl rfl ?_)
      refine StillVC.run (StillVC.fieldAddr st72 rfl rfl rfl ?_)
      refine StillVC.run (StillVC.loadO o1 1 rfl ty3 rfl rfl ?_)
      refine Br.dec (fun hc => absurd hc (by omega)) (fun c26 => ?_)
      refine StillVC.run (StillVC.loadO o1 4 rfl ty29 rfl rfl ?_)
      refine StillVC.run (StillVC.nilCheck rfl ?_)
      refine StillVC.run (StillVC.loadON o1 1 rfl ty74 rfl rfl rfl ?_)
      (refine RunVC.alloc o1 ty74 ?_; intro b30 m30 o30)
      (refine RunVC.storeL o30 6 rfl ty74 rfl (by decide) (And.intro ⟨rfl, rfl⟩ ?_); intro m31 o31)
      refine DeferVC.closure (by simp) ?_
      refine RegVC.plain ?_
      have ol := o31.lend [0, 1, 2, 3] [4, 5, 6] rfl
      have hsp := fun hb => hf (by omega) hnum _ _ hb ol
      refine CallVC.ends (hsp rfl) ?_ ?_
      · rintro v h5 ⟨he, rfl, I', lv', hI', oc⟩
        have o5 := oc.back
        simp only [pick, List.cons_append, List.nil_append, List.getElem?_cons_succ, List.getElem?_cons_zero] at o5
        clear oc o31 hsp ol
        rw [if_neg (by simpa using he)]
        (refine RunVC.storeL o5 5 rfl ty27 rfl (by decide) (And.intro ⟨rfl, rfl⟩ ?_); intro m60 o60)
        refine aleave_ok _ _ _ _ _ _ ?_
        refine RetVC.cellS rfl ty27 rfl (Own.cellB (by assumption) 5 rfl 0) ⟨rfl, I', lv', hI', Own.sel (by assumption) [0, 1, 2, 3] rfl⟩
      · rintro c h5 ⟨he, rfl, I', cs', hcs, hI', oc⟩
        have o5 := oc.back
        simp only [pick, List.cons_append, List.nil_append, List.getElem?_cons_succ, List.getElem?_cons_zero] at o5
        clear oc o31 hsp ol
        rw [if_pos he]
        refine aleave_err _ _ _ B b30 b10 b11 lp dp L la L.list.length lc _ cs' r.1 [I', row (.slice la L.list.length lc) 9 1 L.list.length (strs L.list), K] hcs (o5.sel [6, 4, 5, 1, 0, 2, 3] rfl) rfl fun h' o' => ?_
        exact ⟨rfl, I', _, hI', o'.sel [1, 0, 2, 3] rfl⟩

end Go.Proofs.YtfjajkgfgigodaaGreatDoor
